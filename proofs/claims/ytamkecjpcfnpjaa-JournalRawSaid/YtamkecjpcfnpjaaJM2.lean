/- The reference model of the journal: Opens. Conditions: none. -/
import Derived.Test.YtamkecjpcfnpjaaJM1
namespace Go.Proofs.Ytamkecjpcfnpjaa
open Go Pw

section
variable {w w' : World} {mb by' : Nat} {L Mb G : List (List UInt8)} {br : Bool} {OM F : Nat → Prop}

/-- append([]string{}, x...). -/
theorem app_e {b : Nat} {x : Sl} {X : List (List UInt8)} {K : SW} (hb : Row w b []) (hx : rdC w x.p x.l (X.map sv)) (hlen : X.length ≤ 2 ^ 40)
    (hK : ∀ s w', OwnV 1 w' s (X.map sv) → Fr (fun c => c = b) w w' → (∀ c, inB s c → c = b ∨ w.heap.size ≤ c) → K s w') : apS 1 16 [(Value.string (str []))] 9 ⟨some ⟨b, 0, none⟩, 0, 0⟩ x w K := by
  have hl := hx.1
  simp at hl
  refine apS_own (vs := []) (us := X.map sv) ⟨rfl, .inr ⟨b, [], rfl, hb, rfl, Nat.le_refl _, rfl⟩⟩ (by rw [Nat.mul_one]; exact hx) okC_sv rfl (by simp; omega) (by simp; omega) fun s w2 hs _ hf hB => hK s w2 (by simpa using hs) (hf.mono fun c hc => ?_) fun c hc => ?_
  · obtain ⟨a, ha, rfl⟩ := hc
    cases ha
    rfl
  · rcases hB c hc with h | h
    · obtain ⟨a, ha, rfl⟩ := h
      cases ha
      exact .inl rfl
    · exact .inr h

theorem app_1 {b : Nat} {l : Sl} {r : ByteArray} {K : SW} (hb : Row w b [.string r]) (hl : OwnV 1 w l (L.map sv)) (hlen : L.length ≤ 2 ^ 40)
    (hK : ∀ s w', OwnV 1 w' s ((L ++ [bl r]).map sv) → Fr (inB l) w w' → (∀ c, inB s c → inB l c ∨ w.heap.size ≤ c) → K s w') :
    apS 1 16 [(Value.string (str []))] 9 l (Sl.mk (some (Addr.mk b 0 none)) 1 1) w K := by
  have hll := hl.len
  simp at hll
  refine apS_own (us := [.string r]) hl ⟨rfl, fun i hi => by
    have : i = 0 := by simpa using hi
    subst this
    exact hb.at rfl⟩ (by simp [okC]) rfl (by simp; omega) (by simp; omega) fun s w2 hs2 _ hf2 hB => hK s w2 ?_ hf2 hB
  have e : (L ++ [bl r]).map sv = L.map sv ++ [.string r] := by simp [sv]
  rw [e]; exact hs2

theorem byt_take_succ (l : List (List UInt8)) (i : Nat) (h : i < l.length) : byt (l.take (i + 1)) = byt (l.take i) + (l[i].length + 16) := by
  rw [List.take_add_one, List.getElem?_eq_getElem h, byt_append]
  simp [byt]

theorem Opens_k0 {g : Sl} {fine : Bool} {K : Bool → World → Prop} (h : MI w mb L Mb br by' OM) (hg : rdC w g.p g.l (G.map sv)) (hgd : ∀ a, g.p = some a → ¬ OM a.block) (hlen : G.length ≤ 2 ^ 40) (hbt : ∀ i, byt (G.take i) ≤ 2 ^ 40) (hsz : ∀ r ∈ G, r.length ≤ 2 ^ 40)
    (hK : ∀ w' OM', MI w' mb G [] false (byt G) OM' → Fr OM w w' → (∀ c, OM' c → OM c ∨ w.heap.size ≤ c) → K fine w') : probityref27_Journal_Opens_k0 (ptr mb) g fine K w := by
  obtain ⟨l, m, hrow, hl, hm, h1, h2, h3⟩ := h.ex
  have hlt := h.lt
  have e0 : ∀ X : Addr → Prop, nz (ptr mb) X = X ⟨mb, 0, none⟩ := fun _ => rfl
  have hgl := hg.1
  simp at hgl
  refine ⟨?_⟩
  unfold probityref27_Journal_Opens_k0d
  have a1 : Row (w.alloc (Obj.cells #[] 9)) w.heap.size [] := Row.new (cs := [])
  have f1 : Fr F0 w (w.alloc (Obj.cells #[] 9)) := Fr.alloc
  have s1 : (w.alloc (Obj.cells #[] 9)).heap.size = w.heap.size + 1 := by simp
  dsimp only
  generalize w.alloc (Obj.cells #[] 9) = w1 at *
  have l3 := hlt _ h3
  refine app_e a1 (rdC_fr hg f1 fun _ _ h => h) hlen fun s w2 hs hf2 hB => ?_
  have f2 : Fr F0 w w2 := f1.trans hf2 fun c hc hlt => by omega
  have g0 := f2.row hrow fun h => h
  simp only [e0, add_mk, Nat.zero_add]
  have z2 := f2.1
  have nB : ∀ c, inB s c → w.heap.size ≤ c := fun c hc => by
    rcases hB c hc with h | h <;> omega
  have g1 := g0.set 0 (.slice s.p s.l s.c)
  have g2 := g1.set 2 (.bool false)
  have g3 := g2.set 1 (.slice none 0 0)
  have g4 := g3.set 3 (.int .i64 0)
  refine ⟨g0.wr (by simp), g1.wr (by simp), g2.wr (by simp), g3.wr (by simp), ?_⟩
  have f3 : Fr (fun c => c = mb) w2 ((((w2.setCell ⟨mb, 0, none⟩ (.slice s.p s.l s.c)).setCell ⟨mb, 2, none⟩ (.bool false)).setCell ⟨mb, 1, none⟩ (.slice none 0 0)).setCell ⟨mb, 3, none⟩ (.int .i64 0)) :=
    (((Fr.set (F := fun c => c = mb) rfl).trans (Fr.set (F := fun c => c = mb) rfl) fun _ h _ => h).trans (Fr.set (F := fun c => c = mb) rfl) fun _ h _ => h).trans (Fr.set (F := fun c => c = mb) rfl) fun _ h _ => h
  generalize (((w2.setCell ⟨mb, 0, none⟩ (.slice s.p s.l s.c)).setCell ⟨mb, 2, none⟩ (.bool false)).setCell ⟨mb, 1, none⟩ (.slice none 0 0)).setCell ⟨mb, 3, none⟩ (.int .i64 0) = w3 at *
  have hs3 := hs.fr f3 fun c hc he => by have := nB c hc; omega
  have hg3 : rdC w3 g.p g.l (G.map sv) := rdC_fr (rdC_fr hg f2 fun _ _ h => h) f3 fun a ha he => hgd a ha (he ▸ h3)
  have f03 : Fr (fun c => c = mb) w w3 := (f2.mono fun _ h => h.elim).trans f3 fun _ h _ => h
  refine ⟨⟨fun t w' => ∃ i : Nat, t = i ∧ i ≤ G.length ∧ Row w' mb [.slice s.p s.l s.c, .slice none 0 0, .bool false, .int .i64 (byt (G.take i))] ∧ Fr (fun c => c = mb) w3 w', fun t _ => G.length - t.toNat, ⟨0, rfl, by omega, g4, Fr.refl⟩, ?_⟩⟩
  rintro t w4 ⟨i, rfl, hi, hr4, hf4⟩
  unfold probityref27_Journal_Opens_b1
  rw [cnd_prop]
  have hg4 : rdC w4 g.p g.l (G.map sv) := rdC_fr hg3 hf4 fun a ha he => hgd a ha (he ▸ h3)
  refine ⟨fun hlt => ?_, fun hge => ?_⟩
  · have hlt : i < G.length := by omega
    obtain ⟨pa, hpa⟩ : ∃ pa, g.p = some pa := by
      cases hp : g.p with
      | none => have := hg4.2; rw [hp] at this; simp at this; omega
      | some x => exact ⟨x, rfl⟩
    have c1 := hg4.2
    rw [hpa] at c1
    have c1 := c1 i (by simpa using hlt)
    simp only [List.getElem_map] at c1
    have hr4d : Row w4.drew mb _ := hr4
    refine ⟨fun w' => w' = w4.drew, rfl, ?_⟩
    simp only [e0, add_mk, Nat.zero_add, hpa, nz_some, Nat.mul_one, Int.toNat_natCast]
    have hri := hsz _ (List.getElem_mem hlt)
    have hbi := hbt i
    have hsize : (ofL G[i]).size = G[i].length := by rw [← bl_length, bl_ofL]
    refine ⟨byt (G.take i), fun w' h => by rw [h]; exact hr4d.at rfl, ⟨by omega, by omega⟩, ofL G[i], fun w' h => by rw [h]; exact c1, inR64 (by omega) (by omega), inR64 (by omega) (by omega), hr4d.wr (by simp), inR64 (by omega) (by omega), ⟨by simp, i + 1, by omega, by omega, ?_, ?_⟩, by omega⟩
    · have := hr4d.set 3 (.int .i64 ((byt (G.take i) : Int) + (ofL G[i]).size + 16))
      rw [byt_take_succ G i hlt]
      have e : ((byt (G.take i) + (G[i].length + 16) : Nat) : Int) = (byt (G.take i) : Int) + (ofL G[i]).size + 16 := by omega
      rw [e]
      exact this
    · exact (hf4.trans (Fr.drew (F := fun c => c = mb)) fun _ h _ => h).trans (Fr.set (F := fun c => c = mb) rfl) fun _ h _ => h
  · have : i = G.length := by omega
    subst this
    rw [List.take_length] at hr4
    have f04 : Fr (fun c => c = mb) w w4 := f03.trans hf4 fun _ h _ => h
    refine hK w4 (fun c => c = mb ∨ inB s c) ⟨⟨s, ⟨none, 0, 0⟩, hr4, hs3.fr hf4 fun c hc he => by have := nB c hc; omega, OwnV.nil, fun c hc => ⟨.inr hc, fun he => by have := nB c hc; omega⟩, fun c hc => (not_inB hc).elim, .inl rfl⟩, fun c hc => ?_⟩ (f04.mono fun c hc => hc ▸ h3) fun c hc => ?_
    · have z4 := f04.1
      have z5 := hf4.1
      have z6 := f3.1
      rcases hc with hc | hc
      · omega
      · have := hs.lt hc; omega
    · rcases hc with hc | hc
      · exact .inl (hc ▸ h3)
      · exact .inr (nB c hc)

/-- What Opens answers. -/
def fineR (L Mb G : List (List UInt8)) (br : Bool) : Bool := decide (G = L) || (br && match Mb.getLast? with
  | some r => decide (G = L ++ [r])
  | none => false)

theorem Opens_spec {g : Sl} {K : Bool → World → Prop} (h : MI w mb L Mb br by' OM) (hg : rdC w g.p g.l (G.map sv)) (hgd : ∀ a, g.p = some a → ¬ OM a.block) (hlen : G.length ≤ 2 ^ 40) (hbt : ∀ i, byt (G.take i) ≤ 2 ^ 40) (hsz : ∀ r ∈ G, r.length ≤ 2 ^ 40)
    (hL : L.length ≤ 2 ^ 39) (hM : Mb.length ≤ 2 ^ 39)
    (hK : ∀ w' OM', MI w' mb G [] false (byt G) OM' → Fr OM w w' → (∀ c, OM' c → OM c ∨ w.heap.size ≤ c) → K (fineR L Mb G br) w') : probityref27_Journal_Opens_sh (ptr mb) g K w := by
  obtain ⟨l, m, hrow, hl, hm, h1, h2, h3⟩ := h.ex
  have hlt := h.lt
  have e0 : ∀ X : Addr → Prop, nz (ptr mb) X = X ⟨mb, 0, none⟩ := fun _ => rfl
  refine ⟨?_⟩
  unfold probityref27_Journal_Opens_sd
  rw [e0]
  have hlrd := hl.rd
  rw [Nat.mul_one] at hlrd
  have end' : ∀ w2 f, Fr F0 w w2 → f = fineR L Mb G br → probityref27_Journal_Opens_k0 (ptr mb) g f K w2 := by
    intro w2 f hf2 hfe
    subst hfe
    refine Opens_k0 (h.fr hf2 fun _ _ h => h) (rdC_fr hg hf2 fun _ _ h => h) hgd hlen hbt hsz fun w3 OM' hM' hf3 hO => hK w3 OM' hM' ((hf2.mono fun _ h => h.elim).trans hf3 fun _ h _ => h) fun c hc => ?_
    have := hf2.1
    rcases hO c hc with h | h
    · exact .inl h
    · exact .inr (by omega)
  refine ⟨l, hrow.at rfl, Same_spec hg hlrd hlen fun w2 hf2 => ?_⟩
  dsimp only
  cases hd : decide (G = L) with
  | true =>
    rw [Bool.not_true, cnd_false]
    exact end' w2 true hf2 (by simp [fineR, hd])
  | false =>
    rw [Bool.not_false, cnd_true, e0, add_mk, Nat.zero_add]
    have hrow2 := hf2.row hrow fun h => h
    refine ⟨br, hrow2.at rfl, ?_⟩
    cases br with
    | false => rw [cnd_false]; exact end' w2 false hf2 (by simp [fineR, hd])
    | true =>
      rw [cnd_true, e0, add_mk, Nat.zero_add]
      refine ⟨m, hrow2.at rfl, ?_⟩
      have hml := hm.len
      simp at hml
      rw [cnd_prop]
      refine ⟨fun hpos => ?_, fun hz => end' w2 false hf2 ?_⟩
      · -- the last one that may be there
        obtain ⟨r, Mi, rfl⟩ : ∃ r Mi, Mb = Mi ++ [r] := by
          rcases List.eq_nil_or_concat Mb with h | ⟨Mi, r, h⟩
          · subst h; simp at hml; omega
          · exact ⟨r, Mi, by simpa using h⟩
        have hfin : ∀ b : Bool, b = decide (G = L ++ [r]) → b = fineR L (Mi ++ [r]) G true := by
          intro b hb
          simp [fineR, hd, hb]
        simp at hml
        have hf3 : Fr F0 w w2.drew := hf2.trans Fr.drew fun _ h _ => h
        generalize w2.drew = w3 at *
        obtain ⟨pm, hpm, hcm⟩ : ∃ pm, m.p = some ⟨pm, 0, none⟩ ∧ ∀ i v, ((Mi ++ [r]).map sv)[i]? = some v → w.cell? ⟨pm, i, none⟩ = some v := own_cell hm (by omega)
        have hlast := hcm Mi.length (sv r) (by simp)
        have hM : Mi.length + 1 ≤ 2 ^ 39 := by simpa using hM
        have e1 : ∀ X : Addr → Prop, nz m.p X = X ⟨pm, 0, none⟩ := fun X => by rw [hpm]; rfl
        have hS : ∀ w', Fr F0 w3 w' → w'.cell? ⟨mb, 0, none⟩ = some (.slice l.p l.l l.c) ∧ w'.cell? ⟨mb, 1, none⟩ = some (.slice m.p m.l m.c) ∧ w'.cell? ⟨pm, Mi.length, none⟩ = some (sv r) := by
          intro w' hf
          have hf' := hf3.trans hf fun _ h _ => h
          have hr' := hf'.row hrow fun h => h
          refine ⟨hr'.at rfl, hr'.at rfl, ?_⟩
          have hm' := hm.fr hf' fun _ _ h => h
          obtain ⟨pm', hpm', hcm'⟩ := own_cell hm' (by omega)
          rw [hpm] at hpm'
          cases hpm'
          exact hcm' Mi.length (sv r) (by simp)
        have hl3 := hl.fr hf3 fun _ _ h => h
        have hl3rd := hl3.rd
        rw [Nat.mul_one] at hl3rd
        refine ⟨fun w' => w'.cell? ⟨mb, 0, none⟩ = some (.slice l.p l.l l.c) ∧ w'.cell? ⟨mb, 1, none⟩ = some (.slice m.p m.l m.c) ∧ w'.cell? ⟨pm, Mi.length, none⟩ = some (sv r), hS _ Fr.refl, ?_⟩
        rw [e0]
        refine ⟨l, fun w' h => h.1, ?_⟩
        rw [e0, add_mk, Nat.zero_add]
        refine ⟨m, fun w' h => h.2.1, ?_⟩
        rw [e0, add_mk, Nat.zero_add]
        refine ⟨m, fun w' h => h.2.1, inR64 (by omega) (by omega), ?_⟩
        rw [e1]
        have hidx : ((m.l : Int) - 1).toNat = Mi.length := by omega
        rw [hidx, add_mk, Nat.zero_add, Nat.mul_one]
        refine ⟨⟨by omega, by omega⟩, ofL r, fun w' h => h.2.2, ?_⟩
        -- behind the two appends
        have last : ∀ w' s, Fr F0 w3 w' → OwnV 1 w' s ((L ++ [r]).map sv) → probityref27_Same_sh g s (fun (r26 : Bool) (w25 : World) => (w25.cell? ⟨mb, 0, none⟩ = some (.slice l.p l.l l.c) ∧ w25.cell? ⟨mb, 1, none⟩ = some (.slice m.p m.l m.c) ∧ w25.cell? ⟨pm, Mi.length, none⟩ = some (sv r)) ∧ probityref27_Journal_Opens_k0 (ptr mb) g r26 K w25) w' := by
          intro w' s hf hs
          have hsr := hs.rd
          rw [Nat.mul_one] at hsr
          have hf' := hf3.trans hf fun _ h _ => h
          exact Same_spec (rdC_fr hg hf' fun _ _ h => h) hsr hlen fun w'' hf'' => ⟨hS _ (hf.trans hf'' fun _ h _ => h), end' w'' _ (hf'.trans hf'' fun _ h _ => h) (hfin _ rfl)⟩
        have el : (w3.alloc (Obj.cells #[] 9)).heap.size = w3.heap.size + 1 := by simp
        have x1 : Row (w3.alloc (Obj.cells #[] 9)) w3.heap.size [] := Row.new (cs := [])
        have y1 : Fr F0 w3 (w3.alloc (Obj.cells #[] 9)) := Fr.alloc
        have el' : (w3.alloc (Obj.cells #[Value.string (ofL r)] 9)).heap.size = w3.heap.size + 1 := by simp
        have x1' : Row (w3.alloc (Obj.cells #[Value.string (ofL r)] 9)) w3.heap.size [.string (ofL r)] := Row.new
        have y1' : Fr F0 w3 (w3.alloc (Obj.cells #[Value.string (ofL r)] 9)) := Fr.alloc
        dsimp only
        generalize w3.alloc (Obj.cells #[] 9) = wa at *
        generalize w3.alloc (Obj.cells #[Value.string (ofL r)] 9) = wb at *
        refine ⟨⟨hS _ y1, ?_, ?_⟩, hS _ y1', ?_⟩
        · refine app_e x1 (rdC_fr hl3rd y1 fun _ _ h => h) (by omega) fun s w4 hs hf4 hB => ?_
          have y4 : Fr F0 w3 w4 := y1.trans hf4 fun c hc hlt => by omega
          have nB : ∀ c, inB s c → w3.heap.size ≤ c := fun c hc => by
            rcases hB c hc with h | h <;> omega
          have x5 : Row (w4.alloc (Obj.cells #[Value.string (ofL r)] 9)) w4.heap.size [.string (ofL r)] := Row.new
          have y5 : Fr F0 w4 (w4.alloc (Obj.cells #[Value.string (ofL r)] 9)) := Fr.alloc
          refine ⟨hS _ y4, hS _ (y4.trans y5 fun _ h _ => h), ?_⟩
          refine app_1 x5 (hs.fr y5 fun _ _ h => h) (by omega) fun s6 w6 hs6 hf6 hB6 => ?_
          rw [bl_ofL] at hs6
          have y6 : Fr F0 w3 w6 := (y4.trans y5 fun _ h _ => h).trans hf6 fun c hc hlt => by have := nB c hc; omega
          exact ⟨hS _ y6, last w6 s6 y6 hs6⟩
        · have x5 : Row (wa.alloc (Obj.cells #[Value.string (ofL r)] 9)) wa.heap.size [.string (ofL r)] := Row.new
          have y5 : Fr F0 wa (wa.alloc (Obj.cells #[Value.string (ofL r)] 9)) := Fr.alloc
          have x1a := y5.row x1 fun h => h
          have y35 : Fr F0 w3 (wa.alloc (Obj.cells #[Value.string (ofL r)] 9)) := y1.trans y5 fun _ h _ => h
          have e5 : (wa.alloc (Obj.cells #[Value.string (ofL r)] 9)).heap.size = wa.heap.size + 1 := by simp
          generalize wa.alloc (Obj.cells #[Value.string (ofL r)] 9) = w5 at *
          refine ⟨hS _ y35, ?_⟩
          refine app_e x1a (rdC_fr hl3rd y35 fun _ _ h => h) (by omega) fun s w4 hs hf4 hB => ?_
          have y4 : Fr F0 w3 w4 := y35.trans hf4 fun c hc hlt => by omega
          have nB : ∀ c, inB s c → w3.heap.size ≤ c := fun c hc => by
            rcases hB c hc with h | h <;> omega
          refine ⟨hS _ y4, ?_⟩
          refine app_1 (hf4.row x5 (by omega)) hs (by omega) fun s6 w6 hs6 hf6 hB6 => ?_
          rw [bl_ofL] at hs6
          have y6 : Fr F0 w3 w6 := y4.trans hf6 fun c hc hlt => by have := nB c hc; omega
          exact ⟨hS _ y6, last w6 s6 y6 hs6⟩
        · have x5 : Row (wb.alloc (Obj.cells #[] 9)) wb.heap.size [] := Row.new (cs := [])
          have y5 : Fr F0 wb (wb.alloc (Obj.cells #[] 9)) := Fr.alloc
          have x1a := y5.row x1' fun h => h
          have y35 : Fr F0 w3 (wb.alloc (Obj.cells #[] 9)) := y1'.trans y5 fun _ h _ => h
          have e5 : (wb.alloc (Obj.cells #[] 9)).heap.size = wb.heap.size + 1 := by simp
          generalize wb.alloc (Obj.cells #[] 9) = w5 at *
          refine ⟨hS _ y35, ?_⟩
          refine app_e x5 (rdC_fr hl3rd y35 fun _ _ h => h) (by omega) fun s w4 hs hf4 hB => ?_
          have y4 : Fr F0 w3 w4 := y35.trans hf4 fun c hc hlt => by omega
          have nB : ∀ c, inB s c → w3.heap.size ≤ c := fun c hc => by
            rcases hB c hc with h | h <;> omega
          refine ⟨hS _ y4, ?_⟩
          refine app_1 (hf4.row x1a (by omega)) hs (by omega) fun s6 w6 hs6 hf6 hB6 => ?_
          rw [bl_ofL] at hs6
          have y6 : Fr F0 w3 w6 := y4.trans hf6 fun c hc hlt => by have := nB c hc; omega
          exact ⟨hS _ y6, last w6 s6 y6 hs6⟩
      · have : Mb = [] := List.eq_nil_of_length_eq_zero (by omega)
        subst this
        simp [fineR, hd]
end
end Go.Proofs.Ytamkecjpcfnpjaa
