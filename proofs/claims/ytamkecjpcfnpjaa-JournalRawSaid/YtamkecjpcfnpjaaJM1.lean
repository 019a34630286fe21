/- The reference model of the journal: New, Append, Same. Conditions: none. -/
import Derived.Test.YtamkecjpcfnpjaaJP2
namespace Go.Proofs.Ytamkecjpcfnpjaa
open Go Pw

/-- The model at block mb: its records, those that may be there, whether it is broken, its bytes; its blocks: OM. -/
structure MI (w : World) (mb : Nat) (L Mb : List (List UInt8)) (br : Bool) (by' : Nat) (OM : Nat → Prop) : Prop where
  ex : ∃ (l m : Sl), Row w mb [.slice l.p l.l l.c, .slice m.p m.l m.c, .bool br, .int .i64 by'] ∧ OwnV 1 w l (L.map sv) ∧ OwnV 1 w m (Mb.map sv) ∧ (∀ c, inB l c → OM c ∧ c ≠ mb) ∧ (∀ c, inB m c → OM c ∧ c ≠ mb ∧ ¬ inB l c) ∧ OM mb
  lt : ∀ c, OM c → c < w.heap.size

section
variable {w w' : World} {mb by' : Nat} {L Mb : List (List UInt8)} {br : Bool} {OM F : Nat → Prop}

theorem MI.fr (h : MI w mb L Mb br by' OM) (hf : Fr F w w') (hd : ∀ c, OM c → ¬ F c) : MI w' mb L Mb br by' OM := by
  obtain ⟨l, m, hr, hl, hm, h1, h2, h3⟩ := h.ex
  exact ⟨⟨l, m, hf.row hr (hd _ h3), hl.fr hf fun c hc => hd c (h1 c hc).1, hm.fr hf fun c hc => hd c (h2 c hc).1, h1, h2, h3⟩, fun c hc => Nat.lt_of_lt_of_le (h.lt c hc) hf.1⟩

theorem RNew_spec {K : Option Addr → World → Prop} (hK : ∀ w', MI w' w.heap.size [] [] false 0 (fun c => c = w.heap.size) → Fr F0 w w' → K (ptr w.heap.size) w') : probityref27_New_sh K w :=
  ⟨hK _ ⟨⟨⟨none, 0, 0⟩, ⟨none, 0, 0⟩, Row.new, OwnV.nil, OwnV.nil, fun c hc => (not_inB hc).elim, fun c hc => (not_inB hc).elim, rfl⟩, fun c hc => by subst hc; simp⟩ Fr.alloc⟩

theorem sv_inj {a b : List UInt8} (h : ofL a = ofL b) : a = b := by rw [← bl_ofL a, h, bl_ofL]

theorem okC_sv {l : List (List UInt8)} : ∀ v ∈ l.map sv, okC v = true := by
  intro v hv
  obtain ⟨b, _, rfl⟩ := List.mem_map.1 hv
  rfl

/-- append(l, r): one string more. -/
theorem app_one {l : Sl} {r : ByteArray} {K : SW} (hl : OwnV 1 w l (L.map sv)) (hlen : L.length ≤ 2 ^ 40)
    (hK : ∀ s w', OwnV 1 w' s ((L ++ [bl r]).map sv) → Fr (inB l) w w' → (∀ c, inB s c → inB l c ∨ w.heap.size < c) → K s w') :
    apS 1 16 [(Value.string (str []))] 9 l (Sl.mk (some (Addr.mk w.heap.size 0 none)) 1 1) (w.alloc (Obj.cells #[(Value.string r)] 9)) K := by
  have hx : Row (w.alloc (Obj.cells #[Value.string r] 9)) w.heap.size [.string r] := Row.new
  have hf : Fr F0 w (w.alloc (Obj.cells #[Value.string r] 9)) := Fr.alloc
  have hs : (w.alloc (Obj.cells #[Value.string r] 9)).heap.size = w.heap.size + 1 := by simp
  generalize w.alloc (Obj.cells #[Value.string r] 9) = w1 at *
  have hll := hl.len
  simp at hll
  refine apS_own (us := [.string r]) (hl.fr hf fun _ _ h => h) ⟨rfl, fun i hi => by
    have : i = 0 := by simpa using hi
    subst this
    exact hx.at rfl⟩ (by simp [okC]) rfl (by simp; omega) (by simp; omega) fun s w2 hs2 _ hf2 hB => hK s w2 ?_ (hf.mono (fun _ h => h.elim) |>.trans hf2 fun _ h _ => h) fun c hc => ?_
  · have e : (L ++ [bl r]).map sv = L.map sv ++ [.string r] := by simp [sv]
    rw [e]; exact hs2
  · rcases hB c hc with h | h
    · exact .inl h
    · exact .inr (by omega)

theorem RFits_spec {r : ByteArray} {K : Bool → World → Prop} (h : MI w mb L Mb br by' OM) (hb : by' ≤ 2 ^ 40) (hr : r.size ≤ 2 ^ 40) (hK : K (decide ((by' : Int) + r.size + 272 ≤ 16777216)) w) : probityref27_Journal_Fits_sh (ptr mb) r K w := by
  obtain ⟨l, m, hrow, _⟩ := h.ex
  refine ⟨?_⟩
  unfold probityref27_Journal_Fits_sd
  simp only [ptr, nz_some, add_mk, Nat.zero_add]
  refine ⟨by', hrow.at rfl, inR64 (by omega) (by omega), inR64 (by omega) (by omega), inR64 (by omega) (by omega), ?_⟩
  have e : (by' : Int) + r.size + 16 + 256 = (by' : Int) + r.size + 272 := by omega
  rw [e]
  exact hK

theorem RApp_spec {r : ByteArray} {pw : Bool} {K : Int → World → Prop} (h : MI w mb L Mb br by' OM) (hb : by' ≤ 2 ^ 40) (hr : r.size ≤ 2 ^ 40) (hL : L.length ≤ 2 ^ 40) (hM : Mb.length ≤ 2 ^ 40)
    (hbr : br = true → K 70 w)
    (hmany : br = false → (by' : Int) + r.size + 272 > 16777216 → K 2 w)
    (hfail : br = false → (by' : Int) + r.size + 272 ≤ 16777216 → pw = false → ∀ w' OM', MI w' mb L (Mb ++ [bl r]) true by' OM' → Fr OM w w' → (∀ c, OM' c → OM c ∨ w.heap.size ≤ c) → K 70 w')
    (hok : br = false → (by' : Int) + r.size + 272 ≤ 16777216 → pw = true → ∀ w' OM', MI w' mb (L ++ [bl r]) Mb false (by' + (r.size + 16)) OM' → Fr OM w w' → (∀ c, OM' c → OM c ∨ w.heap.size ≤ c) → K 0 w') :
    probityref27_Journal_Append_sh (ptr mb) r pw K w := by
  obtain ⟨l, m, hrow, hl, hm, h1, h2, h3⟩ := h.ex
  have hlt := h.lt
  have e0 : ∀ X : Addr → Prop, nz (ptr mb) X = X ⟨mb, 0, none⟩ := fun _ => rfl
  refine ⟨?_⟩
  unfold probityref27_Journal_Append_sd
  rw [e0, add_mk, Nat.zero_add]
  refine ⟨br, hrow.at rfl, ?_⟩
  cases br with
  | true => rw [cnd_true]; exact hbr rfl
  | false =>
  rw [cnd_false]
  refine RFits_spec h hb hr ?_
  dsimp only
  have k1 : decide ((by' : Int) + r.size + 272 ≤ 16777216) = false → (by' : Int) + r.size + 272 > 16777216 := fun h => by
    have := of_decide_eq_false h
    omega
  have k2 : decide ((by' : Int) + r.size + 272 ≤ 16777216) = true → (by' : Int) + r.size + 272 ≤ 16777216 := fun h => of_decide_eq_true h
  generalize decide ((by' : Int) + r.size + 272 ≤ 16777216) = dd at *
  cases dd with
  | false => exact hmany rfl (k1 rfl)
  | true =>
  have hfit := k2 rfl
  rw [Bool.not_true, cnd_false]
  cases pw with
  | false =>
    simp only [Bool.not_false, cnd_true, e0, add_mk, Nat.zero_add]
    refine ⟨hrow.wr (by simp), ?_⟩
    have g1 := hrow.set 2 (.bool true)
    have f1 : Fr (fun c => c = mb) w (w.setCell ⟨mb, 2, none⟩ (.bool true)) := Fr.set rfl
    have s1 : (w.setCell ⟨mb, 2, none⟩ (.bool true)).heap.size = w.heap.size := by simp
    have l1 := hl.fr f1 fun c hc he => (h1 c hc).2 he
    have m1 := hm.fr f1 fun c hc he => (h2 c hc).2.1 he
    generalize w.setCell ⟨mb, 2, none⟩ (.bool true) = w1 at *
    refine ⟨m, g1.at rfl, app_one m1 hM fun s w2 hs hf2 hB => ?_⟩
    have g2 := hf2.row g1 (fun hc => (h2 _ hc).2.1 rfl)
    refine ⟨g2.wr (by simp), ?_⟩
    have g3 := g2.set 1 (.slice s.p s.l s.c)
    have f3 : Fr (fun c => c = mb) w2 (w2.setCell ⟨mb, 1, none⟩ (.slice s.p s.l s.c)) := Fr.set rfl
    have l2 := (l1.fr hf2 fun c hc hm => (h2 c hm).2.2 hc).fr f3 fun c hc he => (h1 c hc).2 he
    have z3 := hf2.1
    have nB : ∀ c, inB s c → c ≠ mb := fun c hc he => by
      subst he
      rcases hB _ hc with h | h
      · exact (h2 _ h).2.1 rfl
      · have := hlt _ h3; omega
    refine hfail rfl hfit rfl _ (fun c => OM c ∨ inB s c) ⟨⟨l, s, g3, l2, hs.fr f3 fun c hc he => nB c hc he, fun c hc => ⟨.inl (h1 c hc).1, (h1 c hc).2⟩, fun c hc => ⟨.inr hc, nB c hc, fun hl' => ?_⟩, .inl h3⟩, fun c hc => ?_⟩ ?_ fun c hc => ?_
    · rcases hB c hc with h | h
      · exact (h2 c h).2.2 hl'
      · have := hlt c (h1 c hl').1; omega
    · have z4 := f3.1
      rcases hc with hc | hc
      · have := hlt c hc; omega
      · have := hs.lt hc; omega
    · exact ((f1.mono (G := OM) fun c h => h ▸ h3).trans hf2 fun c hc _ => (h2 c hc).1).trans f3 fun c h _ => h ▸ h3
    · rcases hc with hc | hc
      · exact .inl hc
      · rcases hB c hc with h | h
        · exact .inl (h2 c h).1
        · exact .inr (by omega)
  | true =>
    simp only [Bool.not_true, cnd_false, e0, add_mk, Nat.zero_add]
    refine ⟨l, hrow.at rfl, app_one hl hL fun s w2 hs hf2 hB => ?_⟩
    have g2 := hf2.row hrow (fun hc => (h1 _ hc).2 rfl)
    refine ⟨g2.wr (by simp), ?_⟩
    have g3 := g2.set 0 (.slice s.p s.l s.c)
    have f3 : Fr (fun c => c = mb) w2 (w2.setCell ⟨mb, 0, none⟩ (.slice s.p s.l s.c)) := Fr.set rfl
    refine ⟨by', g3.at rfl, inR64 (by omega) (by omega), inR64 (by omega) (by omega), g3.wr (by simp), ?_⟩
    have g4 := g3.set 3 (.int .i64 ((by' : Int) + r.size + 16))
    have f4 : Fr (fun c => c = mb) w2 ((w2.setCell ⟨mb, 0, none⟩ (.slice s.p s.l s.c)).setCell ⟨mb, 3, none⟩ (.int .i64 ((by' : Int) + r.size + 16))) := f3.trans (Fr.set (F := fun c => c = mb) rfl) fun _ h _ => h
    have m2 := (hm.fr hf2 fun c hc hl' => (h2 c hc).2.2 hl').fr f4 fun c hc he => (h2 c hc).2.1 he
    have z3 := hf2.1
    have nB : ∀ c, inB s c → c ≠ mb := fun c hc he => by
      subst he
      rcases hB _ hc with h | h
      · exact (h1 _ h).2 rfl
      · have := hlt _ h3; omega
    have eb : ((by' + (r.size + 16) : Nat) : Int) = (by' : Int) + r.size + 16 := by omega
    refine hok rfl hfit rfl _ (fun c => OM c ∨ inB s c) ⟨⟨s, m, by rw [eb]; exact g4, hs.fr f4 fun c hc he => nB c hc he, m2, fun c hc => ⟨.inr hc, nB c hc⟩, fun c hc => ⟨.inl (h2 c hc).1, (h2 c hc).2.1, fun hs' => ?_⟩, .inl h3⟩, fun c hc => ?_⟩ ?_ fun c hc => ?_
    · rcases hB c hs' with h | h
      · exact (h2 c hc).2.2 h
      · have := hlt c (h2 c hc).1; omega
    · have z4 := f4.1
      rcases hc with hc | hc
      · have := hlt c hc; omega
      · have := hs.lt hc; omega
    · exact (hf2.mono (G := OM) fun c hc => (h1 c hc).1).trans f4 fun c h _ => h ▸ h3
    · rcases hc with hc | hc
      · exact .inl hc
      · rcases hB c hc with h | h
        · exact .inl (h1 c h).1
        · exact .inr (by omega)

theorem Same_spec {a b : Sl} {A B : List (List UInt8)} {K : Bool → World → Prop} (ha : rdC w a.p a.l (A.map sv)) (hb : rdC w b.p b.l (B.map sv)) (hlen : A.length ≤ 2 ^ 40) (hK : ∀ w', Fr F0 w w' → K (decide (A = B)) w') : probityref27_Same_sh a b K w := by
  have hal := ha.1
  have hbl := hb.1
  simp only [List.length_map] at hal hbl
  refine ⟨?_⟩
  unfold probityref27_Same_sd
  rw [cnd_bne]
  refine ⟨fun hne => ?_, fun heq => ⟨?_⟩⟩
  · have : A ≠ B := fun h => hne (by rw [← hal, ← hbl, h])
    have := hK w Fr.refl
    rwa [decide_eq_false (by assumption)] at this
  · have heq : A.length = B.length := by omega
    refine ⟨fun t w' => ∃ i : Nat, t = i ∧ i ≤ A.length ∧ A.take i = B.take i ∧ Fr F0 w w', fun t _ => A.length - t.toNat, ⟨0, rfl, by omega, rfl, Fr.refl⟩, ?_⟩
    rintro t w1 ⟨i, rfl, hi, hpre, hf⟩
    unfold probityref27_Same_b0
    rw [cnd_prop]
    refine ⟨fun hlt => ?_, fun hge => ?_⟩
    · have hlt : i < A.length := by omega
      have h1 := rdC_fr ha hf fun _ _ h => h
      have h2 := rdC_fr hb hf fun _ _ h => h
      obtain ⟨pa, hpa⟩ : ∃ pa, a.p = some pa := by
        cases hp : a.p with
        | none => have := h1.2; rw [hp] at this; simp at this; omega
        | some x => exact ⟨x, rfl⟩
      obtain ⟨pb, hpb⟩ : ∃ pb, b.p = some pb := by
        cases hp : b.p with
        | none => have := h2.2; rw [hp] at this; simp at this; omega
        | some x => exact ⟨x, rfl⟩
      have h1 := h1.2
      have h2 := h2.2
      rw [hpa] at h1
      rw [hpb] at h2
      have c1 := h1 i (by simpa using hlt)
      have c2 := h2 i (by simp; omega)
      simp only [List.getElem_map] at c1 c2
      rw [hpa, hpb]
      simp only [nz_some, Nat.mul_one, Int.toNat_natCast]
      refine ⟨⟨by omega, by omega⟩, _, c1, ⟨by omega, by omega⟩, _, c2, ?_⟩
      have hf' : Fr F0 w w1.drew := hf.trans Fr.drew fun _ h _ => h
      by_cases he : A[i] = B[i]'(by omega)
      · rw [decide_eq_true (by rw [he]), Bool.not_true, cnd_false]
        refine ⟨inR64 (by omega) (by omega), ⟨by simp, i + 1, by omega, by omega, ?_, hf'⟩, by omega⟩
        rw [List.take_add_one, List.take_add_one, hpre, List.getElem?_eq_getElem hlt, List.getElem?_eq_getElem (by omega), he]
      · rw [decide_eq_false (fun h => he (sv_inj h)), Bool.not_false, cnd_true]
        have := hK _ hf'
        rwa [decide_eq_false (fun h => he (by subst h; rfl))] at this
    · have : i = A.length := by omega
      subst this
      rw [List.take_length, heq, List.take_length] at hpre
      have := hK w1 hf
      rwa [decide_eq_true hpre] at this
end
end Go.Proofs.Ytamkecjpcfnpjaa
