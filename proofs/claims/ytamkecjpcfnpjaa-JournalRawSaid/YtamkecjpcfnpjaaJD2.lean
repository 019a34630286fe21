/- The program's disk, continued: Sync, Write. Conditions: none. -/
import Derived.Test.YtamkecjpcfnpjaaJD1
namespace Go.Proofs.Ytamkecjpcfnpjaa
open Go Pw

/-- A disk's blocks and what was made since. -/
def nw (O : Nat → Prop) (w w' : World) (c : Nat) : Prop := O c ∨ (w.heap.size ≤ c ∧ c < w'.heap.size)

def syncDS (st : DS) : DS := { callDS st with syn := st.now, pcs := [] }

section
variable {w : World} {b : Nat} {st : DS} {O : Nat → Prop}

theorem own_zero {size : Nat} {y : Sl} {vs : List Value} (h : OwnV size w y vs) : OwnV size w (Sl.mk (subP y.p 0 y.c size) (0 - 0) (y.c - 0)) [] ∧ ∀ c, inB (Sl.mk (subP y.p 0 y.c size) (0 - 0) (y.c - 0)) c → inB y c := by
  obtain ⟨hl, ⟨hp, h0, hc⟩ | ⟨bb, cs, hp, hr, hc, hle, ht⟩⟩ := h
  · have e : subP y.p 0 y.c size = none := by rw [hp]; unfold subP; split <;> rfl
    refine ⟨⟨by simp, .inl ⟨e, rfl, hc⟩⟩, fun c hc => ?_⟩
    obtain ⟨a, ha, _⟩ := hc
    simp only [e] at ha
    cases ha
  · have e : subP y.p 0 y.c size = some ⟨bb, 0, none⟩ := by
      rw [hp]; unfold subP
      split
      · rfl
      · simp
    refine ⟨⟨by simp, .inr ⟨bb, cs, e, hr, hc, Nat.zero_le _, rfl⟩⟩, fun c hc => ?_⟩
    obtain ⟨a, ha, rfl⟩ := hc
    simp only [e] at ha
    cases ha
    exact ⟨_, hp, rfl⟩

theorem Sync_spec {K : Int → World → Prop} (h : Rep w b st O) (hlen : st.now.length ≤ 2 ^ 30) (h0 : 0 ≤ st.calls) (h1 : st.calls ≤ 2 ^ 40) (hlim : ∀ v, st.lim = some v → -2 ^ 62 ≤ v ∧ v ≤ 2 ^ 62)
    (hoff : st.lim = some 0 → K 70 w) (hon : st.lim ≠ some 0 → ∀ w', Rep w' b (syncDS st) (nw O w w') → Fr O w w' → K 0 w') : disk_Disk_Sync_sh (ptr b) K w := by
  refine ⟨?_⟩
  unfold disk_Disk_Sync_sd
  simp only [show (ptr b).isNone = false from rfl, cnd_false]
  refine call_spec h h0 h1 hlim (fun hl => ?_) fun hl w1 hrep hf1 => ?_
  · rw [cnd_bne]
    exact ⟨fun _ => hoff hl, fun h => by cases h⟩
  rw [cnd_bne]
  refine ⟨fun h => (h rfl).elim, fun _ => ?_⟩
  obtain ⟨n, y, q, ps, left, hr, hle, hb⟩ := hrep.ex
  simp only [ptr, nz_some, add_mk, Nat.zero_add]
  refine ⟨fun w' => w'.cell? ⟨b, 1, none⟩ = some (.slice y.p y.l y.c) ∧ w'.cell? ⟨b, 0, none⟩ = some (.slice n.p n.l n.c), ⟨hr.at rfl, hr.at rfl⟩, y, fun _ h => h.1, ⟨by omega, by omega, by omega⟩, n, fun _ h => h.2, ?_⟩
  obtain ⟨hz, hzB⟩ := own_zero (w := w1.drew) hb.hy
  have hnl := hb.hn.len
  simp only [List.length_map, Nat.mul_one] at hnl
  have hnow : (callDS st).now = st.now := rfl
  rw [hnow] at hnl
  refine apS_own hz (hb.hn.rd (w := w1.drew)) okC_bv rfl (by simp; omega) (by simp; omega) fun r w10 hrO hrl hf2 hrB => ?_
  simp only [List.nil_append] at hrO
  have hnb : ¬ inB (Sl.mk (subP y.p 0 y.c 1) (0 - 0) (y.c - 0)) b := fun hc => (hb.oy b (hzB b hc)).2.1 rfl
  have hr10 : Row w10 b (dRow n y q (callDS st).calls (callDS st).lim.isSome left) := hf2.row (w := w1.drew) hr hnb
  refine ⟨⟨hr10.at rfl, hr10.at rfl⟩, hr10.wr (by simp [dRow]), ?_⟩
  have hr12 := hr10.set 1 (.slice r.p r.l r.c)
  refine settle_spec hr12 (by simp [dRow]) fun w14 hr14 hf3 => ?_
  have hfA : Fr (fun c => c = b ∨ inB y c) w1 w10 := ((Fr.drew (F := fun c => c = b ∨ inB y c)).trans hf2 fun c hc _ => .inr (hzB c hc))
  have hfB : Fr (fun c => c = b) w10 w14 := (Fr.set (F := fun c => c = b) (a := ⟨b, 1, none⟩) rfl).trans hf3 fun c h _ => h
  have hfC : Fr (fun c => c = b ∨ inB y c) w1 w14 := hfA.trans hfB fun c h _ => .inl h
  have hO : ∀ c, c = b ∨ inB y c → O c := fun c hc => by
    rcases hc with rfl | hc
    · exact hb.ob
    · exact (hb.oy c hc).1
  have hfO : Fr O w w14 := hf1.trans (hfC.mono hO) fun c h _ => h
  have hrlt : ∀ c, inB r c → c < w14.heap.size := fun c hc => Nat.lt_of_lt_of_le (hrO.lt hc) hfB.1
  have hw1 : w.heap.size ≤ w1.heap.size := hf1.1
  have hcase : ∀ c, inB r c → inB y c ∨ w1.heap.size ≤ c := fun c hc => by
    rcases hrB c hc with h | h
    · exact .inl (hzB c h)
    · exact .inr h
  refine hon hl w14 ⟨n, r, ⟨none, 0, 0⟩, [], left, hr14, hle, ?_, ?_, OwnV.nil, rfl, by simp, .inl hb.ob, ?_, ?_, fun c hc => (not_inB hc).elim, by simp⟩ hfO
  · exact hb.hn.fr hfC fun c hc hF => by
      rcases hF with rfl | h
      · exact (hb.on _ hc).2 rfl
      · exact (hb.oy c h).2.2 hc
  · exact hrO.fr hfB fun c hc hF => by
      subst hF
      rcases hcase c hc with h | h
      · exact (hb.oy c h).2.1 rfl
      · exact absurd hr.lt (by omega)
  · exact fun c hc => ⟨.inl (hb.on c hc).1, (hb.on c hc).2⟩
  · intro c hc
    refine ⟨?_, ?_, fun hn => ?_⟩
    · rcases hcase c hc with h | h
      · exact .inl (hb.oy c h).1
      · exact .inr ⟨by omega, hrlt c hc⟩
    · rintro rfl
      rcases hcase c hc with h | h
      · exact (hb.oy c h).2.1 rfl
      · exact absurd hr.lt (by omega)
    · rcases hcase c hc with h | h
      · exact (hb.oy c h).2.2 hn
      · exact absurd (hb.hn.lt hn) (by omega)

theorem pcV_append (ps qs : List (Nat × Sl)) : pcV (ps ++ qs) = pcV ps ++ pcV qs := by simp [pcV]
theorem pcV_length (ps : List (Nat × Sl)) : (pcV ps).length = ps.length * 2 := by
  induction ps with
  | nil => rfl
  | cons p ps ih =>
    have : pcV (p :: ps) = [.int .i64 p.1, .slice p.2.p p.2.l p.2.c] ++ pcV ps := rfl
    rw [this, List.length_append, ih]
    simp; omega

theorem add_spec {K : World → Prop} {now syn m : List UInt8} {pcs : List (Nat × List UInt8)} {n y q t : Sl} {ps : List (Nat × Sl)} {calls left : Int} {f : Bool} {off : Nat}
    (hr : Row w b (dRow n y q calls f left)) (hb : RB w b now syn pcs n y q ps O) (ht : OwnV 1 w t (m.map bv)) (hlen : ps.length ≤ 2 ^ 30)
    (htB : ∀ c, inB t c → O c ∧ c ≠ b ∧ ¬ inB n c ∧ ¬ inB y c ∧ ¬ inB q c)
    (hK : ∀ w' q', Row w' b (dRow n y q' calls f left) → RB w' b now syn (pcs ++ [(off, m)]) n y q' (ps ++ [(off, t)]) (nw O w w') → Fr (fun c => c = b ∨ inB q c) w w' → K w') :
    disk_piece__add_sh (some ⟨b, 2, none⟩) off t K w := by
  have hql := hb.hq.len
  rw [pcV_length] at hql
  have hblt := hr.lt
  refine ⟨?_⟩
  unfold disk_piece__add_sd
  simp only [nz_some]
  have hr1 : Row (w.alloc (Obj.cells #[(Value.int .i64 (off : Int)), (Value.slice t.p t.l t.c)] 68)) b (dRow n y q calls f left) := hr.congr (heap_alloc_lt hblt)
  have hr1' : Row (w.alloc (Obj.cells #[(Value.int .i64 (off : Int)), (Value.slice t.p t.l t.c)] 68)) w.heap.size [.int .i64 off, .slice t.p t.l t.c] := Row.new
  generalize hw1 : w.alloc (Obj.cells #[(Value.int .i64 (off : Int)), (Value.slice t.p t.l t.c)] 68) = w1 at *
  have hs1 : w1.heap.size = w.heap.size + 1 := by rw [← hw1]; simp
  have hf01 : Fr (fun _ => False) w w1 := by rw [← hw1]; exact Fr.alloc
  refine ⟨fun w' => w'.cell? ⟨b, 2, none⟩ = some (.slice q.p q.l q.c) ∧ w'.cell? ⟨w.heap.size, 0, none⟩ = some (.int .i64 off) ∧ w'.cell? ⟨w.heap.size, 1, none⟩ = some (.slice t.p t.l t.c), ⟨hr1.at rfl, hr1'.at rfl, hr1'.at rfl⟩,
    q, fun _ h => h.1, off, fun _ h => h.2.1, t, fun _ h => h.2.2, ?_⟩
  have hr8 : Row (w1.drew.alloc (Obj.cells #[(Value.int .i64 (off : Int)), (Value.slice t.p t.l t.c)] 68)) b (dRow n y q calls f left) := Row.congr (w := w1.drew) hr1 (heap_alloc_lt hr1.lt)
  have hr8' : Row (w1.drew.alloc (Obj.cells #[(Value.int .i64 (off : Int)), (Value.slice t.p t.l t.c)] 68)) w.heap.size [.int .i64 off, .slice t.p t.l t.c] := Row.congr (w := w1.drew) hr1' (heap_alloc_lt hr1'.lt)
  have hr8n : Row (w1.drew.alloc (Obj.cells #[(Value.int .i64 (off : Int)), (Value.slice t.p t.l t.c)] 68)) w1.heap.size [.int .i64 off, .slice t.p t.l t.c] := Row.new (w := w1.drew)
  have hf18 : Fr (fun _ => False) w1 (w1.drew.alloc (Obj.cells #[(Value.int .i64 (off : Int)), (Value.slice t.p t.l t.c)] 68)) := (Fr.drew (F := fun _ => False)).trans Fr.alloc fun c h _ => h
  have hf08 := hf01.trans hf18 fun c h _ => h
  show _ ∧ apS 2 32 [(Value.int .i64 (0 : Int)), (Value.slice none 0 0)] 68 q (Sl.mk (some (Addr.mk w1.heap.size 0 none)) 1 1) _ _
  generalize w1.drew.alloc (Obj.cells #[(Value.int .i64 (off : Int)), (Value.slice t.p t.l t.c)] 68) = w8 at *
  refine ⟨⟨hr8.at rfl, hr8'.at rfl, hr8'.at rfl⟩, ?_⟩
  have hq8 : OwnV 2 w8 q (pcV ps) := hb.hq.fr hf08 fun _ _ h => h
  refine apS_own (us := [.int .i64 off, .slice t.p t.l t.c]) hq8 ⟨rfl, fun i hi => ?_⟩ (by simp [okC]) rfl (by simp; omega) (by simp; omega) fun r w10 hrO hrl hf hrB => ?_
  · rw [add_mk, hr8n.cell]
    simp at hi
    rcases i with _ | _ | i
    · rfl
    · rfl
    · omega
  have hqb : ¬ inB q b := fun hc => (hb.oq b hc).2.1 rfl
  have hr10 := hf.row hr8 hqb
  have hr10' := hf.row hr8' fun hc => absurd (hb.hq.lt hc) (by omega)
  refine ⟨⟨hr10.at rfl, hr10'.at rfl, hr10'.at rfl⟩, hr10.wr (by simp [dRow]), ?_⟩
  have hfs : Fr (fun c => c = b) w10 (w10.setCell ⟨b, 2, none⟩ (.slice r.p r.l r.c)) := Fr.set rfl
  have hf8e : Fr (fun c => c = b ∨ inB q c) w8 (w10.setCell ⟨b, 2, none⟩ (.slice r.p r.l r.c)) := (hf.mono fun c h => .inr h).trans hfs fun c h _ => .inl h
  have hfe : Fr (fun c => c = b ∨ inB q c) w (w10.setCell ⟨b, 2, none⟩ (.slice r.p r.l r.c)) := (hf08.mono fun c h => h.elim).trans hf8e fun c h _ => h
  have hs8 : w.heap.size ≤ w8.heap.size := hf08.1
  have hnew : ∀ c, inB r c → inB q c ∨ (w.heap.size ≤ c ∧ c < (w10.setCell ⟨b, 2, none⟩ (.slice r.p r.l r.c)).heap.size) := fun c hc => by
    rcases hrB c hc with h | h
    · exact .inl h
    · exact .inr ⟨by omega, by simpa using hrO.lt hc⟩
  refine hK _ r (hr10.set 2 _) ?_ hfe
  have keep : ∀ {size : Nat} {s : Sl} {vs : List Value}, OwnV size w s vs → (∀ c, inB s c → c ≠ b ∧ ¬ inB q c) → OwnV size (w10.setCell ⟨b, 2, none⟩ (.slice r.p r.l r.c)) s vs := fun ho hn => ho.fr hfe fun c hc hF => by
    rcases hF with h | h
    · exact (hn c hc).1 h
    · exact (hn c hc).2 h
  constructor
  · exact keep hb.hn fun c hc => ⟨(hb.on c hc).2, fun h => (hb.oq c h).2.2.1 hc⟩
  · exact keep hb.hy fun c hc => ⟨(hb.oy c hc).2.1, fun h => (hb.oq c h).2.2.2 hc⟩
  · rw [pcV_append]
    exact hrO.fr hfs fun c hc hF => by
      subst hF
      rcases hnew c hc with h | h
      · exact (hb.oq c h).2.1 rfl
      · omega
  · simp [hb.hlen]
  · intro i hi hi'
    have hl := hb.hlen
    by_cases h : i < ps.length
    · have h' : i < pcs.length := by omega
      rw [List.getElem_append_left h, List.getElem_append_left h']
      exact ⟨(hb.hps i h h').1, keep (hb.hps i h h').2 fun c hc => ⟨(hb.op _ (List.getElem_mem h) c hc).2.1, (hb.op _ (List.getElem_mem h) c hc).2.2.2.2⟩⟩
    · have e : i = ps.length := by simp at hi; omega
      subst e
      have e2 : ps.length = pcs.length := hl
      simp only [List.getElem_append_right (Nat.le_refl _), Nat.sub_self, List.getElem_cons_zero]
      have : (pcs ++ [(off, m)])[ps.length] = (off, m) := by simp [e2]
      rw [this]
      exact ⟨rfl, keep ht fun c hc => ⟨(htB c hc).2.1, (htB c hc).2.2.2.2⟩⟩
  · exact .inl hb.ob
  · exact fun c hc => ⟨.inl (hb.on c hc).1, (hb.on c hc).2⟩
  · exact fun c hc => ⟨.inl (hb.oy c hc).1, (hb.oy c hc).2⟩
  · intro c hc
    rcases hnew c hc with h | h
    · exact ⟨.inl (hb.oq c h).1, (hb.oq c h).2⟩
    · refine ⟨.inr h, by omega, fun hn => ?_, fun hn => ?_⟩
      · exact absurd (hb.hn.lt hn) (by omega)
      · exact absurd (hb.hy.lt hn) (by omega)
  · intro p hp c hc
    have notr : c < w.heap.size → ¬ inB q c → ¬ inB r c := fun hlt hnq hrc => by
      rcases hnew c hrc with h | h
      · exact hnq h
      · omega
    rcases List.mem_append.1 hp with hp | hp
    · obtain ⟨i, hi, rfl⟩ := List.mem_iff_getElem.1 hp
      have h5 := hb.op _ (List.getElem_mem hi) c hc
      have hlt := (hb.hps i hi (by have := hb.hlen; omega)).2.lt hc
      exact ⟨.inl h5.1, h5.2.1, h5.2.2.1, h5.2.2.2.1, notr hlt h5.2.2.2.2⟩
    · simp only [List.mem_singleton] at hp
      subst hp
      have h5 := htB c hc
      exact ⟨.inl h5.1, h5.2.1, h5.2.2.1, h5.2.2.2.1, notr (ht.lt hc) h5.2.2.2.2⟩
end
end Go.Proofs.Ytamkecjpcfnpjaa
