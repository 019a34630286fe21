/- The program's disk, continued: Crash. Conditions: none. -/
import Derived.Test.YtamkecjpcfnpjaaJD3
namespace Go.Proofs.Ytamkecjpcfnpjaa
open Go Pw

/-- Does part k survive? -/
def hit (surv : List Int) (k : Nat) : Bool := decide (0 < surv.length) && Int.tmod (surv.getD (k % surv.length) 0) 2 != 0

def crashTo (surv : List Int) (syn : List UInt8) (pcs : List (Nat × List UInt8)) : Nat → List UInt8
  | 0 => syn
  | k + 1 => if hit surv k then putL (crashTo surv syn pcs k) (pcs.getD k (0, [])).1 (pcs.getD k (0, [])).2 else crashTo surv syn pcs k

def crashDS (st : DS) (surv : List Int) : DS := ⟨crashTo surv st.syn st.pcs st.pcs.length, crashTo surv st.syn st.pcs st.pcs.length, [], 0, none⟩

def iv (n : Int) : Value := .int .i64 n

/-- Lengths that a disk keeps. -/
structure Lens (st : DS) : Prop where
  now : st.now.length ≤ 2 ^ 24
  syn : st.syn.length ≤ 2 ^ 24
  pcs : ∀ p ∈ st.pcs, p.1 + p.2.length ≤ 2 ^ 24

theorem crashTo_length {surv : List Int} {syn : List UInt8} {pcs : List (Nat × List UInt8)} (hs : syn.length ≤ 2 ^ 24) (hp : ∀ p ∈ pcs, p.1 + p.2.length ≤ 2 ^ 24) : ∀ k, (crashTo surv syn pcs k).length ≤ 2 ^ 24
  | 0 => hs
  | k + 1 => by
    have ih := crashTo_length (surv := surv) hs hp k
    unfold crashTo
    split
    · rw [putL_length]
      by_cases h : k < pcs.length
      · have := hp _ (List.getElem_mem h)
        rw [List.getD_eq_getElem?_getD, List.getElem?_eq_getElem h]
        simp only [Option.getD_some]
        omega
      · rw [List.getD_eq_getElem?_getD, List.getElem?_eq_none (by omega)]
        simp; omega
    · exact ih

section
variable {w : World} {b : Nat} {st : DS} {O : Nat → Prop}

theorem pcV_get : ∀ (ps : List (Nat × Sl)) (k : Nat) (h : k < ps.length), (pcV ps)[k * 2]? = some (.int .i64 ps[k].1) ∧ (pcV ps)[k * 2 + 1]? = some (.slice ps[k].2.p ps[k].2.l ps[k].2.c)
  | p :: ps, 0, _ => ⟨rfl, rfl⟩
  | p :: ps, k + 1, h => by
    have ih := pcV_get ps k (by simpa using h)
    have e : pcV (p :: ps) = .int .i64 p.1 :: .slice p.2.p p.2.l p.2.c :: pcV ps := rfl
    rw [e, show (k + 1) * 2 = k * 2 + 1 + 1 by omega]
    simpa using ih

theorem own_cell {size : Nat} {q : Sl} {vs : List Value} (h : OwnV size w q vs) (hl : 0 < q.l) : ∃ qb, q.p = some ⟨qb, 0, none⟩ ∧ ∀ i v, vs[i]? = some v → w.cell? ⟨qb, i, none⟩ = some v := by
  have hrd := h.rd
  obtain ⟨_, ⟨_, h0, _⟩ | ⟨qb, cs, hp, hr, _, _, ht⟩⟩ := h
  · omega
  · refine ⟨qb, hp, fun i v hv => ?_⟩
    have hi : i < vs.length := (List.getElem?_eq_some_iff.1 hv).1
    rw [hr.cell]
    rw [← ht, List.getElem?_take] at hv
    simpa [hi] using hv

theorem Crash_loop {K : Option Addr → World → Prop} {surv : List Int} {v n y q c : Sl} {ps : List (Nat × Sl)} {w7 : World} {ob : Nat}
    (hb : RB w b st.now st.syn st.pcs n y q ps O) (hL : Lens st) (hpl : st.pcs.length ≤ 2 ^ 29) (hv : rdC w v.p v.l (surv.map iv)) (hob : w.heap.size ≤ ob)
    (hc : OwnV 1 w7 c (st.syn.map bv)) (hcB : ∀ x, inB c x → w.heap.size ≤ x ∧ x ≠ ob) (ho : Row w7 ob (dRow ⟨none, 0, 0⟩ ⟨none, 0, 0⟩ ⟨none, 0, 0⟩ 0 false 0)) (hf : Fr (fun _ => False) w w7)
    (hK : ∀ w', Rep w' ob (crashDS st surv) (fun x => w.heap.size ≤ x ∧ x < w'.heap.size) → Fr (fun _ => False) w w' → K (ptr ob) w') :
    disk_Disk_Crash_l0 v (ptr ob) c q (q.l : Int) 0 K w7 := by
  have hql := hb.hq.len
  rw [pcV_length] at hql
  have hqps : q.l = ps.length := by omega
  have hvl := hv.1
  simp only [List.length_map] at hvl
  have hpsl := hb.hlen
  refine ⟨?_⟩
  refine ⟨fun c' t w' => ∃ k : Nat, t = k ∧ k ≤ ps.length ∧ OwnV 1 w' c' ((crashTo surv st.syn st.pcs k).map bv) ∧ (∀ x, inB c' x → w.heap.size ≤ x ∧ x ≠ ob) ∧
      Row w' ob (dRow ⟨none, 0, 0⟩ ⟨none, 0, 0⟩ ⟨none, 0, 0⟩ 0 false 0) ∧ Fr (fun _ => False) w w', fun _ t _ => (ps.length : Nat) - t.toNat, ⟨0, rfl, by omega, hc, hcB, ho, hf⟩, ?_⟩
  rintro c1 t1 w1 ⟨k, rfl, hk, hc1, hc1B, ho1, hf1⟩
  have hclen := crashTo_length (surv := surv) hL.syn hL.pcs k
  unfold disk_Disk_Crash_b0
  rw [cnd_prop]
  constructor
  · intro hlt
    have hkl : k < ps.length := by omega
    have hkp : k < st.pcs.length := by omega
    obtain ⟨qb, hqp, hqc⟩ := own_cell (hb.hq.fr hf1 fun _ _ h => h) (by omega)
    obtain ⟨hg1, hg2⟩ := pcV_get ps k hkl
    obtain ⟨hp1, hp2⟩ := hb.hps k hkl hkp
    have hpB := hb.op _ (List.getElem_mem hkl)
    have hplt : ∀ x, inB ps[k].2 x → x < w.heap.size := fun x hx => hp2.lt hx
    have hpL := hL.pcs _ (List.getElem_mem hkp)
    have hgetD : st.pcs.getD k (0, []) = st.pcs[k] := by rw [List.getD_eq_getElem?_getD, List.getElem?_eq_getElem hkp]; rfl
    rw [hqp]
    simp only [nz_some, add_mk, Nat.zero_add, Int.toNat_natCast]
    refine ⟨⟨by omega, by omega⟩, _, hqc _ _ hg1, ps[k].2, hqc _ _ hg2, ?_⟩
    have hfa : Fr (fun _ => False) w1 (w1.alloc (Obj.cells #[(Value.int .i64 (0 : Int)), (Value.slice none 0 0)] 68)) := Fr.alloc
    have hra : Row (w1.alloc (Obj.cells #[(Value.int .i64 (0 : Int)), (Value.slice none 0 0)] 68)) w1.heap.size [.int .i64 0, .slice none 0 0] := Row.new
    have hsa : (w1.alloc (Obj.cells #[(Value.int .i64 (0 : Int)), (Value.slice none 0 0)] 68)).heap.size = w1.heap.size + 1 := by simp
    generalize w1.alloc (Obj.cells #[(Value.int .i64 (0 : Int)), (Value.slice none 0 0)] 68) = wa at *
    have hra1 := hra.set 0 (.int .i64 (ps[k].1 : Int))
    have hra2 := hra1.set 1 (.slice ps[k].2.p ps[k].2.l ps[k].2.c)
    refine ⟨hra.wr (by simp), hra1.wr (by simp), ?_⟩
    have hfs : Fr (fun x => x = w1.heap.size) wa ((wa.setCell ⟨w1.heap.size, 0, none⟩ (.int .i64 (ps[k].1 : Int))).setCell ⟨w1.heap.size, 1, none⟩ (.slice ps[k].2.p ps[k].2.l ps[k].2.c)) :=
      (Fr.set (F := fun x => x = w1.heap.size) (a := ⟨w1.heap.size, 0, none⟩) rfl).trans (Fr.set (F := fun x => x = w1.heap.size) (a := ⟨w1.heap.size, 1, none⟩) rfl) fun c h _ => h
    have hf15 : Fr (fun _ => False) w1 ((wa.setCell ⟨w1.heap.size, 0, none⟩ (.int .i64 (ps[k].1 : Int))).setCell ⟨w1.heap.size, 1, none⟩ (.slice ps[k].2.p ps[k].2.l ps[k].2.c)) :=
      hfa.trans hfs fun c h hlt => by omega
    generalize (wa.setCell ⟨w1.heap.size, 0, none⟩ (.int .i64 (ps[k].1 : Int))).setCell ⟨w1.heap.size, 1, none⟩ (.slice ps[k].2.p ps[k].2.l ps[k].2.c) = w15 at *
    have hr15 : Row w15 w1.heap.size [.int .i64 ps[k].1, .slice ps[k].2.p ps[k].2.l ps[k].2.c] := hra2
    have hf015 : Fr (fun _ => False) w w15 := hf1.trans hf15 fun c h _ => h
    have hc15 := hc1.fr hf15 fun _ _ h => h
    have ho15 := hf15.row ho1 fun h => h
    have hv15 : rdC w15 v.p v.l (surv.map iv) := rdC_fr hv hf015 fun _ _ h => h
    have next : hit surv k = false → ((k : Int) + 1 = ((k + 1 : Nat) : Int)) → True := fun _ _ => trivial
    rw [cnd_prop]
    constructor
    · intro hvpos
      have hvne : 0 < surv.length := by omega
      have hmod : Int.tmod (k : Int) (v.l : Int) = ((k % v.l : Nat) : Int) := rfl
      rw [hmod]
      have hml := Nat.mod_lt k (show v.l > 0 by omega)
      obtain ⟨a, ha⟩ : ∃ a, v.p = some a := by
        cases hvp : v.p with
        | some a => exact ⟨a, rfl⟩
        | none =>
          have := hv.2
          rw [hvp] at this
          simp only at this
          omega
      have hread := hv15.2
      rw [ha] at hread
      have hcell := hread (k % v.l) (by simp; omega)
      rw [ha]
      simp only [nz_some, Int.toNat_natCast, Nat.mul_one]
      refine ⟨by omega, ⟨by omega, by omega⟩, surv.getD (k % surv.length) 0, ?_, by decide, ?_⟩
      · rw [hcell]
        have : k % surv.length < surv.length := by rw [hvl]; exact hml
        simp [iv, ← hvl, this]
      · rw [cnd_bne]
        have hhit : hit surv k = true ↔ ¬ Int.tmod (surv.getD (k % surv.length) 0) 2 = 0 := by simp [hit, hvne]
        constructor
        · intro hne
          refine ⟨_, hr15.at rfl, ps[k].2, hr15.at rfl, ?_⟩
          have hx15 := (hp2.fr hf015 fun _ _ h => h).rd
          refine put_spec (m := st.pcs[k].2) hc15 hx15 (fun x hx hx' => absurd (hplt x hx) (by have := (hc1B x hx').1; omega)) (by rw [hp1]; omega) (by omega) fun r w20 hrO hf20 hrB => ?_
          refine ⟨inR64 (by omega) (by omega), ⟨(by simp), k + 1, by omega, by omega, ?_, ?_, ?_, ?_⟩, by omega⟩
          · unfold crashTo
            rw [if_pos (hhit.2 hne), hgetD, ← hp1]
            exact hrO
          · intro x hx
            rcases hrB x hx with h | h
            · exact hc1B x h
            · refine ⟨Nat.le_trans hf015.1 h, ?_⟩
              rintro rfl
              exact absurd ho15.lt (by omega)
          · exact hf20.row ho15 fun h => (hc1B _ h).2 rfl
          · exact hf015.trans hf20 fun x h hlt => absurd hlt (by have := (hc1B x h).1; omega)
        · intro he
          refine ⟨inR64 (by omega) (by omega), ⟨(by simp), k + 1, by omega, by omega, ?_, hc1B, ho15, hf015⟩, by omega⟩
          unfold crashTo
          rw [if_neg (fun h => hhit.1 h he)]
          exact hc15
    · intro hv0
      refine ⟨inR64 (by omega) (by omega), ⟨(by simp), k + 1, by omega, by omega, ?_, hc1B, ho15, hf015⟩, by omega⟩
      have : hit surv k = false := by
        have : ¬ 0 < surv.length := by omega
        simp [hit, this]
      unfold crashTo
      rw [this]
      exact hc15
  · intro hge
    have hk' : k = ps.length := by omega
    subst hk'
    rw [hpsl] at hc1 hclen
    simp only [ptr, nz_some, add_mk, Nat.zero_add]
    refine ⟨ho1.wr (by simp [dRow]), ?_⟩
    have hr2 := ho1.set 0 (.slice c1.p c1.l c1.c)
    have hf2 : Fr (fun x => x = ob) w1 (w1.setCell ⟨ob, 0, none⟩ (.slice c1.p c1.l c1.c)) := Fr.set rfl
    generalize w1.setCell ⟨ob, 0, none⟩ (.slice c1.p c1.l c1.c) = w2 at *
    have hr3 : Row (w2.alloc (Obj.cells #[] 5)) ob _ := hr2.congr (heap_alloc_lt hr2.lt)
    have hrn : Row (w2.alloc (Obj.cells #[] 5)) w2.heap.size [] := Row.new (cs := [])
    have hf3 : Fr (fun _ => False) w2 (w2.alloc (Obj.cells #[] 5)) := Fr.alloc
    show apS 1 1 _ 5 _ c1 (w2.alloc (Obj.cells #[] 5)) _
    generalize w2.alloc (Obj.cells #[] 5) = w3 at *
    have hf13 : Fr (fun x => x = ob) w1 w3 := hf2.trans hf3 fun _ h _ => h.elim
    have hc3 := hc1.fr hf13 fun x hx h => (hc1B x hx).2 h
    have hcl := hc1.len
    simp only [List.length_map, Nat.mul_one] at hcl
    refine apS_own (vs := []) ⟨rfl, .inr ⟨w2.heap.size, [], rfl, hrn, rfl, Nat.le_refl _, rfl⟩⟩ hc3.rd okC_bv rfl (by simp; omega) (by simp; omega) fun r w4 hrO hrl hf4 hrB => ?_
    simp only [List.nil_append] at hrO
    have hobne : ¬ inB (Sl.mk (some (Addr.mk w2.heap.size 0 none)) 0 0) ob := fun ⟨a, ha, he⟩ => by
      cases ha
      have := hr2.lt
      simp at he
      omega
    have hr4 := hf4.row hr3 hobne
    refine ⟨hr4.wr (by simp [dRow]), ?_⟩
    have hr5 := hr4.set 1 (.slice r.p r.l r.c)
    have hf5 : Fr (fun x => x = ob) w4 (w4.setCell ⟨ob, 1, none⟩ (.slice r.p r.l r.c)) := Fr.set rfl
    generalize w4.setCell ⟨ob, 1, none⟩ (.slice r.p r.l r.c) = w5 at *
    have hs1 := hf1.1
    have hs2 := hf2.1
    have hrnew : ∀ x, inB r x → w2.heap.size ≤ x ∧ x < w5.heap.size := fun x hx => by
      have hlt := Nat.lt_of_lt_of_le (hrO.lt hx) hf5.1
      rcases hrB x hx with h | h
      · obtain ⟨a, ha, rfl⟩ := h
        cases ha
        exact ⟨Nat.le_refl _, hlt⟩
      · exact ⟨Nat.le_trans hf3.1 h, hlt⟩
    have hf35 : Fr (fun x => x = ob ∨ x = w2.heap.size) w3 w5 := (hf4.mono fun x ⟨a, ha, he⟩ => by cases ha; exact .inr he.symm).trans hf5 fun x h _ => .inl h
    have hf15 : Fr (fun x => x = ob) w1 w5 := hf13.trans hf35 fun x h hlt => by
      rcases h with h | h
      · exact h
      · omega
    have hcsz : w1.heap.size ≤ w5.heap.size := hf15.1
    refine hK w5 ⟨c1, r, ⟨none, 0, 0⟩, [], 0, hr5, by simp [crashDS], ?_, ?_, OwnV.nil, rfl, by simp, ⟨hob, hr5.lt⟩, ?_, ?_, fun c hc => (not_inB hc).elim, by simp⟩ (hf1.trans hf15 fun x h hlt => by omega)
    · exact hc1.fr hf15 fun x hx h => (hc1B x hx).2 h
    · exact hrO.fr hf5 fun x hx h => by
        subst h
        exact absurd hr2.lt (by have := (hrnew x hx).1; omega)
    · intro x hx
      exact ⟨⟨(hc1B x hx).1, Nat.lt_of_lt_of_le (hc1.lt hx) hcsz⟩, (hc1B x hx).2⟩
    · intro x hx
      have h := hrnew x hx
      refine ⟨⟨by omega, h.2⟩, ?_, fun hn => ?_⟩
      · rintro rfl
        exact absurd hr2.lt (by omega)
      · exact absurd (hc1.lt hn) (by omega)

theorem Crash_spec {K : Option Addr → World → Prop} {surv : List Int} {v : Sl} (h : Rep w b st O) (hL : Lens st) (hpl : st.pcs.length ≤ 2 ^ 29) (hv : rdC w v.p v.l (surv.map iv))
    (hK : ∀ w', Rep w' w.heap.size (crashDS st surv) (fun x => w.heap.size ≤ x ∧ x < w'.heap.size) → Fr (fun _ => False) w w' → K (ptr w.heap.size) w') : disk_Disk_Crash_sh (ptr b) v K w := by
  refine ⟨?_⟩
  unfold disk_Disk_Crash_sd
  refine ⟨?_⟩
  unfold disk_New_sd
  simp only [show (ptr b).isNone = false from rfl, cnd_false]
  obtain ⟨n, y, q, ps, left, hr, hle, hb⟩ := h.ex
  have hr1 : Row (w.alloc (Obj.cells #[(Value.slice none 0 0), (Value.slice none 0 0), (Value.slice none 0 0), (Value.int .i64 0), (Value.bool false), (Value.int .i64 0)] 59)) w.heap.size (dRow ⟨none, 0, 0⟩ ⟨none, 0, 0⟩ ⟨none, 0, 0⟩ 0 false 0) := Row.new
  have hf1 : Fr (fun _ => False) w (w.alloc (Obj.cells #[(Value.slice none 0 0), (Value.slice none 0 0), (Value.slice none 0 0), (Value.int .i64 0), (Value.bool false), (Value.int .i64 0)] 59)) := Fr.alloc
  have hs1 : (w.alloc (Obj.cells #[(Value.slice none 0 0), (Value.slice none 0 0), (Value.slice none 0 0), (Value.int .i64 0), (Value.bool false), (Value.int .i64 0)] 59)).heap.size = w.heap.size + 1 := by simp
  generalize w.alloc (Obj.cells #[(Value.slice none 0 0), (Value.slice none 0 0), (Value.slice none 0 0), (Value.int .i64 0), (Value.bool false), (Value.int .i64 0)] 59) = w1 at *
  have hrn : Row (w1.alloc (Obj.cells #[] 5)) w1.heap.size [] := Row.new (cs := [])
  have hf2 : Fr (fun _ => False) w1 (w1.alloc (Obj.cells #[] 5)) := Fr.alloc
  show nz (ptr b) _
  generalize w1.alloc (Obj.cells #[] 5) = w2 at *
  have hf02 := hf1.trans hf2 fun c h _ => h
  have hr2 := hf02.row hr fun h => h
  simp only [ptr, nz_some, add_mk, Nat.zero_add]
  refine ⟨y, hr2.at rfl, ?_⟩
  have hy2 := hb.hy.fr hf02 fun _ _ h => h
  have hyl := hb.hy.len
  simp only [List.length_map, Nat.mul_one] at hyl
  have := hL.syn
  refine apS_own (vs := []) ⟨rfl, .inr ⟨w1.heap.size, [], rfl, hrn, rfl, Nat.le_refl _, rfl⟩⟩ hy2.rd okC_bv rfl (by simp; omega) (by simp; omega) fun c w7 hcO _ hf7 hcB => ?_
  simp only [List.nil_append] at hcO
  have hin : ∀ x, inB (Sl.mk (some (Addr.mk w1.heap.size 0 none)) 0 0) x → x = w1.heap.size := fun x ⟨a, ha, he⟩ => by cases ha; exact he.symm
  have hf07 : Fr (fun _ => False) w w7 := hf02.trans hf7 fun x h hlt => by have := hin x h; omega
  have hr7 := hf07.row hr fun h => h
  refine ⟨q, hr7.at rfl, ?_⟩
  have hs2 := hf2.1
  refine Crash_loop hb hL hpl hv (Nat.le_refl _) hcO (fun x hx => ?_) (hf7.row (hf2.row hr1 fun h => h) fun h => by have := hin _ h; omega) hf07 hK
  rcases hcB x hx with h | h
  · have := hin x h; omega
  · omega
end
end Go.Proofs.Ytamkecjpcfnpjaa
