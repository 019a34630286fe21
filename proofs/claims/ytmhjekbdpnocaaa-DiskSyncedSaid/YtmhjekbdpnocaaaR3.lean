/- The reference model's disk, continued: Crash; and the desk's acts. Conditions: none. -/
import Derived.Test.YtmhjekbdpnocaaaR2
namespace Go.Proofs.Ytmhjekbdpnocaaa
open Go Pw

section
variable {w : World} {b : Nat} {st : DS} {O : Nat → Prop}

theorem rCrash_k1 {w0 : World} {c : ByteArray} {K : Option Addr → World → Prop} {surv : List Int} (hc : bl c = crashTo surv st.syn st.pcs st.pcs.length) (hf : Fr (fun _ => False) w0 w)
    (hK : ∀ w' ob, w0.heap.size ≤ ob → RR w' ob (crashDS st surv) (fun x => x = ob) → Fr (fun _ => False) w0 w' → K (ptr ob) w') : probityref26_Disk_Crash_k1 c K w := by
  refine ⟨?_⟩
  unfold probityref26_Disk_Crash_k1d
  have e : c = ofL (crashTo surv st.syn st.pcs st.pcs.length) := by rw [← hc, ofL_bl]
  refine hK _ w.heap.size hf.1 ⟨⟨none, 0, 0⟩, 0, ?_, by simp [crashDS], by simp [crashDS], OwnV.nil, rfl, fun c hc => (not_inB hc).elim⟩ (hf.trans Fr.alloc fun c h _ => h)
  rw [e]
  exact Row.new (cs := rRow _ _ ⟨none, 0, 0⟩ 0 0 false)

theorem rCrash_spec {K : Option Addr → World → Prop} {surv : List Int} {v : Sl} (h : RR w b st O) (hL : Lens st) (hpl : st.pcs.length ≤ 2 ^ 29) (hv : rdC w v.p v.l (surv.map iv))
    (hK : ∀ w' ob, w.heap.size ≤ ob → RR w' ob (crashDS st surv) (fun x => x = ob) → Fr (fun _ => False) w w' → K (ptr ob) w') : probityref26_Disk_Crash_sh (ptr b) v K w := by
  obtain ⟨q, left, hr, hle, hn, hq, hob, hB⟩ := h.ex
  have hql := hq.len
  rw [ppV_length] at hql
  have hvl := hv.1
  simp only [List.length_map] at hvl
  refine ⟨?_⟩
  unfold probityref26_Disk_Crash_sd
  simp only [show ptr b = some ⟨b, 0, none⟩ from rfl, nz_some, add_mk, Nat.zero_add]
  refine ⟨_, hr.at rfl, ⟨?_⟩⟩
  refine ⟨fun c t w' => ∃ j : Nat, t = j ∧ j ≤ st.pcs.length ∧ bl c = crashTo surv st.syn st.pcs j ∧ Fr (fun _ => False) w w', fun _ t _ => st.pcs.length - t.toNat, ⟨0, rfl, by omega, by rw [bl_ofL]; rfl, Fr.refl⟩, ?_⟩
  rintro c1 t w1 ⟨k, rfl, hk, hc1, hf1⟩
  have hclen := crashTo_length (surv := surv) hL.syn hL.pcs k
  have hr1 := hf1.row hr fun h => h
  unfold probityref26_Disk_Crash_b0
  simp only [nz_some, add_mk, Nat.zero_add]
  refine ⟨q, hr1.at rfl, ?_⟩
  have fin : k = st.pcs.length → probityref26_Disk_Crash_k1 c1 K w1 := fun e => by
    subst e
    exact rCrash_k1 hc1 hf1 hK
  rw [cnd_prop]
  constructor
  · intro hlt
    have hkp : k < st.pcs.length := by omega
    have hpL := hL.pcs _ (List.getElem_mem hkp)
    have hgetD : st.pcs.getD k (0, []) = st.pcs[k] := by rw [List.getD_eq_getElem?_getD, List.getElem?_eq_getElem hkp]; rfl
    have hq1 := hq.fr hf1 fun _ _ h => h
    obtain ⟨qb, hqp, hqc⟩ := own_cell hq1 (by omega)
    obtain ⟨hg1, hg2⟩ := ppV_get st.pcs k hkp
    have hv1 : rdC w1 v.p v.l (surv.map iv) := rdC_fr hv hf1 fun _ _ h => h
    rw [cnd_prop]
    constructor
    · intro hvpos
      have hvne : 0 < surv.length := by omega
      have hmod : Int.tmod (k : Int) (v.l : Int) = ((k % v.l : Nat) : Int) := rfl
      rw [hmod]
      have hml := Nat.mod_lt k (show v.l > 0 by omega)
      obtain ⟨a, ha⟩ : ∃ a, v.p = some a := by
        cases hvp : v.p with
        | some a => exact ⟨a, rfl⟩
        | none =>
          have := hv.2
          rw [hvp] at this
          simp only at this
          omega
      have hread := hv1.2
      rw [ha] at hread
      have hcell := hread (k % v.l) (by simp; omega)
      rw [ha]
      simp only [nz_some, Int.toNat_natCast, Nat.mul_one]
      refine ⟨by omega, ⟨by omega, by omega⟩, surv.getD (k % surv.length) 0, ?_, by decide, ?_⟩
      · rw [hcell]
        have : k % surv.length < surv.length := by rw [hvl]; exact hml
        simp [iv, ← hvl, this]
      · rw [cnd_bne]
        have hhit : hit surv k = true ↔ ¬ Int.tmod (surv.getD (k % surv.length) 0) 2 = 0 := by simp [hit, hvne]
        constructor
        · intro hne
          refine ⟨fun w' => w'.cell? ⟨b, 2, none⟩ = some (.slice q.p q.l q.c) ∧ w'.cell? ⟨qb, k * 2, none⟩ = some (.int .i64 st.pcs[k].1) ∧ w'.cell? ⟨qb, k * 2 + 1, none⟩ = some (.string (ofL st.pcs[k].2)),
            ⟨hr1.at rfl, hqc _ _ hg1, hqc _ _ hg2⟩, q, fun _ h => h.1, ?_⟩
          rw [hqp]
          simp only [nz_some, add_mk, Nat.zero_add]
          refine ⟨⟨by omega, by omega⟩, _, fun _ h => h.2.1, q, fun _ h => by have := h.1; rw [hqp]; exact this, ?_⟩
          rw [hqp]
          simp only [nz_some, add_mk, Nat.zero_add]
          refine ⟨⟨by omega, by omega⟩, _, fun _ h => h.2.2, ?_⟩
          have hc1l := bl_length c1
          have hpsz : (ofL st.pcs[k].2).size = st.pcs[k].2.length := by rw [← bl_length, bl_ofL]
          refine rPut_spec (by rw [hpsz]; omega) (by rw [← hc1l, hc1]; omega) fun w17 hf17 => ?_
          have hf17' : Fr (fun _ => False) w1 w17 := (Fr.drew (F := fun _ => False)).trans hf17 fun c h _ => h
          have hr17 := hf17'.row hr1 fun h => h
          obtain ⟨qb', hqp', hqc'⟩ := own_cell (hq1.fr hf17' fun _ _ h => h) (by omega)
          have hqe : qb' = qb := by rw [hqp] at hqp'; cases hqp'; rfl
          subst hqe
          refine ⟨⟨by rw [← hqp]; exact hr17.at rfl, hqc' _ _ hg1, hqc' _ _ hg2⟩, inR64 (by omega) (by omega), ⟨(by simp), k + 1, by omega, by omega, ?_, hf1.trans hf17' fun c h _ => h⟩, by omega⟩
          rw [bl_ofL, bl_ofL, hc1]
          rw [show crashTo surv st.syn st.pcs (k + 1) = if hit surv k then putL (crashTo surv st.syn st.pcs k) (st.pcs.getD k (0, [])).1 (st.pcs.getD k (0, [])).2 else crashTo surv st.syn st.pcs k from rfl, if_pos (hhit.2 hne), hgetD]
        · intro he
          refine ⟨inR64 (by omega) (by omega), ⟨(by simp), k + 1, by omega, by omega, ?_, hf1⟩, by omega⟩
          rw [hc1]
          rw [show crashTo surv st.syn st.pcs (k + 1) = if hit surv k then putL (crashTo surv st.syn st.pcs k) (st.pcs.getD k (0, [])).1 (st.pcs.getD k (0, [])).2 else crashTo surv st.syn st.pcs k from rfl, if_neg (fun h => hhit.1 h he)]
    · intro hv0
      have hz : surv.length = 0 := by omega
      have hc0 : ∀ n, crashTo surv st.syn st.pcs n = st.syn := fun n => by
        induction n with
        | zero => rfl
        | succ n ih =>
          rw [show crashTo surv st.syn st.pcs (n + 1) = if hit surv n then putL (crashTo surv st.syn st.pcs n) (st.pcs.getD n (0, [])).1 (st.pcs.getD n (0, [])).2 else crashTo surv st.syn st.pcs n from rfl, if_neg (by simp [hit, hz]), ih]
      refine rCrash_k1 (st := st) (surv := surv) ?_ hf1 hK
      rw [hc1, hc0, hc0]
  · intro hge
    exact fin (by omega)
end
end Go.Proofs.Ytmhjekbdpnocaaa
