/- The reference's digits: products. Conditions: none. -/
import Derived.Test.YtfclokkfnkieoaaDoorRF2
namespace Go.Proofs.YtfclokkfnkieoaaDoor
open Go Pw

section
variable {w w' w0 : World} {s a b : Sl} {k j n m : Nat}

theorem getD_set_other {l : List Nat} {i p v : Nat} (h : p ≠ i) : (l.set i v).getD p 0 = l.getD p 0 := by
  simp [List.getD_eq_getElem?_getD, List.getElem?_set_ne (Ne.symm h)]

theorem getD_set_self {l : List Nat} {i v : Nat} (h : i < l.length) : (l.set i v).getD i 0 = v := by
  simp [List.getD_eq_getElem?_getD, List.getElem?_set_self h]

theorem digit_bound {o x y c : Nat} (ho : o < 65536) (hx : x < 65536) (hy : y < 65536) (hc : c < 65536) : o + x * y + c < 65536 * 65536 := by
  have : x * y ≤ 65535 * 65535 := Nat.mul_le_mul (by omega) (by omega)
  omega

theorem times_spec' {K : Sl → World → Prop} (ha : Nm k w a n) (hb : Nm j w b m) (hk : k ≤ 2 ^ 39) (hj : j ≤ 2 ^ 39) (hK : ∀ s' w', Nt (k + j) w' s' (n * m) → Fr F0 w w' → K s' w') : probityref01_times_sh a b K w := by
  obtain ⟨la, va, da, rfl, kla⟩ := ha
  obtain ⟨lb, vb, db, rfl, klb⟩ := hb
  have hla := va.len
  have hlb := vb.len
  refine ⟨?_⟩
  unfold probityref01_times_sd
  refine ⟨inR64 (by omega) (by omega), Mk.make (w0 := w) (enc := di) (z := 0) Fr.refl rfl rfl (by omega) (by omega) (by omega) fun out w1 h1 _ => ?_⟩
  refine ⟨⟨fun i w' => ∃ (i' : Nat) (lo : List Nat), i = i' ∧ i' ≤ la.length ∧ lo.length = la.length + lb.length ∧ Dg lo ∧ Mk w 1 di w' out lo ∧ vl lo = vl (la.take i') * vl lb ∧ ∀ p, i' + lb.length ≤ p → lo.getD p 0 = 0,
    fun i _ => la.length - i.toNat, ⟨0, _, rfl, by omega, by simp; omega, Dg.replicate _, h1, by simp [vl_replicate, vl], fun p _ => by simp [List.getD_eq_getElem?_getD, List.getElem?_replicate]; split <;> rfl⟩, ?_⟩⟩
  clear h1
  rintro i w2 ⟨i', lo, rfl, hi, hlo, hdo, ho, hv, hz⟩
  unfold probityref01_times_b0
  rw [cnd_prop]
  constructor
  · intro hlt
    have hlt : i' < la.length := by omega
    have hai := da.getD i'
    refine ⟨⟨fun c kk w' => ∃ (c' k' : Nat) (lo : List Nat), c = c' ∧ kk = k' ∧ c' < 65536 ∧ k' ≤ lb.length ∧ lo.length = la.length + lb.length ∧ Dg lo ∧ Mk w 1 di w' out lo ∧
        vl lo + 65536 ^ (i' + k') * c' = vl (la.take i') * vl lb + 65536 ^ i' * (la.getD i' 0 * vl (lb.take k')) ∧ ∀ p, i' + lb.length ≤ p → lo.getD p 0 = 0,
      fun _ kk _ => lb.length - kk.toNat, ⟨0, 0, lo, rfl, rfl, by omega, by omega, hlo, hdo, ho, by simp [vl, hv], hz⟩, ?_⟩⟩
    clear ho hdo hlo hv hz lo
    rintro c kk w3 ⟨c', k', lo, rfl, rfl, hc, hk', hlo, hdo, ho, hv, hz⟩
    unfold probityref01_times_b1
    rw [cnd_prop]
    constructor
    · intro hlt2
      have hlt2 : k' < lb.length := by omega
      have hbk := db.getD k'
      have hok := hdo.getD (i' + k')
      intro w4
      have ho : Mk w 1 di w4 out lo := ho.fr Fr.drew
      clear_value w4
      refine ⟨inR64 (by omega) (by omega), ho.vw.ld 0 (i' + k') (by omega) (by omega) ((va.fr ho.fr0).ld 0 i' rfl hlt ((vb.fr ho.fr0).ld 0 k' rfl hlt2 ?_))⟩
      have hbd := digit_bound hok hai hbk hc
      rw [mulN, addN, addN]
      generalize hd : lo.getD (i' + k') 0 + la.getD i' 0 * lb.getD k' 0 + c' = d at *
      have hq : d / 65536 < 65536 := by omega
      have hm : d % 65536 < 65536 := by omega
      refine ⟨inR64 (by omega) (by omega), inR64 (by omega) (by omega), inR64 (by omega) (by omega), inR64 (by omega) (by omega), by omega, ?_⟩
      obtain ⟨ad, hp, hbd2, hwr, hset⟩ := ho.st (i := (i' : Int) + k') (i' + k') (by omega) (by omega)
      rw [hp]
      refine ⟨hbd2, hwr, ?_⟩
      intro w5
      have h5 : Mk w 1 di w5 out (lo.set (i' + k') (d % 65536)) := (hset (d % 65536)).1
      clear_value w5
      refine ⟨by omega, ?_, inR64 (by omega) (by omega), ⟨⟨rfl, rfl, rfl, rfl, trivial⟩, d / 65536, k' + 1, _, rfl, by omega, hq, by omega, by simp [hlo], hdo.set _ hm, h5, ?_, ?_⟩, by dsimp only; omega⟩
      · exact inR64 (by rw [show (65536 : Int) = ((65536 : Nat) : Int) from rfl, tdivN]; omega) (by rw [show (65536 : Int) = ((65536 : Nat) : Int) from rfl, tdivN]; omega)
      · have e1 := vl_set lo (i' + k') (d % 65536) (by omega)
        rw [vl_take_succ lb k' hlt2, ← Nat.add_assoc, Nat.pow_succ]
        have e2 : 65536 ^ (i' + k') * d = 65536 ^ (i' + k') * (d % 65536) + 65536 ^ (i' + k') * 65536 * (d / 65536) := by
          rw [Nat.mul_assoc, ← Nat.mul_add, Nat.mod_add_div]
        rw [← hd, Nat.mul_add, Nat.mul_add] at e2
        have e3 : 65536 ^ (i' + k') * (la.getD i' 0 * lb.getD k' 0) = 65536 ^ i' * (la.getD i' 0 * (65536 ^ k' * lb.getD k' 0)) := by
          rw [Nat.pow_add, Nat.mul_assoc, Nat.mul_left_comm (65536 ^ k')]
        rw [hd, e3] at e2
        rw [Nat.mul_add, Nat.mul_add]
        omega
      · intro p hp
        rw [getD_set_other (by omega)]
        exact hz p hp
    · intro hlt2
      have hk2 : k' = lb.length := by omega
      subst hk2
      obtain ⟨ad, hp, hbd2, hwr, hset⟩ := ho.st (i := (i' : Int) + (b.l : Int)) (i' + lb.length) (by omega) (by omega)
      rw [hp]
      refine ⟨inR64 (by omega) (by omega), hbd2, hwr, ?_⟩
      intro w4
      have h4 : Mk w 1 di w4 out (lo.set (i' + lb.length) c') := (hset c').1
      clear_value w4
      refine ⟨inR64 (by omega) (by omega), ⟨⟨rfl, rfl, rfl, trivial⟩, i' + 1, _, rfl, by omega, by simp [hlo], hdo.set _ hc, h4, ?_, ?_⟩, by dsimp only; omega⟩
      · have e1 := vl_set lo (i' + lb.length) c' (by omega)
        rw [hz _ (Nat.le_refl _), vl_take_all lb _ (Nat.le_refl _)] at *
        rw [vl_take_succ la i' hlt, Nat.add_mul, Nat.mul_assoc]
        omega
      · intro p hp
        rw [getD_set_other (by omega)]
        exact hz p (by omega)
  · intro hlt
    have : i' = la.length := by omega
    subst this
    rw [vl_take_all la _ (Nat.le_refl _)] at hv
    exact trim_spec (k := k + j) ⟨lo, ho.vw, hdo, hv, by omega⟩ (by omega) fun s' hs' _ => hK s' w2 hs' ho.fr0

theorem by_spec {K : Sl → World → Prop} {d : Nat} (ha : Nm k w a n) (hd : d < 65536) (hk : k ≤ 2 ^ 39) (hK : ∀ s' w', Nt (k + 1) w' s' (n * d) → Fr F0 w w' → K s' w') : probityref01_by_sh a (d : Int) K w := by
  refine ⟨?_⟩
  unfold probityref01_by_sd
  intro w1
  have hf : Fr F0 w w1 := Fr.alloc
  refine times_spec' (j := 1) (m := d) (ha.fr hf) ⟨[d], Vw.new (enc := di) rfl rfl, by intro x hx; simp at hx; omega, by simp [vl], by simp⟩ hk (by omega) fun s' w' hs hf' => hK s' w' hs (Fr0.t hf hf')
end
end Go.Proofs.YtfclokkfnkieoaaDoor
