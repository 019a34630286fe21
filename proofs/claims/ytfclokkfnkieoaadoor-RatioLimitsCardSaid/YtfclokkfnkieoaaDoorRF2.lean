/- The reference's digits: differences and products. Conditions: none. -/
import Derived.Test.YtfclokkfnkieoaaDoorRF1
namespace Go.Proofs.YtfclokkfnkieoaaDoor
open Go Pw

section
variable {w w' w0 : World} {s a b : Sl} {k j n m : Nat}

theorem minus_k2 {lo : List Nat} {out : Sl} {i d : Nat} {bo : Int} {N : Sl → Sl → Sl → Int → Int → World → Prop} {K : Sl → World → Prop} (ho : Mk w0 1 di w out lo) (hl : lo.length ≤ 2 ^ 40) (hi : i ≤ 2 ^ 40)
    (hN : ∀ o' w', Mk w0 1 di w' o' (lo ++ [d]) → N a b o' bo ((i : Int) + 1) w') : probityref01_minus_k2 a b out bo i (d : Int) N K w := by
  refine ⟨?_⟩
  unfold probityref01_minus_k2d
  exact ho.push (a := d) rfl rfl (ie_ok _ _) rfl (by omega) (by omega) fun r w2 h2 _ => ⟨inR64 (by omega) (by omega), hN r w2 h2⟩

theorem minus_spec {K : Sl → World → Prop} (ha : Nm k w a n) (hb : Nm j w b m) (hnm : m ≤ n) (hk : k ≤ 2 ^ 40) (hK : ∀ s' w', Nt k w' s' (n - m) → Fr F0 w w' → (∀ c, inB s' c → w.heap.size ≤ c) → K s' w') : probityref01_minus_sh a b K w := by
  obtain ⟨la, va, da, rfl, kla⟩ := ha
  obtain ⟨lb, vb, db, rfl, klb⟩ := hb
  have hla := va.len
  have hlb := vb.len
  refine ⟨⟨⟨fun out bo i w' => ∃ (lo : List Nat) (b' i' : Nat), bo = b' ∧ i = i' ∧ b' ≤ 1 ∧ i' ≤ la.length ∧ lo.length = i' ∧ Dg lo ∧ Mk w 1 di w' out lo ∧ vl lo + vl (lb.take i') = vl (la.take i') + 65536 ^ i' * b', fun _ _ i _ => la.length - i.toNat,
    ⟨[], 0, 0, rfl, rfl, by omega, by omega, rfl, Dg.nil, Mk.nil Fr.refl, by simp [vl]⟩, ?_⟩⟩⟩
  rintro out bo i w1 ⟨lo, b', i', rfl, rfl, hb1, hi, hlo, hdo, ho, hv⟩
  unfold probityref01_minus_b0
  rw [cnd_prop]
  constructor
  · intro hlt
    have hlt : i' < la.length := by omega
    have hda := da.getD i'
    have hta := vl_take_succ la i' hlt
    refine (va.fr ho.fr0).ld 0 i' rfl hlt ⟨inR64 (by omega) (by omega), ?_⟩
    have k1 : ∀ (y : Nat) , y < 65536 → (vl (lb.take (i' + 1)) = vl (lb.take i') + 65536 ^ i' * y) →
        probityref01_minus_k1 a b out (i' : Int) ((la.getD i' 0 : Nat) - (b' : Int) - (y : Int)) (fun (a_0' : Sl) (b_1' : Sl) (out_5' : Sl) (borrow_6' : Int) (i_7' : Int) (w' : World) => ((a_0' = a ∧ b_1' = b ∧ True) ∧ ∃ (lo : List Nat) (b' i' : Nat), borrow_6' = b' ∧ i_7' = i' ∧ b' ≤ 1 ∧ i' ≤ la.length ∧ lo.length = i' ∧ Dg lo ∧ Mk w 1 di w' out_5' lo ∧ vl lo + vl (lb.take i') = vl (la.take i') + 65536 ^ i' * b') ∧ la.length - i_7'.toNat < la.length - (i' : Int).toNat) K w1 := by
      intro y hy hty
      refine ⟨?_⟩
      unfold probityref01_minus_k1d
      rw [cnd_prop]
      have fin : ∀ (e d : Nat), d < 65536 → e ≤ 1 → d + y + b' = la.getD i' 0 + 65536 * e → vl (lo ++ [d]) + vl (lb.take (i' + 1)) = vl (la.take (i' + 1)) + 65536 ^ (i' + 1) * e := by
        intro e d hd he h
        rw [hty, hta, vl_append, hlo]
        simp only [vl, Nat.mul_zero, Nat.add_zero, Nat.pow_succ]
        generalize 65536 ^ i' = P at *
        have h2 : P * (d + y + b') = P * (la.getD i' 0 + 65536 * e) := by rw [h]
        rw [Nat.mul_add, Nat.mul_add, Nat.mul_add, ← Nat.mul_assoc] at h2
        omega
      constructor
      · intro hneg
        refine ⟨inR64 (by omega) (by omega), ?_⟩
        obtain ⟨d, hd⟩ : ∃ d : Nat, (d : Int) = (la.getD i' 0 : Nat) - (b' : Int) - (y : Int) + 65536 := ⟨((la.getD i' 0 : Nat) - (b' : Int) - (y : Int) + 65536).toNat, by omega⟩
        rw [← hd]
        refine minus_k2 ho (by omega) (by omega) fun o' w' h' => ⟨⟨⟨rfl, rfl, trivial⟩, lo ++ [d], 1, i' + 1, rfl, by omega, by omega, by omega, by simp [hlo], hdo.push (by omega), h', fin 1 d (by omega) (by omega) (by omega)⟩, by omega⟩
      · intro hneg
        obtain ⟨d, hd⟩ : ∃ d : Nat, (d : Int) = (la.getD i' 0 : Nat) - (b' : Int) - (y : Int) := ⟨((la.getD i' 0 : Nat) - (b' : Int) - (y : Int)).toNat, by omega⟩
        rw [← hd]
        refine minus_k2 ho (by omega) (by omega) fun o' w' h' => ⟨⟨⟨rfl, rfl, trivial⟩, lo ++ [d], 0, i' + 1, rfl, by omega, by omega, by omega, by simp [hlo], hdo.push (by omega), h', fin 0 d (by omega) (by omega) (by omega)⟩, by omega⟩
    rw [cnd_prop]
    constructor
    · intro hlb'
      have hdb := db.getD i'
      refine (vb.fr ho.fr0).ld 0 i' rfl (by omega) ⟨inR64 (by omega) (by omega), ?_⟩
      exact k1 _ hdb (vl_take_succ lb i' (by omega))
    · intro hlb'
      have := k1 0 (by omega) (by rw [vl_take_all _ _ (by omega), vl_take_all _ _ (by omega)]; simp)
      simpa using this
  · intro hlt
    have hi' : i' = la.length := by omega
    subst hi'
    rw [vl_take_all la _ (Nat.le_refl _)] at hv
    have h1 := vl_lt hdo
    rw [hlo] at h1
    have h2 := vl_lt da
    have hvb : vl (lb.take la.length) ≤ vl lb := by
      rcases Nat.le_total lb.length la.length with h | h
      · rw [vl_take_all _ _ h]; exact Nat.le_refl _
      · rw [vl_split lb la.length h]; omega
    have hb0 : b' = 0 := by
      rcases Nat.eq_zero_or_pos b' with h | h
      · exact h
      · have : b' = 1 := by omega
        subst this
        omega
    subst hb0
    have hvb' : vl (lb.take la.length) = vl lb := by
      rcases Nat.le_total lb.length la.length with h | h
      · exact vl_take_all _ _ h
      · have h3 := vl_split lb la.length h
        have h4 : vl (lb.drop la.length) = 0 := by
          rcases Nat.eq_zero_or_pos (vl (lb.drop la.length)) with h5 | h5
          · exact h5
          · have : 65536 ^ la.length * 1 ≤ 65536 ^ la.length * vl (lb.drop la.length) := Nat.mul_le_mul_left _ h5
            omega
        rw [h4] at h3
        omega
    rw [hvb'] at hv
    exact trim_spec (k := k) (n := vl la - vl lb) ⟨lo, ho.vw, hdo, by omega, by omega⟩ hk fun s' hs' hin => hK s' w1 hs' ho.fr0 fun c hc => ho.nw c (hin c hc)
end
end Go.Proofs.YtfclokkfnkieoaaDoor
