/- Rational numbers: what the operations answer, as plain laws. Conditions: none. -/
import Derived.Test.YtfclokkfnkieoaaGreatDoorRL1
namespace Go.Proofs.YtfclokkfnkieoaaGreatDoor
open Go Pw

theorem fitQ_right_eq {n d : Int} (h : rightP n d) : fitQ (val n d) = if -9223372036854775808 ≤ n ∧ n < 9223372036854775808 ∧ d < 9223372036854775808 then ⟨n, d, true⟩ else zr := by
  unfold fitQ
  rw [val_num h]
  have e := val_den h
  by_cases hc : -9223372036854775808 ≤ n ∧ n < 9223372036854775808 ∧ d < 9223372036854775808
  · rw [if_pos hc, if_pos ⟨hc.1, hc.2.1, by omega⟩, e]
  · rw [if_neg hc, if_neg (by omega)]

theorem val_div {n d : Int} (h : 0 < d) : val n d = Rat.divInt n d := by
  have e : d = ((d.toNat : Nat) : Int) := by omega
  unfold val
  conv => rhs; rw [e]
  rw [Rat.divInt_ofNat]

theorem val_lt {n d n' d' : Int} (h : rightP n d) (h' : rightP n' d') : val n d < val n' d' ↔ n * d' < n' * d := by
  rw [Rat.lt_iff, val_num h, val_num h', val_den h, val_den h']

theorem val_zero {d : Int} : val 0 d = 0 := by unfold val; simp

theorem val_ne {n d : Int} (h : rightP n d) (hn : n ≠ 0) : val n d ≠ 0 := by
  intro h0
  have := val_num h
  rw [h0] at this
  exact hn this.symm

/-- Comparing two numbers. -/
def cmpR (x y : Rat) : Int := if x < y then -1 else if y < x then 1 else 0

theorem cmpQ_val {n d n' d' : Int} (h : rightP n d) (h' : rightP n' d') : cmpQ n d n' d' = cmpR (val n d) (val n' d') := by
  unfold cmpQ cmpR cmpI
  rw [if_pos ⟨h, h'⟩]
  simp only [val_lt h h', val_lt h' h]

theorem addQ_val {n d n' d' : Int} (h : rightP n d) (h' : rightP n' d') : addQ n d n' d' = fitQ (val n d + val n' d') := by unfold addQ; rw [if_pos ⟨h, h'⟩]
theorem subQ_val {n d n' d' : Int} (h : rightP n d) (h' : rightP n' d') : subQ n d n' d' = fitQ (val n d - val n' d') := by unfold subQ; rw [if_pos ⟨h, h'⟩]
theorem mulQ_val {n d n' d' : Int} (h : rightP n d) (h' : rightP n' d') : mulQ n d n' d' = fitQ (val n d * val n' d') := by unfold mulQ; rw [if_pos ⟨h, h'⟩]
theorem quoQ_val {n d n' d' : Int} (h : rightP n d) (h' : rightP n' d') (h0 : n' ≠ 0) : quoQ n d n' d' = fitQ (val n d / val n' d') := by unfold quoQ; rw [if_pos ⟨h, h'⟩, if_neg h0]

theorem zr_right : rightP zr.n zr.d := ⟨by decide, by decide⟩

theorem addQ_right (n d n' d' : Int) : rightP (addQ n d n' d').n (addQ n d n' d').d := by
  unfold addQ; split
  · exact fitQ_right _
  · exact zr_right
theorem subQ_right (n d n' d' : Int) : rightP (subQ n d n' d').n (subQ n d n' d').d := by
  unfold subQ; split
  · exact fitQ_right _
  · exact zr_right
theorem mulQ_right (n d n' d' : Int) : rightP (mulQ n d n' d').n (mulQ n d n' d').d := by
  unfold mulQ; split
  · exact fitQ_right _
  · exact zr_right
theorem zr_I64 : I64 zr.n ∧ I64 zr.d := ⟨⟨by decide, by decide⟩, ⟨by decide, by decide⟩⟩
theorem addQ_I64 (n d n' d' : Int) : I64 (addQ n d n' d').n ∧ I64 (addQ n d n' d').d := by
  unfold addQ; split
  · exact fitQ_I64 _
  · exact zr_I64
theorem subQ_I64 (n d n' d' : Int) : I64 (subQ n d n' d').n ∧ I64 (subQ n d n' d').d := by
  unfold subQ; split
  · exact fitQ_I64 _
  · exact zr_I64
theorem mulQ_I64 (n d n' d' : Int) : I64 (mulQ n d n' d').n ∧ I64 (mulQ n d n' d').d := by
  unfold mulQ; split
  · exact fitQ_I64 _
  · exact zr_I64
theorem quoQ_I64 (n d n' d' : Int) : I64 (quoQ n d n' d').n ∧ I64 (quoQ n d n' d').d := by
  unfold quoQ; split
  · split
    · exact zr_I64
    · exact fitQ_I64 _
  · exact zr_I64

theorem addQ_comm (n d n' d' : Int) : addQ n d n' d' = addQ n' d' n d := by
  unfold addQ
  by_cases h : rightP n d ∧ rightP n' d'
  · rw [if_pos h, if_pos ⟨h.2, h.1⟩, Rat.add_comm]
  · rw [if_neg h, if_neg fun h' => h ⟨h'.2, h'.1⟩]
theorem mulQ_comm (n d n' d' : Int) : mulQ n d n' d' = mulQ n' d' n d := by
  unfold mulQ
  by_cases h : rightP n d ∧ rightP n' d'
  · rw [if_pos h, if_pos ⟨h.2, h.1⟩, Rat.mul_comm]
  · rw [if_neg h, if_neg fun h' => h ⟨h'.2, h'.1⟩]

/-- A result that fits has the value of what was reckoned. -/
theorem addQ_fit {n d n' d' : Int} (h : rightP n d) (h' : rightP n' d') (hok : (addQ n d n' d').ok = true) : val (addQ n d n' d').n (addQ n d n' d').d = val n d + val n' d' := by
  rw [addQ_val h h'] at hok ⊢
  exact fitQ_val hok
theorem subQ_fit {n d n' d' : Int} (h : rightP n d) (h' : rightP n' d') (hok : (subQ n d n' d').ok = true) : val (subQ n d n' d').n (subQ n d n' d').d = val n d - val n' d' := by
  rw [subQ_val h h'] at hok ⊢
  exact fitQ_val hok
theorem mulQ_fit {n d n' d' : Int} (h : rightP n d) (h' : rightP n' d') (hok : (mulQ n d n' d').ok = true) : val (mulQ n d n' d').n (mulQ n d n' d').d = val n d * val n' d' := by
  rw [mulQ_val h h'] at hok ⊢
  exact fitQ_val hok

theorem fitQ_self {n d : Int} (h : rightP n d) (hn : I64 n) (hd : I64 d) : fitQ (val n d) = ⟨n, d, true⟩ := by
  rw [fitQ_right_eq h, if_pos ⟨hn.1, hn.2, hd.2⟩]

theorem back_q {n d n' d' : Int} (h : rightP n d) (h' : rightP n' d') (hn : I64 n) (hd : I64 d) (hok : (addQ n d n' d').ok = true) :
    subQ (addQ n d n' d').n (addQ n d n' d').d n' d' = ⟨n, d, true⟩ := by
  rw [subQ_val (addQ_right _ _ _ _) h', addQ_fit h h' hok, show val n d + val n' d' - val n' d' = val n d by grind, fitQ_self h hn hd]

theorem under_q {n d n' d' : Int} (h : rightP n d) (h' : rightP n' d') (hn : I64 n) (hd : I64 d) (h0 : n' ≠ 0) (hok : (mulQ n d n' d').ok = true) :
    quoQ (mulQ n d n' d').n (mulQ n d n' d').d n' d' = ⟨n, d, true⟩ := by
  have := val_ne h' h0
  rw [quoQ_val (mulQ_right _ _ _ _) h' h0, mulQ_fit h h' hok, show val n d * val n' d' / val n' d' = val n d by grind, fitQ_self h hn hd]

theorem RR_val_inj {r s : RR} (h : rightP r.n r.d) (h' : rightP s.n s.d) (e : val r.n r.d = val s.n s.d) : r.n = s.n ∧ r.d = s.d := val_inj h h' e

theorem dist_q {n d n' d' m e : Int} (h : rightP n d) (h' : rightP n' d') (h'' : rightP m e) (o1 : (addQ n d n' d').ok = true)
    (o2 : (mulQ (addQ n d n' d').n (addQ n d n' d').d m e).ok = true) (o3 : (mulQ n d m e).ok = true) (o4 : (mulQ n' d' m e).ok = true)
    (o5 : (addQ (mulQ n d m e).n (mulQ n d m e).d (mulQ n' d' m e).n (mulQ n' d' m e).d).ok = true) :
    (mulQ (addQ n d n' d').n (addQ n d n' d').d m e).n = (addQ (mulQ n d m e).n (mulQ n d m e).d (mulQ n' d' m e).n (mulQ n' d' m e).d).n ∧
    (mulQ (addQ n d n' d').n (addQ n d n' d').d m e).d = (addQ (mulQ n d m e).n (mulQ n d m e).d (mulQ n' d' m e).n (mulQ n' d' m e).d).d := by
  refine RR_val_inj (mulQ_right _ _ _ _) (addQ_right _ _ _ _) ?_
  rw [mulQ_fit (addQ_right _ _ _ _) h'' o2, addQ_fit h h' o1, addQ_fit (mulQ_right _ _ _ _) (mulQ_right _ _ _ _) o5, mulQ_fit h h'' o3, mulQ_fit h' h'' o4]
  grind

theorem val_num_sign {r : RR} (h : rightP r.n r.d) : (0 < r.n ↔ 0 < val r.n r.d) ∧ (r.n < 0 ↔ val r.n r.d < 0) := by
  have h1 := val_lt (n := 0) (d := 1) ⟨by decide, by decide⟩ h
  have h2 := val_lt (n' := 0) (d' := 1) h ⟨by decide, by decide⟩
  rw [val_zero] at h1 h2
  constructor
  · rw [h1]; omega
  · rw [h2]; omega

/-- The floor, and what is left. -/
theorem floor_sub {n d : Int} (h : rightP n d) (hd : I64 d) : subQ n d (n / d) 1 = ⟨n % d, d, true⟩ := by
  have hpos := h.1
  have hmod0 := Int.emod_nonneg n (show d ≠ 0 by omega)
  have hmod1 := Int.emod_lt_of_pos n hpos
  have hr : rightP (n % d) d := by
    refine ⟨hpos, ?_⟩
    have h1 := h.2
    have e : Int.gcd (n % d) d = Int.gcd n d := by rw [Int.emod_def, Int.gcd_sub_mul_left_left]
    exact e.trans h1
  rw [subQ_val h (rI _)]
  have e : val n d - val (n / d) 1 = val (n % d) d := by
    rw [val_div hpos, val_div hpos, val_div (by decide), Rat.divInt_sub_divInt _ _ (by omega) (by decide)]
    congr 1
    · rw [Int.mul_one]
      have := Int.emod_add_mul_ediv n d
      rw [Int.mul_comm d] at this
      omega
    · omega
  rw [e, fitQ_self hr ⟨by omega, by have := hd.2; omega⟩ hd]

theorem floor_cmp {n d : Int} (h : rightP n d) : cmpQ (n / d) 1 n d ≤ 0 := by
  unfold cmpQ
  rw [if_pos ⟨rI _, h⟩]
  have := Int.ediv_mul_le n (show d ≠ 0 by have := h.1; omega)
  unfold cmpI
  split
  · decide
  · rw [if_neg (by omega)]; decide

section
variable {w : World}
theorem Add_s {n d n' d' : Int} {K : Int → Int → Bool → World → Prop} (hn : I64 n) (hd : I64 d) (hn' : I64 n') (hd' : I64 d') (hK : ∀ w', Fr F0 w w' → K (addQ n d n' d').n (addQ n d n' d').d (addQ n d n' d').ok w') : ratio_Add_sh n d n' d' K w := Add_spec hn hd hn' hd' hK
theorem Sub_s {n d n' d' : Int} {K : Int → Int → Bool → World → Prop} (hn : I64 n) (hd : I64 d) (hn' : I64 n') (hd' : I64 d') (hK : ∀ w', Fr F0 w w' → K (subQ n d n' d').n (subQ n d n' d').d (subQ n d n' d').ok w') : ratio_Sub_sh n d n' d' K w := Sub_spec hn hd hn' hd' hK
theorem Mul_s {n d n' d' : Int} {K : Int → Int → Bool → World → Prop} (hn : I64 n) (hd : I64 d) (hn' : I64 n') (hd' : I64 d') (hK : ∀ w', Fr F0 w w' → K (mulQ n d n' d').n (mulQ n d n' d').d (mulQ n d n' d').ok w') : ratio_Mul_sh n d n' d' K w := Mul_spec hn hd hn' hd' hK
theorem Quo_s {n d n' d' : Int} {K : Int → Int → Bool → World → Prop} (hn : I64 n) (hd : I64 d) (hn' : I64 n') (hd' : I64 d') (hK : ∀ w', Fr F0 w w' → K (quoQ n d n' d').n (quoQ n d n' d').d (quoQ n d n' d').ok w') : ratio_Quo_sh n d n' d' K w := Quo_spec hn hd hn' hd' hK
theorem Make_s {n d : Int} {K : Int → Int → Bool → World → Prop} (hn : I64 n) (hd : I64 d) (hK : ∀ w', Fr F0 w w' → K (makeQ n d).n (makeQ n d).d (makeQ n d).ok w') : ratio_Make_sh n d K w := Make_spec hn hd hK
theorem rMake_s {n d : Int} {K : Int → Int → Bool → World → Prop} (hn : I64 n) (hd : I64 d) (hK : ∀ w', Fr F0 w w' → K (makeQ n d).n (makeQ n d).d (makeQ n d).ok w') : probityref01_Make_sh n d K w := rMake_spec hn hd hK
end
end Go.Proofs.YtfclokkfnkieoaaGreatDoor
