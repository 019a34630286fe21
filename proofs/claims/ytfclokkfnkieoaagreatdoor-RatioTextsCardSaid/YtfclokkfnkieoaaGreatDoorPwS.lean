/- Sums and products of rational numbers, as the code reckons them with common divisors taken out ahead. Conditions: none. -/
import Derived.Test.YtfclokkfnkieoaaGreatDoorPwR
namespace Pw
open Go

theorem sgn_mul (s t : Bool) (a b : Nat) : sgn s a * sgn t b = sgn (s != t) (a * b) := by
  cases s <;> cases t <;> simp [sgn, Int.neg_mul, Int.mul_neg]

theorem sgn_mulN (s : Bool) (a b : Nat) : sgn s a * (b : Int) = sgn s (a * b) := by
  cases s <;> simp [sgn, Int.neg_mul]

/-- The products of what is left. -/
theorem times_q {xs ys : Bool} {xn xd yn yd : Nat} (hx : Nat.Coprime xn xd) (hy : Nat.Coprime yn yd) (hxd : xd ≠ 0) (hyd : yd ≠ 0) :
    ratI (xs != ys) (xn / Nat.gcd xn yd * (yn / Nat.gcd yn xd)) (xd / Nat.gcd yn xd * (yd / Nat.gcd xn yd)) = fitQ (mkRat (sgn xs xn) xd * mkRat (sgn ys yn) yd) := by
  have hg : 0 < Nat.gcd xn yd := Nat.gcd_pos_of_pos_right _ (by omega)
  have hh : 0 < Nat.gcd yn xd := Nat.gcd_pos_of_pos_right _ (by omega)
  have c1 := Nat.coprime_div_gcd_div_gcd hg
  have c2 := Nat.coprime_div_gcd_div_gcd hh
  have e1 := Nat.div_mul_cancel (Nat.gcd_dvd_left xn yd)
  have e2 := Nat.div_mul_cancel (Nat.gcd_dvd_right xn yd)
  have e3 := Nat.div_mul_cancel (Nat.gcd_dvd_left yn xd)
  have e4 := Nat.div_mul_cancel (Nat.gcd_dvd_right yn xd)
  generalize Nat.gcd xn yd = g at *
  generalize Nat.gcd yn xd = h at *
  generalize xn / g = a at *
  generalize yd / g = d at *
  generalize yn / h = c at *
  generalize xd / h = b at *
  subst e1 e2 e3 e4
  have c3 : Nat.Coprime a b := Nat.Coprime.coprime_mul_right (Nat.Coprime.coprime_mul_right_right hx)
  have c4 : Nat.Coprime c d := Nat.Coprime.coprime_mul_right (Nat.Coprime.coprime_mul_right_right hy)
  have hbd : b * d ≠ 0 := by
    intro h0
    rcases Nat.mul_eq_zero.1 h0 with h0 | h0
    · subst h0; simp at hxd
    · subst h0; simp at hyd
  have cc : Nat.Coprime (a * c) (b * d) := Nat.Coprime.mul_right (Nat.Coprime.mul_left c3 c2) (Nat.Coprime.mul_left c1 c4)
  rw [fitQ_rat _ _ _ hbd cc, Rat.mkRat_mul_mkRat, sgn_mul]
  congr 1
  have e : (a * g * (c * h)) = a * c * (g * h) := by rw [Nat.mul_mul_mul_comm]
  have e' : b * h * (d * g) = b * d * (g * h) := by rw [Nat.mul_mul_mul_comm, Nat.mul_comm h g]
  rw [e, e', ← sgn_mulN _ (a * c) (g * h), Rat.mkRat_mul_right]
  exact Nat.mul_ne_zero (by omega) (by omega)

/-- The sign and the size of a sum of two numbers with signs. -/
def sumS (xs ys : Bool) (a b : Nat) : Bool × Nat := if xs = ys then (xs, a + b) else if b ≤ a then (xs, a - b) else (ys, b - a)

theorem sumS_eq (xs ys : Bool) (a b : Nat) : sgn xs a + sgn ys b = sgn (sumS xs ys a b).1 (sumS xs ys a b).2 := by
  unfold sumS
  split
  · rename_i h
    subst h
    cases xs <;> simp [sgn] <;> omega
  · rename_i h
    split
    · cases xs <;> cases ys <;> simp_all [sgn] <;> omega
    · cases xs <;> cases ys <;> simp_all [sgn] <;> omega

theorem sumS_cases (xs ys : Bool) (a b : Nat) : (sumS xs ys a b).2 = a + b ∨ (sumS xs ys a b).2 + b = a ∨ (sumS xs ys a b).2 + a = b := by
  unfold sumS
  split
  · exact .inl rfl
  · split
    · exact .inr (.inl (by simp only; omega))
    · exact .inr (.inr (by simp only; omega))

theorem coprime_sum {n a b p : Nat} (hc : Nat.Coprime a p) (h : n = a + b * p ∨ n + b * p = a ∨ n + a = b * p) : Nat.Coprime n p := by
  have h1 := Nat.gcd_dvd_left n p
  have h2 := Nat.gcd_dvd_right n p
  have h3 : Nat.gcd n p ∣ b * p := Nat.dvd_mul_left_of_dvd h2 b
  have h4 : Nat.gcd n p ∣ a := by
    rcases h with h | h | h
    · have h1' : Nat.gcd n p ∣ a + b * p := by
        have := h1
        exact h ▸ this
      exact (Nat.dvd_add_left h3).1 h1'
    · rw [← h]
      exact Nat.dvd_add h1 h3
    · rw [← h] at h3
      exact (Nat.dvd_add_right h1).1 h3
  have := Nat.dvd_gcd h4 h2
  rw [hc] at this
  exact Nat.dvd_one.1 this

theorem sum_q {xs ys : Bool} {xn xd yn yd g n : Nat} {s : Bool} (hx : Nat.Coprime xn xd) (hy : Nat.Coprime yn yd) (hxd : xd ≠ 0) (hyd : yd ≠ 0) (hg : g = Nat.gcd xd yd)
    (hs : sumS xs ys (xn * (yd / g)) (yn * (xd / g)) = (s, n)) :
    (n = 0 → fitQ (mkRat (sgn xs xn) xd + mkRat (sgn ys yn) yd) = ⟨0, 1, true⟩) ∧
    ratI s (n / Nat.gcd g (n % g)) (xd / g * (yd / Nat.gcd g (n % g))) = fitQ (mkRat (sgn xs xn) xd + mkRat (sgn ys yn) yd) := by
  have hg0 : 0 < g := by rw [hg]; exact Nat.gcd_pos_of_pos_right _ (by omega)
  have e1 : xd / g * g = xd := by rw [hg]; exact Nat.div_mul_cancel (Nat.gcd_dvd_left xd yd)
  have e2 : yd / g * g = yd := by rw [hg]; exact Nat.div_mul_cancel (Nat.gcd_dvd_right xd yd)
  have c1 : Nat.Coprime (xd / g) (yd / g) := by rw [hg]; exact Nat.coprime_div_gcd_div_gcd (by rw [← hg]; exact hg0)
  clear hg
  generalize xd / g = p at *
  generalize hq : yd / g = q at *
  subst e1
  have hp0 : p ≠ 0 := by rintro rfl; simp at hxd
  have hsum : mkRat (sgn xs xn) (p * g) + mkRat (sgn ys yn) yd = mkRat (sgn s n) (p * yd) := by
    rw [Rat.mkRat_add_mkRat _ _ hxd hyd]
    have h1 := sumS_eq xs ys (xn * q) (yn * p)
    rw [hs] at h1
    simp only at h1
    have h2 : sgn xs xn * (yd : Int) + sgn ys yn * ((p * g : Nat) : Int) = sgn s n * (g : Int) := by
      rw [← h1, ← e2, Int.add_mul, sgn_mulN, sgn_mulN, sgn_mulN, sgn_mulN, Nat.mul_assoc, Nat.mul_assoc]
    have h3 : p * g * yd = p * yd * g := Nat.mul_right_comm _ _ _
    rw [h2, h3, Rat.mkRat_mul_right (by omega)]
  have cxp : Nat.Coprime xn p := Nat.Coprime.coprime_mul_right_right hx
  have cyq : Nat.Coprime yn q := by rw [← e2] at hy; exact Nat.Coprime.coprime_mul_right_right hy
  have hcases := sumS_cases xs ys (xn * q) (yn * p)
  rw [hs] at hcases
  simp only at hcases
  have cnp : Nat.Coprime n p := coprime_sum (a := xn * q) (b := yn) (Nat.Coprime.mul_left cxp c1.symm) hcases
  have cnq : Nat.Coprime n q := coprime_sum (a := yn * p) (b := xn) (Nat.Coprime.mul_left cyq c1) (by omega)
  have hgcd : Nat.gcd n (p * yd) = Nat.gcd n g := by
    rw [← e2, ← Nat.mul_assoc, Nat.Coprime.gcd_mul_left_cancel_right _ (Nat.Coprime.mul_left cnp.symm cnq.symm)]
  have hh : Nat.gcd g (n % g) = Nat.gcd n (p * yd) := by
    rw [hgcd, Nat.gcd_comm n g, Nat.gcd_comm g (n % g), ← Nat.gcd_rec]
  have hdvd : Nat.gcd g (n % g) ∣ yd := by
    rw [← e2]
    exact Nat.dvd_mul_left_of_dvd (Nat.gcd_dvd_left g (n % g)) q
  have hpy : p * (yd / Nat.gcd g (n % g)) = p * yd / Nat.gcd g (n % g) := by
    rw [Nat.mul_div_assoc _ hdvd]
  rw [hsum]
  refine ⟨?_, ?_⟩
  · rintro rfl
    have : sgn s 0 = 0 := by cases s <;> rfl
    rw [this]
    simp [fitQ]
  · rw [hpy, hh, lowest_rat s n (p * yd) (Nat.mul_ne_zero hp0 hyd)]
end Pw
namespace Pw
open Go
theorem sgn_abs (n : Int) : sgn (decide (n < 0)) n.natAbs = n := by
  by_cases h : n < 0
  · simp [sgn, h]; omega
  · simp [sgn, h]; omega

theorem sgn_abs_neg (n : Int) : sgn (!decide (n < 0)) n.natAbs = -n := by
  by_cases h : n < 0
  · simp [sgn, h]; omega
  · simp [sgn, h]; omega

theorem val_eq {n d : Int} (hd : 0 < d) : mkRat (sgn (decide (n < 0)) n.natAbs) d.natAbs = val n d := by
  rw [sgn_abs]
  unfold val
  congr 1
  omega

theorem val_neg {n d : Int} (hd : 0 < d) : mkRat (sgn (!decide (n < 0)) n.natAbs) d.natAbs = -val n d := by
  rw [sgn_abs_neg]
  unfold val
  rw [Rat.neg_mkRat]
  congr 1
  omega

theorem val_inv {n d : Int} (hd : 0 < d) : mkRat (sgn (decide (n < 0)) d.natAbs) n.natAbs = (val n d)⁻¹ := by
  have e : val n d = Rat.divInt n d := by
    have : d = ((d.toNat : Nat) : Int) := by omega
    conv => rhs; rw [this]
    rw [Rat.divInt_ofNat]
    rfl
  rw [e, Rat.inv_divInt]
  rcases Int.lt_or_le n 0 with h | h
  · have e1 : Rat.divInt d n = Rat.divInt (-d) (-n) := (Rat.neg_divInt_neg d n).symm
    have e2 : -n = ((n.natAbs : Nat) : Int) := by omega
    rw [e1, e2, Rat.divInt_ofNat]
    congr 1
    simp [sgn, h]; omega
  · have e2 : n = ((n.natAbs : Nat) : Int) := by omega
    have h' : ¬ n < 0 := by omega
    conv => rhs; rw [e2]
    rw [Rat.divInt_ofNat]
    congr 1
    simp [sgn, h']; omega

/-- What the operations answer. -/
def addQ (n d n' d' : Int) : RR := if rightP n d ∧ rightP n' d' then fitQ (val n d + val n' d') else zr
def subQ (n d n' d' : Int) : RR := if rightP n d ∧ rightP n' d' then fitQ (val n d - val n' d') else zr
def mulQ (n d n' d' : Int) : RR := if rightP n d ∧ rightP n' d' then fitQ (val n d * val n' d') else zr
def quoQ (n d n' d' : Int) : RR := if rightP n d ∧ rightP n' d' then (if n' = 0 then zr else fitQ (val n d / val n' d')) else zr
def cmpQ (n d n' d' : Int) : Int := if rightP n d ∧ rightP n' d' then cmpI (n * d') (n' * d) else 0
def floorQ (n d : Int) : Int := if rightP n d then n / d else 0
end Pw
