/- The reference's integers: lowest terms, small numbers, Make. Conditions: none. -/
import Derived.Test.YtfclokkfnkieoaaDoorRF6
namespace Go.Proofs.YtfclokkfnkieoaaDoor
open Go Pw

section
variable {w w' w0 : World} {s a b : Sl} {k j n m : Nat}

theorem rOf_spec {n : Int} {K : Int → Int → World → Prop} (hK : ∀ w', Fr F0 w w' → K n 1 w') : probityref01_Of_sh n K w := by
  refine ⟨?_⟩
  unfold probityref01_Of_sd
  intro w1
  have m : Mem w w1 _ := Mem.nil.alloc
  clear_value w1
  exact put2 m 0 rfl hK

theorem small_spec {n : Int} {K : Bool → World → Prop} (hK : K (decide (-1000000000 < n ∧ n < 1000000000)) w) : probityref01_small_sh n K w := by
  refine ⟨?_⟩
  unfold probityref01_small_sd
  rw [cnd_prop]
  constructor
  · intro h
    by_cases h2 : n < 1000000000
    · rw [decide_eq_true (⟨by omega, h2⟩ : -1000000000 < n ∧ n < 1000000000)] at hK
      rw [decide_eq_true h2]; exact hK
    · rw [decide_eq_false (by omega)] at hK
      rw [decide_eq_false h2]; exact hK
  · intro h
    rw [decide_eq_false (by omega)] at hK
    exact hK

theorem lowest_k1 {l : List (Nat × List Value)} {t : Nat} {x y : Value} {K : Int → Int → Bool → World → Prop} (m : Mem w0 w l) (j : Nat) (hj : l[j]? = some (t, [x, y])) (hK : ∀ w', Fr F0 w0 w' → Kr K zr w') : probityref01_lowest_k1 ⟨t, 0, none⟩ K w :=
  ⟨rOf_spec fun _ hf => put2b (m.fr hf) j hj hK⟩

theorem lowest_k0 {l : List (Nat × List Value)} {t : Nat} {x y : Value} {neg neg' : Bool} {c d : Nat} {K : Int → Int → Bool → World → Prop} (m : Mem w0 w l) (j : Nat) (hj : l[j]? = some (t, [x, y])) (hy : Nm k w s d) (hk : k ≤ 2 ^ 38)
    (hneg : neg' = (neg && decide (c ≠ 0))) (hK : ∀ w', Fr F0 w0 w' → Kr K (ratI neg c d) w') : probityref01_lowest_k0 ⟨t, 0, none⟩ s (fitI neg' c).1 (fitI neg' c).2 K w := by
  refine ⟨fit_spec hy (by omega) fun w1 hf => ?_⟩
  have m := m.fr hf
  have hd : fitI false d = if 9223372036854775808 ≤ d then (0, false) else ((d : Int), true) := by simp [fitI]
  have hbad : ¬ (d < 9223372036854775808 ∧ (c < 9223372036854775808 ∨ c = 9223372036854775808 ∧ neg = true)) → probityref01_lowest_k1 ⟨t, 0, none⟩ K w1 := by
    intro h
    refine lowest_k1 m j hj fun w' hf => ?_
    have := hK w' hf
    unfold ratI at this
    rw [if_neg h] at this
    exact this
  by_cases hc : (fitI neg' c).2 = true
  · rw [hc, Bool.not_true, cnd_false]
    have hc' : (c < 9223372036854775808 ∨ c = 9223372036854775808 ∧ neg = true) ∧ (fitI neg' c).1 = if neg then -(c : Int) else c := by
      subst hneg
      unfold fitI at hc ⊢
      cases neg
      · simp at hc ⊢
        split at hc
        · cases hc
        · rename_i h
          exact ⟨by omega, by rw [if_neg h]⟩
      · simp at hc ⊢
        split at hc
        · rename_i h
          rw [if_pos h]
          exact ⟨by omega, rfl⟩
        · rename_i h
          split at hc
          · cases hc
          · rename_i h'
            rw [if_neg h, if_neg h']
            exact ⟨by omega, by simp at h; omega⟩
    rw [hc'.2, hd]
    by_cases hdl : 9223372036854775808 ≤ d
    · rw [if_pos hdl, Bool.not_false, cnd_true]
      exact hbad fun h => absurd h.1 (by omega)
    · rw [if_neg hdl, Bool.not_true, cnd_false]
      refine put2b m j hj fun w' hf => ?_
      have := hK w' hf
      unfold ratI at this
      rw [if_pos ⟨by omega, hc'.1⟩] at this
      exact this
  · have hc : (fitI neg' c).2 = false := by simpa using hc
    rw [hc, Bool.not_false, cnd_true]
    refine hbad ?_
    rintro ⟨_, h⟩
    subst hneg
    unfold fitI at hc
    cases neg
    · simp at hc h
      split at hc
      · omega
      · cases hc
    · simp at hc h
      split at hc
      · cases hc
      · rename_i h2
        split at hc
        · omega
        · cases hc

theorem rlowest_spec {neg1 neg2 : Bool} {s1 s2 : Sl} {d : Nat} {K : Int → Int → Bool → World → Prop} (h1 : Nm k w s1 n) (h2 : Nm k w s2 d) (hn : n < 65536 ^ k) (hd : d < 65536 ^ k) (hd0 : 0 < d) (hk : k ≤ 2 ^ 37)
    (hK : ∀ w', Fr F0 w w' → Kr K (fitQ (mkRat (sgn (neg1 != neg2) n) d)) w') : probityref01_lowest_sh neg1 s1 neg2 s2 K w := by
  rw [← lowest_rat (neg1 != neg2) n d (by omega)] at hK
  have hg0 : 0 < Nat.gcd n d := Nat.gcd_pos_of_pos_right _ hd0
  have hgk : Nat.gcd n d < 65536 ^ k := Nat.lt_of_le_of_lt (Nat.gcd_le_right _ hd0) hd
  refine ⟨?_⟩
  unfold probityref01_lowest_sd
  intro w1
  have m : Mem w w1 _ := Mem.nil.alloc
  clear_value w1
  intro w2
  have m : Mem w w2 _ := m.alloc
  clear_value w2
  intro w3
  have m : Mem w w3 _ := m.alloc
  clear_value w3
  refine ⟨s1, m.ld 2 rfl rfl, s2, m.ld 1 rfl rfl, common_spec (h1.fr m.1) (h2.fr m.1) hn hd (by omega) fun s7 w6 h7 hf6 => ?_⟩
  have m := m.fr hf6
  refine ⟨s1, m.ld 2 rfl rfl, trim_spec (h1.fr m.1) (by omega) fun s10 h10 _ => ?_⟩
  refine over_spec h10.nm h7.nm h7 hg0 hgk (by omega) (by omega) fun s12 s13 w11 h12 _ hf11 => ?_
  have m := m.fr hf11
  refine ⟨s2, m.ld 1 rfl rfl, trim_spec (h2.fr m.1) (by omega) fun s16 h16 _ => ?_⟩
  refine over_spec h16.nm (h7.fr hf11).nm (h7.fr hf11) hg0 hgk (by omega) (by omega) fun s18 s19 w17 h18 _ hf17 => ?_
  have m := m.fr hf17
  have h12 := h12.fr hf17
  refine ⟨neg1, m.ld 2 rfl rfl, neg2, m.ld 1 rfl rfl, ?_⟩
  have hz := h12.zero
  cases hne : neg1 == neg2
  · have e : (neg1 != neg2) = true := by simp [bne, hne]
    rw [Bool.not_false, cnd_true]
    refine fit_spec h12.nm (by omega) fun w22 hf22 => ?_
    refine lowest_k0 (neg := neg1 != neg2) (m.fr hf22) 0 rfl (h18.fr hf22).nm (by omega) ?_ hK
    rw [e, Bool.true_and]
    apply decide_eq_decide.2
    omega
  · have e : (neg1 != neg2) = false := by simp [bne, hne]
    rw [Bool.not_true, cnd_false]
    refine fit_spec h12.nm (by omega) fun w22 hf22 => ?_
    refine lowest_k0 (neg := neg1 != neg2) (m.fr hf22) 0 rfl (h18.fr hf22).nm (by omega) ?_ hK
    rw [e, Bool.false_and]
end

theorem divInt_sgn (n d : Int) : mkRat (sgn ((decide (n < 0)) != (decide (d < 0))) n.natAbs) d.natAbs = Rat.divInt n d := by
  rcases Int.lt_or_le d 0 with hneg | hpos
  · have e1 : Rat.divInt n d = Rat.divInt (-n) (-d) := (Rat.neg_divInt_neg n d).symm
    have e2 : -d = ((d.natAbs : Nat) : Int) := by omega
    rw [e1, e2, Rat.divInt_ofNat]
    congr 1
    rcases Int.lt_or_le n 0 with h | h
    · simp [sgn, h, hneg]; omega
    · have h' : ¬ n < 0 := by omega
      simp [sgn, h', hneg]; omega
  · have e2 : d = ((d.natAbs : Nat) : Int) := by omega
    have hd' : ¬ d < 0 := by omega
    conv => rhs; rw [e2]
    rw [Rat.divInt_ofNat]
    congr 1
    rcases Int.lt_or_le n 0 with h | h
    · simp [sgn, h, hd']; omega
    · have h' : ¬ n < 0 := by omega
      simp [sgn, h', hd']; omega

section
variable {w w0 : World}

/-- Quotients of numbers that are well within the ints. -/
theorem quick_q {n d : Int} (hn : n.natAbs < 9223372036854775808) (hd : d.natAbs < 9223372036854775808) (hd0 : 0 < d) :
    fitQ (Rat.divInt n d) = ⟨Int.tdiv n (Nat.gcd n.natAbs d.natAbs : Nat), Int.tdiv d (Nat.gcd n.natAbs d.natAbs : Nat), true⟩ := by
  have hd1 : ¬ d < 0 := by omega
  rw [← divInt_sgn, ← lowest_rat _ _ _ (by omega)]
  have h1 := Nat.div_le_self n.natAbs (Nat.gcd n.natAbs d.natAbs)
  have h2 := Nat.div_le_self d.natAbs (Nat.gcd n.natAbs d.natAbs)
  unfold ratI
  rw [if_pos ⟨by omega, .inl (by omega)⟩]
  generalize Nat.gcd n.natAbs d.natAbs = g at *
  have e2 : d = ((d.natAbs : Nat) : Int) := by omega
  congr 1
  · rcases Int.lt_or_le n 0 with h | h
    · have e1 : n = -((n.natAbs : Nat) : Int) := by omega
      simp only [h, hd1, decide_true, decide_false]
      conv => rhs; rw [e1]
      rw [Int.neg_tdiv, tdivN]
      simp
    · have e1 : n = ((n.natAbs : Nat) : Int) := by omega
      have h' : ¬ n < 0 := by omega
      simp only [h', hd1, decide_false]
      conv => rhs; rw [e1]
      rw [tdivN]
      simp
  · conv => rhs; rw [e2]
    rw [tdivN]

theorem quick_k0 {n d : Int} {t : Nat} {x y : Value} {l : List (Nat × List Value)} {K : Int → Int → World → Prop} (m : Mem w0 w l) (j : Nat) (hj : l[j]? = some (t, [x, y])) (hn : n.natAbs < 9223372036854775808) (hd : d.natAbs < 9223372036854775808) (hd0 : 0 < d)
    (hK : ∀ w', Fr F0 w0 w' → K (fitQ (Rat.divInt n d)).n (fitQ (Rat.divInt n d)).d w') : probityref01_quick_k0 n d ⟨t, 0, none⟩ K w := by
  rw [quick_q hn hd hd0] at hK
  have hm : max n (-n) = (n.natAbs : Int) := by omega
  refine ⟨?_⟩
  unfold probityref01_quick_k0d
  rw [hm]
  have e2 : d = ((d.natAbs : Nat) : Int) := by omega
  refine ⟨inR64 (by omega) (by omega), ⟨⟨fun x y w' => ∃ a b : Nat, x = a ∧ y = b ∧ Nat.gcd a b = Nat.gcd n.natAbs d.natAbs ∧ w' = w, fun _ y _ => y.toNat, ⟨n.natAbs, d.natAbs, rfl, e2, rfl, rfl⟩, ?_⟩⟩⟩
  rintro x y w1 ⟨a, b, rfl, rfl, hg, rfl⟩
  unfold probityref01_quick_b1
  rw [cnd_prop]
  constructor
  · intro h
    refine ⟨by omega, ⟨⟨rfl, rfl, rfl, trivial⟩, b, a % b, rfl, rfl, ?_, rfl⟩, ?_⟩
    · rw [← hg, Nat.gcd_comm b, ← Nat.gcd_rec, Nat.gcd_comm]
    · rw [tmodN]
      have := Nat.mod_lt a (show 0 < b by omega)
      show ((a % b : Nat) : Int).toNat < (b : Int).toNat
      omega
  · intro h
    have hb : b = 0 := by omega
    subst hb
    rw [Nat.gcd_zero_right] at hg
    subst hg
    intro w2
    have m : Mem w0 w2 _ := m.drew
    clear_value w2
    have hg0 : 0 < Nat.gcd n.natAbs d.natAbs := Nat.gcd_pos_of_pos_right _ (by omega)
    have b1 : (Int.tdiv n (Nat.gcd n.natAbs d.natAbs : Nat)).natAbs ≤ n.natAbs := by rw [Int.natAbs_tdiv]; exact Nat.div_le_self _ _
    have b2 : (Int.tdiv d (Nat.gcd n.natAbs d.natAbs : Nat)).natAbs ≤ d.natAbs := by rw [Int.natAbs_tdiv]; exact Nat.div_le_self _ _
    exact ⟨fun _ => True, trivial, by omega, inR64 (by omega) (by omega), by omega, inR64 (by omega) (by omega), put2 m j hj hK⟩

theorem quick_spec {n d : Int} {K : Int → Int → World → Prop} (hn : n.natAbs < 9223372036854775808) (hd : d.natAbs < 9223372036854775808) (hd0 : d ≠ 0)
    (hK : ∀ w', Fr F0 w w' → K (fitQ (Rat.divInt n d)).n (fitQ (Rat.divInt n d)).d w') : probityref01_quick_sh n d K w := by
  refine ⟨?_⟩
  unfold probityref01_quick_sd
  intro w1
  have m : Mem w w1 _ := Mem.nil.alloc
  clear_value w1
  rw [cnd_prop]
  constructor
  · intro h
    refine ⟨inR64 (by omega) (by omega), inR64 (by omega) (by omega), quick_k0 m 0 rfl (by omega) (by omega) (by omega) ?_⟩
    rw [Rat.neg_divInt_neg]
    exact hK
  · intro h
    exact quick_k0 m 0 rfl hn hd (by omega) hK

theorem quick_ok {n d : Int} (hn : n.natAbs < 9223372036854775808) (hd : d.natAbs < 9223372036854775808) (hd0 : d ≠ 0) : (fitQ (Rat.divInt n d)).ok = true := by
  rcases Int.lt_or_le d 0 with h | h
  · rw [← Rat.neg_divInt_neg, quick_q (by omega) (by omega) (by omega)]
  · rw [quick_q hn hd (by omega)]

def makeQ (n d : Int) : RR := if d = 0 then zr else fitQ (Rat.divInt n d)

theorem Kr_mk {K : Int → Int → Bool → World → Prop} {r : RR} {w : World} (h : Kr K r w) (hr : r.ok = true) : K r.n r.d true w := by
  unfold Kr at h
  rw [hr] at h
  exact h

theorem rMake_k0 {n d : Int} {t : Nat} {x y : Value} {l : List (Nat × List Value)} {K : Int → Int → Bool → World → Prop} (m : Mem w0 w l) (j : Nat) (hj : l[j]? = some (t, [x, y])) (hn : I64 n) (hd : I64 d) (hd0 : d ≠ 0)
    (hK : ∀ w', Fr F0 w0 w' → Kr K (fitQ (Rat.divInt n d)) w') : probityref01_Make_k0 n d ⟨t, 0, none⟩ K w := by
  refine ⟨rof_spec hn fun s1 w1 h1 hf1 => rof_spec hd fun s2 w2 h2 hf2 => rlowest_spec (h1.fr hf2).nm h2.nm (natAbs_pow_four hn) (natAbs_pow_four hd) (by omega) (by omega) fun w3 hf3 => ?_⟩
  have m := m.fr (Fr0.t (Fr0.t hf1 hf2) hf3)
  refine put2b m j hj fun w4 hf4 => ?_
  rw [divInt_sgn]
  exact hK w4 hf4

theorem rMake_spec {n d : Int} {K : Int → Int → Bool → World → Prop} (hn : I64 n) (hd : I64 d) (hK : ∀ w', Fr F0 w w' → Kr K (makeQ n d) w') : probityref01_Make_sh n d K w := by
  unfold makeQ at hK
  refine ⟨?_⟩
  unfold probityref01_Make_sd
  intro w1
  have m : Mem w w1 _ := Mem.nil.alloc
  clear_value w1
  rw [cnd_beq]
  constructor
  · intro h0
    rw [if_pos h0] at hK
    exact rOf_spec fun w2 hf => put2b (m.fr hf) 0 rfl hK
  · intro h0
    rw [if_neg h0] at hK
    refine small_spec ?_
    rw [cnd_prop]
    constructor
    · intro h1
      refine small_spec ?_
      rw [cnd_prop]
      constructor
      · intro h2
        refine quick_spec (by omega) (by omega) h0 fun w2 hf2 => put2b (m.fr hf2) 0 rfl fun w3 hf3 => ?_
        exact Kr_mk (hK w3 hf3) (quick_ok (by omega) (by omega) h0)
      · intro h2
        exact rMake_k0 m 0 rfl hn hd h0 hK
    · intro h1
      exact rMake_k0 m 0 rfl hn hd h0 hK
end
end Go.Proofs.YtfclokkfnkieoaaDoor
