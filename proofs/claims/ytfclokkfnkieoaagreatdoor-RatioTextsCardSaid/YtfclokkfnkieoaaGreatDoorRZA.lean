/- The reference's integers: sums. Conditions: none. -/
import Derived.Test.YtfclokkfnkieoaaGreatDoorRZG
import Derived.Test.YtfclokkfnkieoaaGreatDoorRQ1
import Derived.Test.YtfclokkfnkieoaaGreatDoorRT
namespace Go.Proofs.YtfclokkfnkieoaaGreatDoor
open Go Pw

section
variable {w w' w0 : World} {s a b : Sl} {k j n m : Nat}

theorem plus_k3 {lo : List Nat} {out : Sl} {i d : Nat} {N : Sl → Sl → Sl → Int → Int → World → Prop} {K : Sl → World → Prop} (ho : Mk w0 1 di w out lo) (hl : lo.length ≤ 2 ^ 40) (hi : i ≤ 2 ^ 40) (hd : d < 2 ^ 40)
    (hN : ∀ o' w', Mk w0 1 di w' o' (lo ++ [d % 65536]) → N a b o' ((d / 65536 : Nat) : Int) ((i : Int) + 1) w') : probityref01_plus_k3 a b out i (d : Int) N K w := by
  refine ⟨?_⟩
  unfold probityref01_plus_k3d
  have e1 : Int.tmod (d : Int) 65536 = ((d % 65536 : Nat) : Int) := by rw [show (65536 : Int) = ((65536 : Nat) : Int) from rfl, tmodN]
  have e2 : Int.tdiv (d : Int) 65536 = ((d / 65536 : Nat) : Int) := by rw [show (65536 : Int) = ((65536 : Nat) : Int) from rfl, tdivN]
  rw [e1, e2]
  refine ⟨by omega, ho.push (a := d % 65536) rfl rfl (ie_ok _ _) rfl (by omega) (by omega) fun r w2 h2 _ => ⟨by omega, inR64 (by omega) (by omega), inR64 (by omega) (by omega), hN r w2 h2⟩⟩

theorem plus_spec {K : Sl → World → Prop} (ha : Nm k w a n) (hb : Nm k w b m) (hk : k ≤ 2 ^ 39) (hK : ∀ s' w', Nm (k + 1) w' s' (n + m) → Fr F0 w w' → Bt w.heap.size w'.heap.size s' → K s' w') : probityref01_plus_sh a b K w := by
  obtain ⟨la, va, da, rfl, kla⟩ := ha
  obtain ⟨lb, vb, db, rfl, klb⟩ := hb
  have hla := va.len
  have hlb := vb.len
  refine ⟨⟨⟨fun out c i w' => ∃ (lo : List Nat) (c' i' : Nat), c = c' ∧ i = i' ∧ c' ≤ 1 ∧ i' ≤ k + 1 ∧ lo.length = i' ∧ Dg lo ∧ Mk w 1 di w' out lo ∧ vl lo + 65536 ^ i' * c' = vl (la.take i') + vl (lb.take i') ∧ (i' = k + 1 → c' = 0), fun _ _ i _ => k + 1 - i.toNat,
    ⟨[], 0, 0, rfl, rfl, by omega, by omega, rfl, Dg.nil, Mk.nil Fr.refl, by simp [vl], fun _ => rfl⟩, ?_⟩⟩⟩
  rintro out c i w1 ⟨lo, c', i', rfl, rfl, hc, hi, hlo, hdo, ho, hv, hend⟩
  unfold probityref01_plus_b0
  have hda := da.getD i'
  have hdb := db.getD i'
  have hta : vl (la.take (i' + 1)) = vl (la.take i') + 65536 ^ i' * la.getD i' 0 := by
    rcases Nat.lt_or_ge i' la.length with h | h
    · exact vl_take_succ la i' h
    · rw [vl_take_all _ _ (by omega), vl_take_all _ _ h, List.getD_eq_getElem?_getD, List.getElem?_eq_none h]; simp
  have htb : vl (lb.take (i' + 1)) = vl (lb.take i') + 65536 ^ i' * lb.getD i' 0 := by
    rcases Nat.lt_or_ge i' lb.length with h | h
    · exact vl_take_succ lb i' h
    · rw [vl_take_all _ _ (by omega), vl_take_all _ _ h, List.getD_eq_getElem?_getD, List.getElem?_eq_none h]; simp
  have k1 : i' < k + 1 → probityref01_plus_k1 a b out (c' : Int) (i' : Int) (fun (a_0' : Sl) (b_1' : Sl) (out_5' : Sl) (carry_6' : Int) (i_7' : Int) (w' : World) => ((a_0' = a ∧ b_1' = b ∧ True) ∧ ∃ (lo : List Nat) (c' i' : Nat), carry_6' = c' ∧ i_7' = i' ∧ c' ≤ 1 ∧ i' ≤ k + 1 ∧ lo.length = i' ∧ Dg lo ∧ Mk w 1 di w' out_5' lo ∧ vl lo + 65536 ^ i' * c' = vl (la.take i') + vl (lb.take i') ∧ (i' = k + 1 → c' = 0)) ∧ k + 1 - i_7'.toNat < k + 1 - (i' : Int).toNat) K w1 := by
    intro hik
    have fin : ∀ d : Nat, d = c' + la.getD i' 0 + lb.getD i' 0 → probityref01_plus_k3 a b out (i' : Int) (d : Int) (fun (a_0' : Sl) (b_1' : Sl) (out_5' : Sl) (carry_6' : Int) (i_7' : Int) (w' : World) => ((a_0' = a ∧ b_1' = b ∧ True) ∧ ∃ (lo : List Nat) (c' i' : Nat), carry_6' = c' ∧ i_7' = i' ∧ c' ≤ 1 ∧ i' ≤ k + 1 ∧ lo.length = i' ∧ Dg lo ∧ Mk w 1 di w' out_5' lo ∧ vl lo + 65536 ^ i' * c' = vl (la.take i') + vl (lb.take i') ∧ (i' = k + 1 → c' = 0)) ∧ k + 1 - i_7'.toNat < k + 1 - (i' : Int).toNat) K w1 := by
      intro d hd
      refine plus_k3 ho (by omega) (by omega) (by omega) fun o' w2 h2 => ⟨⟨⟨rfl, rfl, trivial⟩, lo ++ [d % 65536], d / 65536, i' + 1, rfl, by omega, by omega, by omega, by simp [hlo], hdo.push (by omega), h2, ?_, ?_⟩, by omega⟩
      · rw [hta, htb, vl_append, hlo]
        simp only [vl, Nat.mul_zero, Nat.add_zero, Nat.pow_succ]
        have e2 : 65536 ^ i' * d = 65536 ^ i' * (d % 65536) + 65536 ^ i' * 65536 * (d / 65536) := by
          rw [Nat.mul_assoc, ← Nat.mul_add, Nat.mod_add_div]
        rw [hd, Nat.mul_add, Nat.mul_add, ← hd] at e2
        omega
      · intro he
        have hi' : i' = k := by omega
        subst hi'
        have z1 : la.getD i' 0 = 0 := by rw [List.getD_eq_getElem?_getD, List.getElem?_eq_none (by omega)]; rfl
        have z2 : lb.getD i' 0 = 0 := by rw [List.getD_eq_getElem?_getD, List.getElem?_eq_none (by omega)]; rfl
        omega
    refine ⟨?_⟩
    unfold probityref01_plus_k1d
    rw [cnd_prop]
    have k2 : ∀ e : Nat, e = c' + la.getD i' 0 → probityref01_plus_k2 a b out (i' : Int) (e : Int) (fun (a_0' : Sl) (b_1' : Sl) (out_5' : Sl) (carry_6' : Int) (i_7' : Int) (w' : World) => ((a_0' = a ∧ b_1' = b ∧ True) ∧ ∃ (lo : List Nat) (c' i' : Nat), carry_6' = c' ∧ i_7' = i' ∧ c' ≤ 1 ∧ i' ≤ k + 1 ∧ lo.length = i' ∧ Dg lo ∧ Mk w 1 di w' out_5' lo ∧ vl lo + 65536 ^ i' * c' = vl (la.take i') + vl (lb.take i') ∧ (i' = k + 1 → c' = 0)) ∧ k + 1 - i_7'.toNat < k + 1 - (i' : Int).toNat) K w1 := by
      intro e he
      refine ⟨?_⟩
      unfold probityref01_plus_k2d
      rw [cnd_prop]
      constructor
      · intro hlt
        refine (vb.fr ho.fr0).ld 0 i' rfl (by omega) ⟨inR64 (by omega) (by omega), ?_⟩
        rw [addN]
        exact fin _ (by omega)
      · intro hge
        have z2 : lb.getD i' 0 = 0 := by rw [List.getD_eq_getElem?_getD, List.getElem?_eq_none (by omega)]; rfl
        exact fin _ (by omega)
    constructor
    · intro hlt
      refine (va.fr ho.fr0).ld 0 i' rfl (by omega) ⟨inR64 (by omega) (by omega), ?_⟩
      rw [addN]
      exact k2 _ rfl
    · intro hge
      have z1 : la.getD i' 0 = 0 := by rw [List.getD_eq_getElem?_getD, List.getElem?_eq_none (by omega)]; rfl
      exact k2 _ (by omega)
  rw [cnd_prop]
  refine ⟨fun h => k1 (by omega), fun h1 => ?_⟩
  rw [cnd_prop]
  refine ⟨fun h => k1 (by omega), fun h2 => ?_⟩
  rw [cnd_prop]
  refine ⟨fun h => k1 ?_, fun h3 => ?_⟩
  · rcases Nat.lt_or_ge i' (k + 1) with h4 | h4
    · exact h4
    · have := hend (by omega)
      omega
  · have : c' = 0 := by omega
    subst this
    rw [vl_take_all la i' (by omega), vl_take_all lb i' (by omega)] at hv
    exact hK _ _ ⟨lo, ho.vw, hdo, by omega, by omega⟩ ho.fr0 fun c hc => ⟨ho.nw c hc, ho.ow.own.lt hc⟩
end
end Go.Proofs.YtfclokkfnkieoaaGreatDoor

/- The reference's integers: products, sums with signs, what is right. Conditions: none. -/
namespace Go.Proofs.YtfclokkfnkieoaaGreatDoor
open Go Pw

theorem Mem_lt {w0 w : World} {l : List (Nat × List Value)} (h : Mem w0 w l) {p : Nat × List Value} (hp : p ∈ l) : p.1 < w.heap.size := (h.2.1 p hp).lt

section
variable {w w' w0 : World} {s a b : Sl} {k j n m : Nat}

theorem Nm.frN {F : Nat → Prop} (h : Nm k w s n) (hf : Fr F w w') (hd : ∀ c, inB s c → ¬ F c) : Nm k w' s n := let ⟨l, h1, h2⟩ := h; ⟨l, h1.frF hf hd, h2⟩
theorem Nt.frN {F : Nat → Prop} (h : Nt k w s n) (hf : Fr F w w') (hd : ∀ c, inB s c → ¬ F c) : Nt k w' s n := let ⟨l, h1, h2⟩ := h; ⟨l, h1.frF hf hd, h2⟩

theorem mul_spec {x y : Bool} {K : Bool → Sl → World → Prop} (ha : Nm k w a n) (hb : Nm j w b m) (hk : k ≤ 2 ^ 38) (hj : j ≤ 2 ^ 38) (hK : ∀ s' w', Nt (k + j) w' s' (n * m) → Fr F0 w w' → Bt w.heap.size w'.heap.size s' → K (x != y) s' w') : probityref01_mul_sh x a y b K w := by
  refine ⟨?_⟩
  unfold probityref01_mul_sd
  intro w1
  have m1 : Mem w w1 _ := Mem.nil.allocL
  clear_value w1
  intro w2
  have m1 : Mem w w2 _ := m1.allocL
  clear_value w2
  intro w3
  have m1 : Mem w w3 _ := m1.allocL
  clear_value w3
  intro w4
  have m1 : Mem w w4 _ := m1.drew
  clear_value w4
  refine ⟨fun u => Rs u _, m1.sub 0 rfl, x, fun _ h => h.ld 2 rfl rfl, y, fun _ h => h.ld 1 rfl rfl, a, fun _ h => h.ld 2 rfl rfl, b, fun _ h => h.ld 1 rfl rfl, ?_⟩
  refine times_spec' (ha.fr m1.1) (hb.fr m1.1) (by omega) (by omega) fun s' w5 hs hf hn => ⟨(m1.fr hf).sub 0 rfl, ?_⟩
  have hlt := Mem_lt m1 (List.mem_cons_self ..)
  refine putbs (m1.fr hf) 0 rfl fun w6 m6 hf6 => hK s' w6 (hs.frN hf6 fun c hc e => ?_) m6.1 fun c hc => ⟨Nat.le_trans m1.1.1 (hn c hc).1, Nat.lt_of_lt_of_le (hn c hc).2 hf6.1⟩
  have := (hn c hc).1
  simp only at hlt
  omega

theorem add_spec {x y : Bool} {K : Bool → Sl → World → Prop} (ha : Nm k w a n) (hb : Nm k w b m) (hk : k ≤ 2 ^ 38)
    (hK : ∀ s' w', Nm (k + 1) w' s' (sumS x y n m).2 → Fr F0 w w' → Bt w.heap.size w'.heap.size s' → K (sumS x y n m).1 s' w') : probityref01_add_sh x a y b K w := by
  unfold sumS at hK
  refine ⟨?_⟩
  unfold probityref01_add_sd
  intro w1
  have m1 : Mem w w1 _ := Mem.nil.allocL
  clear_value w1
  intro w2
  have m1 : Mem w w2 _ := m1.allocL
  clear_value w2
  intro w3
  have m1 : Mem w w3 _ := m1.allocL
  clear_value w3
  refine ⟨x, m1.ld 2 rfl rfl, y, m1.ld 1 rfl rfl, ?_⟩
  have hlt := Mem_lt m1 (List.mem_cons_self ..)
  simp only at hlt
  by_cases hxy : x = y
  · subst hxy
    rw [if_pos rfl] at hK
    rw [beq_self_eq_true, cnd_true]
    intro w4
    have m1 : Mem w w4 _ := m1.drew
    have h34 : w3.heap.size ≤ w4.heap.size := Nat.le_refl _
    clear_value w4
    refine ⟨fun u => Rs u _, m1.sub 0 rfl, x, fun _ h => h.ld 2 rfl rfl, a, fun _ h => h.ld 2 rfl rfl, b, fun _ h => h.ld 1 rfl rfl, ?_⟩
    refine plus_spec (ha.fr m1.1) (hb.fr m1.1) (by omega) fun s' w5 hs hf hn => ⟨(m1.fr hf).sub 0 rfl, ?_⟩
    refine putbs (m1.fr hf) 0 rfl fun w6 m6 hf6 => hK s' w6 (hs.frN hf6 fun c hc e => ?_) m6.1 fun c hc => ⟨Nat.le_trans m1.1.1 (hn c hc).1, Nat.lt_of_lt_of_le (hn c hc).2 hf6.1⟩
    have := (hn c hc).1
    omega
  · rw [if_neg hxy] at hK
    have e : (x == y) = false := by simpa using hxy
    rw [e, cnd_false]
    intro w4
    have m1 : Mem w w4 _ := m1.drew
    have h34 : w3.heap.size ≤ w4.heap.size := Nat.le_refl _
    clear_value w4
    refine ⟨fun u => Rs u _, m1.sub 0 rfl, a, fun _ h => h.ld 2 rfl rfl, b, fun _ h => h.ld 1 rfl rfl, ?_⟩
    refine trim_spec (ha.fr m1.1) (by omega) fun s5 h5 _ => ⟨m1.sub 0 rfl, trim_spec (hb.fr m1.1) (by omega) fun s6 h6 _ => ⟨m1.sub 0 rfl, ?_⟩⟩
    refine compareD_spec h5 h6 (by omega) fun w7 hf7 => ⟨(m1.fr hf7).sub 0 rfl, ?_⟩
    have m1 := m1.fr hf7
    have h37 : w3.heap.size ≤ w7.heap.size := Nat.le_trans h34 hf7.1
    rw [cnd_prop]
    constructor
    · intro hc
      have hle : m ≤ n := by
        rcases Nat.lt_or_ge n m with h | h
        · rw [cmpI_lt (by omega)] at hc; omega
        · exact h
      rw [if_pos hle] at hK
      intro w8
      have m1 : Mem w w8 _ := m1.drew
      have h38 : w3.heap.size ≤ w8.heap.size := h37
      clear_value w8
      refine ⟨fun u => Rs u _, m1.sub 0 rfl, x, fun _ h => h.ld 2 rfl rfl, a, fun _ h => h.ld 2 rfl rfl, b, fun _ h => h.ld 1 rfl rfl, ?_⟩
      refine minus_spec (ha.fr m1.1) (hb.fr m1.1) hle (by omega) fun s' w9 hs hf hn => ⟨(m1.fr hf).sub 0 rfl, ?_⟩
      refine putbs (m1.fr hf) 0 rfl fun w6 m6 hf6 => hK s' w6 ((hs.frN hf6 fun c hc e => ?_).nm.up (by omega)) m6.1 fun c hc => ⟨Nat.le_trans m1.1.1 (hn c hc).1, Nat.lt_of_lt_of_le (hn c hc).2 hf6.1⟩
      have := (hn c hc).1
      omega
    · intro hc
      have hle : ¬ m ≤ n := by
        intro h
        rcases Nat.lt_or_ge m n with h' | h'
        · rw [cmpI_gt (by omega)] at hc; omega
        · rw [cmpI_eq (by omega)] at hc; omega
      rw [if_neg hle] at hK
      intro w8
      have m1 : Mem w w8 _ := m1.drew
      have h38 : w3.heap.size ≤ w8.heap.size := h37
      clear_value w8
      refine ⟨fun u => Rs u _, m1.sub 0 rfl, y, fun _ h => h.ld 1 rfl rfl, b, fun _ h => h.ld 1 rfl rfl, a, fun _ h => h.ld 2 rfl rfl, ?_⟩
      refine minus_spec (hb.fr m1.1) (ha.fr m1.1) (by omega) (by omega) fun s' w9 hs hf hn => ⟨(m1.fr hf).sub 0 rfl, ?_⟩
      refine putbs (m1.fr hf) 0 rfl fun w6 m6 hf6 => hK s' w6 ((hs.frN hf6 fun c hc e => ?_).nm.up (by omega)) m6.1 fun c hc => ⟨Nat.le_trans m1.1.1 (hn c hc).1, Nat.lt_of_lt_of_le (hn c hc).2 hf6.1⟩
      have := (hn c hc).1
      omega
end
end Go.Proofs.YtfclokkfnkieoaaGreatDoor

/- The reference's integers: what is right. Conditions: none. -/
namespace Go.Proofs.YtfclokkfnkieoaaGreatDoor
open Go Pw

theorem Kr_of {K : Int → Int → Bool → World → Prop} {r : RR} {w : World} (h : K r.n r.d r.ok w) : Kr K r w := h

theorem right_code {n d : Int} (hn : I64 n) (hd : I64 d) (hpos : 0 < d) : ((fitQ (Rat.divInt n d)).ok && ((fitQ (Rat.divInt n d)).n == n && ((fitQ (Rat.divInt n d)).d == d && true))) = decide (rightP n d) := by
  have hr := fitQ_right (Rat.divInt n d)
  rw [Bool.eq_iff_iff]
  simp only [Bool.and_eq_true, beq_iff_eq, and_true, decide_eq_true_eq]
  constructor
  · rintro ⟨_, h1, h2⟩
    rw [h1, h2] at hr
    exact hr
  · intro h
    rw [← val_div hpos, fitQ_self h hn hd]
    exact ⟨rfl, rfl, rfl⟩

section
variable {w w' w0 : World}

theorem Right_k1 {n d : Int} {a b : Nat} {l : List (Nat × List Value)} {K : Bool → World → Prop} (hn : I64 n) (hd : I64 d) (hpos : 0 < d)
    (m : Mem w0 w ((b, [.int .i64 (fitQ (Rat.divInt n d)).n, .int .i64 (fitQ (Rat.divInt n d)).d]) :: (a, [.int .i64 n, .int .i64 d]) :: l)) (hK : ∀ w', Fr F0 w0 w' → K (decide (rightP n d)) w') :
    probityref01_Right_k1 ⟨a, 0, none⟩ ⟨b, 0, none⟩ (fitQ (Rat.divInt n d)).ok K w := by
  rw [← right_code hn hd hpos] at hK
  refine ⟨?_⟩
  unfold probityref01_Right_k1d
  have := hK w m.1
  cases hok : (fitQ (Rat.divInt n d)).ok
  · rw [hok, Bool.false_and] at this
    rw [cnd_false]
    exact this
  · rw [hok, Bool.true_and] at this
    rw [cnd_true]
    refine ⟨_, m.ld 1 rfl rfl, _, m.ld 1 rfl rfl, _, m.ld 0 rfl rfl, _, m.ld 0 rfl rfl, ?_⟩
    rw [show (n == (fitQ (Rat.divInt n d)).n) = ((fitQ (Rat.divInt n d)).n == n) from BEq.comm, show (d == (fitQ (Rat.divInt n d)).d) = ((fitQ (Rat.divInt n d)).d == d) from BEq.comm]
    exact this

theorem Right_k0 {n d : Int} {a : Nat} {l : List (Nat × List Value)} {K : Bool → World → Prop} (hn : I64 n) (hd : I64 d) (hpos : 0 < d) (m : Mem w0 w ((a, [.int .i64 n, .int .i64 d]) :: l)) (hK : ∀ w', Fr F0 w0 w' → K (decide (rightP n d)) w') :
    probityref01_Right_k0 ⟨a, 0, none⟩ K w := by
  refine ⟨?_⟩
  unfold probityref01_Right_k0d
  intro w17; have m : Mem w0 w17 _ := m.drew; clear_value w17
  refine ⟨fun u => Rs u _, m.sub 0 rfl, ?_⟩
  refine ⟨_, fun _ h => h.ld 0 rfl rfl, ?_⟩
  refine ⟨_, fun _ h => h.ld 0 rfl rfl, ?_⟩
  refine ⟨?_, ?_⟩
  · refine rof_spec (by assumption) fun s1 w21 o1 hf => ?_; have m := m.fr hf; (try have o1 := o1.fr hf)
    refine ⟨m.sub 0 rfl, ?_⟩
    refine ⟨?_, ?_⟩
    · refine rof_spec (by assumption) fun s2 w23 o2 hf => ?_; have m := m.fr hf; (try have o1 := o1.fr hf)
      refine ⟨m.sub 0 rfl, ?_⟩
      refine ⟨?_, ?_⟩
      · refine rlowest_spec (k := 4) o1.nm o2.nm (natAbs_pow_four hn) (natAbs_pow_four hd) (by omega) (by decide) fun w25 hf => ?_; have m := m.fr hf; rw [divInt_sgn]; refine Kr_of ?_
        refine ⟨m.sub 0 rfl, ?_⟩
        intro w28; have m : Mem w0 w28 _ := m.allocL; (try have o1 : Nt 4 w28 _ _ := o1.fr Fr.alloc); (try have o2 : Nt 4 w28 _ _ := o2.fr Fr.alloc); clear_value w28
        refine ⟨m.sub 1 rfl, ?_⟩
        refine ⟨m.wr 0 rfl rfl, ?_⟩
        intro w29; have m : Mem w0 w29 _ := m.set 0 rfl; clear_value w29; simp only [List.set_cons_zero] at m
        refine ⟨m.wr 0 rfl rfl, ?_⟩
        intro w30; have m : Mem w0 w30 _ := m.set 0 rfl; clear_value w30; simp only [List.set_cons_zero, List.set_cons_succ] at m
        exact Right_k1 hn hd hpos m hK
      · intro w31; have m : Mem w0 w31 _ := m.allocL; (try have o1 : Nt 4 w31 _ _ := o1.fr Fr.alloc); (try have o2 : Nt 4 w31 _ _ := o2.fr Fr.alloc); clear_value w31
        refine ⟨m.sub 1 rfl, ?_⟩
        refine rlowest_spec (k := 4) o1.nm o2.nm (natAbs_pow_four hn) (natAbs_pow_four hd) (by omega) (by decide) fun w32 hf => ?_; have m := m.fr hf; rw [divInt_sgn]; refine Kr_of ?_
        refine ⟨m.sub 1 rfl, ?_⟩
        refine ⟨m.wr 0 rfl rfl, ?_⟩
        intro w35; have m : Mem w0 w35 _ := m.set 0 rfl; clear_value w35; simp only [List.set_cons_zero] at m
        refine ⟨m.wr 0 rfl rfl, ?_⟩
        intro w36; have m : Mem w0 w36 _ := m.set 0 rfl; clear_value w36; simp only [List.set_cons_zero, List.set_cons_succ] at m
        exact Right_k1 hn hd hpos m hK
    · intro w37; have m : Mem w0 w37 _ := m.allocL; (try have o1 : Nt 4 w37 _ _ := o1.fr Fr.alloc); (try have o2 : Nt 4 w37 _ _ := o2.fr Fr.alloc); clear_value w37
      refine ⟨m.sub 1 rfl, ?_⟩
      refine rof_spec (by assumption) fun s2 w38 o2 hf => ?_; have m := m.fr hf; (try have o1 := o1.fr hf)
      refine ⟨m.sub 1 rfl, ?_⟩
      refine rlowest_spec (k := 4) o1.nm o2.nm (natAbs_pow_four hn) (natAbs_pow_four hd) (by omega) (by decide) fun w40 hf => ?_; have m := m.fr hf; rw [divInt_sgn]; refine Kr_of ?_
      refine ⟨m.sub 1 rfl, ?_⟩
      refine ⟨m.wr 0 rfl rfl, ?_⟩
      intro w43; have m : Mem w0 w43 _ := m.set 0 rfl; clear_value w43; simp only [List.set_cons_zero] at m
      refine ⟨m.wr 0 rfl rfl, ?_⟩
      intro w44; have m : Mem w0 w44 _ := m.set 0 rfl; clear_value w44; simp only [List.set_cons_zero, List.set_cons_succ] at m
      exact Right_k1 hn hd hpos m hK
  · intro w45; have m : Mem w0 w45 _ := m.allocL; (try have o1 : Nt 4 w45 _ _ := o1.fr Fr.alloc); (try have o2 : Nt 4 w45 _ _ := o2.fr Fr.alloc); clear_value w45
    refine ⟨m.sub 1 rfl, ?_⟩
    refine rof_spec (by assumption) fun s1 w46 o1 hf => ?_; have m := m.fr hf; (try have o1 := o1.fr hf)
    refine ⟨m.sub 1 rfl, ?_⟩
    refine rof_spec (by assumption) fun s2 w48 o2 hf => ?_; have m := m.fr hf; (try have o1 := o1.fr hf)
    refine ⟨m.sub 1 rfl, ?_⟩
    refine rlowest_spec (k := 4) o1.nm o2.nm (natAbs_pow_four hn) (natAbs_pow_four hd) (by omega) (by decide) fun w50 hf => ?_; have m := m.fr hf; rw [divInt_sgn]; refine Kr_of ?_
    refine ⟨m.sub 1 rfl, ?_⟩
    refine ⟨m.wr 0 rfl rfl, ?_⟩
    intro w53; have m : Mem w0 w53 _ := m.set 0 rfl; clear_value w53; simp only [List.set_cons_zero] at m
    refine ⟨m.wr 0 rfl rfl, ?_⟩
    intro w54; have m : Mem w0 w54 _ := m.set 0 rfl; clear_value w54; simp only [List.set_cons_zero, List.set_cons_succ] at m
    exact Right_k1 hn hd hpos m hK

theorem rRight_spec {n d : Int} {K : Bool → World → Prop} (hn : I64 n) (hd : I64 d) (hK : ∀ w', Fr F0 w w' → K (decide (rightP n d)) w') : probityref01_Right_sh n d K w := by
  refine ⟨?_⟩
  unfold probityref01_Right_sd
  intro w1
  have m : Mem w w1 _ := Mem.nil.allocL
  clear_value w1
  refine ⟨_, m.ld 0 rfl rfl, ?_⟩
  rw [cnd_prop]
  constructor
  · intro h
    have := hK w1 m.1
    rw [decide_eq_false (fun hr => by have := hr.1; omega)] at this
    exact this
  · intro h
    have hpos : 0 < d := by omega
    refine ⟨_, m.ld 0 rfl rfl, small_spec ?_⟩
    rw [cnd_prop]
    refine ⟨fun h1 => ?_, fun h1 => Right_k0 hn hd hpos m hK⟩
    refine ⟨_, m.ld 0 rfl rfl, small_spec ?_⟩
    rw [cnd_prop]
    refine ⟨fun h2 => ?_, fun h2 => Right_k0 hn hd hpos m hK⟩
    intro w9; have m : Mem w w9 _ := m.drew; clear_value w9
    refine ⟨fun u => Rs u _, m.sub 0 rfl, _, fun _ h => h.ld 0 rfl rfl, _, fun _ h => h.ld 0 rfl rfl, _, fun _ h => h.ld 0 rfl rfl, _, fun _ h => h.ld 0 rfl rfl, ?_⟩
    refine quick_spec (by omega) (by omega) (by omega) fun w2 hf2 => ⟨(m.fr hf2).sub 0 rfl, ?_⟩
    have := hK w2 (m.fr hf2).1
    rw [← right_code hn hd hpos, quick_ok (by omega) (by omega) (by omega), Bool.true_and] at this
    exact this

theorem both'_spec {n d n' d' : Int} {K : Bool → World → Prop} (hn : I64 n) (hd : I64 d) (hn' : I64 n') (hd' : I64 d') (hK : ∀ w', Fr F0 w w' → K (decide (rightP n d) && decide (rightP n' d')) w') : probityref01_both_sh n d n' d' K w := by
  refine ⟨?_⟩
  unfold probityref01_both_sd
  intro w1
  have m : Mem w w1 _ := Mem.nil.allocL
  clear_value w1
  intro w2
  have m : Mem w w2 _ := m.allocL
  clear_value w2
  refine ⟨_, m.ld 1 rfl rfl, _, m.ld 1 rfl rfl, rRight_spec hn hd fun w3 hf => ?_⟩
  have m := m.fr hf
  refine ⟨_, m.ld 0 rfl rfl, _, m.ld 0 rfl rfl, rRight_spec hn' hd' fun w4 hf => ?_⟩
  have m := m.fr hf
  have := hK w4 m.1
  rw [cnd_iff]
  constructor
  · intro h
    rw [h, Bool.true_and] at this
    exact this
  · intro h
    rw [h, Bool.false_and] at this
    exact this

/-- So small that sums of products fit. -/
def Sm (n : Int) : Prop := -1000000000 < n ∧ n < 1000000000
instance (n : Int) : Decidable (Sm n) := inferInstanceAs (Decidable (_ ∧ _))

theorem tiny_spec {n d n' d' : Int} {K : Bool → World → Prop} (hK : ∀ w', Fr F0 w w' → K (decide (Sm n ∧ Sm d ∧ Sm n' ∧ Sm d')) w') : probityref01_tiny_sh n d n' d' K w := by
  refine ⟨?_⟩
  unfold probityref01_tiny_sd
  intro w1
  have m : Mem w w1 _ := Mem.nil.allocL
  clear_value w1
  intro w2
  have m : Mem w w2 _ := m.allocL
  clear_value w2
  have := hK w2 m.1
  refine ⟨_, m.ld 1 rfl rfl, small_spec ?_⟩
  rw [cnd_prop]
  refine ⟨fun h1 => ?_, fun h1 => by rw [decide_eq_false (fun h => h1 h.1)] at this; exact this⟩
  refine ⟨_, m.ld 1 rfl rfl, small_spec ?_⟩
  rw [cnd_prop]
  refine ⟨fun h2 => ?_, fun h2 => by rw [decide_eq_false (fun h => h2 h.2.1)] at this; exact this⟩
  refine ⟨_, m.ld 0 rfl rfl, small_spec ?_⟩
  rw [cnd_prop]
  refine ⟨fun h3 => ?_, fun h3 => by rw [decide_eq_false (fun h => h3 h.2.2.1)] at this; exact this⟩
  refine ⟨_, m.ld 0 rfl rfl, small_spec ?_⟩
  by_cases h4 : Sm d'
  · rw [decide_eq_true (⟨h1, h2, h3, h4⟩ : Sm n ∧ Sm d ∧ Sm n' ∧ Sm d')] at this
    show K (decide (Sm d')) w2
    rw [decide_eq_true h4]
    exact this
  · rw [decide_eq_false (fun h => h4 h.2.2.2)] at this
    show K (decide (Sm d')) w2
    rw [decide_eq_false h4]
    exact this
end
end Go.Proofs.YtfclokkfnkieoaaGreatDoor

/- The reference's sums and products of rational numbers. Conditions: none. -/
namespace Go.Proofs.YtfclokkfnkieoaaGreatDoor
open Go Pw

theorem sm_mul {a b : Int} (ha : Sm a) (hb : Sm b) : (a * b).natAbs ≤ 999999998000000001 := by
  rw [Int.natAbs_mul]
  obtain ⟨h1, h2⟩ := ha
  obtain ⟨h3, h4⟩ := hb
  exact Nat.mul_le_mul (show a.natAbs ≤ 999999999 by omega) (show b.natAbs ≤ 999999999 by omega)

theorem prod_le {a b : Int} (ha : I64 a) (hb : I64 b) : a.natAbs * b.natAbs ≤ 85070591730234615865843651857942052864 :=
  Nat.mul_le_mul (show a.natAbs ≤ 9223372036854775808 from ha.abs) (show b.natAbs ≤ 9223372036854775808 from hb.abs)

theorem pow9 : (65536 : Nat) ^ 9 = 22300745198530623141535718272648361505980416 := by decide

theorem prod_lt {a b : Int} (ha : I64 a) (hb : I64 b) : a.natAbs * b.natAbs < 65536 ^ 9 := by
  have := prod_le ha hb
  rw [pow9]
  omega

theorem sumS_le (x y : Bool) (a b : Nat) : (sumS x y a b).2 ≤ a + b := by
  rcases sumS_cases x y a b with h | h | h <;> omega

theorem add_lt {x y : Bool} {n d n' d' : Int} (hn : I64 n) (hd : I64 d) (hn' : I64 n') (hd' : I64 d') : (sumS x y (n.natAbs * d'.natAbs) (n'.natAbs * d.natAbs)).2 < 65536 ^ 9 := by
  have h1 := prod_le hn hd'
  have h2 := prod_le hn' hd
  have h3 := sumS_le x y (n.natAbs * d'.natAbs) (n'.natAbs * d.natAbs)
  rw [pow9]
  omega

theorem sgn_prod (a b : Int) : sgn (decide (a < 0) != decide (b < 0)) (a.natAbs * b.natAbs) = a * b := by
  rw [← sgn_mul, sgn_abs, sgn_abs]

theorem sgn_pos (a : Int) {b : Int} (h : 0 < b) : (decide (a < 0) != decide (b < 0)) = decide (a < 0) := by
  have : ¬ b < 0 := by omega
  simp [this]

theorem big_q {s : Bool} {v : Nat} {num d d' : Int} (h : sgn s v = num) (hd : 0 < d) (hd' : 0 < d') :
    mkRat (sgn (s != (decide (d < 0) != decide (d' < 0))) v) (d.natAbs * d'.natAbs) = Rat.divInt num (d * d') := by
  have h1 : ¬ d < 0 := by omega
  have h2 : ¬ d' < 0 := by omega
  have e : d * d' = ((d.natAbs * d'.natAbs : Nat) : Int) := by
    rw [Int.natCast_mul, show ((d.natAbs : Nat) : Int) = d by omega, show ((d'.natAbs : Nat) : Int) = d' by omega]
  rw [e, Rat.divInt_ofNat, ← h]
  simp [h1, h2]

theorem add_num {n d n' d' : Int} (_ : 0 < d) (_ : 0 < d') : sgn (sumS (decide (n < 0) != decide (d' < 0)) (decide (n' < 0) != decide (d < 0)) (n.natAbs * d'.natAbs) (n'.natAbs * d.natAbs)).1 (sumS (decide (n < 0) != decide (d' < 0)) (decide (n' < 0) != decide (d < 0)) (n.natAbs * d'.natAbs) (n'.natAbs * d.natAbs)).2 = n * d' + n' * d := by
  rw [← sumS_eq, sgn_prod, sgn_prod]

theorem mul_num (n n' : Int) : sgn (decide (n < 0) != decide (n' < 0)) (n.natAbs * n'.natAbs) = n * n' := sgn_prod n n'

theorem addQ_div {n d n' d' : Int} (h : rightP n d ∧ rightP n' d') : addQ n d n' d' = fitQ (Rat.divInt (n * d' + n' * d) (d * d')) := by
  have h1 := h.1.1
  have h2 := h.2.1
  rw [addQ_val h.1 h.2, val_div h1, val_div h2, Rat.divInt_add_divInt _ _ (by omega) (by omega)]
theorem subQ_div {n d n' d' : Int} (h : rightP n d ∧ rightP n' d') : subQ n d n' d' = fitQ (Rat.divInt (n * d' - n' * d) (d * d')) := by
  have h1 := h.1.1
  have h2 := h.2.1
  rw [subQ_val h.1 h.2, val_div h1, val_div h2, Rat.divInt_sub_divInt _ _ (by omega) (by omega)]
theorem mulQ_div {n d n' d' : Int} (h : rightP n d ∧ rightP n' d') : mulQ n d n' d' = fitQ (Rat.divInt (n * n') (d * d')) := by
  rw [mulQ_val h.1 h.2, val_div h.1.1, val_div h.2.1, Rat.divInt_mul_divInt]

section
variable {w w' w0 : World}

theorem Kq {n d : Int} {K : Int → Int → Bool → World → Prop} (hn : n.natAbs < 9223372036854775808) (hd : d.natAbs < 9223372036854775808) (hd0 : d ≠ 0) (h : K (fitQ (Rat.divInt n d)).n (fitQ (Rat.divInt n d)).d (fitQ (Rat.divInt n d)).ok w) : K (fitQ (Rat.divInt n d)).n (fitQ (Rat.divInt n d)).d true w := by
  rw [quick_ok hn hd hd0] at h
  exact h

theorem rAdd_spec {n d n' d' : Int} {K : Int → Int → Bool → World → Prop} (hn : I64 n) (hd : I64 d) (hn' : I64 n') (hd' : I64 d') (hK : ∀ w', Fr F0 w w' → K (addQ n d n' d').n (addQ n d n' d').d (addQ n d n' d').ok w') : probityref01_Add_sh n d n' d' K w := by
  have hbad : ¬ (rightP n d ∧ rightP n' d') → ∀ w', Fr F0 w w' → K 0 1 false w' := fun h w' hf => by
    have := hK w' hf
    unfold addQ at this
    rw [if_neg h] at this
    exact this
  have hgood : rightP n d ∧ rightP n' d' → ∀ w', Fr F0 w w' → K (fitQ (Rat.divInt (n * d' + n' * d) (d * d'))).n (fitQ (Rat.divInt (n * d' + n' * d) (d * d'))).d (fitQ (Rat.divInt (n * d' + n' * d) (d * d'))).ok w' := fun h w' hf => by
    rw [← addQ_div h]
    exact hK w' hf
  refine ⟨?_⟩
  unfold probityref01_Add_sd
  have m : Mem w w [] := Mem.nil
  intro w1; have m : Mem w w1 _ := m.allocL; clear_value w1
  intro w2; have m : Mem w w2 _ := m.allocL; clear_value w2
  intro w3; have m : Mem w w3 _ := m.allocL; clear_value w3
  refine ⟨_, m.ld 2 rfl rfl, ?_⟩
  refine ⟨_, m.ld 2 rfl rfl, ?_⟩
  refine ⟨_, m.ld 1 rfl rfl, ?_⟩
  refine ⟨_, m.ld 1 rfl rfl, ?_⟩
  refine both'_spec hn hd hn' hd' fun w8 hf => ?_; have m := m.fr hf
  refine cnd_iff.2 ⟨fun hc1 => ?_, fun hc1 => ?_⟩
  · refine rOf_spec fun w10 hf => ?_; have m := m.fr hf
    refine ⟨m.wr 0 rfl rfl, ?_⟩
    intro w12; have m : Mem w w12 _ := m.set 0 rfl; clear_value w12; simp only [List.set_cons_zero] at m
    refine ⟨m.wr 0 rfl rfl, ?_⟩
    intro w13; have m : Mem w w13 _ := m.set 0 rfl; clear_value w13; simp only [List.set_cons_zero, List.set_cons_succ] at m
    refine ⟨_, m.ld 0 rfl rfl, ?_⟩
    refine ⟨_, m.ld 0 rfl rfl, ?_⟩
    exact hbad (by intro hh; simp [hh.1, hh.2] at hc1) _ m.1
  · have hr : rightP n d ∧ rightP n' d' := by simpa using hc1
    have hd0 := hr.1.1
    have hd0' := hr.2.1
    refine ⟨_, m.ld 2 rfl rfl, ?_⟩
    refine ⟨_, m.ld 2 rfl rfl, ?_⟩
    refine ⟨_, m.ld 1 rfl rfl, ?_⟩
    refine ⟨_, m.ld 1 rfl rfl, ?_⟩
    refine tiny_spec fun w20 hf => ?_; have m := m.fr hf
    refine cnd_iff.2 ⟨fun hc2 => ?_, fun hc2 => ?_⟩
    · have ht := of_decide_eq_true hc2
      have p1 := sm_mul ht.1 ht.2.2.2
      have p2 := sm_mul ht.2.2.1 ht.2.1
      have p3 := sm_mul ht.2.1 ht.2.2.2
      have p4 : 0 < d * d' := Int.mul_pos hd0 hd0'
      refine ⟨_, m.ld 2 rfl rfl, ?_⟩
      refine ⟨_, m.ld 1 rfl rfl, ?_⟩
      refine ⟨inR64 (by omega) (by omega), ?_⟩
      refine ⟨_, m.ld 1 rfl rfl, ?_⟩
      refine ⟨_, m.ld 2 rfl rfl, ?_⟩
      refine ⟨inR64 (by omega) (by omega), ?_⟩
      refine ⟨inR64 (by omega) (by omega), ?_⟩
      refine ⟨_, m.ld 2 rfl rfl, ?_⟩
      refine ⟨_, m.ld 1 rfl rfl, ?_⟩
      refine ⟨inR64 (by omega) (by omega), ?_⟩
      refine quick_spec (by omega) (by omega) (by omega) fun w28 hf => ?_; have m := m.fr hf
      refine ⟨m.wr 0 rfl rfl, ?_⟩
      intro w30; have m : Mem w w30 _ := m.set 0 rfl; clear_value w30; simp only [List.set_cons_zero] at m
      refine ⟨m.wr 0 rfl rfl, ?_⟩
      intro w31; have m : Mem w w31 _ := m.set 0 rfl; clear_value w31; simp only [List.set_cons_zero, List.set_cons_succ] at m
      refine ⟨_, m.ld 0 rfl rfl, ?_⟩
      refine ⟨_, m.ld 0 rfl rfl, ?_⟩
      exact Kq (by omega) (by omega) (by omega) (hgood hr _ m.1)
    · intro w34; have m : Mem w w34 _ := m.drew; clear_value w34
      refine ⟨fun u => Rs u _, m.sub 0 rfl, ?_⟩
      refine ⟨_, fun _ h => h.ld 2 rfl rfl, ?_⟩
      refine ⟨_, fun _ h => h.ld 1 rfl rfl, ?_⟩
      refine ⟨_, fun _ h => h.ld 1 rfl rfl, ?_⟩
      refine ⟨_, fun _ h => h.ld 2 rfl rfl, ?_⟩
      refine ⟨_, fun _ h => h.ld 2 rfl rfl, ?_⟩
      refine ⟨_, fun _ h => h.ld 1 rfl rfl, ?_⟩
      refine rof_spec (by assumption) fun s1 w42 o1 hf => ?_; have m := m.fr hf; (try have o1 := o1.fr hf); (try have o2 := o2.fr hf); (try have o3 := o3.fr hf); (try have o4 := o4.fr hf); (try have o5 := o5.fr hf); (try have o6 := o6.fr hf); (try have u1 := u1.fr hf); (try have u2 := u2.fr hf); (try have u3 := u3.fr hf); (try have v1 := v1.fr hf)
      refine ⟨m.sub 0 rfl, ?_⟩
      refine rof_spec (by assumption) fun s2 w44 o2 hf => ?_; have m := m.fr hf; (try have o1 := o1.fr hf); (try have o2 := o2.fr hf); (try have o3 := o3.fr hf); (try have o4 := o4.fr hf); (try have o5 := o5.fr hf); (try have o6 := o6.fr hf); (try have u1 := u1.fr hf); (try have u2 := u2.fr hf); (try have u3 := u3.fr hf); (try have v1 := v1.fr hf)
      refine ⟨m.sub 0 rfl, ?_⟩
      refine mul_spec o1.nm o2.nm (by decide) (by decide) fun su1 w46 u1 hf bu1 => ?_; have m := m.fr hf; (try have o1 := o1.fr hf); (try have o2 := o2.fr hf); (try have o3 := o3.fr hf); (try have o4 := o4.fr hf); (try have o5 := o5.fr hf); (try have o6 := o6.fr hf); (try have u1 := u1.fr hf); (try have u2 := u2.fr hf); (try have u3 := u3.fr hf); (try have v1 := v1.fr hf)
      refine ⟨m.sub 0 rfl, ?_⟩
      refine rof_spec (by assumption) fun s3 w48 o3 hf => ?_; have m := m.fr hf; (try have o1 := o1.fr hf); (try have o2 := o2.fr hf); (try have o3 := o3.fr hf); (try have o4 := o4.fr hf); (try have o5 := o5.fr hf); (try have o6 := o6.fr hf); (try have u1 := u1.fr hf); (try have u2 := u2.fr hf); (try have u3 := u3.fr hf); (try have v1 := v1.fr hf)
      refine ⟨m.sub 0 rfl, ?_⟩
      refine rof_spec (by assumption) fun s4 w50 o4 hf => ?_; have m := m.fr hf; (try have o1 := o1.fr hf); (try have o2 := o2.fr hf); (try have o3 := o3.fr hf); (try have o4 := o4.fr hf); (try have o5 := o5.fr hf); (try have o6 := o6.fr hf); (try have u1 := u1.fr hf); (try have u2 := u2.fr hf); (try have u3 := u3.fr hf); (try have v1 := v1.fr hf)
      refine ⟨m.sub 0 rfl, ?_⟩
      refine mul_spec o3.nm o4.nm (by decide) (by decide) fun su2 w52 u2 hf bu2 => ?_; have m := m.fr hf; (try have o1 := o1.fr hf); (try have o2 := o2.fr hf); (try have o3 := o3.fr hf); (try have o4 := o4.fr hf); (try have o5 := o5.fr hf); (try have o6 := o6.fr hf); (try have u1 := u1.fr hf); (try have u2 := u2.fr hf); (try have u3 := u3.fr hf); (try have v1 := v1.fr hf)
      refine ⟨m.sub 0 rfl, ?_⟩
      refine add_spec u1.nm u2.nm (by decide) fun sv1 w54 v1 hf bv1 => ?_; have m := m.fr hf; (try have o1 := o1.fr hf); (try have o2 := o2.fr hf); (try have o3 := o3.fr hf); (try have o4 := o4.fr hf); (try have o5 := o5.fr hf); (try have o6 := o6.fr hf); (try have u1 := u1.fr hf); (try have u2 := u2.fr hf); (try have u3 := u3.fr hf); (try have v1 := v1.fr hf)
      refine ⟨m.sub 0 rfl, ?_⟩
      refine rof_spec (by assumption) fun s5 w56 o5 hf => ?_; have m := m.fr hf; (try have o1 := o1.fr hf); (try have o2 := o2.fr hf); (try have o3 := o3.fr hf); (try have o4 := o4.fr hf); (try have o5 := o5.fr hf); (try have o6 := o6.fr hf); (try have u1 := u1.fr hf); (try have u2 := u2.fr hf); (try have u3 := u3.fr hf); (try have v1 := v1.fr hf)
      refine ⟨m.sub 0 rfl, ?_⟩
      refine rof_spec (by assumption) fun s6 w58 o6 hf => ?_; have m := m.fr hf; (try have o1 := o1.fr hf); (try have o2 := o2.fr hf); (try have o3 := o3.fr hf); (try have o4 := o4.fr hf); (try have o5 := o5.fr hf); (try have o6 := o6.fr hf); (try have u1 := u1.fr hf); (try have u2 := u2.fr hf); (try have u3 := u3.fr hf); (try have v1 := v1.fr hf)
      refine ⟨m.sub 0 rfl, ?_⟩
      refine mul_spec o5.nm o6.nm (by decide) (by decide) fun su3 w60 u3 hf bu3 => ?_; have m := m.fr hf; (try have o1 := o1.fr hf); (try have o2 := o2.fr hf); (try have o3 := o3.fr hf); (try have o4 := o4.fr hf); (try have o5 := o5.fr hf); (try have o6 := o6.fr hf); (try have u1 := u1.fr hf); (try have u2 := u2.fr hf); (try have u3 := u3.fr hf); (try have v1 := v1.fr hf)
      refine ⟨m.sub 0 rfl, ?_⟩
      refine rlowest_spec (k := 9) v1 (u3.nm.up (by decide)) (add_lt hn hd hn' hd') (prod_lt hd hd') (Nat.mul_pos (by omega) (by omega)) (by decide) fun w62 hf => ?_; have m := m.fr hf; rw [big_q (num := n * d' + n' * d) (add_num hd0 hd0') hd0 hd0']; refine Kr_of ?_
      refine ⟨m.sub 0 rfl, ?_⟩
      refine ⟨m.wr 0 rfl rfl, ?_⟩
      intro w65; have m : Mem w w65 _ := m.set 0 rfl; clear_value w65; simp only [List.set_cons_zero] at m
      refine ⟨m.wr 0 rfl rfl, ?_⟩
      intro w66; have m : Mem w w66 _ := m.set 0 rfl; clear_value w66; simp only [List.set_cons_zero, List.set_cons_succ] at m
      refine ⟨_, m.ld 0 rfl rfl, ?_⟩
      refine ⟨_, m.ld 0 rfl rfl, ?_⟩
      exact hgood hr _ m.1

theorem rMul_spec {n d n' d' : Int} {K : Int → Int → Bool → World → Prop} (hn : I64 n) (hd : I64 d) (hn' : I64 n') (hd' : I64 d') (hK : ∀ w', Fr F0 w w' → K (mulQ n d n' d').n (mulQ n d n' d').d (mulQ n d n' d').ok w') : probityref01_Mul_sh n d n' d' K w := by
  have hbad : ¬ (rightP n d ∧ rightP n' d') → ∀ w', Fr F0 w w' → K 0 1 false w' := fun h w' hf => by
    have := hK w' hf
    unfold mulQ at this
    rw [if_neg h] at this
    exact this
  have hgood : rightP n d ∧ rightP n' d' → ∀ w', Fr F0 w w' → K (fitQ (Rat.divInt (n * n') (d * d'))).n (fitQ (Rat.divInt (n * n') (d * d'))).d (fitQ (Rat.divInt (n * n') (d * d'))).ok w' := fun h w' hf => by
    rw [← mulQ_div h]
    exact hK w' hf
  refine ⟨?_⟩
  unfold probityref01_Mul_sd
  have m : Mem w w [] := Mem.nil
  intro w1; have m : Mem w w1 _ := m.allocL; clear_value w1
  intro w2; have m : Mem w w2 _ := m.allocL; clear_value w2
  intro w3; have m : Mem w w3 _ := m.allocL; clear_value w3
  refine ⟨_, m.ld 2 rfl rfl, ?_⟩
  refine ⟨_, m.ld 2 rfl rfl, ?_⟩
  refine ⟨_, m.ld 1 rfl rfl, ?_⟩
  refine ⟨_, m.ld 1 rfl rfl, ?_⟩
  refine both'_spec hn hd hn' hd' fun w8 hf => ?_; have m := m.fr hf
  refine cnd_iff.2 ⟨fun hc1 => ?_, fun hc1 => ?_⟩
  · refine rOf_spec fun w10 hf => ?_; have m := m.fr hf
    refine ⟨m.wr 0 rfl rfl, ?_⟩
    intro w12; have m : Mem w w12 _ := m.set 0 rfl; clear_value w12; simp only [List.set_cons_zero] at m
    refine ⟨m.wr 0 rfl rfl, ?_⟩
    intro w13; have m : Mem w w13 _ := m.set 0 rfl; clear_value w13; simp only [List.set_cons_zero, List.set_cons_succ] at m
    refine ⟨_, m.ld 0 rfl rfl, ?_⟩
    refine ⟨_, m.ld 0 rfl rfl, ?_⟩
    exact hbad (by intro hh; simp [hh.1, hh.2] at hc1) _ m.1
  · have hr : rightP n d ∧ rightP n' d' := by simpa using hc1
    have hd0 := hr.1.1
    have hd0' := hr.2.1
    refine ⟨_, m.ld 2 rfl rfl, ?_⟩
    refine ⟨_, m.ld 2 rfl rfl, ?_⟩
    refine ⟨_, m.ld 1 rfl rfl, ?_⟩
    refine ⟨_, m.ld 1 rfl rfl, ?_⟩
    refine tiny_spec fun w20 hf => ?_; have m := m.fr hf
    refine cnd_iff.2 ⟨fun hc2 => ?_, fun hc2 => ?_⟩
    · have ht := of_decide_eq_true hc2
      have p1 := sm_mul ht.1 ht.2.2.1
      have p3 := sm_mul ht.2.1 ht.2.2.2
      have p4 : 0 < d * d' := Int.mul_pos hd0 hd0'
      refine ⟨_, m.ld 2 rfl rfl, ?_⟩
      refine ⟨_, m.ld 1 rfl rfl, ?_⟩
      refine ⟨inR64 (by omega) (by omega), ?_⟩
      refine ⟨_, m.ld 2 rfl rfl, ?_⟩
      refine ⟨_, m.ld 1 rfl rfl, ?_⟩
      refine ⟨inR64 (by omega) (by omega), ?_⟩
      refine quick_spec (by omega) (by omega) (by omega) fun w26 hf => ?_; have m := m.fr hf
      refine ⟨m.wr 0 rfl rfl, ?_⟩
      intro w28; have m : Mem w w28 _ := m.set 0 rfl; clear_value w28; simp only [List.set_cons_zero] at m
      refine ⟨m.wr 0 rfl rfl, ?_⟩
      intro w29; have m : Mem w w29 _ := m.set 0 rfl; clear_value w29; simp only [List.set_cons_zero, List.set_cons_succ] at m
      refine ⟨_, m.ld 0 rfl rfl, ?_⟩
      refine ⟨_, m.ld 0 rfl rfl, ?_⟩
      exact Kq (by omega) (by omega) (by omega) (hgood hr _ m.1)
    · intro w32; have m : Mem w w32 _ := m.drew; clear_value w32
      refine ⟨fun u => Rs u _, m.sub 0 rfl, ?_⟩
      refine ⟨_, fun _ h => h.ld 2 rfl rfl, ?_⟩
      refine ⟨_, fun _ h => h.ld 1 rfl rfl, ?_⟩
      refine ⟨_, fun _ h => h.ld 2 rfl rfl, ?_⟩
      refine ⟨_, fun _ h => h.ld 1 rfl rfl, ?_⟩
      refine rof_spec (by assumption) fun s1 w38 o1 hf => ?_; have m := m.fr hf; (try have o1 := o1.fr hf); (try have o2 := o2.fr hf); (try have o3 := o3.fr hf); (try have o4 := o4.fr hf); (try have o5 := o5.fr hf); (try have o6 := o6.fr hf); (try have u1 := u1.fr hf); (try have u2 := u2.fr hf); (try have u3 := u3.fr hf); (try have v1 := v1.fr hf)
      refine ⟨m.sub 0 rfl, ?_⟩
      refine rof_spec (by assumption) fun s2 w40 o2 hf => ?_; have m := m.fr hf; (try have o1 := o1.fr hf); (try have o2 := o2.fr hf); (try have o3 := o3.fr hf); (try have o4 := o4.fr hf); (try have o5 := o5.fr hf); (try have o6 := o6.fr hf); (try have u1 := u1.fr hf); (try have u2 := u2.fr hf); (try have u3 := u3.fr hf); (try have v1 := v1.fr hf)
      refine ⟨m.sub 0 rfl, ?_⟩
      refine mul_spec o1.nm o2.nm (by decide) (by decide) fun su1 w42 u1 hf bu1 => ?_; have m := m.fr hf; (try have o1 := o1.fr hf); (try have o2 := o2.fr hf); (try have o3 := o3.fr hf); (try have o4 := o4.fr hf); (try have o5 := o5.fr hf); (try have o6 := o6.fr hf); (try have u1 := u1.fr hf); (try have u2 := u2.fr hf); (try have u3 := u3.fr hf); (try have v1 := v1.fr hf)
      refine ⟨m.sub 0 rfl, ?_⟩
      refine rof_spec (by assumption) fun s3 w44 o3 hf => ?_; have m := m.fr hf; (try have o1 := o1.fr hf); (try have o2 := o2.fr hf); (try have o3 := o3.fr hf); (try have o4 := o4.fr hf); (try have o5 := o5.fr hf); (try have o6 := o6.fr hf); (try have u1 := u1.fr hf); (try have u2 := u2.fr hf); (try have u3 := u3.fr hf); (try have v1 := v1.fr hf)
      refine ⟨m.sub 0 rfl, ?_⟩
      refine rof_spec (by assumption) fun s4 w46 o4 hf => ?_; have m := m.fr hf; (try have o1 := o1.fr hf); (try have o2 := o2.fr hf); (try have o3 := o3.fr hf); (try have o4 := o4.fr hf); (try have o5 := o5.fr hf); (try have o6 := o6.fr hf); (try have u1 := u1.fr hf); (try have u2 := u2.fr hf); (try have u3 := u3.fr hf); (try have v1 := v1.fr hf)
      refine ⟨m.sub 0 rfl, ?_⟩
      refine mul_spec o3.nm o4.nm (by decide) (by decide) fun su2 w48 u2 hf bu2 => ?_; have m := m.fr hf; (try have o1 := o1.fr hf); (try have o2 := o2.fr hf); (try have o3 := o3.fr hf); (try have o4 := o4.fr hf); (try have o5 := o5.fr hf); (try have o6 := o6.fr hf); (try have u1 := u1.fr hf); (try have u2 := u2.fr hf); (try have u3 := u3.fr hf); (try have v1 := v1.fr hf)
      refine ⟨m.sub 0 rfl, ?_⟩
      refine rlowest_spec (k := 9) (u1.nm.up (by decide)) (u2.nm.up (by decide)) (prod_lt hn hn') (prod_lt hd hd') (Nat.mul_pos (by omega) (by omega)) (by decide) fun w50 hf => ?_; have m := m.fr hf; rw [big_q (num := n * n') (mul_num n n') hd0 hd0']; refine Kr_of ?_
      refine ⟨m.sub 0 rfl, ?_⟩
      refine ⟨m.wr 0 rfl rfl, ?_⟩
      intro w53; have m : Mem w w53 _ := m.set 0 rfl; clear_value w53; simp only [List.set_cons_zero] at m
      refine ⟨m.wr 0 rfl rfl, ?_⟩
      intro w54; have m : Mem w w54 _ := m.set 0 rfl; clear_value w54; simp only [List.set_cons_zero, List.set_cons_succ] at m
      refine ⟨_, m.ld 0 rfl rfl, ?_⟩
      refine ⟨_, m.ld 0 rfl rfl, ?_⟩
      exact hgood hr _ m.1
end
end Go.Proofs.YtfclokkfnkieoaaGreatDoor

/- The reference's quotients of rational numbers. Conditions: none. -/
namespace Go.Proofs.YtfclokkfnkieoaaGreatDoor
open Go Pw

theorem mkRat_sgn2 (s t : Bool) (a b : Nat) : mkRat (sgn (s != t) a) b = Rat.divInt (sgn s a) (sgn t b) := by
  cases t
  · have e : sgn false b = ((b : Nat) : Int) := rfl
    rw [e, Rat.divInt_ofNat]
    cases s <;> rfl
  · have e : sgn true b = -((b : Nat) : Int) := rfl
    rw [e, ← Rat.neg_divInt_neg, Int.neg_neg, Rat.divInt_ofNat]
    cases s <;> simp [sgn]

theorem quo_big {n d n' d' : Int} :
    mkRat (sgn ((decide (n < 0) != decide (d' < 0)) != (decide (d < 0) != decide (n' < 0))) (n.natAbs * d'.natAbs)) (d.natAbs * n'.natAbs) = Rat.divInt (n * d') (d * n') := by
  rw [mkRat_sgn2, sgn_prod, sgn_prod]

theorem quoQ_div {n d n' d' : Int} (h : rightP n d ∧ rightP n' d') (h0 : n' ≠ 0) : quoQ n d n' d' = fitQ (Rat.divInt (n * d') (d * n')) := by
  rw [quoQ_val h.1 h.2 h0, val_div h.1.1, val_div h.2.1, Rat.div_def, Rat.inv_divInt, Rat.divInt_mul_divInt]

section
variable {w w' w0 : World}

theorem Quo_k0 {l : List (Nat × List Value)} {t : Nat} {x y : Value} {K : Int → Int → Bool → World → Prop} (m : Mem w0 w l) (j : Nat) (hj : l[j]? = some (t, [x, y])) (hK : ∀ w', Fr F0 w0 w' → K 0 1 false w') : probityref01_Quo_k0 ⟨t, 0, none⟩ K w :=
  ⟨rOf_spec fun _ hf => put2b (m.fr hf) j hj hK⟩

theorem rQuo_spec {n d n' d' : Int} {K : Int → Int → Bool → World → Prop} (hn : I64 n) (hd : I64 d) (hn' : I64 n') (hd' : I64 d') (hK : ∀ w', Fr F0 w w' → K (quoQ n d n' d').n (quoQ n d n' d').d (quoQ n d n' d').ok w') : probityref01_Quo_sh n d n' d' K w := by
  have hbad : ¬ ((rightP n d ∧ rightP n' d') ∧ n' ≠ 0) → ∀ w', Fr F0 w w' → K 0 1 false w' := fun h w' hf => by
    have := hK w' hf
    unfold quoQ at this
    by_cases hr : rightP n d ∧ rightP n' d'
    · rw [if_pos hr, if_pos (Classical.byContradiction fun h0 => h ⟨hr, h0⟩)] at this
      exact this
    · rw [if_neg hr] at this
      exact this
  have hgood : (rightP n d ∧ rightP n' d') ∧ n' ≠ 0 → ∀ w', Fr F0 w w' → K (fitQ (Rat.divInt (n * d') (d * n'))).n (fitQ (Rat.divInt (n * d') (d * n'))).d (fitQ (Rat.divInt (n * d') (d * n'))).ok w' := fun h w' hf => by
    rw [← quoQ_div h.1 h.2]
    exact hK w' hf
  refine ⟨?_⟩
  unfold probityref01_Quo_sd
  have m : Mem w w [] := Mem.nil
  intro w1; have m : Mem w w1 _ := m.allocL; clear_value w1
  intro w2; have m : Mem w w2 _ := m.allocL; clear_value w2
  intro w3; have m : Mem w w3 _ := m.allocL; clear_value w3
  refine ⟨_, m.ld 2 rfl rfl, ?_⟩
  refine ⟨_, m.ld 2 rfl rfl, ?_⟩
  refine ⟨_, m.ld 1 rfl rfl, ?_⟩
  refine ⟨_, m.ld 1 rfl rfl, ?_⟩
  refine both'_spec hn hd hn' hd' fun w8 hf => ?_; have m := m.fr hf
  refine cnd_iff.2 ⟨fun hc1 => ?_, fun hc1 => ?_⟩
  · exact Quo_k0 m 0 rfl fun w' hf => hbad (by intro hh; simp [hh.1.1, hh.1.2] at hc1) w' hf
  · refine ⟨_, m.ld 1 rfl rfl, ?_⟩
    have hr : rightP n d ∧ rightP n' d' := by simpa using hc1
    have hd0 := hr.1.1
    have hd0' := hr.2.1
    refine cnd_beq.2 ⟨fun hc2 => ?_, fun hc2 => ?_⟩
    · exact Quo_k0 m 0 rfl fun w' hf => hbad (by intro hh; exact hh.2 hc2) w' hf
    · refine ⟨_, m.ld 2 rfl rfl, ?_⟩
      refine ⟨_, m.ld 2 rfl rfl, ?_⟩
      refine ⟨_, m.ld 1 rfl rfl, ?_⟩
      refine ⟨_, m.ld 1 rfl rfl, ?_⟩
      refine tiny_spec fun w21 hf => ?_; have m := m.fr hf
      refine cnd_iff.2 ⟨fun hc3 => ?_, fun hc3 => ?_⟩
      · have ht := of_decide_eq_true hc3
        have p1 := sm_mul ht.1 ht.2.2.2
        have p3 := sm_mul ht.2.1 ht.2.2.1
        have p4 : d * n' ≠ 0 := Int.mul_ne_zero (by omega) hc2
        refine ⟨_, m.ld 2 rfl rfl, ?_⟩
        refine ⟨_, m.ld 1 rfl rfl, ?_⟩
        refine ⟨inR64 (by omega) (by omega), ?_⟩
        refine ⟨_, m.ld 2 rfl rfl, ?_⟩
        refine ⟨_, m.ld 1 rfl rfl, ?_⟩
        refine ⟨inR64 (by omega) (by omega), ?_⟩
        refine quick_spec (by omega) (by omega) (by omega) fun w27 hf => ?_; have m := m.fr hf
        refine ⟨m.wr 0 rfl rfl, ?_⟩
        intro w29; have m : Mem w w29 _ := m.set 0 rfl; clear_value w29; simp only [List.set_cons_zero] at m
        refine ⟨m.wr 0 rfl rfl, ?_⟩
        intro w30; have m : Mem w w30 _ := m.set 0 rfl; clear_value w30; simp only [List.set_cons_zero, List.set_cons_succ] at m
        refine ⟨_, m.ld 0 rfl rfl, ?_⟩
        refine ⟨_, m.ld 0 rfl rfl, ?_⟩
        exact Kq (by omega) (by omega) (by omega) (hgood ⟨hr, hc2⟩ _ m.1)
      · intro w33; have m : Mem w w33 _ := m.drew; clear_value w33
        refine ⟨fun u => Rs u _, m.sub 0 rfl, ?_⟩
        refine ⟨_, fun _ h => h.ld 2 rfl rfl, ?_⟩
        refine ⟨_, fun _ h => h.ld 1 rfl rfl, ?_⟩
        refine ⟨_, fun _ h => h.ld 2 rfl rfl, ?_⟩
        refine ⟨_, fun _ h => h.ld 1 rfl rfl, ?_⟩
        refine rof_spec (by assumption) fun s1 w39 o1 hf => ?_; have m := m.fr hf; (try have o1 := o1.fr hf); (try have o2 := o2.fr hf); (try have o3 := o3.fr hf); (try have o4 := o4.fr hf); (try have o5 := o5.fr hf); (try have o6 := o6.fr hf); (try have u1 := u1.fr hf); (try have u2 := u2.fr hf); (try have u3 := u3.fr hf); (try have v1 := v1.fr hf)
        refine ⟨m.sub 0 rfl, ?_⟩
        refine rof_spec (by assumption) fun s2 w41 o2 hf => ?_; have m := m.fr hf; (try have o1 := o1.fr hf); (try have o2 := o2.fr hf); (try have o3 := o3.fr hf); (try have o4 := o4.fr hf); (try have o5 := o5.fr hf); (try have o6 := o6.fr hf); (try have u1 := u1.fr hf); (try have u2 := u2.fr hf); (try have u3 := u3.fr hf); (try have v1 := v1.fr hf)
        refine ⟨m.sub 0 rfl, ?_⟩
        refine mul_spec o1.nm o2.nm (by decide) (by decide) fun su1 w43 u1 hf bu1 => ?_; have m := m.fr hf; (try have o1 := o1.fr hf); (try have o2 := o2.fr hf); (try have o3 := o3.fr hf); (try have o4 := o4.fr hf); (try have o5 := o5.fr hf); (try have o6 := o6.fr hf); (try have u1 := u1.fr hf); (try have u2 := u2.fr hf); (try have u3 := u3.fr hf); (try have v1 := v1.fr hf)
        refine ⟨m.sub 0 rfl, ?_⟩
        refine rof_spec (by assumption) fun s3 w45 o3 hf => ?_; have m := m.fr hf; (try have o1 := o1.fr hf); (try have o2 := o2.fr hf); (try have o3 := o3.fr hf); (try have o4 := o4.fr hf); (try have o5 := o5.fr hf); (try have o6 := o6.fr hf); (try have u1 := u1.fr hf); (try have u2 := u2.fr hf); (try have u3 := u3.fr hf); (try have v1 := v1.fr hf)
        refine ⟨m.sub 0 rfl, ?_⟩
        refine rof_spec (by assumption) fun s4 w47 o4 hf => ?_; have m := m.fr hf; (try have o1 := o1.fr hf); (try have o2 := o2.fr hf); (try have o3 := o3.fr hf); (try have o4 := o4.fr hf); (try have o5 := o5.fr hf); (try have o6 := o6.fr hf); (try have u1 := u1.fr hf); (try have u2 := u2.fr hf); (try have u3 := u3.fr hf); (try have v1 := v1.fr hf)
        refine ⟨m.sub 0 rfl, ?_⟩
        refine mul_spec o3.nm o4.nm (by decide) (by decide) fun su2 w49 u2 hf bu2 => ?_; have m := m.fr hf; (try have o1 := o1.fr hf); (try have o2 := o2.fr hf); (try have o3 := o3.fr hf); (try have o4 := o4.fr hf); (try have o5 := o5.fr hf); (try have o6 := o6.fr hf); (try have u1 := u1.fr hf); (try have u2 := u2.fr hf); (try have u3 := u3.fr hf); (try have v1 := v1.fr hf)
        refine ⟨m.sub 0 rfl, ?_⟩
        refine rlowest_spec (k := 9) (u1.nm.up (by decide)) (u2.nm.up (by decide)) (prod_lt hn hd') (prod_lt hd hn') (Nat.mul_pos (by omega) (by omega)) (by decide) fun w51 hf => ?_; have m := m.fr hf; rw [quo_big]; refine Kr_of ?_
        refine ⟨m.sub 0 rfl, ?_⟩
        refine ⟨m.wr 0 rfl rfl, ?_⟩
        intro w54; have m : Mem w w54 _ := m.set 0 rfl; clear_value w54; simp only [List.set_cons_zero] at m
        refine ⟨m.wr 0 rfl rfl, ?_⟩
        intro w55; have m : Mem w w55 _ := m.set 0 rfl; clear_value w55; simp only [List.set_cons_zero, List.set_cons_succ] at m
        refine ⟨_, m.ld 0 rfl rfl, ?_⟩
        refine ⟨_, m.ld 0 rfl rfl, ?_⟩
        exact hgood ⟨hr, hc2⟩ _ m.1
end
end Go.Proofs.YtfclokkfnkieoaaGreatDoor

/- The reference's differences of rational numbers. Conditions: none. -/
namespace Go.Proofs.YtfclokkfnkieoaaGreatDoor
open Go Pw

theorem sub_num (n d n' d' : Int) : sgn (sumS (decide (n < 0) != decide (d' < 0)) (!(decide (n' < 0) != decide (d < 0))) (n.natAbs * d'.natAbs) (n'.natAbs * d.natAbs)).1 (sumS (decide (n < 0) != decide (d' < 0)) (!(decide (n' < 0) != decide (d < 0))) (n.natAbs * d'.natAbs) (n'.natAbs * d.natAbs)).2 = n * d' - n' * d := by
  have e : ∀ (s : Bool) (v : Nat), sgn (!s) v = -sgn s v := fun s v => by cases s <;> simp [sgn]
  rw [← sumS_eq, e, sgn_prod, sgn_prod]
  omega

section
variable {w w' w0 : World}

theorem Sub_k0 {n d n' d' : Int} {bm bt bb ba : Nat} {x y : Value} {s : Sl} {K : Int → Int → Bool → World → Prop} (hn : I64 n) (hd : I64 d) (hn' : I64 n') (hd' : I64 d') (hd0 : 0 < d) (hd0' : 0 < d')
    (m : Mem w0 w [(bm, [.bool (decide (n' < 0) != decide (d < 0)), .slice s.p s.l s.c]), (bt, [x, y]), (bb, [.int .i64 n', .int .i64 d']), (ba, [.int .i64 n, .int .i64 d])])
    (uM : Nt 8 w s (n'.natAbs * d.natAbs)) (bd : ∀ c, inB s c → ¬ c = bm)
    (hK : ∀ w', Fr F0 w0 w' → K (fitQ (Rat.divInt (n * d' - n' * d) (d * d'))).n (fitQ (Rat.divInt (n * d' - n' * d) (d * d'))).d (fitQ (Rat.divInt (n * d' - n' * d) (d * d'))).ok w') :
    probityref01_Sub_k0 ⟨ba, 0, none⟩ ⟨bb, 0, none⟩ ⟨bt, 0, none⟩ ⟨bm, 0, none⟩ K w := by
  refine ⟨?_⟩
  unfold probityref01_Sub_k0d
  refine ⟨_, m.ld 0 rfl rfl, ?_⟩
  refine ⟨m.wr 0 rfl rfl, ?_⟩
  intro w69; have m : Mem w0 w69 _ := m.set 0 rfl; (try have uM : Nt 8 w69 _ _ := uM.frN (Fr.set (F := fun c => c = bm) rfl) bd); clear_value w69; simp only [List.set_cons_zero] at m
  intro w70; have m : Mem w0 w70 _ := m.drew; (try have u1 : Nt 8 w70 _ _ := u1.fr Fr.drew); (try have uM : Nt 8 w70 _ _ := uM.fr Fr.drew); (try have v1 : Nm 9 w70 _ _ := v1.fr Fr.drew); clear_value w70
  refine ⟨fun u => Rs u _, m.sub 0 rfl, ?_⟩
  refine ⟨_, fun _ h => h.ld 3 rfl rfl, ?_⟩
  refine ⟨_, fun _ h => h.ld 2 rfl rfl, ?_⟩
  refine ⟨_, fun _ h => h.ld 0 rfl rfl, ?_⟩
  refine ⟨_, fun _ h => h.ld 0 rfl rfl, ?_⟩
  refine ⟨_, fun _ h => h.ld 3 rfl rfl, ?_⟩
  refine ⟨_, fun _ h => h.ld 2 rfl rfl, ?_⟩
  refine rof_spec (by assumption) fun s1 w78 o1 hf => ?_; have m := m.fr hf; (try have o1 := o1.fr hf); (try have o2 := o2.fr hf); (try have o3 := o3.fr hf); (try have o4 := o4.fr hf); (try have o5 := o5.fr hf); (try have o6 := o6.fr hf); (try have u1 := u1.fr hf); (try have u2 := u2.fr hf); (try have u3 := u3.fr hf); (try have v1 := v1.fr hf); (try have uM := uM.fr hf)
  refine ⟨m.sub 0 rfl, ?_⟩
  refine rof_spec (by assumption) fun s2 w80 o2 hf => ?_; have m := m.fr hf; (try have o1 := o1.fr hf); (try have o2 := o2.fr hf); (try have o3 := o3.fr hf); (try have o4 := o4.fr hf); (try have o5 := o5.fr hf); (try have o6 := o6.fr hf); (try have u1 := u1.fr hf); (try have u2 := u2.fr hf); (try have u3 := u3.fr hf); (try have v1 := v1.fr hf); (try have uM := uM.fr hf)
  refine ⟨m.sub 0 rfl, ?_⟩
  have lts := fun p (hp : p ∈ _) => Mem_lt m (p := p) hp; refine mul_spec o1.nm o2.nm (by decide) (by decide) fun su1 w82 u1 hf bu1 => ?_; have m := m.fr hf; (try have o1 := o1.fr hf); (try have o2 := o2.fr hf); (try have o3 := o3.fr hf); (try have o4 := o4.fr hf); (try have o5 := o5.fr hf); (try have o6 := o6.fr hf); (try have u1 := u1.fr hf); (try have u2 := u2.fr hf); (try have u3 := u3.fr hf); (try have v1 := v1.fr hf); (try have uM := uM.fr hf)
  refine ⟨m.sub 0 rfl, ?_⟩
  refine add_spec u1.nm uM.nm (by decide) fun sv1 w84 v1 hf bv1 => ?_; have m := m.fr hf; (try have o1 := o1.fr hf); (try have o2 := o2.fr hf); (try have o3 := o3.fr hf); (try have o4 := o4.fr hf); (try have o5 := o5.fr hf); (try have o6 := o6.fr hf); (try have u1 := u1.fr hf); (try have u2 := u2.fr hf); (try have u3 := u3.fr hf); (try have v1 := v1.fr hf); (try have uM := uM.fr hf)
  refine ⟨m.sub 0 rfl, ?_⟩
  refine rof_spec (by assumption) fun s3 w86 o3 hf => ?_; have m := m.fr hf; (try have o1 := o1.fr hf); (try have o2 := o2.fr hf); (try have o3 := o3.fr hf); (try have o4 := o4.fr hf); (try have o5 := o5.fr hf); (try have o6 := o6.fr hf); (try have u1 := u1.fr hf); (try have u2 := u2.fr hf); (try have u3 := u3.fr hf); (try have v1 := v1.fr hf); (try have uM := uM.fr hf)
  refine ⟨m.sub 0 rfl, ?_⟩
  refine rof_spec (by assumption) fun s4 w88 o4 hf => ?_; have m := m.fr hf; (try have o1 := o1.fr hf); (try have o2 := o2.fr hf); (try have o3 := o3.fr hf); (try have o4 := o4.fr hf); (try have o5 := o5.fr hf); (try have o6 := o6.fr hf); (try have u1 := u1.fr hf); (try have u2 := u2.fr hf); (try have u3 := u3.fr hf); (try have v1 := v1.fr hf); (try have uM := uM.fr hf)
  refine ⟨m.sub 0 rfl, ?_⟩
  have lts := fun p (hp : p ∈ _) => Mem_lt m (p := p) hp; refine mul_spec o3.nm o4.nm (by decide) (by decide) fun su2 w90 u2 hf bu2 => ?_; have m := m.fr hf; (try have o1 := o1.fr hf); (try have o2 := o2.fr hf); (try have o3 := o3.fr hf); (try have o4 := o4.fr hf); (try have o5 := o5.fr hf); (try have o6 := o6.fr hf); (try have u1 := u1.fr hf); (try have u2 := u2.fr hf); (try have u3 := u3.fr hf); (try have v1 := v1.fr hf); (try have uM := uM.fr hf)
  refine ⟨m.sub 0 rfl, ?_⟩
  refine rlowest_spec (k := 9) v1 (u2.nm.up (by decide)) (add_lt hn hd hn' hd') (prod_lt hd hd') (Nat.mul_pos (by omega) (by omega)) (by decide) fun w92 hf => ?_; have m := m.fr hf; rw [big_q (num := n * d' - n' * d) (sub_num n d n' d') hd0 hd0']; refine Kr_of ?_
  refine ⟨m.sub 0 rfl, ?_⟩
  refine ⟨m.wr 1 rfl rfl, ?_⟩
  intro w95; have m : Mem w0 w95 _ := m.set 1 rfl; (try have uM : Nt 8 w95 _ _ := uM.frN (Fr.set (F := fun c => c = bm) rfl) bd); clear_value w95; simp only [List.set_cons_zero, List.set_cons_succ] at m
  refine ⟨m.wr 1 rfl rfl, ?_⟩
  intro w96; have m : Mem w0 w96 _ := m.set 1 rfl; (try have uM : Nt 8 w96 _ _ := uM.frN (Fr.set (F := fun c => c = bm) rfl) bd); clear_value w96; simp only [List.set_cons_zero, List.set_cons_succ] at m
  refine ⟨_, m.ld 1 rfl rfl, ?_⟩
  refine ⟨_, m.ld 1 rfl rfl, ?_⟩
  exact hK _ m.1

theorem rSub_spec {n d n' d' : Int} {K : Int → Int → Bool → World → Prop} (hn : I64 n) (hd : I64 d) (hn' : I64 n') (hd' : I64 d') (hK : ∀ w', Fr F0 w w' → K (subQ n d n' d').n (subQ n d n' d').d (subQ n d n' d').ok w') : probityref01_Sub_sh n d n' d' K w := by
  have hbad : ¬ (rightP n d ∧ rightP n' d') → ∀ w', Fr F0 w w' → K 0 1 false w' := fun h w' hf => by
    have := hK w' hf
    unfold subQ at this
    rw [if_neg h] at this
    exact this
  have hgood : rightP n d ∧ rightP n' d' → ∀ w', Fr F0 w w' → K (fitQ (Rat.divInt (n * d' - n' * d) (d * d'))).n (fitQ (Rat.divInt (n * d' - n' * d) (d * d'))).d (fitQ (Rat.divInt (n * d' - n' * d) (d * d'))).ok w' := fun h w' hf => by
    rw [← subQ_div h]
    exact hK w' hf
  refine ⟨?_⟩
  unfold probityref01_Sub_sd
  have m : Mem w w [] := Mem.nil
  intro w1; have m : Mem w w1 _ := m.allocL; (try have o1 : Nt 4 w1 _ _ := o1.fr Fr.alloc); (try have o2 : Nt 4 w1 _ _ := o2.fr Fr.alloc); (try have u1 : Nt 8 w1 _ _ := u1.fr Fr.alloc); (try have u2 : Nt 8 w1 _ _ := u2.fr Fr.alloc); (try have uM : Nt 8 w1 _ _ := uM.fr Fr.alloc); (try have v1 : Nm 9 w1 _ _ := v1.fr Fr.alloc); clear_value w1
  intro w2; have m : Mem w w2 _ := m.allocL; (try have o1 : Nt 4 w2 _ _ := o1.fr Fr.alloc); (try have o2 : Nt 4 w2 _ _ := o2.fr Fr.alloc); (try have u1 : Nt 8 w2 _ _ := u1.fr Fr.alloc); (try have u2 : Nt 8 w2 _ _ := u2.fr Fr.alloc); (try have uM : Nt 8 w2 _ _ := uM.fr Fr.alloc); (try have v1 : Nm 9 w2 _ _ := v1.fr Fr.alloc); clear_value w2
  intro w3; have m : Mem w w3 _ := m.allocL; (try have o1 : Nt 4 w3 _ _ := o1.fr Fr.alloc); (try have o2 : Nt 4 w3 _ _ := o2.fr Fr.alloc); (try have u1 : Nt 8 w3 _ _ := u1.fr Fr.alloc); (try have u2 : Nt 8 w3 _ _ := u2.fr Fr.alloc); (try have uM : Nt 8 w3 _ _ := uM.fr Fr.alloc); (try have v1 : Nm 9 w3 _ _ := v1.fr Fr.alloc); clear_value w3
  refine ⟨_, m.ld 2 rfl rfl, ?_⟩
  refine ⟨_, m.ld 2 rfl rfl, ?_⟩
  refine ⟨_, m.ld 1 rfl rfl, ?_⟩
  refine ⟨_, m.ld 1 rfl rfl, ?_⟩
  refine both'_spec hn hd hn' hd' fun w8 hf => ?_; have m := m.fr hf
  refine cnd_iff.2 ⟨fun hc1 => ?_, fun hc1 => ?_⟩
  · refine rOf_spec fun w10 hf => ?_; have m := m.fr hf
    refine ⟨m.wr 0 rfl rfl, ?_⟩
    intro w12; have m : Mem w w12 _ := m.set 0 rfl; (try have u1 : Nt 8 w12 _ _ := u1.frN (Fr.set (F := fun c => c = w2.heap.size) rfl) (fun c hc e => by have h1 := bu1 c hc; have h2 := lts _ (List.mem_cons_self ..); simp only at h2; omega)); clear_value w12; simp only [List.set_cons_zero] at m
    refine ⟨m.wr 0 rfl rfl, ?_⟩
    intro w13; have m : Mem w w13 _ := m.set 0 rfl; (try have u1 : Nt 8 w13 _ _ := u1.frN (Fr.set (F := fun c => c = w2.heap.size) rfl) (fun c hc e => by have h1 := bu1 c hc; have h2 := lts _ (List.mem_cons_self ..); simp only at h2; omega)); clear_value w13; simp only [List.set_cons_zero, List.set_cons_succ] at m
    refine ⟨_, m.ld 0 rfl rfl, ?_⟩
    refine ⟨_, m.ld 0 rfl rfl, ?_⟩
    exact hbad (by intro hh; simp [hh.1, hh.2] at hc1) _ m.1
  · have hr : rightP n d ∧ rightP n' d' := by simpa using hc1
    have hd0 := hr.1.1
    have hd0' := hr.2.1
    refine ⟨_, m.ld 2 rfl rfl, ?_⟩
    refine ⟨_, m.ld 2 rfl rfl, ?_⟩
    refine ⟨_, m.ld 1 rfl rfl, ?_⟩
    refine ⟨_, m.ld 1 rfl rfl, ?_⟩
    refine tiny_spec fun w20 hf => ?_; have m := m.fr hf
    refine cnd_iff.2 ⟨fun hc2 => ?_, fun hc2 => ?_⟩
    · have ht := of_decide_eq_true hc2
      have p1 := sm_mul ht.1 ht.2.2.2
      have p2 := sm_mul ht.2.2.1 ht.2.1
      have p3 := sm_mul ht.2.1 ht.2.2.2
      have p4 : 0 < d * d' := Int.mul_pos hd0 hd0'
      refine ⟨_, m.ld 2 rfl rfl, ?_⟩
      refine ⟨_, m.ld 1 rfl rfl, ?_⟩
      refine ⟨inR64 (by omega) (by omega), ?_⟩
      refine ⟨_, m.ld 1 rfl rfl, ?_⟩
      refine ⟨_, m.ld 2 rfl rfl, ?_⟩
      refine ⟨inR64 (by omega) (by omega), ?_⟩
      refine ⟨inR64 (by omega) (by omega), ?_⟩
      refine ⟨_, m.ld 2 rfl rfl, ?_⟩
      refine ⟨_, m.ld 1 rfl rfl, ?_⟩
      refine ⟨inR64 (by omega) (by omega), ?_⟩
      refine quick_spec (by omega) (by omega) (by omega) fun w28 hf => ?_; have m := m.fr hf
      refine ⟨m.wr 0 rfl rfl, ?_⟩
      intro w30; have m : Mem w w30 _ := m.set 0 rfl; (try have u1 : Nt 8 w30 _ _ := u1.frN (Fr.set (F := fun c => c = w2.heap.size) rfl) (fun c hc e => by have h1 := bu1 c hc; have h2 := lts _ (List.mem_cons_self ..); simp only at h2; omega)); clear_value w30; simp only [List.set_cons_zero] at m
      refine ⟨m.wr 0 rfl rfl, ?_⟩
      intro w31; have m : Mem w w31 _ := m.set 0 rfl; (try have u1 : Nt 8 w31 _ _ := u1.frN (Fr.set (F := fun c => c = w2.heap.size) rfl) (fun c hc e => by have h1 := bu1 c hc; have h2 := lts _ (List.mem_cons_self ..); simp only at h2; omega)); clear_value w31; simp only [List.set_cons_zero, List.set_cons_succ] at m
      refine ⟨_, m.ld 0 rfl rfl, ?_⟩
      refine ⟨_, m.ld 0 rfl rfl, ?_⟩
      exact Kq (by omega) (by omega) (by omega) (hgood hr _ m.1)
    · intro w34; have m : Mem w w34 _ := m.drew; (try have u1 : Nt 8 w34 _ _ := u1.fr Fr.drew); (try have uM : Nt 8 w34 _ _ := uM.fr Fr.drew); (try have v1 : Nm 9 w34 _ _ := v1.fr Fr.drew); clear_value w34
      refine ⟨fun u => Rs u _, m.sub 0 rfl, ?_⟩
      refine ⟨_, fun _ h => h.ld 1 rfl rfl, ?_⟩
      refine ⟨_, fun _ h => h.ld 2 rfl rfl, ?_⟩
      refine ⟨?_, ?_⟩
      · refine rof_spec (by assumption) fun s1 w38 o1 hf => ?_; have m := m.fr hf; (try have o1 := o1.fr hf); (try have o2 := o2.fr hf); (try have o3 := o3.fr hf); (try have o4 := o4.fr hf); (try have o5 := o5.fr hf); (try have o6 := o6.fr hf); (try have u1 := u1.fr hf); (try have u2 := u2.fr hf); (try have u3 := u3.fr hf); (try have v1 := v1.fr hf)
        refine ⟨m.sub 0 rfl, ?_⟩
        refine ⟨?_, ?_⟩
        · refine rof_spec (by assumption) fun s2 w40 o2 hf => ?_; have m := m.fr hf; (try have o1 := o1.fr hf); (try have o2 := o2.fr hf); (try have o3 := o3.fr hf); (try have o4 := o4.fr hf); (try have o5 := o5.fr hf); (try have o6 := o6.fr hf); (try have u1 := u1.fr hf); (try have u2 := u2.fr hf); (try have u3 := u3.fr hf); (try have v1 := v1.fr hf)
          refine ⟨m.sub 0 rfl, ?_⟩
          refine ⟨?_, ?_⟩
          · have lts := fun p (hp : p ∈ _) => Mem_lt m (p := p) hp; refine mul_spec o1.nm o2.nm (by decide) (by decide) fun su1 w42 u1 hf bu1 => ?_; have m := m.fr hf; (try have o1 := o1.fr hf); (try have o2 := o2.fr hf); (try have o3 := o3.fr hf); (try have o4 := o4.fr hf); (try have o5 := o5.fr hf); (try have o6 := o6.fr hf); (try have u1 := u1.fr hf); (try have u2 := u2.fr hf); (try have u3 := u3.fr hf); (try have v1 := v1.fr hf)
            refine ⟨m.sub 0 rfl, ?_⟩
            intro w44; have m : Mem w w44 _ := m.allocL; (try have o1 : Nt 4 w44 _ _ := o1.fr Fr.alloc); (try have o2 : Nt 4 w44 _ _ := o2.fr Fr.alloc); (try have u1 : Nt 8 w44 _ _ := u1.fr Fr.alloc); (try have u2 : Nt 8 w44 _ _ := u2.fr Fr.alloc); (try have uM : Nt 8 w44 _ _ := uM.fr Fr.alloc); (try have v1 : Nm 9 w44 _ _ := v1.fr Fr.alloc); clear_value w44
            refine ⟨m.sub 1 rfl, ?_⟩
            refine ⟨m.wr 0 rfl rfl, ?_⟩
            intro w45; have m : Mem w w45 _ := m.set 0 rfl; (try have u1 : Nt 8 w45 _ _ := u1.frN (Fr.set (F := fun c => c = w42.heap.size) rfl) (fun c hc e => by have h1 := bu1 c hc; have h2 := lts _ (List.mem_cons_self ..); simp only at h2; omega)); clear_value w45; simp only [List.set_cons_zero] at m
            refine ⟨m.wr 0 rfl rfl, ?_⟩
            intro w46; have m : Mem w w46 _ := m.set 0 rfl; (try have u1 : Nt 8 w46 _ _ := u1.frN (Fr.set (F := fun c => c = w42.heap.size) rfl) (fun c hc e => by have h1 := bu1 c hc; have h2 := lts _ (List.mem_cons_self ..); simp only at h2; omega)); clear_value w46; simp only [List.set_cons_zero, List.set_cons_succ] at m
            exact Sub_k0 hn hd hn' hd' hd0 hd0' m u1 (fun c hc e => by have h1 := bu1 c hc; have h2 := lts _ (List.mem_cons_self ..); simp only at h2; omega) (hgood hr)
          · intro w47; have m : Mem w w47 _ := m.allocL; (try have o1 : Nt 4 w47 _ _ := o1.fr Fr.alloc); (try have o2 : Nt 4 w47 _ _ := o2.fr Fr.alloc); (try have u1 : Nt 8 w47 _ _ := u1.fr Fr.alloc); (try have u2 : Nt 8 w47 _ _ := u2.fr Fr.alloc); (try have uM : Nt 8 w47 _ _ := uM.fr Fr.alloc); (try have v1 : Nm 9 w47 _ _ := v1.fr Fr.alloc); clear_value w47
            refine ⟨m.sub 1 rfl, ?_⟩
            have lts := fun p (hp : p ∈ _) => Mem_lt m (p := p) hp; refine mul_spec o1.nm o2.nm (by decide) (by decide) fun su1 w48 u1 hf bu1 => ?_; have m := m.fr hf; (try have o1 := o1.fr hf); (try have o2 := o2.fr hf); (try have o3 := o3.fr hf); (try have o4 := o4.fr hf); (try have o5 := o5.fr hf); (try have o6 := o6.fr hf); (try have u1 := u1.fr hf); (try have u2 := u2.fr hf); (try have u3 := u3.fr hf); (try have v1 := v1.fr hf)
            refine ⟨m.sub 1 rfl, ?_⟩
            refine ⟨m.wr 0 rfl rfl, ?_⟩
            intro w50; have m : Mem w w50 _ := m.set 0 rfl; (try have u1 : Nt 8 w50 _ _ := u1.frN (Fr.set (F := fun c => c = w40.heap.size) rfl) (fun c hc e => by have h1 := bu1 c hc; have h2 := lts _ (List.mem_cons_self ..); simp only at h2; omega)); clear_value w50; simp only [List.set_cons_zero] at m
            refine ⟨m.wr 0 rfl rfl, ?_⟩
            intro w51; have m : Mem w w51 _ := m.set 0 rfl; (try have u1 : Nt 8 w51 _ _ := u1.frN (Fr.set (F := fun c => c = w40.heap.size) rfl) (fun c hc e => by have h1 := bu1 c hc; have h2 := lts _ (List.mem_cons_self ..); simp only at h2; omega)); clear_value w51; simp only [List.set_cons_zero, List.set_cons_succ] at m
            exact Sub_k0 hn hd hn' hd' hd0 hd0' m u1 (fun c hc e => by have h1 := bu1 c hc; have h2 := lts _ (List.mem_cons_self ..); simp only at h2; omega) (hgood hr)
        · intro w52; have m : Mem w w52 _ := m.allocL; (try have o1 : Nt 4 w52 _ _ := o1.fr Fr.alloc); (try have o2 : Nt 4 w52 _ _ := o2.fr Fr.alloc); (try have u1 : Nt 8 w52 _ _ := u1.fr Fr.alloc); (try have u2 : Nt 8 w52 _ _ := u2.fr Fr.alloc); (try have uM : Nt 8 w52 _ _ := uM.fr Fr.alloc); (try have v1 : Nm 9 w52 _ _ := v1.fr Fr.alloc); clear_value w52
          refine ⟨m.sub 1 rfl, ?_⟩
          refine rof_spec (by assumption) fun s2 w53 o2 hf => ?_; have m := m.fr hf; (try have o1 := o1.fr hf); (try have o2 := o2.fr hf); (try have o3 := o3.fr hf); (try have o4 := o4.fr hf); (try have o5 := o5.fr hf); (try have o6 := o6.fr hf); (try have u1 := u1.fr hf); (try have u2 := u2.fr hf); (try have u3 := u3.fr hf); (try have v1 := v1.fr hf)
          refine ⟨m.sub 1 rfl, ?_⟩
          have lts := fun p (hp : p ∈ _) => Mem_lt m (p := p) hp; refine mul_spec o1.nm o2.nm (by decide) (by decide) fun su1 w55 u1 hf bu1 => ?_; have m := m.fr hf; (try have o1 := o1.fr hf); (try have o2 := o2.fr hf); (try have o3 := o3.fr hf); (try have o4 := o4.fr hf); (try have o5 := o5.fr hf); (try have o6 := o6.fr hf); (try have u1 := u1.fr hf); (try have u2 := u2.fr hf); (try have u3 := u3.fr hf); (try have v1 := v1.fr hf)
          refine ⟨m.sub 1 rfl, ?_⟩
          refine ⟨m.wr 0 rfl rfl, ?_⟩
          intro w57; have m : Mem w w57 _ := m.set 0 rfl; (try have u1 : Nt 8 w57 _ _ := u1.frN (Fr.set (F := fun c => c = w38.heap.size) rfl) (fun c hc e => by have h1 := bu1 c hc; have h2 := lts _ (List.mem_cons_self ..); simp only at h2; omega)); clear_value w57; simp only [List.set_cons_zero] at m
          refine ⟨m.wr 0 rfl rfl, ?_⟩
          intro w58; have m : Mem w w58 _ := m.set 0 rfl; (try have u1 : Nt 8 w58 _ _ := u1.frN (Fr.set (F := fun c => c = w38.heap.size) rfl) (fun c hc e => by have h1 := bu1 c hc; have h2 := lts _ (List.mem_cons_self ..); simp only at h2; omega)); clear_value w58; simp only [List.set_cons_zero, List.set_cons_succ] at m
          exact Sub_k0 hn hd hn' hd' hd0 hd0' m u1 (fun c hc e => by have h1 := bu1 c hc; have h2 := lts _ (List.mem_cons_self ..); simp only at h2; omega) (hgood hr)
      · intro w59; have m : Mem w w59 _ := m.allocL; (try have o1 : Nt 4 w59 _ _ := o1.fr Fr.alloc); (try have o2 : Nt 4 w59 _ _ := o2.fr Fr.alloc); (try have u1 : Nt 8 w59 _ _ := u1.fr Fr.alloc); (try have u2 : Nt 8 w59 _ _ := u2.fr Fr.alloc); (try have uM : Nt 8 w59 _ _ := uM.fr Fr.alloc); (try have v1 : Nm 9 w59 _ _ := v1.fr Fr.alloc); clear_value w59
        refine ⟨m.sub 1 rfl, ?_⟩
        refine rof_spec (by assumption) fun s1 w60 o1 hf => ?_; have m := m.fr hf; (try have o1 := o1.fr hf); (try have o2 := o2.fr hf); (try have o3 := o3.fr hf); (try have o4 := o4.fr hf); (try have o5 := o5.fr hf); (try have o6 := o6.fr hf); (try have u1 := u1.fr hf); (try have u2 := u2.fr hf); (try have u3 := u3.fr hf); (try have v1 := v1.fr hf)
        refine ⟨m.sub 1 rfl, ?_⟩
        refine rof_spec (by assumption) fun s2 w62 o2 hf => ?_; have m := m.fr hf; (try have o1 := o1.fr hf); (try have o2 := o2.fr hf); (try have o3 := o3.fr hf); (try have o4 := o4.fr hf); (try have o5 := o5.fr hf); (try have o6 := o6.fr hf); (try have u1 := u1.fr hf); (try have u2 := u2.fr hf); (try have u3 := u3.fr hf); (try have v1 := v1.fr hf)
        refine ⟨m.sub 1 rfl, ?_⟩
        have lts := fun p (hp : p ∈ _) => Mem_lt m (p := p) hp; refine mul_spec o1.nm o2.nm (by decide) (by decide) fun su1 w64 u1 hf bu1 => ?_; have m := m.fr hf; (try have o1 := o1.fr hf); (try have o2 := o2.fr hf); (try have o3 := o3.fr hf); (try have o4 := o4.fr hf); (try have o5 := o5.fr hf); (try have o6 := o6.fr hf); (try have u1 := u1.fr hf); (try have u2 := u2.fr hf); (try have u3 := u3.fr hf); (try have v1 := v1.fr hf)
        refine ⟨m.sub 1 rfl, ?_⟩
        refine ⟨m.wr 0 rfl rfl, ?_⟩
        intro w66; have m : Mem w w66 _ := m.set 0 rfl; (try have u1 : Nt 8 w66 _ _ := u1.frN (Fr.set (F := fun c => c = w34.heap.size) rfl) (fun c hc e => by have h1 := bu1 c hc; have h2 := lts _ (List.mem_cons_self ..); simp only at h2; omega)); clear_value w66; simp only [List.set_cons_zero] at m
        refine ⟨m.wr 0 rfl rfl, ?_⟩
        intro w67; have m : Mem w w67 _ := m.set 0 rfl; (try have u1 : Nt 8 w67 _ _ := u1.frN (Fr.set (F := fun c => c = w34.heap.size) rfl) (fun c hc e => by have h1 := bu1 c hc; have h2 := lts _ (List.mem_cons_self ..); simp only at h2; omega)); clear_value w67; simp only [List.set_cons_zero, List.set_cons_succ] at m
        exact Sub_k0 hn hd hn' hd' hd0 hd0' m u1 (fun c hc e => by have h1 := bu1 c hc; have h2 := lts _ (List.mem_cons_self ..); simp only at h2; omega) (hgood hr)
end
end Go.Proofs.YtfclokkfnkieoaaGreatDoor

/- The reference's comparison of rational numbers. Conditions: none. -/
namespace Go.Proofs.YtfclokkfnkieoaaGreatDoor
open Go Pw

section
variable {w w' w0 : World}

theorem Cmp_k1 {x y : Int} {v : Nat} {e : Bool} {bd : Nat} {l : List (Nat × List Value)} {s : Sl} {K : Int → World → Prop} (hv : sgn e v = x - y) (m : Mem w0 w ((bd, [.bool e, .slice s.p s.l s.c]) :: l)) (v1 : Nm 9 w s v) (_ : ∀ c, inB s c → ¬ c = bd)
    (hK : ∀ w', Fr F0 w0 w' → K (cmpI x y) w') : probityref01_Cmp_k1 ⟨bd, 0, none⟩ K w := by
  refine ⟨?_⟩
  unfold probityref01_Cmp_k1d
  refine ⟨s, m.ld 0 rfl rfl, trim_spec v1 (by decide) fun st h1 _ => ?_⟩
  have hz := h1.zero
  have := hK w m.1
  rw [cnd_beq]
  constructor
  · intro h0
    have hv0 : v = 0 := hz.1 (by omega)
    subst hv0
    have : x = y := by cases e <;> simp [sgn] at hv <;> omega
    rw [cmpI_eq this] at *
    assumption
  · intro h0
    have hv0 : v ≠ 0 := fun h => h0 (by rw [hz.2 h]; rfl)
    refine ⟨e, m.ld 0 rfl rfl, ?_⟩
    cases e
    · rw [cnd_false]
      have : y < x := by simp [sgn] at hv; omega
      rw [cmpI_gt this] at *
      assumption
    · rw [cnd_true]
      have : x < y := by simp [sgn] at hv; omega
      rw [cmpI_lt this] at *
      assumption

theorem Cmp_k0 {n d n' d' : Int} {bm bb ba : Nat} {s : Sl} {K : Int → World → Prop} (hn : I64 n) (_ : I64 d) (_ : I64 n') (hd' : I64 d')
    (m : Mem w0 w [(bm, [.bool (decide (n' < 0) != decide (d < 0)), .slice s.p s.l s.c]), (bb, [.int .i64 n', .int .i64 d']), (ba, [.int .i64 n, .int .i64 d])])
    (uM : Nt 8 w s (n'.natAbs * d.natAbs)) (bd : ∀ c, inB s c → ¬ c = bm)
    (hK : ∀ w', Fr F0 w0 w' → K (cmpI (n * d') (n' * d)) w') :
    probityref01_Cmp_k0 ⟨ba, 0, none⟩ ⟨bb, 0, none⟩ ⟨bm, 0, none⟩ K w := by
  refine ⟨?_⟩
  unfold probityref01_Cmp_k0d
  refine ⟨_, m.ld 0 rfl rfl, ?_⟩
  refine ⟨m.wr 0 rfl rfl, ?_⟩
  intro w44; have m : Mem w0 w44 _ := m.set 0 rfl; (try have uM : Nt 8 w44 _ _ := uM.frN (Fr.set (F := fun c => c = bm) rfl) bd); (try have v1 : Nm 9 w44 _ _ := v1.frN (Fr.set (F := fun c => c = bm) rfl) (fun c hc e => by have h1 := bv1 c hc; have h2 := ltv _ (List.mem_cons_self ..); simp only at h2; omega)); clear_value w44; simp only [List.set_cons_zero] at m
  intro w45; have m : Mem w0 w45 _ := m.drew; (try have u1 : Nt 8 w45 _ _ := u1.fr Fr.drew); (try have uM : Nt 8 w45 _ _ := uM.fr Fr.drew); (try have v1 : Nm 9 w45 _ _ := v1.fr Fr.drew); clear_value w45
  refine ⟨fun u => Rs u _, m.sub 0 rfl, ?_⟩
  refine ⟨_, fun _ h => h.ld 2 rfl rfl, ?_⟩
  refine ⟨_, fun _ h => h.ld 1 rfl rfl, ?_⟩
  refine ⟨_, fun _ h => h.ld 0 rfl rfl, ?_⟩
  refine ⟨_, fun _ h => h.ld 0 rfl rfl, ?_⟩
  refine ⟨?_, ?_⟩
  · refine rof_spec (by assumption) fun s1 w51 o1 hf => ?_; have m := m.fr hf; (try have o1 := o1.fr hf); (try have o2 := o2.fr hf); (try have o3 := o3.fr hf); (try have o4 := o4.fr hf); (try have o5 := o5.fr hf); (try have o6 := o6.fr hf); (try have u1 := u1.fr hf); (try have u2 := u2.fr hf); (try have u3 := u3.fr hf); (try have v1 := v1.fr hf); (try have uM := uM.fr hf)
    refine ⟨m.sub 0 rfl, ?_⟩
    refine ⟨?_, ?_⟩
    · refine rof_spec (by assumption) fun s2 w53 o2 hf => ?_; have m := m.fr hf; (try have o1 := o1.fr hf); (try have o2 := o2.fr hf); (try have o3 := o3.fr hf); (try have o4 := o4.fr hf); (try have o5 := o5.fr hf); (try have o6 := o6.fr hf); (try have u1 := u1.fr hf); (try have u2 := u2.fr hf); (try have u3 := u3.fr hf); (try have v1 := v1.fr hf); (try have uM := uM.fr hf)
      refine ⟨m.sub 0 rfl, ?_⟩
      refine ⟨?_, ?_⟩
      · have lts := fun p (hp : p ∈ _) => Mem_lt m (p := p) hp; refine mul_spec o1.nm o2.nm (by decide) (by decide) fun su1 w55 u1 hf bu1 => ?_; have m := m.fr hf; (try have o1 := o1.fr hf); (try have o2 := o2.fr hf); (try have o3 := o3.fr hf); (try have o4 := o4.fr hf); (try have o5 := o5.fr hf); (try have o6 := o6.fr hf); (try have u1 := u1.fr hf); (try have u2 := u2.fr hf); (try have u3 := u3.fr hf); (try have v1 := v1.fr hf); (try have uM := uM.fr hf)
        refine ⟨m.sub 0 rfl, ?_⟩
        refine ⟨?_, ?_⟩
        · have ltv := fun p (hp : p ∈ _) => Mem_lt m (p := p) hp; refine add_spec u1.nm uM.nm (by decide) fun sv1 w57 v1 hf bv1 => ?_; have m := m.fr hf; (try have o1 := o1.fr hf); (try have o2 := o2.fr hf); (try have o3 := o3.fr hf); (try have o4 := o4.fr hf); (try have o5 := o5.fr hf); (try have o6 := o6.fr hf); (try have u1 := u1.fr hf); (try have u2 := u2.fr hf); (try have u3 := u3.fr hf); (try have v1 := v1.fr hf); (try have uM := uM.fr hf)
          refine ⟨m.sub 0 rfl, ?_⟩
          intro w59; have m : Mem w0 w59 _ := m.allocL; (try have o1 : Nt 4 w59 _ _ := o1.fr Fr.alloc); (try have o2 : Nt 4 w59 _ _ := o2.fr Fr.alloc); (try have u1 : Nt 8 w59 _ _ := u1.fr Fr.alloc); (try have u2 : Nt 8 w59 _ _ := u2.fr Fr.alloc); (try have uM : Nt 8 w59 _ _ := uM.fr Fr.alloc); (try have v1 : Nm 9 w59 _ _ := v1.fr Fr.alloc); clear_value w59
          refine ⟨m.sub 1 rfl, ?_⟩
          refine ⟨m.wr 0 rfl rfl, ?_⟩
          intro w60; have m : Mem w0 w60 _ := m.set 0 rfl; (try have uM : Nt 8 w60 _ _ := uM.frN (Fr.set (F := fun c => c = bm) rfl) bd); (try have v1 : Nm 9 w60 _ _ := v1.frN (Fr.set (F := fun c => c = w57.heap.size) rfl) (fun c hc e => by have h1 := bv1 c hc; have h2 := ltv _ (List.mem_cons_self ..); simp only at h2; omega)); clear_value w60; simp only [List.set_cons_zero] at m
          refine ⟨m.wr 0 rfl rfl, ?_⟩
          intro w61; have m : Mem w0 w61 _ := m.set 0 rfl; (try have uM : Nt 8 w61 _ _ := uM.frN (Fr.set (F := fun c => c = bm) rfl) bd); (try have v1 : Nm 9 w61 _ _ := v1.frN (Fr.set (F := fun c => c = w57.heap.size) rfl) (fun c hc e => by have h1 := bv1 c hc; have h2 := ltv _ (List.mem_cons_self ..); simp only at h2; omega)); clear_value w61; simp only [List.set_cons_zero, List.set_cons_succ] at m
          exact Cmp_k1 (sub_num n d n' d') m v1 (fun c hc e => by have h1 := bv1 c hc; have h2 := ltv _ (List.mem_cons_self ..); simp only at h2; omega) hK
        · intro w62; have m : Mem w0 w62 _ := m.allocL; (try have o1 : Nt 4 w62 _ _ := o1.fr Fr.alloc); (try have o2 : Nt 4 w62 _ _ := o2.fr Fr.alloc); (try have u1 : Nt 8 w62 _ _ := u1.fr Fr.alloc); (try have u2 : Nt 8 w62 _ _ := u2.fr Fr.alloc); (try have uM : Nt 8 w62 _ _ := uM.fr Fr.alloc); (try have v1 : Nm 9 w62 _ _ := v1.fr Fr.alloc); clear_value w62
          refine ⟨m.sub 1 rfl, ?_⟩
          have ltv := fun p (hp : p ∈ _) => Mem_lt m (p := p) hp; refine add_spec u1.nm uM.nm (by decide) fun sv1 w63 v1 hf bv1 => ?_; have m := m.fr hf; (try have o1 := o1.fr hf); (try have o2 := o2.fr hf); (try have o3 := o3.fr hf); (try have o4 := o4.fr hf); (try have o5 := o5.fr hf); (try have o6 := o6.fr hf); (try have u1 := u1.fr hf); (try have u2 := u2.fr hf); (try have u3 := u3.fr hf); (try have v1 := v1.fr hf); (try have uM := uM.fr hf)
          refine ⟨m.sub 1 rfl, ?_⟩
          refine ⟨m.wr 0 rfl rfl, ?_⟩
          intro w65; have m : Mem w0 w65 _ := m.set 0 rfl; (try have uM : Nt 8 w65 _ _ := uM.frN (Fr.set (F := fun c => c = bm) rfl) bd); (try have v1 : Nm 9 w65 _ _ := v1.frN (Fr.set (F := fun c => c = w55.heap.size) rfl) (fun c hc e => by have h1 := bv1 c hc; have h2 := ltv _ (List.mem_cons_self ..); simp only at h2; omega)); clear_value w65; simp only [List.set_cons_zero] at m
          refine ⟨m.wr 0 rfl rfl, ?_⟩
          intro w66; have m : Mem w0 w66 _ := m.set 0 rfl; (try have uM : Nt 8 w66 _ _ := uM.frN (Fr.set (F := fun c => c = bm) rfl) bd); (try have v1 : Nm 9 w66 _ _ := v1.frN (Fr.set (F := fun c => c = w55.heap.size) rfl) (fun c hc e => by have h1 := bv1 c hc; have h2 := ltv _ (List.mem_cons_self ..); simp only at h2; omega)); clear_value w66; simp only [List.set_cons_zero, List.set_cons_succ] at m
          exact Cmp_k1 (sub_num n d n' d') m v1 (fun c hc e => by have h1 := bv1 c hc; have h2 := ltv _ (List.mem_cons_self ..); simp only at h2; omega) hK
      · intro w67; have m : Mem w0 w67 _ := m.allocL; (try have o1 : Nt 4 w67 _ _ := o1.fr Fr.alloc); (try have o2 : Nt 4 w67 _ _ := o2.fr Fr.alloc); (try have u1 : Nt 8 w67 _ _ := u1.fr Fr.alloc); (try have u2 : Nt 8 w67 _ _ := u2.fr Fr.alloc); (try have uM : Nt 8 w67 _ _ := uM.fr Fr.alloc); (try have v1 : Nm 9 w67 _ _ := v1.fr Fr.alloc); clear_value w67
        refine ⟨m.sub 1 rfl, ?_⟩
        have lts := fun p (hp : p ∈ _) => Mem_lt m (p := p) hp; refine mul_spec o1.nm o2.nm (by decide) (by decide) fun su1 w68 u1 hf bu1 => ?_; have m := m.fr hf; (try have o1 := o1.fr hf); (try have o2 := o2.fr hf); (try have o3 := o3.fr hf); (try have o4 := o4.fr hf); (try have o5 := o5.fr hf); (try have o6 := o6.fr hf); (try have u1 := u1.fr hf); (try have u2 := u2.fr hf); (try have u3 := u3.fr hf); (try have v1 := v1.fr hf); (try have uM := uM.fr hf)
        refine ⟨m.sub 1 rfl, ?_⟩
        have ltv := fun p (hp : p ∈ _) => Mem_lt m (p := p) hp; refine add_spec u1.nm uM.nm (by decide) fun sv1 w70 v1 hf bv1 => ?_; have m := m.fr hf; (try have o1 := o1.fr hf); (try have o2 := o2.fr hf); (try have o3 := o3.fr hf); (try have o4 := o4.fr hf); (try have o5 := o5.fr hf); (try have o6 := o6.fr hf); (try have u1 := u1.fr hf); (try have u2 := u2.fr hf); (try have u3 := u3.fr hf); (try have v1 := v1.fr hf); (try have uM := uM.fr hf)
        refine ⟨m.sub 1 rfl, ?_⟩
        refine ⟨m.wr 0 rfl rfl, ?_⟩
        intro w72; have m : Mem w0 w72 _ := m.set 0 rfl; (try have uM : Nt 8 w72 _ _ := uM.frN (Fr.set (F := fun c => c = bm) rfl) bd); (try have v1 : Nm 9 w72 _ _ := v1.frN (Fr.set (F := fun c => c = w53.heap.size) rfl) (fun c hc e => by have h1 := bv1 c hc; have h2 := ltv _ (List.mem_cons_self ..); simp only at h2; omega)); clear_value w72; simp only [List.set_cons_zero] at m
        refine ⟨m.wr 0 rfl rfl, ?_⟩
        intro w73; have m : Mem w0 w73 _ := m.set 0 rfl; (try have uM : Nt 8 w73 _ _ := uM.frN (Fr.set (F := fun c => c = bm) rfl) bd); (try have v1 : Nm 9 w73 _ _ := v1.frN (Fr.set (F := fun c => c = w53.heap.size) rfl) (fun c hc e => by have h1 := bv1 c hc; have h2 := ltv _ (List.mem_cons_self ..); simp only at h2; omega)); clear_value w73; simp only [List.set_cons_zero, List.set_cons_succ] at m
        exact Cmp_k1 (sub_num n d n' d') m v1 (fun c hc e => by have h1 := bv1 c hc; have h2 := ltv _ (List.mem_cons_self ..); simp only at h2; omega) hK
    · intro w74; have m : Mem w0 w74 _ := m.allocL; (try have o1 : Nt 4 w74 _ _ := o1.fr Fr.alloc); (try have o2 : Nt 4 w74 _ _ := o2.fr Fr.alloc); (try have u1 : Nt 8 w74 _ _ := u1.fr Fr.alloc); (try have u2 : Nt 8 w74 _ _ := u2.fr Fr.alloc); (try have uM : Nt 8 w74 _ _ := uM.fr Fr.alloc); (try have v1 : Nm 9 w74 _ _ := v1.fr Fr.alloc); clear_value w74
      refine ⟨m.sub 1 rfl, ?_⟩
      refine rof_spec (by assumption) fun s2 w75 o2 hf => ?_; have m := m.fr hf; (try have o1 := o1.fr hf); (try have o2 := o2.fr hf); (try have o3 := o3.fr hf); (try have o4 := o4.fr hf); (try have o5 := o5.fr hf); (try have o6 := o6.fr hf); (try have u1 := u1.fr hf); (try have u2 := u2.fr hf); (try have u3 := u3.fr hf); (try have v1 := v1.fr hf); (try have uM := uM.fr hf)
      refine ⟨m.sub 1 rfl, ?_⟩
      have lts := fun p (hp : p ∈ _) => Mem_lt m (p := p) hp; refine mul_spec o1.nm o2.nm (by decide) (by decide) fun su1 w77 u1 hf bu1 => ?_; have m := m.fr hf; (try have o1 := o1.fr hf); (try have o2 := o2.fr hf); (try have o3 := o3.fr hf); (try have o4 := o4.fr hf); (try have o5 := o5.fr hf); (try have o6 := o6.fr hf); (try have u1 := u1.fr hf); (try have u2 := u2.fr hf); (try have u3 := u3.fr hf); (try have v1 := v1.fr hf); (try have uM := uM.fr hf)
      refine ⟨m.sub 1 rfl, ?_⟩
      have ltv := fun p (hp : p ∈ _) => Mem_lt m (p := p) hp; refine add_spec u1.nm uM.nm (by decide) fun sv1 w79 v1 hf bv1 => ?_; have m := m.fr hf; (try have o1 := o1.fr hf); (try have o2 := o2.fr hf); (try have o3 := o3.fr hf); (try have o4 := o4.fr hf); (try have o5 := o5.fr hf); (try have o6 := o6.fr hf); (try have u1 := u1.fr hf); (try have u2 := u2.fr hf); (try have u3 := u3.fr hf); (try have v1 := v1.fr hf); (try have uM := uM.fr hf)
      refine ⟨m.sub 1 rfl, ?_⟩
      refine ⟨m.wr 0 rfl rfl, ?_⟩
      intro w81; have m : Mem w0 w81 _ := m.set 0 rfl; (try have uM : Nt 8 w81 _ _ := uM.frN (Fr.set (F := fun c => c = bm) rfl) bd); (try have v1 : Nm 9 w81 _ _ := v1.frN (Fr.set (F := fun c => c = w51.heap.size) rfl) (fun c hc e => by have h1 := bv1 c hc; have h2 := ltv _ (List.mem_cons_self ..); simp only at h2; omega)); clear_value w81; simp only [List.set_cons_zero] at m
      refine ⟨m.wr 0 rfl rfl, ?_⟩
      intro w82; have m : Mem w0 w82 _ := m.set 0 rfl; (try have uM : Nt 8 w82 _ _ := uM.frN (Fr.set (F := fun c => c = bm) rfl) bd); (try have v1 : Nm 9 w82 _ _ := v1.frN (Fr.set (F := fun c => c = w51.heap.size) rfl) (fun c hc e => by have h1 := bv1 c hc; have h2 := ltv _ (List.mem_cons_self ..); simp only at h2; omega)); clear_value w82; simp only [List.set_cons_zero, List.set_cons_succ] at m
      exact Cmp_k1 (sub_num n d n' d') m v1 (fun c hc e => by have h1 := bv1 c hc; have h2 := ltv _ (List.mem_cons_self ..); simp only at h2; omega) hK
  · intro w83; have m : Mem w0 w83 _ := m.allocL; (try have o1 : Nt 4 w83 _ _ := o1.fr Fr.alloc); (try have o2 : Nt 4 w83 _ _ := o2.fr Fr.alloc); (try have u1 : Nt 8 w83 _ _ := u1.fr Fr.alloc); (try have u2 : Nt 8 w83 _ _ := u2.fr Fr.alloc); (try have uM : Nt 8 w83 _ _ := uM.fr Fr.alloc); (try have v1 : Nm 9 w83 _ _ := v1.fr Fr.alloc); clear_value w83
    refine ⟨m.sub 1 rfl, ?_⟩
    refine rof_spec (by assumption) fun s1 w84 o1 hf => ?_; have m := m.fr hf; (try have o1 := o1.fr hf); (try have o2 := o2.fr hf); (try have o3 := o3.fr hf); (try have o4 := o4.fr hf); (try have o5 := o5.fr hf); (try have o6 := o6.fr hf); (try have u1 := u1.fr hf); (try have u2 := u2.fr hf); (try have u3 := u3.fr hf); (try have v1 := v1.fr hf); (try have uM := uM.fr hf)
    refine ⟨m.sub 1 rfl, ?_⟩
    refine rof_spec (by assumption) fun s2 w86 o2 hf => ?_; have m := m.fr hf; (try have o1 := o1.fr hf); (try have o2 := o2.fr hf); (try have o3 := o3.fr hf); (try have o4 := o4.fr hf); (try have o5 := o5.fr hf); (try have o6 := o6.fr hf); (try have u1 := u1.fr hf); (try have u2 := u2.fr hf); (try have u3 := u3.fr hf); (try have v1 := v1.fr hf); (try have uM := uM.fr hf)
    refine ⟨m.sub 1 rfl, ?_⟩
    have lts := fun p (hp : p ∈ _) => Mem_lt m (p := p) hp; refine mul_spec o1.nm o2.nm (by decide) (by decide) fun su1 w88 u1 hf bu1 => ?_; have m := m.fr hf; (try have o1 := o1.fr hf); (try have o2 := o2.fr hf); (try have o3 := o3.fr hf); (try have o4 := o4.fr hf); (try have o5 := o5.fr hf); (try have o6 := o6.fr hf); (try have u1 := u1.fr hf); (try have u2 := u2.fr hf); (try have u3 := u3.fr hf); (try have v1 := v1.fr hf); (try have uM := uM.fr hf)
    refine ⟨m.sub 1 rfl, ?_⟩
    have ltv := fun p (hp : p ∈ _) => Mem_lt m (p := p) hp; refine add_spec u1.nm uM.nm (by decide) fun sv1 w90 v1 hf bv1 => ?_; have m := m.fr hf; (try have o1 := o1.fr hf); (try have o2 := o2.fr hf); (try have o3 := o3.fr hf); (try have o4 := o4.fr hf); (try have o5 := o5.fr hf); (try have o6 := o6.fr hf); (try have u1 := u1.fr hf); (try have u2 := u2.fr hf); (try have u3 := u3.fr hf); (try have v1 := v1.fr hf); (try have uM := uM.fr hf)
    refine ⟨m.sub 1 rfl, ?_⟩
    refine ⟨m.wr 0 rfl rfl, ?_⟩
    intro w92; have m : Mem w0 w92 _ := m.set 0 rfl; (try have uM : Nt 8 w92 _ _ := uM.frN (Fr.set (F := fun c => c = bm) rfl) bd); (try have v1 : Nm 9 w92 _ _ := v1.frN (Fr.set (F := fun c => c = w45.heap.size) rfl) (fun c hc e => by have h1 := bv1 c hc; have h2 := ltv _ (List.mem_cons_self ..); simp only at h2; omega)); clear_value w92; simp only [List.set_cons_zero] at m
    refine ⟨m.wr 0 rfl rfl, ?_⟩
    intro w93; have m : Mem w0 w93 _ := m.set 0 rfl; (try have uM : Nt 8 w93 _ _ := uM.frN (Fr.set (F := fun c => c = bm) rfl) bd); (try have v1 : Nm 9 w93 _ _ := v1.frN (Fr.set (F := fun c => c = w45.heap.size) rfl) (fun c hc e => by have h1 := bv1 c hc; have h2 := ltv _ (List.mem_cons_self ..); simp only at h2; omega)); clear_value w93; simp only [List.set_cons_zero, List.set_cons_succ] at m
    exact Cmp_k1 (sub_num n d n' d') m v1 (fun c hc e => by have h1 := bv1 c hc; have h2 := ltv _ (List.mem_cons_self ..); simp only at h2; omega) hK

theorem rCmp_spec {n d n' d' : Int} {K : Int → World → Prop} (hn : I64 n) (hd : I64 d) (hn' : I64 n') (hd' : I64 d') (hK : ∀ w', Fr F0 w w' → K (cmpQ n d n' d') w') : probityref01_Cmp_sh n d n' d' K w := by
  have hbad : ¬ (rightP n d ∧ rightP n' d') → ∀ w', Fr F0 w w' → K 0 w' := fun h w' hf => by
    have := hK w' hf
    unfold cmpQ at this
    rw [if_neg h] at this
    exact this
  have hgood : rightP n d ∧ rightP n' d' → ∀ w', Fr F0 w w' → K (cmpI (n * d') (n' * d)) w' := fun h w' hf => by
    have := hK w' hf
    unfold cmpQ at this
    rw [if_pos h] at this
    exact this
  refine ⟨?_⟩
  unfold probityref01_Cmp_sd
  have m : Mem w w [] := Mem.nil
  intro w1; have m : Mem w w1 _ := m.allocL; (try have o1 : Nt 4 w1 _ _ := o1.fr Fr.alloc); (try have o2 : Nt 4 w1 _ _ := o2.fr Fr.alloc); (try have u1 : Nt 8 w1 _ _ := u1.fr Fr.alloc); (try have u2 : Nt 8 w1 _ _ := u2.fr Fr.alloc); (try have uM : Nt 8 w1 _ _ := uM.fr Fr.alloc); (try have v1 : Nm 9 w1 _ _ := v1.fr Fr.alloc); clear_value w1
  intro w2; have m : Mem w w2 _ := m.allocL; (try have o1 : Nt 4 w2 _ _ := o1.fr Fr.alloc); (try have o2 : Nt 4 w2 _ _ := o2.fr Fr.alloc); (try have u1 : Nt 8 w2 _ _ := u1.fr Fr.alloc); (try have u2 : Nt 8 w2 _ _ := u2.fr Fr.alloc); (try have uM : Nt 8 w2 _ _ := uM.fr Fr.alloc); (try have v1 : Nm 9 w2 _ _ := v1.fr Fr.alloc); clear_value w2
  refine ⟨_, m.ld 1 rfl rfl, ?_⟩
  refine ⟨_, m.ld 1 rfl rfl, ?_⟩
  refine ⟨_, m.ld 0 rfl rfl, ?_⟩
  refine ⟨_, m.ld 0 rfl rfl, ?_⟩
  refine both'_spec hn hd hn' hd' fun w7 hf => ?_; have m := m.fr hf
  refine cnd_iff.2 ⟨fun hc1 => ?_, fun hc1 => ?_⟩
  · exact hbad (by intro hh; simp [hh.1, hh.2] at hc1) _ m.1
  · have hr : rightP n d ∧ rightP n' d' := by simpa using hc1
    intro w9; have m : Mem w w9 _ := m.drew; (try have u1 : Nt 8 w9 _ _ := u1.fr Fr.drew); (try have uM : Nt 8 w9 _ _ := uM.fr Fr.drew); (try have v1 : Nm 9 w9 _ _ := v1.fr Fr.drew); clear_value w9
    refine ⟨fun u => Rs u _, m.sub 0 rfl, ?_⟩
    refine ⟨_, fun _ h => h.ld 0 rfl rfl, ?_⟩
    refine ⟨_, fun _ h => h.ld 1 rfl rfl, ?_⟩
    refine ⟨?_, ?_⟩
    · refine rof_spec (by assumption) fun s1 w13 o1 hf => ?_; have m := m.fr hf; (try have o1 := o1.fr hf); (try have o2 := o2.fr hf); (try have o3 := o3.fr hf); (try have o4 := o4.fr hf); (try have o5 := o5.fr hf); (try have o6 := o6.fr hf); (try have u1 := u1.fr hf); (try have u2 := u2.fr hf); (try have u3 := u3.fr hf); (try have v1 := v1.fr hf)
      refine ⟨m.sub 0 rfl, ?_⟩
      refine ⟨?_, ?_⟩
      · refine rof_spec (by assumption) fun s2 w15 o2 hf => ?_; have m := m.fr hf; (try have o1 := o1.fr hf); (try have o2 := o2.fr hf); (try have o3 := o3.fr hf); (try have o4 := o4.fr hf); (try have o5 := o5.fr hf); (try have o6 := o6.fr hf); (try have u1 := u1.fr hf); (try have u2 := u2.fr hf); (try have u3 := u3.fr hf); (try have v1 := v1.fr hf)
        refine ⟨m.sub 0 rfl, ?_⟩
        refine ⟨?_, ?_⟩
        · have lts := fun p (hp : p ∈ _) => Mem_lt m (p := p) hp; refine mul_spec o1.nm o2.nm (by decide) (by decide) fun su1 w17 u1 hf bu1 => ?_; have m := m.fr hf; (try have o1 := o1.fr hf); (try have o2 := o2.fr hf); (try have o3 := o3.fr hf); (try have o4 := o4.fr hf); (try have o5 := o5.fr hf); (try have o6 := o6.fr hf); (try have u1 := u1.fr hf); (try have u2 := u2.fr hf); (try have u3 := u3.fr hf); (try have v1 := v1.fr hf)
          refine ⟨m.sub 0 rfl, ?_⟩
          intro w19; have m : Mem w w19 _ := m.allocL; (try have o1 : Nt 4 w19 _ _ := o1.fr Fr.alloc); (try have o2 : Nt 4 w19 _ _ := o2.fr Fr.alloc); (try have u1 : Nt 8 w19 _ _ := u1.fr Fr.alloc); (try have u2 : Nt 8 w19 _ _ := u2.fr Fr.alloc); (try have uM : Nt 8 w19 _ _ := uM.fr Fr.alloc); (try have v1 : Nm 9 w19 _ _ := v1.fr Fr.alloc); clear_value w19
          refine ⟨m.sub 1 rfl, ?_⟩
          refine ⟨m.wr 0 rfl rfl, ?_⟩
          intro w20; have m : Mem w w20 _ := m.set 0 rfl; (try have u1 : Nt 8 w20 _ _ := u1.frN (Fr.set (F := fun c => c = w17.heap.size) rfl) (fun c hc e => by have h1 := bu1 c hc; have h2 := lts _ (List.mem_cons_self ..); simp only at h2; omega)); clear_value w20; simp only [List.set_cons_zero] at m
          refine ⟨m.wr 0 rfl rfl, ?_⟩
          intro w21; have m : Mem w w21 _ := m.set 0 rfl; (try have u1 : Nt 8 w21 _ _ := u1.frN (Fr.set (F := fun c => c = w17.heap.size) rfl) (fun c hc e => by have h1 := bu1 c hc; have h2 := lts _ (List.mem_cons_self ..); simp only at h2; omega)); clear_value w21; simp only [List.set_cons_zero, List.set_cons_succ] at m
          exact Cmp_k0 hn hd hn' hd' m u1 (fun c hc e => by have h1 := bu1 c hc; have h2 := lts _ (List.mem_cons_self ..); simp only at h2; omega) (hgood hr)
        · intro w22; have m : Mem w w22 _ := m.allocL; (try have o1 : Nt 4 w22 _ _ := o1.fr Fr.alloc); (try have o2 : Nt 4 w22 _ _ := o2.fr Fr.alloc); (try have u1 : Nt 8 w22 _ _ := u1.fr Fr.alloc); (try have u2 : Nt 8 w22 _ _ := u2.fr Fr.alloc); (try have uM : Nt 8 w22 _ _ := uM.fr Fr.alloc); (try have v1 : Nm 9 w22 _ _ := v1.fr Fr.alloc); clear_value w22
          refine ⟨m.sub 1 rfl, ?_⟩
          have lts := fun p (hp : p ∈ _) => Mem_lt m (p := p) hp; refine mul_spec o1.nm o2.nm (by decide) (by decide) fun su1 w23 u1 hf bu1 => ?_; have m := m.fr hf; (try have o1 := o1.fr hf); (try have o2 := o2.fr hf); (try have o3 := o3.fr hf); (try have o4 := o4.fr hf); (try have o5 := o5.fr hf); (try have o6 := o6.fr hf); (try have u1 := u1.fr hf); (try have u2 := u2.fr hf); (try have u3 := u3.fr hf); (try have v1 := v1.fr hf)
          refine ⟨m.sub 1 rfl, ?_⟩
          refine ⟨m.wr 0 rfl rfl, ?_⟩
          intro w25; have m : Mem w w25 _ := m.set 0 rfl; (try have u1 : Nt 8 w25 _ _ := u1.frN (Fr.set (F := fun c => c = w15.heap.size) rfl) (fun c hc e => by have h1 := bu1 c hc; have h2 := lts _ (List.mem_cons_self ..); simp only at h2; omega)); clear_value w25; simp only [List.set_cons_zero] at m
          refine ⟨m.wr 0 rfl rfl, ?_⟩
          intro w26; have m : Mem w w26 _ := m.set 0 rfl; (try have u1 : Nt 8 w26 _ _ := u1.frN (Fr.set (F := fun c => c = w15.heap.size) rfl) (fun c hc e => by have h1 := bu1 c hc; have h2 := lts _ (List.mem_cons_self ..); simp only at h2; omega)); clear_value w26; simp only [List.set_cons_zero, List.set_cons_succ] at m
          exact Cmp_k0 hn hd hn' hd' m u1 (fun c hc e => by have h1 := bu1 c hc; have h2 := lts _ (List.mem_cons_self ..); simp only at h2; omega) (hgood hr)
      · intro w27; have m : Mem w w27 _ := m.allocL; (try have o1 : Nt 4 w27 _ _ := o1.fr Fr.alloc); (try have o2 : Nt 4 w27 _ _ := o2.fr Fr.alloc); (try have u1 : Nt 8 w27 _ _ := u1.fr Fr.alloc); (try have u2 : Nt 8 w27 _ _ := u2.fr Fr.alloc); (try have uM : Nt 8 w27 _ _ := uM.fr Fr.alloc); (try have v1 : Nm 9 w27 _ _ := v1.fr Fr.alloc); clear_value w27
        refine ⟨m.sub 1 rfl, ?_⟩
        refine rof_spec (by assumption) fun s2 w28 o2 hf => ?_; have m := m.fr hf; (try have o1 := o1.fr hf); (try have o2 := o2.fr hf); (try have o3 := o3.fr hf); (try have o4 := o4.fr hf); (try have o5 := o5.fr hf); (try have o6 := o6.fr hf); (try have u1 := u1.fr hf); (try have u2 := u2.fr hf); (try have u3 := u3.fr hf); (try have v1 := v1.fr hf)
        refine ⟨m.sub 1 rfl, ?_⟩
        have lts := fun p (hp : p ∈ _) => Mem_lt m (p := p) hp; refine mul_spec o1.nm o2.nm (by decide) (by decide) fun su1 w30 u1 hf bu1 => ?_; have m := m.fr hf; (try have o1 := o1.fr hf); (try have o2 := o2.fr hf); (try have o3 := o3.fr hf); (try have o4 := o4.fr hf); (try have o5 := o5.fr hf); (try have o6 := o6.fr hf); (try have u1 := u1.fr hf); (try have u2 := u2.fr hf); (try have u3 := u3.fr hf); (try have v1 := v1.fr hf)
        refine ⟨m.sub 1 rfl, ?_⟩
        refine ⟨m.wr 0 rfl rfl, ?_⟩
        intro w32; have m : Mem w w32 _ := m.set 0 rfl; (try have u1 : Nt 8 w32 _ _ := u1.frN (Fr.set (F := fun c => c = w13.heap.size) rfl) (fun c hc e => by have h1 := bu1 c hc; have h2 := lts _ (List.mem_cons_self ..); simp only at h2; omega)); clear_value w32; simp only [List.set_cons_zero] at m
        refine ⟨m.wr 0 rfl rfl, ?_⟩
        intro w33; have m : Mem w w33 _ := m.set 0 rfl; (try have u1 : Nt 8 w33 _ _ := u1.frN (Fr.set (F := fun c => c = w13.heap.size) rfl) (fun c hc e => by have h1 := bu1 c hc; have h2 := lts _ (List.mem_cons_self ..); simp only at h2; omega)); clear_value w33; simp only [List.set_cons_zero, List.set_cons_succ] at m
        exact Cmp_k0 hn hd hn' hd' m u1 (fun c hc e => by have h1 := bu1 c hc; have h2 := lts _ (List.mem_cons_self ..); simp only at h2; omega) (hgood hr)
    · intro w34; have m : Mem w w34 _ := m.allocL; (try have o1 : Nt 4 w34 _ _ := o1.fr Fr.alloc); (try have o2 : Nt 4 w34 _ _ := o2.fr Fr.alloc); (try have u1 : Nt 8 w34 _ _ := u1.fr Fr.alloc); (try have u2 : Nt 8 w34 _ _ := u2.fr Fr.alloc); (try have uM : Nt 8 w34 _ _ := uM.fr Fr.alloc); (try have v1 : Nm 9 w34 _ _ := v1.fr Fr.alloc); clear_value w34
      refine ⟨m.sub 1 rfl, ?_⟩
      refine rof_spec (by assumption) fun s1 w35 o1 hf => ?_; have m := m.fr hf; (try have o1 := o1.fr hf); (try have o2 := o2.fr hf); (try have o3 := o3.fr hf); (try have o4 := o4.fr hf); (try have o5 := o5.fr hf); (try have o6 := o6.fr hf); (try have u1 := u1.fr hf); (try have u2 := u2.fr hf); (try have u3 := u3.fr hf); (try have v1 := v1.fr hf)
      refine ⟨m.sub 1 rfl, ?_⟩
      refine rof_spec (by assumption) fun s2 w37 o2 hf => ?_; have m := m.fr hf; (try have o1 := o1.fr hf); (try have o2 := o2.fr hf); (try have o3 := o3.fr hf); (try have o4 := o4.fr hf); (try have o5 := o5.fr hf); (try have o6 := o6.fr hf); (try have u1 := u1.fr hf); (try have u2 := u2.fr hf); (try have u3 := u3.fr hf); (try have v1 := v1.fr hf)
      refine ⟨m.sub 1 rfl, ?_⟩
      have lts := fun p (hp : p ∈ _) => Mem_lt m (p := p) hp; refine mul_spec o1.nm o2.nm (by decide) (by decide) fun su1 w39 u1 hf bu1 => ?_; have m := m.fr hf; (try have o1 := o1.fr hf); (try have o2 := o2.fr hf); (try have o3 := o3.fr hf); (try have o4 := o4.fr hf); (try have o5 := o5.fr hf); (try have o6 := o6.fr hf); (try have u1 := u1.fr hf); (try have u2 := u2.fr hf); (try have u3 := u3.fr hf); (try have v1 := v1.fr hf)
      refine ⟨m.sub 1 rfl, ?_⟩
      refine ⟨m.wr 0 rfl rfl, ?_⟩
      intro w41; have m : Mem w w41 _ := m.set 0 rfl; (try have u1 : Nt 8 w41 _ _ := u1.frN (Fr.set (F := fun c => c = w9.heap.size) rfl) (fun c hc e => by have h1 := bu1 c hc; have h2 := lts _ (List.mem_cons_self ..); simp only at h2; omega)); clear_value w41; simp only [List.set_cons_zero] at m
      refine ⟨m.wr 0 rfl rfl, ?_⟩
      intro w42; have m : Mem w w42 _ := m.set 0 rfl; (try have u1 : Nt 8 w42 _ _ := u1.frN (Fr.set (F := fun c => c = w9.heap.size) rfl) (fun c hc e => by have h1 := bu1 c hc; have h2 := lts _ (List.mem_cons_self ..); simp only at h2; omega)); clear_value w42; simp only [List.set_cons_zero, List.set_cons_succ] at m
      exact Cmp_k0 hn hd hn' hd' m u1 (fun c hc e => by have h1 := bu1 c hc; have h2 := lts _ (List.mem_cons_self ..); simp only at h2; omega) (hgood hr)
end
end Go.Proofs.YtfclokkfnkieoaaGreatDoor

/- The reference's floors and texts of rational numbers. Conditions: none. -/
namespace Go.Proofs.YtfclokkfnkieoaaGreatDoor
open Go Pw

theorem dec_len : ∀ (k u : Nat), u < 10 ^ (k + 1) → (Lib.decDigits u).length ≤ k + 1 := by
  intro k
  induction k with
  | zero =>
    intro u hu
    rw [Lib.decDigits, dif_pos (by simpa using hu)]
    simp
  | succ k ih =>
    intro u hu
    rw [Lib.decDigits]
    split
    · simp
    · have := ih (u / 10) (by rw [Nat.pow_succ] at hu; omega)
      simp only [List.length_append, List.length_singleton]
      omega

theorem itoa_20 {n : Int} (h : I64 n) : (Lib.itoa n).length ≤ 20 := by
  unfold Lib.itoa
  have h1 := h.1
  have h2 := h.2
  split
  · have := dec_len 18 n.natAbs (by omega)
    simp only [List.length_cons]
    omega
  · have := dec_len 18 n.toNat (by omega)
    omega

section
variable {w w' w0 : World}

theorem rFloor_spec {n d : Int} {K : Int → World → Prop} (hn : I64 n) (hd : I64 d) (hK : ∀ w', Fr F0 w w' → K (floorQ n d) w') : probityref01_Floor_sh n d K w := by
  unfold floorQ at hK
  refine ⟨?_⟩
  unfold probityref01_Floor_sd
  intro w1
  have m : Mem w w1 _ := Mem.nil.alloc
  clear_value w1
  refine ⟨_, m.ld 0 rfl rfl, _, m.ld 0 rfl rfl, rRight_spec hn hd fun w2 hf => ?_⟩
  have m : Mem w w2 _ := m.fr hf
  by_cases h : rightP n d
  · rw [if_pos h] at hK
    rw [decide_eq_true h, Bool.not_true, cnd_false]
    have hpos := h.1
    have hb1 : n / d ≤ 9223372036854775807 ∧ -9223372036854775808 ≤ n / d := by
      have a1 := hn.1
      have a2 := hn.2
      constructor
      · rcases Int.lt_or_le n 0 with hh | hh
        · have := Int.ediv_neg_of_neg_of_pos hh hpos; omega
        · have := Int.ediv_le_self d hh; omega
      · rw [Int.le_ediv_iff_mul_le hpos]
        have : -9223372036854775808 * d ≤ -9223372036854775808 * 1 := Int.mul_le_mul_of_nonpos_left (by omega) (by omega)
        omega
    obtain ⟨f1, f2⟩ := floor_code (n := n) hpos
    have hq : I64 (Int.tdiv n d) := by
      by_cases hr : Int.tmod n d < 0
      · have h1 := f1 hr
        have h2 : n < 0 := by
          rcases Int.lt_or_le n 0 with hh | hh
          · exact hh
          · have := Int.tmod_nonneg d hh
            omega
        have h3 := Int.ediv_neg_of_neg_of_pos h2 hpos
        unfold I64
        omega
      · have h1 := f2 hr
        unfold I64
        omega
    refine ⟨_, m.ld 0 rfl rfl, _, m.ld 0 rfl rfl, by omega, inR64 hq.1 hq.2, _, m.ld 0 rfl rfl, _, m.ld 0 rfl rfl, by omega, ?_⟩
    rw [cnd_prop]
    constructor
    · intro hr
      rw [f1 hr]
      exact ⟨inR64 (by omega) (by omega), hK w2 m.1⟩
    · intro hr
      rw [f2 hr]
      exact hK w2 m.1
  · rw [if_neg h] at hK
    rw [decide_eq_false h, Bool.not_false, cnd_true]
    exact hK w2 m.1

theorem nat_decimal (u : Nat) : u < 9223372036854775809 → ∀ {w : World} {K : ByteArray → World → Prop}, u < 9223372036854775808 → (∀ w', Fr F0 w w' → K (ofL (Lib.decDigits u)) w') → probityref01_decimal_sh u K w := by
  induction u using Nat.strongRecOn with
  | ind u ih =>
    intro _ w K hu hK
    refine probityref01_decimal_mk _ ?_
    unfold probityref01_decimal_sd
    rw [decide_eq_false (by omega), cnd_false]
    refine ⟨?_⟩
    unfold probityref01_decimal_k0d
    rw [decide_eq_false (by omega), cnd_false, cnd_prop]
    constructor
    · intro h
      refine ⟨inR64 (by omega) (by omega), (show IntKind.wrap .u8 _ = _ by simp [IntKind.wrap, IntKind.bits, IntKind.signed]; omega), ?_⟩
      intro w7
      have e : Value.int .u8 (48 + (u : Int)) = bv (UInt8.ofNat (48 + u)) := by
        unfold bv
        rw [digit_nat (by omega)]
        rfl
      have m : Mem w w7 [(w.heap.size, [Value.int .u8 (48 + (u : Int))])] := Mem.nil.allocL
      rw [e] at m
      clear_value w7
      have e2 : Lib.decDigits u = [UInt8.ofNat (48 + u)] := by rw [Lib.decDigits, dif_pos (by omega)]
      refine btsS_rd (l := [UInt8.ofNat (48 + u)]) ⟨rfl, fun i hi => ?_⟩ ?_
      · have : i = 0 := by simp at hi; omega
        subst this
        exact m.ld 0 rfl rfl
      · rw [← e2]
        exact hK w7 m.1
    · intro h
      have e1 : Int.tdiv (u : Int) 10 = ((u / 10 : Nat) : Int) := rfl
      have e2 : Int.tmod (u : Int) 10 = ((u % 10 : Nat) : Int) := rfl
      have e3 : Lib.decDigits (u % 10) = [UInt8.ofNat (48 + u % 10)] := by rw [Lib.decDigits, dif_pos (by omega)]
      have e4 : Lib.decDigits u = Lib.decDigits (u / 10) ++ [UInt8.ofNat (48 + u % 10)] := by rw [Lib.decDigits, dif_neg (by omega)]
      rw [e1, e2]
      refine ⟨by decide, inR64 (by omega) (by omega), ih (u / 10) (by omega) (by omega) (by omega) fun w2 hf2 => ?_⟩
      refine ⟨by decide, ih (u % 10) (by omega) (by omega) (by omega) fun w3 hf3 => ?_⟩
      have hl := dec_len 18 (u / 10) (by omega)
      refine ⟨?_, ?_⟩
      · rw [ofL_size, ofL_size, e3]
        unfold maxI
        simp only [List.length_singleton]
        omega
      · have := hK w3 (Fr0.t hf2 hf3)
        rw [e4, ← e3] at this
        rw [show ofL (Lib.decDigits (u / 10)) ++ ofL (Lib.decDigits (u % 10)) = ofL (Lib.decDigits (u / 10) ++ Lib.decDigits (u % 10)) from bl_inj (by rw [bl_append, bl_ofL, bl_ofL, bl_ofL])]
        exact this

theorem neg_decimal (u : Nat) : 0 < u → u ≤ 9223372036854775808 → ∀ {w : World} {K : ByteArray → World → Prop}, (∀ w', Fr F0 w w' → K (ofL (45 :: Lib.decDigits u)) w') → probityref01_decimal_sh (-(u : Int)) K w := by
  induction u using Nat.strongRecOn with
  | ind u ih =>
    intro h0 hu w K hK
    refine probityref01_decimal_mk _ ?_
    unfold probityref01_decimal_sd
    rw [decide_eq_true (by omega), cnd_true, cnd_prop]
    constructor
    · intro h
      rw [Int.neg_neg]
      have hl := dec_len 0 u (by omega)
      refine ⟨inR64 (by omega) (by omega), nat_decimal u (by omega) (by omega) fun w2 hf2 => ⟨?_, ?_⟩⟩
      · rw [ofL_size, show (str [45]).size = 1 by decide]
        unfold maxI
        omega
      · rw [show str [45] ++ ofL (Lib.decDigits u) = ofL (45 :: Lib.decDigits u) from bl_inj (by rw [bl_append, bl_ofL, bl_ofL]; rfl)]
        exact hK w2 hf2
    · intro h
      refine ⟨?_⟩
      unfold probityref01_decimal_k0d
      rw [decide_eq_true (by omega), cnd_true]
      have e1 : Int.tdiv (-(u : Int)) 10 = -((u / 10 : Nat) : Int) := by rw [Int.neg_tdiv]; rfl
      have e2 : -Int.tmod (-(u : Int)) 10 = ((u % 10 : Nat) : Int) := by rw [Int.neg_tmod, Int.neg_neg]; rfl
      have e3 : Lib.decDigits (u % 10) = [UInt8.ofNat (48 + u % 10)] := by rw [Lib.decDigits, dif_pos (by omega)]
      have e4 : Lib.decDigits u = Lib.decDigits (u / 10) ++ [UInt8.ofNat (48 + u % 10)] := by rw [Lib.decDigits, dif_neg (by omega)]
      rw [e1, e2]
      refine ⟨by decide, inR64 (by omega) (by omega), ih (u / 10) (by omega) (by omega) (by omega) fun w2 hf2 => ?_⟩
      refine ⟨by decide, inR64 (by omega) (by omega), nat_decimal (u % 10) (by omega) (by omega) fun w3 hf3 => ?_⟩
      have hl := dec_len 18 (u / 10) (by omega)
      refine ⟨?_, ?_⟩
      · rw [ofL_size, ofL_size, e3]
        unfold maxI
        simp only [List.length_cons, List.length_nil]
        omega
      · have := hK w3 (Fr0.t hf2 hf3)
        rw [e4, ← e3] at this
        rw [show ofL (45 :: Lib.decDigits (u / 10)) ++ ofL (Lib.decDigits (u % 10)) = ofL (45 :: (Lib.decDigits (u / 10) ++ Lib.decDigits (u % 10))) from bl_inj (by rw [bl_append, bl_ofL, bl_ofL, bl_ofL]; rfl)]
        exact this

theorem decimal_spec {n : Int} {K : ByteArray → World → Prop} (h : I64 n) (hK : ∀ w', Fr F0 w w' → K (ofL (Lib.itoa n)) w') : probityref01_decimal_sh n K w := by
  have h1 := h.1
  have h2 := h.2
  unfold Lib.itoa at hK
  by_cases hn : n < 0
  · rw [if_pos hn] at hK
    have := neg_decimal n.natAbs (by omega) (by omega) hK
    rwa [show -(n.natAbs : Int) = n by omega] at this
  · rw [if_neg hn] at hK
    have := nat_decimal n.toNat (by omega) (by omega) hK
    rwa [show (n.toNat : Int) = n by omega] at this

theorem rText_spec {n d : Int} {K : ByteArray → World → Prop} (hn : I64 n) (hd : I64 d) (hK : ∀ w', Fr F0 w w' → K (ofL (textQ n d)) w') : probityref01_Text_sh n d K w := by
  unfold textQ textL at hK
  refine ⟨?_⟩
  unfold probityref01_Text_sd
  intro w1
  have m : Mem w w1 _ := Mem.nil.alloc
  clear_value w1
  refine ⟨_, m.ld 0 rfl rfl, _, m.ld 0 rfl rfl, rRight_spec hn hd fun w2 hf => ?_⟩
  have m := m.fr hf
  by_cases hr : rightP n d
  · rw [if_pos hr] at hK
    rw [decide_eq_true hr, Bool.not_true, cnd_false]
    refine ⟨_, m.ld 0 rfl rfl, ?_⟩
    rw [cnd_beq]
    constructor
    · intro h1
      rw [if_pos h1] at hK
      exact ⟨_, m.ld 0 rfl rfl, decimal_spec hn fun w3 hf3 => hK w3 (Fr0.t m.1 hf3)⟩
    · intro h1
      rw [if_neg h1] at hK
      intro w3
      have m : Mem w w3 _ := m.drew
      clear_value w3
      have l1 := itoa_len hn
      have l2 := itoa_len hd
      refine ⟨fun u => Rs u _, m.sub 0 rfl, _, fun _ h => h.ld 0 rfl rfl, _, fun _ h => h.ld 0 rfl rfl, decimal_spec hn fun w4 hf4 => ?_⟩
      have m := m.fr hf4
      have e1 : (str [47]).size = 1 := by decide
      refine ⟨m.sub 0 rfl, ?_, decimal_spec hd fun w5 hf5 => ?_⟩
      · rw [ofL_size, e1]
        unfold maxI
        omega
      · have m := m.fr hf5
        have e : (ofL (Lib.itoa n) ++ str [47]) ++ ofL (Lib.itoa d) = ofL (Lib.itoa n ++ 47 :: Lib.itoa d) := by
          apply bl_inj
          rw [bl_append, bl_append, bl_ofL, bl_ofL, bl_ofL, List.append_assoc]
          rfl
        have es : (ofL (Lib.itoa n) ++ str [47]).size = (Lib.itoa n).length + 1 := by
          rw [ByteArray.size_append, ofL_size, e1]
        refine ⟨m.sub 0 rfl, ?_, ?_⟩
        · rw [es, ofL_size]
          unfold maxI
          omega
        · rw [e]
          exact hK w5 m.1
  · rw [if_neg hr] at hK
    rw [decide_eq_false hr, Bool.not_false, cnd_true]
    exact hK w2 m.1

end
end Go.Proofs.YtfclokkfnkieoaaGreatDoor

/- The reference's reading of numbers and of texts. Conditions: none. -/
namespace Go.Proofs.YtfclokkfnkieoaaGreatDoor
open Go Pw

/-- The number that digits write. -/
def pv (l : List UInt8) : Int := l.foldl (fun a c => 10 * a + ((c.toNat : Int) - 48)) 0

theorem pv_app (l : List UInt8) (c : UInt8) : pv (l ++ [c]) = 10 * pv l + ((c.toNat : Int) - 48) := by
  unfold pv
  rw [List.foldl_append]
  rfl

theorem pv_dec : ∀ u : Nat, pv (Lib.decDigits u) = u := by
  intro u
  induction u using Nat.strongRecOn with
  | ind u ih =>
    rw [Lib.decDigits]
    split
    · rename_i h
      have : pv [UInt8.ofNat (48 + u)] = 10 * 0 + (((UInt8.ofNat (48 + u)).toNat : Int) - 48) := rfl
      rw [this, digit_nat h]
      omega
    · rename_i h
      rw [pv_app, ih (u / 10) (by omega), digit_nat (show u % 10 < 10 by omega)]
      omega

theorem wrap_val (x : Int) : IntKind.i64.wrap x = if 9223372036854775808 ≤ x % 18446744073709551616 then x % 18446744073709551616 - 18446744073709551616 else x % 18446744073709551616 := by
  unfold IntKind.wrap
  simp [IntKind.bits, IntKind.signed]

theorem wrap_ex (x : Int) : ∃ k : Int, IntKind.i64.wrap x = x + 18446744073709551616 * k := by
  rw [wrap_val]
  split
  · exact ⟨-(x / 18446744073709551616) - 1, by omega⟩
  · exact ⟨-(x / 18446744073709551616), by omega⟩

theorem wrap_add (x k : Int) : IntKind.i64.wrap (x + 18446744073709551616 * k) = IntKind.i64.wrap x := by
  have : (x + 18446744073709551616 * k) % 18446744073709551616 = x % 18446744073709551616 := by omega
  rw [wrap_val, wrap_val, this]

theorem wrap_I64 (x : Int) : I64 (IntKind.i64.wrap x) := by
  rw [wrap_val]
  unfold I64
  split <;> omega

theorem wrap_step (x e : Int) : IntKind.i64.wrap (IntKind.i64.wrap (10 * IntKind.i64.wrap x) + e) = IntKind.i64.wrap (10 * x + e) := by
  obtain ⟨k, h⟩ := wrap_ex x
  obtain ⟨j, h2⟩ := wrap_ex (10 * (x + 18446744073709551616 * k))
  rw [h, h2, show 10 * (x + 18446744073709551616 * k) + 18446744073709551616 * j + e = (10 * x + e) + 18446744073709551616 * (10 * k + j) by omega, wrap_add]

theorem wrap_digit {c : Int} (h : 48 ≤ c) (h2 : c ≤ 57) : IntKind.i64.wrap (IntKind.u8.wrap (c - 48)) = c - 48 := by
  have : IntKind.u8.wrap (c - 48) = c - 48 := by simp [IntKind.wrap, IntKind.bits, IntKind.signed]; omega
  rw [this]
  exact wrap64_in (by omega) (by omega)

/-- What reading a number gives: the number, and whether the text is its own. -/
def NumR (l : List UInt8) (n : Int) (ok : Bool) : Prop := I64 n ∧ (ok = true → l = Lib.itoa n) ∧ (ok = false → ∀ m, I64 m → l ≠ Lib.itoa m)

/-- Whether a text begins with the sign, and the sign's own number. -/
def SgOf (l : List UInt8) (sg : Int) (i0 : Nat) : Prop := (sg = -1 ∧ i0 = 1 ∧ l[0]? = some 45) ∨ (sg = 1 ∧ i0 = 0 ∧ l[0]? ≠ some 45)

theorem num_form {l : List UInt8} {sg m : Int} {i0 : Nat} (hs : SgOf l sg i0) (h : l = Lib.itoa m) : ∃ u, l.drop i0 = Lib.decDigits u ∧ sg * (u : Int) = m := by
  unfold Lib.itoa at h
  by_cases hm : m < 0
  · rw [if_pos hm] at h
    rcases hs with ⟨rfl, rfl, _⟩ | ⟨_, _, h0⟩
    · exact ⟨m.natAbs, by rw [h]; rfl, by omega⟩
    · exact absurd (by rw [h]; rfl) h0
  · rw [if_neg hm] at h
    rcases hs with ⟨_, _, h0⟩ | ⟨rfl, rfl, _⟩
    · rw [h] at h0
      have := (dec_digit _ _ (List.mem_of_getElem? h0)).1
      exact absurd this (by decide)
    · exact ⟨m.toNat, by rw [h]; rfl, by omega⟩

section
variable {w w' w0 : World}

theorem at_i {s : ByteArray} {i : Nat} (h : i < s.size) : (bl s)[i]? = some (s.data.toList.getD i 0) := by
  have hl := bl_length s
  have : i < (bl s).length := by omega
  rw [List.getElem?_eq_getElem this]
  congr 1
  unfold bl at this ⊢
  rw [List.getD_eq_getElem?_getD, List.getElem?_eq_getElem this]
  rfl

theorem number_l1 {s : ByteArray} {sg : Int} {i0 : Nat} {K : Int → Bool → World → Prop} (hsz : s.size ≤ 20) (hs : SgOf (bl s) sg i0) (hi0 : i0 < s.size)
    (hK : ∀ n ok w', NumR (bl s) n ok → Fr F0 w w' → K n ok w') : probityref01_number_l1 s 0 i0 K w := by
  have hl := bl_length s
  have hzero : IntKind.i64.wrap 0 = 0 := wrap64_in (by decide) (by decide)
  refine ⟨⟨fun n i w' => ∃ i' : Nat, i = i' ∧ i0 ≤ i' ∧ i' ≤ s.size ∧ n = IntKind.i64.wrap (sg * pv (((bl s).take i').drop i0)) ∧ Fr F0 w w', fun _ i _ => s.size - i.toNat, ⟨i0, rfl, Nat.le_refl _, by omega, ?_, (Fr.refl)⟩, ?_⟩⟩
  · have : ((bl s).take i0).drop i0 = [] := by rw [List.drop_eq_nil_iff]; simp; omega
    rw [this]
    have : pv [] = 0 := rfl
    rw [this, Int.mul_zero, hzero]
  rintro n i w1 ⟨i, rfl, h1, h2, rfl, hf⟩
  unfold probityref01_number_b1
  rw [cnd_prop]
  constructor
  · intro hlt
    have hlt : i < s.size := by omega
    have hat := at_i hlt
    have ei : ((i : Int)).toNat = i := by omega
    rw [ei]
    generalize hc : s.data.toList.getD i 0 = c at hat ⊢
    have hbad : ¬ (48 ≤ c.toNat ∧ c.toNat ≤ 57) → K 0 false w1 := fun hd => by
      refine hK _ _ _ ⟨⟨by decide, by decide⟩, (fun h => by cases h), fun _ m _ e => ?_⟩ hf
      obtain ⟨u, hu, _⟩ := num_form hs e
      refine hd (dec_digit u c ?_)
      rw [← hu]
      refine List.mem_of_getElem? (i := i - i0) ?_
      rw [List.getElem?_drop, show i0 + (i - i0) = i by omega]
      exact hat
    refine ⟨⟨by omega, by omega⟩, ?_⟩
    rw [cnd_prop]
    refine ⟨fun h => hbad (by omega), fun hge => ⟨⟨by omega, by omega⟩, ?_⟩⟩
    rw [cnd_prop]
    refine ⟨fun h => hbad (by omega), fun hle => ⟨⟨by omega, by omega⟩, ?_⟩⟩
    have hstep : ((bl s).take (i + 1)).drop i0 = ((bl s).take i).drop i0 ++ [c] := by
      rw [List.take_add_one, hat, List.drop_append_of_le_length (by simp; omega)]
      rfl
    have hp := pv_app (((bl s).take i).drop i0) c
    rw [← hstep] at hp
    have hi1 : IntKind.i64.wrap ((i : Int) + 1) = ((i + 1 : Nat) : Int) := wrap64_in (by omega) (by omega)
    have hd := wrap_digit (c := (c.toNat : Int)) (by omega) (by omega)
    have h0 := at_i (s := s) (i := 0) (by omega)
    rw [show ((0 : Int)).toNat = 0 from rfl, cnd_beq, hd, hi1]
    refine ⟨fun hm => ⟨⟨by omega, by omega⟩, ⟨⟨rfl, trivial⟩, i + 1, rfl, by omega, by omega, ?_, hf⟩, by dsimp only; omega⟩, fun hm => ⟨⟨by omega, by omega⟩, ⟨⟨rfl, trivial⟩, i + 1, rfl, by omega, by omega, ?_, hf⟩, by dsimp only; omega⟩⟩
    · rcases hs with ⟨rfl, rfl, _⟩ | ⟨_, _, hne⟩
      · rw [Int.sub_eq_add_neg, wrap_step, hp]
        congr 1
        omega
      · refine absurd ?_ hne
        rw [h0]
        congr 1
        exact UInt8.toNat_inj.1 (show _ = (45 : Nat) by omega)
    · rcases hs with ⟨_, _, he⟩ | ⟨rfl, rfl, _⟩
      · rw [h0] at he
        injection he with he
        rw [he] at hm
        exact absurd rfl hm
      · rw [wrap_step, hp]
        congr 1
        omega
  · intro hge
    have : i = s.size := by omega
    subst this
    have ht : (bl s).take s.size = bl s := List.take_of_length_le (by omega)
    rw [ht]
    have hI := wrap_I64 (sg * pv ((bl s).drop i0))
    refine decimal_spec hI fun w2 hf2 => hK _ _ _ ⟨hI, fun h => ?_, fun h m hm e => ?_⟩ (Fr0.t hf hf2)
    · have := of_decide_eq_true h
      have := congrArg bl this
      rw [bl_ofL] at this
      exact this.symm
    · obtain ⟨u, hu, hv⟩ := num_form hs e
      have := of_decide_eq_false h
      rw [hu, pv_dec, hv, wrap64_in hm.1 hm.2, ← e, ofL_bl] at this
      exact this rfl

theorem number_k0 {s : ByteArray} {sg : Int} {i0 : Nat} {K : Int → Bool → World → Prop} (hs : SgOf (bl s) sg i0)
    (hK : ∀ n ok w', NumR (bl s) n ok → Fr F0 w w' → K n ok w') : probityref01_number_k0 s 0 i0 K w := by
  have hl := bl_length s
  have hbad : (∀ m, I64 m → bl s ≠ Lib.itoa m) → K 0 false w := fun h => hK _ _ _ ⟨⟨by decide, by decide⟩, (fun h => by cases h), fun _ => h⟩ (Fr.refl)
  refine ⟨?_⟩
  unfold probityref01_number_k0d
  rw [cnd_beq]
  constructor
  · intro h
    refine hbad fun m hm e => ?_
    obtain ⟨u, hu, _⟩ := num_form hs e
    refine dec_ne u ?_
    rw [← hu]
    exact List.drop_eq_nil_iff.2 (by omega)
  · intro h
    rw [cnd_prop]
    constructor
    · intro h20
      refine hbad fun m hm e => ?_
      have := itoa_20 hm
      rw [← e] at this
      omega
    · intro h20
      refine number_l1 (by omega) hs ?_ hK
      rcases hs with ⟨_, rfl, h0⟩ | ⟨_, rfl, _⟩
      · have : 0 < (bl s).length := by
          rcases Nat.lt_or_ge 0 (bl s).length with hh | hh
          · exact hh
          · rw [List.getElem?_eq_none hh] at h0
            cases h0
        omega
      · omega

theorem number_spec {s : ByteArray} {K : Int → Bool → World → Prop} (hK : ∀ n ok w', NumR (bl s) n ok → Fr F0 w w' → K n ok w') : probityref01_number_sh s K w := by
  have hl := bl_length s
  refine ⟨?_⟩
  unfold probityref01_number_sd
  rw [cnd_prop]
  constructor
  · intro h
    have h0 := at_i (s := s) (i := 0) (by omega)
    refine ⟨⟨by omega, by omega⟩, ?_⟩
    rw [show ((0 : Int)).toNat = 0 from rfl, cnd_beq]
    constructor
    · intro hm
      refine number_k0 (i0 := 1) (.inl ⟨rfl, rfl, ?_⟩) hK
      rw [h0]
      congr 1
      exact UInt8.toNat_inj.1 (show _ = (45 : Nat) by omega)
    · intro hm
      refine number_k0 (i0 := 0) (.inr ⟨rfl, rfl, ?_⟩) hK
      rw [h0]
      intro he
      injection he with he
      rw [he] at hm
      exact absurd rfl hm
  · intro h
    refine number_k0 (i0 := 0) (.inr ⟨rfl, rfl, ?_⟩) hK
    rw [List.getElem?_eq_none (by omega)]
    simp
end
end Go.Proofs.YtfclokkfnkieoaaGreatDoor

/- The reference's reading of rational numbers' texts. Conditions: none. -/
namespace Go.Proofs.YtfclokkfnkieoaaGreatDoor
open Go Pw

theorem itoa_inj {m n : Int} (hm : I64 m) (hn : I64 n) (h : Lib.itoa m = Lib.itoa n) : m = n := by
  have h1 := atoi_itoa hm.1 hm.2
  rw [h, atoi_itoa hn.1 hn.2] at h1
  injection h1 with h1
  exact h1.symm

theorem NumR.same {l : List UInt8} {n m : Int} {ok : Bool} (h : NumR l n ok) (hm : I64 m) (e : l = Lib.itoa m) : ok = true ∧ n = m := by
  cases ok
  · exact absurd e (h.2.2 rfl m hm)
  · exact ⟨rfl, itoa_inj h.1 hm (by rw [← h.2.1 rfl, e])⟩

section
variable {w w' w0 : World}

theorem rParse_k4 {l : List (Nat × List Value)} {t : Nat} {x y : Value} {K : Int → Int → Bool → World → Prop} (m : Mem w0 w l) (j : Nat) (hj : l[j]? = some (t, [x, y])) (hK : ∀ w', Fr F0 w0 w' → K 0 1 false w') : probityref01_Parse_k4 ⟨t, 0, none⟩ K w :=
  ⟨rOf_spec fun _ hf => put2b (m.fr hf) j hj hK⟩

theorem rParse_k3 {s : ByteArray} {n d : Int} {t a : Nat} {x y : Value} {found : Bool} {K : Int → Int → Bool → World → Prop} (hn : I64 n) (hd : I64 d)
    (m : Mem w0 w [(a, [.int .i64 n, .int .i64 d]), (t, [x, y])]) (hs0 : found = true → bl s ≠ [])
    (hgood : found = true → rightP n d → textL n d = bl s → ∀ w', Fr F0 w0 w' → K n d true w')
    (hbad : ¬ (found = true ∧ rightP n d ∧ textL n d = bl s) → ∀ w', Fr F0 w0 w' → K 0 1 false w') : probityref01_Parse_k3 s ⟨t, 0, none⟩ ⟨a, 0, none⟩ found K w := by
  refine ⟨?_⟩
  unfold probityref01_Parse_k3d
  cases found
  · rw [cnd_false]
    exact rParse_k4 m 1 rfl (hbad fun h => by cases h.1)
  · rw [cnd_true]
    refine ⟨_, m.ld 0 rfl rfl, _, m.ld 0 rfl rfl, rText_spec hn hd fun w2 hf2 => ?_⟩
    have m := m.fr hf2
    have hq : (ofL (textQ n d) = s) ↔ (rightP n d ∧ textL n d = bl s) := by
      rw [show (ofL (textQ n d) = s) ↔ (textQ n d = bl s) from ⟨fun h => by rw [← h, bl_ofL], fun h => by rw [h, ofL_bl]⟩]
      unfold textQ
      constructor
      · intro h
        by_cases hr : rightP n d
        · rw [if_pos hr] at h
          exact ⟨hr, h⟩
        · rw [if_neg hr] at h
          exact absurd h.symm (hs0 rfl)
      · rintro ⟨hr, h⟩
        rw [if_pos hr]
        exact h
    by_cases hs : rightP n d ∧ textL n d = bl s
    · rw [decide_eq_true (hq.2 hs), cnd_true]
      exact ⟨_, m.ld 0 rfl rfl, _, m.ld 0 rfl rfl, put2b m 1 rfl fun w3 hf3 => hgood rfl hs.1 hs.2 w3 hf3⟩
    · rw [decide_eq_false (fun h => hs (hq.1 h)), cnd_false]
      exact rParse_k4 m 1 rfl (hbad fun h => hs h.2)

theorem rParse_k2 {s : ByteArray} {n d : Int} {t a : Nat} {x y u v : Value} {one two : Bool} {N : ByteArray → Addr → Addr → Bool → Int → World → Prop} {K : Int → Int → Bool → World → Prop} (hn : I64 n) (hd : I64 d)
    (m : Mem w0 w [(a, [u, v]), (t, [x, y])]) (hs0 : one = true → bl s ≠ [])
    (hgood : rightP n d → textL n d = bl s → ∀ w', Fr F0 w0 w' → K n d true w')
    (hbad : ¬ (one = true ∧ two = true ∧ rightP n d ∧ textL n d = bl s) → ∀ w', Fr F0 w0 w' → K 0 1 false w') : probityref01_Parse_k2 s ⟨t, 0, none⟩ ⟨a, 0, none⟩ n one d two N K w := by
  refine ⟨?_⟩
  unfold probityref01_Parse_k2d
  refine ⟨m.wr 0 rfl rfl, ?_⟩
  intro w3
  have m : Mem w0 w3 _ := m.set 0 rfl
  clear_value w3
  refine ⟨m.wr 0 rfl rfl, ?_⟩
  intro w4
  have m : Mem w0 w4 _ := m.set 0 rfl
  clear_value w4
  simp only [List.set_cons_zero, List.set_cons_succ] at m
  cases one
  · rw [cnd_false]
    exact rParse_k3 hn hd m (fun h => by cases h) (fun h => by cases h) fun _ => hbad fun h => by cases h.1
  · rw [cnd_true]
    exact rParse_k3 hn hd m (fun _ => hs0 rfl) (fun _ => hgood) fun hno => hbad fun h => hno h.2

theorem rParse_k1 {s : ByteArray} {i t a : Nat} {x y u v : Value} {N : ByteArray → Addr → Addr → Bool → Int → World → Prop} {K : Int → Int → Bool → World → Prop} (hsz : s.size < 9223372036854775807)
    (m : Mem w0 w [(a, [u, v]), (t, [x, y])]) (hi : i ≤ s.size) (hno : (47 : UInt8) ∉ (bl s).take i) (hat : i < s.size → (bl s)[i]? = some 47)
    (hgood : ∀ n d, rightP n d → I64 n → I64 d → textL n d = bl s → ∀ w', Fr F0 w0 w' → K n d true w')
    (hbad : ¬ IsText (bl s) → ∀ w', Fr F0 w0 w' → K 0 1 false w') : probityref01_Parse_k1 s ⟨t, 0, none⟩ ⟨a, 0, none⟩ i N K w := by
  have hl := bl_length s
  refine ⟨?_⟩
  unfold probityref01_Parse_k1d
  refine ⟨⟨by omega, by omega, by omega⟩, number_spec fun n one w2 hN hf2 => ?_⟩
  have m := m.fr hf2
  rw [bl_extract, show ((i : Int)).toNat = i by omega, List.drop_zero] at hN
  have hs0 : one = true → bl s ≠ [] := fun h e => by
    have := hN.2.1 h
    rw [e, List.take_nil] at this
    exact itoa_ne n this.symm
  rw [cnd_prop]
  constructor
  · intro hlt
    have hlt : i < s.size := by omega
    have hsplit : bl s = (bl s).take i ++ 47 :: (bl s).drop (i + 1) := by
      have h1 := List.take_append_drop i (bl s)
      have h2 : (bl s).drop i = 47 :: (bl s).drop (i + 1) := by
        have hil : i < (bl s).length := by omega
        rw [List.drop_eq_getElem_cons hil]
        congr 1
        have := hat hlt
        rw [List.getElem?_eq_getElem hil] at this
        injection this
      rw [← h2]
      exact h1.symm
    refine ⟨inR64 (by omega) (by omega), ⟨by omega, by omega⟩, number_spec fun d two w3 hD hf3 => ?_⟩
    have m := m.fr hf3
    rw [bl_extract, show ((i : Int) + 1).toNat = i + 1 by omega, List.take_of_length_le (by omega)] at hD
    refine rParse_k2 hN.1 hD.1 m hs0 (fun hr ht => hgood n d hr hN.1 hD.1 ht) fun hq => hbad ?_
    rintro ⟨n', d', hr, hn', hd', ht⟩
    unfold textL at ht
    split at ht
    · refine itoa_noslash n' ?_
      rw [ht, hsplit]
      simp
    · rename_i hd1
      have c1 := cut_hit (a := Lib.itoa n') (b := Lib.itoa d') (itoa_noslash n')
      rw [ht, hsplit, cut_hit hno] at c1
      simp only [Prod.mk.injEq, and_true] at c1
      obtain ⟨e1, e2⟩ := hN.same hn' c1.1
      obtain ⟨e3, e4⟩ := hD.same hd' c1.2
      subst e2 e4
      exact hq ⟨e1, e3, hr, by unfold textL; rw [if_neg hd1]; exact ht⟩
  · intro hge
    have hi : i = s.size := by omega
    rw [hi, List.take_of_length_le (by omega)] at hN hno
    refine rParse_k2 hN.1 ⟨by decide, by decide⟩ m hs0 (fun hr ht => hgood n 1 hr hN.1 ⟨by decide, by decide⟩ ht) fun hq => hbad ?_
    rintro ⟨n', d', hr, hn', hd', ht⟩
    unfold textL at ht
    split at ht
    · rename_i hd1
      subst hd1
      obtain ⟨e1, e2⟩ := hN.same hn' ht.symm
      subst e2
      exact hq ⟨e1, rfl, hr, by unfold textL; rw [if_pos rfl]; exact ht⟩
    · refine hno ?_
      rw [← ht]
      simp

theorem rParse_spec {s : ByteArray} {K : Int → Int → Bool → World → Prop} (hsz : s.size < 9223372036854775807)
    (hgood : ∀ n d, rightP n d → I64 n → I64 d → textL n d = bl s → ∀ w', Fr F0 w w' → K n d true w')
    (hbad : ¬ IsText (bl s) → ∀ w', Fr F0 w w' → K 0 1 false w') : probityref01_Parse_sh s K w := by
  have hl := bl_length s
  refine ⟨?_⟩
  unfold probityref01_Parse_sd
  intro w1
  have m : Mem w w1 _ := Mem.nil.alloc
  clear_value w1
  refine rOf_spec fun w2 hf => ?_
  have m := m.fr hf
  intro w3
  have m : Mem w w3 _ := m.alloc
  clear_value w3
  refine ⟨m.wr 0 rfl rfl, ?_⟩
  intro w4
  have m : Mem w w4 _ := m.set 0 rfl
  clear_value w4
  refine ⟨m.wr 0 rfl rfl, ?_⟩
  intro w5
  have m : Mem w w5 _ := m.set 0 rfl
  clear_value w5
  refine ⟨⟨fun found i w' => found = false ∧ ∃ i' : Nat, i = i' ∧ i' ≤ s.size ∧ (47 : UInt8) ∉ (bl s).take i' ∧ Mem w w' _, fun _ i _ => s.size - i.toNat, ⟨rfl, 0, rfl, by omega, by simp, m⟩, ?_⟩⟩
  rintro found i w6 ⟨rfl, i, rfl, hi, hno, m⟩
  unfold probityref01_Parse_b0
  rw [decide_eq_true (by omega), cnd_true, cnd_prop]
  constructor
  · intro hlt
    have hlt : i < s.size := by omega
    have hat := at_i hlt
    refine ⟨⟨by omega, by omega⟩, ?_⟩
    rw [show ((i : Int)).toNat = i by omega, cnd_bne]
    constructor
    · intro hne
      refine ⟨inR64 (by omega) (by omega), ⟨⟨rfl, rfl, rfl, trivial⟩, rfl, i + 1, by omega, by omega, ?_, m⟩, by dsimp only; omega⟩
      rw [List.take_add_one, hat]
      intro h
      rcases List.mem_append.1 h with h | h
      · exact hno h
      · simp only [Option.toList_some, List.mem_singleton] at h
        rw [← h] at hne
        exact hne rfl
    · intro he
      refine rParse_k1 hsz m hi hno (fun _ => ?_) hgood hbad
      rw [hat]
      congr 1
      exact UInt8.toNat_inj.1 (show _ = (47 : Nat) by omega)
  · intro hge
    exact rParse_k1 hsz m hi hno (fun h => by omega) hgood hbad
end
end Go.Proofs.YtfclokkfnkieoaaGreatDoor

