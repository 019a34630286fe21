/- The reference's digits: quotients, remainders, common divisors. Conditions: none. -/
import Derived.Test.YtfclokkfnkieoaaDoorRF3
namespace Go.Proofs.YtfclokkfnkieoaaDoor
open Go Pw

section
variable {w w' w0 : World} {s a b : Sl} {k j n m : Nat}

theorem mid_div {m R lo hi : Nat} (h1 : m * lo ≤ R) (h2 : R < m * hi) (h3 : hi ≤ lo + 1) : lo = R / m ∧ R - m * lo = R % m := by
  have hm : 0 < m := by
    rcases Nat.eq_zero_or_pos m with h | h
    · subst h; omega
    · exact h
  have h4 : m * hi ≤ m * (lo + 1) := Nat.mul_le_mul_left _ h3
  rw [Nat.mul_add] at h4
  have e : R = m * lo + (R - m * lo) := by omega
  have h5 : R / m = lo := by
    rw [e, Nat.mul_add_div hm, Nat.div_eq_of_lt (by omega)]; rfl
  have h6 := Nat.div_add_mod R m
  rw [h5] at h6
  omega

/-- The search for a digit, and what comes behind it. -/
theorem over_l2 {q r : Sl} {i low high R : Nat} {lq : List Nat} {N : Sl → Sl → Sl → Sl → Int → World → Prop} {K : Sl → Sl → World → Prop}
    (hb : Nm j w0 b m) (hj : j ≤ 2 ^ 38) (hr : Nt (j + 1) w r R) (hq : Mk w0 1 di w q lq) (hi : i < lq.length) (hl : lq.length ≤ 2 ^ 40) (hlo : low < high) (hhi : high ≤ 65536) (h1 : m * low ≤ R) (h2 : R < m * high) (hmj : m < 65536 ^ j) (hd : ∀ c, inB r c → ¬ inB q c)
    (hN : ∀ r' w', Nt j w' r' (R % m) → (∀ c, inB r' c → w.heap.size ≤ c) → w.heap.size ≤ w'.heap.size → Mk w0 1 di w' q (lq.set i (R / m)) → N a b q r' ((i : Int) - 1) w') : probityref01_over_l2 a b q r (i : Int) (low : Int) (high : Int) N K w := by
  refine ⟨⟨fun lo hi w' => ∃ lo' hi' : Nat, lo = lo' ∧ hi = hi' ∧ lo' < hi' ∧ hi' ≤ 65536 ∧ m * lo' ≤ R ∧ R < m * hi' ∧ Fr F0 w w', fun lo hi _ => (hi - lo).toNat, ⟨low, high, rfl, rfl, hlo, hhi, h1, h2, Fr.refl⟩, ?_⟩⟩
  clear h1 h2 hlo hhi
  rintro lo hi w1 ⟨lo', hi', rfl, rfl, hlo, hhi, h1, h2, hf⟩
  have hf0 := Fr0.t hq.fr0 hf
  unfold probityref01_over_b2
  refine ⟨inR64 (by omega) (by omega), ?_⟩
  rw [cnd_prop]
  constructor
  · intro hgt
    have hmid : Int.tdiv ((lo' : Int) + (hi' : Int)) 2 = (((lo' + hi') / 2 : Nat) : Int) := by rw [addN, show (2 : Int) = ((2 : Nat) : Int) from rfl, tdivN]
    rw [hmid]
    generalize hmd : (lo' + hi') / 2 = mid
    have e1 : lo' < mid := by omega
    have e2 : mid < hi' := by omega
    refine ⟨inR64 (by omega) (by omega), by omega, inR64 (by omega) (by omega), by_spec (hb.fr hf0) (by omega) (by omega) fun s2 w2 hs2 hf2 => ?_⟩
    refine compareD_spec hs2 ((hr.fr hf).fr hf2) (by omega) fun w3 hf3 => ?_
    have hfa := Fr0.t (Fr0.t hf hf2) hf3
    rw [cnd_prop]
    constructor
    · intro hc
      have : m * mid ≤ R := by
        rcases Nat.lt_or_ge R (m * mid) with h | h
        · rw [cmpI_gt (by omega)] at hc; omega
        · exact h
      exact ⟨⟨⟨rfl, rfl, rfl, rfl, rfl, trivial⟩, mid, hi', rfl, rfl, e2, hhi, this, h2, hfa⟩, by dsimp only; omega⟩
    · intro hc
      have : R < m * mid := by
        rcases Nat.lt_or_ge R (m * mid) with h | h
        · exact h
        · rcases Nat.lt_or_ge (m * mid) R with h' | h'
          · rw [cmpI_lt (by omega)] at hc; omega
          · rw [cmpI_eq (by omega)] at hc; omega
      exact ⟨⟨⟨rfl, rfl, rfl, rfl, rfl, trivial⟩, lo', mid, rfl, rfl, e1, by omega, h1, this, hfa⟩, by dsimp only; omega⟩
  · intro hgt
    obtain ⟨e1, e2⟩ := mid_div h1 h2 (by omega)
    have hq1 := hq.fr hf
    obtain ⟨ad, hp, hbd, hwr, hset⟩ := hq1.st (i := (i : Int)) i rfl hi
    rw [hp]
    refine ⟨hbd, hwr, ?_⟩
    intro w2
    have h5 : Mk w0 1 di w2 q (lq.set i lo') ∧ Fr (inB q) w1 w2 := hset lo'
    clear_value w2
    have hf2 := h5.1.fr0
    have hr2 : Nt (j + 1) w2 r R := by
      obtain ⟨lr, vr, dr, tr, er, kr⟩ := hr.fr hf
      exact ⟨lr, vr.frF h5.2 hd, dr, tr, er, kr⟩
    refine by_spec (hb.fr hf2) (by omega) (by omega) fun s3 w3 hs3 hf3 => ?_
    refine minus_spec (hr2.fr hf3).nm hs3.nm h1 (by omega) fun s4 w4 hs4 hf4 hn4 => ⟨inR64 (by omega) (by omega), ?_⟩
    rw [e2] at hs4
    have := hN s4 w4 (hs4.short (Nat.lt_trans (Nat.mod_lt _ (by
      rcases Nat.eq_zero_or_pos m with h | h
      · subst h; omega
      · exact h)) hmj)) (fun c hc => Nat.le_trans (Nat.le_trans hf.1 (Nat.le_trans h5.2.1 hf3.1)) (hn4 c hc)) (Nat.le_trans (Nat.le_trans hf.1 h5.2.1) (Nat.le_trans hf3.1 hf4.1)) (by rw [← e1]; exact (h5.1.fr hf3).fr hf4)
    exact this

theorem over_spec {K : Sl → Sl → World → Prop} (ha : Nm k w a n) (hb : Nm j w b m) (hbt : Nt j w b m) (hm : 0 < m) (hmj : m < 65536 ^ j) (hk : k ≤ 2 ^ 38) (hj : j ≤ 2 ^ 38)
    (hK : ∀ q r w', Nt k w' q (n / m) → Nt j w' r (n % m) → Fr F0 w w' → K q r w') : probityref01_over_sh a b K w := by
  obtain ⟨la, va, da, rfl, kla⟩ := ha
  have hla := va.len
  refine ⟨?_⟩
  unfold probityref01_over_sd
  refine Mk.make (w0 := w) (enc := di) (z := 0) Fr.refl rfl rfl (by omega) (by omega) (by omega) fun q w1 h1 hf1 => ⟨inR64 (by omega) (by omega), ?_⟩
  have hqlt : ∀ c, inB q c → c < w1.heap.size := fun c hc => h1.ow.own.lt hc
  refine ⟨⟨fun r i w' => ∃ (i' : Nat) (lq : List Nat) (r' : Nat), i = (i' : Int) - 1 ∧ i' ≤ la.length ∧ lq.length = la.length ∧ Dg lq ∧ Mk w 1 di w' q lq ∧ Nt j w' r r' ∧ r' < m ∧ (∀ c, inB r c → w1.heap.size ≤ c) ∧ Fr F0 w w' ∧ w1.heap.size ≤ w'.heap.size ∧ vl (la.drop i') = vl (lq.drop i') * m + r',
    fun _ i _ => (i + 1).toNat, ⟨la.length, _, 0, by omega, Nat.le_refl _, by simp; omega, Dg.replicate _, h1, ⟨[], Vw.nil, Dg.nil, .inl rfl, rfl, Nat.zero_le _⟩, hm, (fun c ⟨_, hc, _⟩ => by cases hc), hf1, Nat.le_refl _, ?_⟩, ?_⟩⟩
  · rw [List.drop_length, List.drop_of_length_le (by simp; omega)]; simp [vl]
  rintro r i w2 ⟨i', lq, r', rfl, hi, hlq, hdq, hq, hr, hrm, hrn, hf2, hsz, hv⟩
  unfold probityref01_over_b0
  rw [cnd_prop]
  constructor
  · intro hpos
    obtain ⟨i, rfl⟩ : ∃ i, i' = i + 1 := ⟨i' - 1, by omega⟩
    have hidx : ((i + 1 : Nat) : Int) - 1 = (i : Int) := by omega
    rw [hidx]
    have hx := da.getD i
    refine (va.fr hf2).ld 0 i rfl (by omega) ?_
    intro w3
    have hf3 : Fr F0 w2 w3 := Fr.alloc
    have hmk : Mk w2 1 di w3 ⟨some ⟨w2.heap.size, 0, none⟩, 1, 1⟩ [la.getD i 0] := Mk.new Fr.refl rfl rfl
    clear_value w3
    obtain ⟨lr, vr, dr, tr, er, kr⟩ := hr.fr hf3
    refine hmk.app vr (ie_ok _ _) rfl (by simp; omega) (by simp; omega) fun s6 w4 h6 hf4 => ?_
    have hf4' : Fr F0 w2 w4 := h6.fr0
    have hRv : vl ([la.getD i 0] ++ lr) = la.getD i 0 + 65536 * r' := by simp [vl, er]
    have hRd : Dg ([la.getD i 0] ++ lr) := dr.cons hx
    refine trim_spec (k := j + 1) ⟨_, h6.vw, hRd, hRv, by simp; omega⟩ (by omega) fun s9 h9 hin9 => ?_
    have hfa := Fr0.t hf2 hf4'
    refine compareD_spec h9 (hbt.fr hfa) (by omega) fun w5 hf5 => ?_
    have hf5' := Fr0.t hf4' hf5
    have hq5 := hq.fr hf5'
    have hdis : ∀ c, inB s9 c → ¬ inB q c := fun c hc hcq => by
      have e1 := h6.nw c (hin9 c hc)
      have e2 := hqlt c hcq
      omega
    have next : ∀ low high : Nat, low < high → high ≤ 65536 → m * low ≤ la.getD i 0 + 65536 * r' → la.getD i 0 + 65536 * r' < m * high →
        probityref01_over_k1 a b q s9 (i : Int) (low : Int) (high : Int) (fun (a_0' : Sl) (b_1' : Sl) (q_6' : Sl) (r_7' : Sl) (i_8' : Int) (w' : World) => ((a_0' = a ∧ b_1' = b ∧ q_6' = q ∧ True) ∧ ∃ (i' : Nat) (lq : List Nat) (r' : Nat), i_8' = (i' : Int) - 1 ∧ i' ≤ la.length ∧ lq.length = la.length ∧ Dg lq ∧ Mk w 1 di w' q lq ∧ Nt j w' r_7' r' ∧ r' < m ∧ (∀ c, inB r_7' c → w1.heap.size ≤ c) ∧ Fr F0 w w' ∧ w1.heap.size ≤ w'.heap.size ∧ vl (la.drop i') = vl (lq.drop i') * m + r') ∧ (i_8' + 1).toNat < (((i : Int)) + 1).toNat) K w5 := by
      intro low high e1 e2 e3 e4
      refine ⟨?_⟩
      refine over_l2 hb hj (h9.fr hf5) hq5 (by omega) (by omega) e1 e2 e3 e4 hmj hdis fun r2 w6 hr2 hn2 hs6 hq6 => ⟨⟨⟨rfl, rfl, rfl, trivial⟩, i, _, _, rfl, by omega, by simp [hlq], hdq.set _ ?_, hq6, hr2, Nat.mod_lt _ hm, fun c hc => Nat.le_trans (Nat.le_trans hsz hf5'.1) (hn2 c hc), hq6.fr0, Nat.le_trans (Nat.le_trans hsz hf5'.1) hs6, ?_⟩, by omega⟩
      · have := Nat.div_lt_of_lt_mul e4
        omega
      · rw [vl_drop la i (by omega), vl_drop (lq.set i _) i (by simp; omega), hv, getD_set_self (by omega), List.drop_set_of_lt (by omega)]
        have := Nat.div_add_mod (la.getD i 0 + 65536 * r') m
        rw [Nat.add_mul, Nat.mul_add, ← Nat.mul_assoc, Nat.mul_comm ((la.getD i 0 + 65536 * r') / m) m]
        omega
    rw [cnd_prop]
    constructor
    · intro hc
      have hlt : la.getD i 0 + 65536 * r' < m := by
        rcases Nat.lt_or_ge (la.getD i 0 + 65536 * r') m with h | h
        · exact h
        · rcases Nat.lt_or_ge m (la.getD i 0 + 65536 * r') with h' | h'
          · rw [cmpI_gt (by omega)] at hc; omega
          · rw [cmpI_eq (by omega)] at hc; omega
      exact next 0 1 (by omega) (by omega) (by omega) (by omega)
    · intro hc
      exact next 0 65536 (by omega) (by omega) (by omega) (by omega)
  · intro hneg
    have : i' = 0 := by omega
    subst this
    simp only [List.drop_zero] at hv
    have e : vl lq = vl la / m ∧ r' = vl la % m := by
      rw [hv, Nat.mul_comm, Nat.mul_add_div hm, Nat.div_eq_of_lt hrm, Nat.mul_add_mod, Nat.mod_eq_of_lt hrm]
      exact ⟨rfl, rfl⟩
    refine trim_spec (k := k) ⟨lq, hq.vw, hdq, e.1, by omega⟩ (by omega) fun s' hs' _ => hK s' r w2 hs' (by rw [← e.2]; exact hr) hf2

theorem common_spec {K : Sl → World → Prop} (ha : Nm k w a n) (hb : Nm k w b m) (hnk : n < 65536 ^ k) (hmk : m < 65536 ^ k) (hk : k ≤ 2 ^ 38)
    (hK : ∀ s' w', Nt k w' s' (Nat.gcd n m) → Fr F0 w w' → K s' w') : probityref01_common_sh a b K w := by
  refine ⟨⟨⟨fun a b w' => ∃ x y : Nat, Nm k w' a x ∧ Nm k w' b y ∧ x < 65536 ^ k ∧ y < 65536 ^ k ∧ Nat.gcd x y = Nat.gcd n m ∧ Fr F0 w w', fun a b w' => Classical.epsilon fun y => Nm k w' b y, ⟨n, m, ha, hb, hnk, hmk, rfl, Fr.refl⟩, ?_⟩⟩⟩
  rintro a1 b1 w1 ⟨x, y, hx, hy, hxk, hyk, hg, hf⟩
  have huniq : ∀ {w' : World} {s : Sl} {u v : Nat}, Nm k w' s u → Nm k w' s v → u = v := by
    rintro w' s u v ⟨l, h1, h2, rfl, _⟩ ⟨l', h1', h2', rfl, _⟩
    have e : l = l' := by
      have g1 := h1.rd
      have g2 := h1'.rd
      have hl := h1.len
      have hl' := h1'.len
      apply List.ext_getElem?
      intro i
      rcases Nat.lt_or_ge i l.length with hi | hi
      · have hi' : i < l'.length := by omega
        obtain ⟨ad, hp, hc⟩ := h1.at (fun _ => rfl) (List.getElem?_eq_getElem hi) (by decide)
        obtain ⟨ad', hp', hc'⟩ := h1'.at (fun _ => rfl) (List.getElem?_eq_getElem hi') (by decide)
        rw [hp] at hp'
        cases hp'
        have e1 := hc 0 _ rfl
        have e2 := hc' 0 _ rfl
        rw [e1] at e2
        rw [List.getElem?_eq_getElem hi, List.getElem?_eq_getElem hi']
        have := Option.some.inj e2
        injection this with _ e3
        congr 1
        have e4 : ((l[i] : Nat) : Int) = (l'[i] : Nat) := e3
        omega
      · rw [List.getElem?_eq_none hi, List.getElem?_eq_none (by omega)]
    rw [e]
  have heps : ∀ {w' : World} {s : Sl} {u : Nat}, Nm k w' s u → (Classical.epsilon fun y => Nm k w' s y) = u := fun {w' s u} h => huniq (Classical.epsilon_spec (p := fun y => Nm k w' s y) ⟨u, h⟩) h
  unfold probityref01_common_b0
  refine trim_spec hy (by omega) fun s2 h2 _ => ?_
  have hz := h2.zero
  rw [cnd_prop]
  constructor
  · intro hpos
    have hy0 : 0 < y := by
      rcases Nat.eq_zero_or_pos y with h | h
      · rw [hz.2 h] at hpos; omega
      · exact h
    refine trim_spec hx (by omega) fun s4 h4 _ => trim_spec hy (by omega) fun s6 h6 _ => over_spec h4.nm h6.nm h6 hy0 hyk (by omega) (by omega) fun q r w2 _ hr hf2 => ⟨⟨trivial, y, x % y, hy.fr hf2, hr.nm, hyk, ?_, ?_, Fr0.t hf hf2⟩, ?_⟩
    · exact Nat.lt_trans (Nat.mod_lt _ hy0) hyk
    · rw [← hg, Nat.gcd_comm y, ← Nat.gcd_rec, Nat.gcd_comm]
    · show (Classical.epsilon fun z => Nm k w2 r z) < (Classical.epsilon fun z => Nm k w1 b1 z)
      rw [heps hr.nm, heps hy]
      exact Nat.mod_lt _ hy0
  · intro h0
    have hy0 : y = 0 := hz.1 (by omega)
    subst hy0
    rw [Nat.gcd_zero_right] at hg
    refine trim_spec hx (by omega) fun s4 h4 _ => hK s4 w1 (by rw [← hg]; exact h4) hf
end
end Go.Proofs.YtfclokkfnkieoaaDoor
