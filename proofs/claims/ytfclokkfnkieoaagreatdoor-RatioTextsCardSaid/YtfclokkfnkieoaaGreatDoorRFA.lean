/- The reference's digits: trimming, comparing, sums, differences. Conditions: none. -/
import Derived.Test.YtfclokkfnkieoaaGreatDoorRG1
import Derived.Test.YtfclokkfnkieoaaGreatDoorRSA
import Derived.Test.YtfclokkfnkieoaaGreatDoorPwT
namespace Go.Proofs.YtfclokkfnkieoaaGreatDoor
open Go Pw

abbrev di : Nat → List Value := ie .i64 (fun d : Nat => (d : Int))

/-- The slice reads as digits of a number, at most k of them. -/
def Nm (k : Nat) (w : World) (s : Sl) (n : Nat) : Prop := ∃ l, Vw 1 di w s l ∧ Dg l ∧ vl l = n ∧ l.length ≤ k
/-- The same, with no zero at the end. -/
def Nt (k : Nat) (w : World) (s : Sl) (n : Nat) : Prop := ∃ l, Vw 1 di w s l ∧ Dg l ∧ Tr l ∧ vl l = n ∧ l.length ≤ k

/-- The slice's block is one of these. -/
def Bt (lo hi : Nat) (s : Sl) : Prop := ∀ c, inB s c → lo ≤ c ∧ c < hi

section
variable {w w' w0 : World} {s a b : Sl} {k j n m : Nat}

theorem Nm.fr (h : Nm k w s n) (hf : Fr F0 w w') : Nm k w' s n := let ⟨l, h1, h2⟩ := h; ⟨l, h1.fr hf, h2⟩
theorem Nt.fr (h : Nt k w s n) (hf : Fr F0 w w') : Nt k w' s n := let ⟨l, h1, h2⟩ := h; ⟨l, h1.fr hf, h2⟩
theorem Nt.nm (h : Nt k w s n) : Nm k w s n := let ⟨l, h1, h2, _, h3, h4⟩ := h; ⟨l, h1, h2, h3, h4⟩
theorem Nm.up (h : Nm k w s n) (hk : k ≤ j) : Nm j w s n := let ⟨l, h1, h2, h3, h4⟩ := h; ⟨l, h1, h2, h3, Nat.le_trans h4 hk⟩
theorem Nt.short (h : Nt k w s n) (hj : n < 65536 ^ j) : Nt j w s n := let ⟨l, h1, h2, h3, h4, _⟩ := h; ⟨l, h1, h2, h3, h4, h3.short (by rw [h4]; exact hj)⟩
theorem Nt.nil : Nt 0 w ⟨none, 0, 0⟩ 0 := ⟨[], Vw.nil, Dg.nil, .inl rfl, rfl, Nat.le_refl _⟩
theorem Nt.zero (h : Nt k w s n) : s.l = 0 ↔ n = 0 := by
  obtain ⟨l, h1, _, h3, h4, _⟩ := h
  rw [h1.len, ← h4]
  exact h3.zero.symm

theorem inB_sub {c i k l z : Nat} (h : inB ⟨subP s.p i z k, l, j⟩ c) : inB s c := by
  obtain ⟨ad, h1, h2⟩ := h
  unfold subP at h1
  split at h1
  · exact ⟨ad, h1, h2⟩
  · cases hs : s.p with
    | none => simp only at h1; rw [hs] at h1; cases h1
    | some a =>
      simp only at h1
      rw [hs] at h1
      cases h1
      exact ⟨a, hs, by rw [← h2, add_block]⟩

theorem trim_spec {K : Sl → World → Prop} (h : Nm k w s n) (hk : k ≤ 2 ^ 40) (hK : ∀ s', Nt k w s' n → (∀ c, inB s' c → inB s c) → K s' w) : probityref01_trim_sh s K w := by
  refine ⟨⟨fun s' w' => Nm k w s' n ∧ (∀ c, inB s' c → inB s c) ∧ w' = w, fun s' _ => s'.l, ⟨h, fun _ hc => hc, rfl⟩, ?_⟩⟩
  rintro s1 w1 ⟨⟨l, hv, hd, hn, hl⟩, hin, rfl⟩
  have hlen := hv.len
  unfold probityref01_trim_b0
  rw [cnd_prop]
  constructor
  · intro hpos
    refine ⟨inR64 (by omega) (by omega), hv.ld 0 (l.length - 1) (by omega) (by omega) ?_⟩
    rw [cnd_beq]
    constructor
    · intro h0
      have h0' : l.getD (l.length - 1) 0 = 0 := by simpa using h0
      have hcap := hv.cap
      refine ⟨inR64 (by omega) (by omega), ⟨by omega, by omega, by omega⟩, ⟨trivial, ⟨l.take ((s1.l : Int) - 1).toNat, hv.take (fun _ => rfl) (by omega), hd.take _, ?_, by simp; omega⟩, fun c hc => hin c (inB_sub hc), rfl⟩, by simp; omega⟩
      have hidx : ((s1.l : Int) - 1).toNat = l.length - 1 := by omega
      have := vl_take_succ l (l.length - 1) (by omega)
      rw [hidx]
      rw [vl_take_all _ _ (by omega), h0'] at this
      omega
    · intro h0
      refine hK _ ⟨l, hv, hd, .inr ?_, hn, hl⟩ hin
      intro h1
      exact h0 (by rw [h1]; rfl)
  · intro h0
    exact hK _ ⟨l, hv, hd, .inl (by omega), hn, hl⟩ hin

theorem compareD_spec {K : Int → World → Prop} (ha : Nt k w a n) (hb : Nt j w b m) (hk : k ≤ 2 ^ 40) (hK : ∀ w', Fr F0 w w' → K (cmpI n m) w') : probityref01_compare_sh a b K w := by
  obtain ⟨la, va, da, ta, rfl, kla⟩ := ha
  obtain ⟨lb, vb, db, tb, rfl, klb⟩ := hb
  have hla := va.len
  have hlb := vb.len
  refine ⟨?_⟩
  unfold probityref01_compare_sd
  rw [cnd_bne]
  constructor
  · intro hne
    rw [cnd_prop]
    constructor
    · intro hlt
      have := vl_lt_of_length da tb (by omega)
      rw [← cmpI_lt (x := (vl la : Int)) (y := (vl lb : Int)) (by omega)]
      exact hK w Fr.refl
    · intro hlt
      have := vl_lt_of_length db ta (by omega)
      rw [← cmpI_gt (x := (vl la : Int)) (y := (vl lb : Int)) (by omega)]
      exact hK w Fr.refl
  · intro heq
    refine ⟨inR64 (by omega) (by omega), ⟨⟨fun i w' => ∃ i' : Nat, i = (i' : Int) - 1 ∧ i' ≤ la.length ∧ la.drop i' = lb.drop i' ∧ Fr F0 w w', fun i _ => (i + 1).toNat, ⟨la.length, by omega, Nat.le_refl _, ?_, Fr.refl⟩, ?_⟩⟩⟩
    · rw [List.drop_length, show la.length = lb.length by omega, List.drop_length]
    · rintro i w1 ⟨i', rfl, hi', hd, hf⟩
      unfold probityref01_compare_b0
      rw [cnd_prop]
      constructor
      · intro hpos
        obtain ⟨i, rfl⟩ : ∃ i, i' = i + 1 := ⟨i' - 1, by omega⟩
        intro w2
        have hf2 : Fr F0 w w2 := Fr0.t hf Fr.drew
        clear_value w2
        refine (va.fr hf2).ld 0 i (by omega) (by omega) ((vb.fr hf2).ld 0 i (by omega) (by omega) ?_)
        rw [cnd_bne]
        constructor
        · intro hne w3
          have hf3 : Fr F0 w w3 := Fr0.t hf2 Fr.drew
          clear_value w3
          refine (va.fr hf3).ld 0 i (by omega) (by omega) ((vb.fr hf3).ld 0 i (by omega) (by omega) ?_)
          rw [cnd_prop]
          constructor
          · intro hlt
            have := vl_lt_at da (by omega) (by omega) hd (by omega : la.getD i 0 < lb.getD i 0)
            rw [← cmpI_lt (x := (vl la : Int)) (y := (vl lb : Int)) (by omega)]
            exact hK _ hf3
          · intro hlt
            have := vl_lt_at db (by omega) (by omega) hd.symm (by omega : lb.getD i 0 < la.getD i 0)
            rw [← cmpI_gt (x := (vl la : Int)) (y := (vl lb : Int)) (by omega)]
            exact hK _ hf3
        · intro heq
          refine ⟨inR64 (by omega) (by omega), ⟨⟨rfl, rfl, trivial⟩, i, by omega, by omega, drop_eq_at (by omega) (by omega) hd (by omega), hf2⟩, by dsimp only; omega⟩
      · intro h0
        have : i' = 0 := by omega
        subst this
        simp only [List.drop_zero] at hd
        rw [← cmpI_eq (x := (vl la : Int)) (y := (vl lb : Int)) (by rw [hd])]
        exact hK _ hf
end
end Go.Proofs.YtfclokkfnkieoaaGreatDoor

/- The reference's digits: differences and products. Conditions: none. -/
namespace Go.Proofs.YtfclokkfnkieoaaGreatDoor
open Go Pw

section
variable {w w' w0 : World} {s a b : Sl} {k j n m : Nat}

theorem minus_k2 {lo : List Nat} {out : Sl} {i d : Nat} {bo : Int} {N : Sl → Sl → Sl → Int → Int → World → Prop} {K : Sl → World → Prop} (ho : Mk w0 1 di w out lo) (hl : lo.length ≤ 2 ^ 40) (hi : i ≤ 2 ^ 40)
    (hN : ∀ o' w', Mk w0 1 di w' o' (lo ++ [d]) → N a b o' bo ((i : Int) + 1) w') : probityref01_minus_k2 a b out bo i (d : Int) N K w := by
  refine ⟨?_⟩
  unfold probityref01_minus_k2d
  exact ho.push (a := d) rfl rfl (ie_ok _ _) rfl (by omega) (by omega) fun r w2 h2 _ => ⟨inR64 (by omega) (by omega), hN r w2 h2⟩

theorem minus_spec {K : Sl → World → Prop} (ha : Nm k w a n) (hb : Nm j w b m) (hnm : m ≤ n) (hk : k ≤ 2 ^ 40) (hK : ∀ s' w', Nt k w' s' (n - m) → Fr F0 w w' → Bt w.heap.size w'.heap.size s' → K s' w') : probityref01_minus_sh a b K w := by
  obtain ⟨la, va, da, rfl, kla⟩ := ha
  obtain ⟨lb, vb, db, rfl, klb⟩ := hb
  have hla := va.len
  have hlb := vb.len
  refine ⟨⟨⟨fun out bo i w' => ∃ (lo : List Nat) (b' i' : Nat), bo = b' ∧ i = i' ∧ b' ≤ 1 ∧ i' ≤ la.length ∧ lo.length = i' ∧ Dg lo ∧ Mk w 1 di w' out lo ∧ vl lo + vl (lb.take i') = vl (la.take i') + 65536 ^ i' * b', fun _ _ i _ => la.length - i.toNat,
    ⟨[], 0, 0, rfl, rfl, by omega, by omega, rfl, Dg.nil, Mk.nil Fr.refl, by simp [vl]⟩, ?_⟩⟩⟩
  rintro out bo i w1 ⟨lo, b', i', rfl, rfl, hb1, hi, hlo, hdo, ho, hv⟩
  unfold probityref01_minus_b0
  rw [cnd_prop]
  constructor
  · intro hlt
    have hlt : i' < la.length := by omega
    have hda := da.getD i'
    have hta := vl_take_succ la i' hlt
    refine (va.fr ho.fr0).ld 0 i' rfl hlt ⟨inR64 (by omega) (by omega), ?_⟩
    have k1 : ∀ (y : Nat) , y < 65536 → (vl (lb.take (i' + 1)) = vl (lb.take i') + 65536 ^ i' * y) →
        probityref01_minus_k1 a b out (i' : Int) ((la.getD i' 0 : Nat) - (b' : Int) - (y : Int)) (fun (a_0' : Sl) (b_1' : Sl) (out_5' : Sl) (borrow_6' : Int) (i_7' : Int) (w' : World) => ((a_0' = a ∧ b_1' = b ∧ True) ∧ ∃ (lo : List Nat) (b' i' : Nat), borrow_6' = b' ∧ i_7' = i' ∧ b' ≤ 1 ∧ i' ≤ la.length ∧ lo.length = i' ∧ Dg lo ∧ Mk w 1 di w' out_5' lo ∧ vl lo + vl (lb.take i') = vl (la.take i') + 65536 ^ i' * b') ∧ la.length - i_7'.toNat < la.length - (i' : Int).toNat) K w1 := by
      intro y hy hty
      refine ⟨?_⟩
      unfold probityref01_minus_k1d
      rw [cnd_prop]
      have fin : ∀ (e d : Nat), d < 65536 → e ≤ 1 → d + y + b' = la.getD i' 0 + 65536 * e → vl (lo ++ [d]) + vl (lb.take (i' + 1)) = vl (la.take (i' + 1)) + 65536 ^ (i' + 1) * e := by
        intro e d hd he h
        rw [hty, hta, vl_append, hlo]
        simp only [vl, Nat.mul_zero, Nat.add_zero, Nat.pow_succ]
        generalize 65536 ^ i' = P at *
        have h2 : P * (d + y + b') = P * (la.getD i' 0 + 65536 * e) := by rw [h]
        rw [Nat.mul_add, Nat.mul_add, Nat.mul_add, ← Nat.mul_assoc] at h2
        omega
      constructor
      · intro hneg
        refine ⟨inR64 (by omega) (by omega), ?_⟩
        obtain ⟨d, hd⟩ : ∃ d : Nat, (d : Int) = (la.getD i' 0 : Nat) - (b' : Int) - (y : Int) + 65536 := ⟨((la.getD i' 0 : Nat) - (b' : Int) - (y : Int) + 65536).toNat, by omega⟩
        rw [← hd]
        refine minus_k2 ho (by omega) (by omega) fun o' w' h' => ⟨⟨⟨rfl, rfl, trivial⟩, lo ++ [d], 1, i' + 1, rfl, by omega, by omega, by omega, by simp [hlo], hdo.push (by omega), h', fin 1 d (by omega) (by omega) (by omega)⟩, by omega⟩
      · intro hneg
        obtain ⟨d, hd⟩ : ∃ d : Nat, (d : Int) = (la.getD i' 0 : Nat) - (b' : Int) - (y : Int) := ⟨((la.getD i' 0 : Nat) - (b' : Int) - (y : Int)).toNat, by omega⟩
        rw [← hd]
        refine minus_k2 ho (by omega) (by omega) fun o' w' h' => ⟨⟨⟨rfl, rfl, trivial⟩, lo ++ [d], 0, i' + 1, rfl, by omega, by omega, by omega, by simp [hlo], hdo.push (by omega), h', fin 0 d (by omega) (by omega) (by omega)⟩, by omega⟩
    rw [cnd_prop]
    constructor
    · intro hlb'
      have hdb := db.getD i'
      refine (vb.fr ho.fr0).ld 0 i' rfl (by omega) ⟨inR64 (by omega) (by omega), ?_⟩
      exact k1 _ hdb (vl_take_succ lb i' (by omega))
    · intro hlb'
      have := k1 0 (by omega) (by rw [vl_take_all _ _ (by omega), vl_take_all _ _ (by omega)]; simp)
      simpa using this
  · intro hlt
    have hi' : i' = la.length := by omega
    subst hi'
    rw [vl_take_all la _ (Nat.le_refl _)] at hv
    have h1 := vl_lt hdo
    rw [hlo] at h1
    have h2 := vl_lt da
    have hvb : vl (lb.take la.length) ≤ vl lb := by
      rcases Nat.le_total lb.length la.length with h | h
      · rw [vl_take_all _ _ h]; exact Nat.le_refl _
      · rw [vl_split lb la.length h]; omega
    have hb0 : b' = 0 := by
      rcases Nat.eq_zero_or_pos b' with h | h
      · exact h
      · have : b' = 1 := by omega
        subst this
        omega
    subst hb0
    have hvb' : vl (lb.take la.length) = vl lb := by
      rcases Nat.le_total lb.length la.length with h | h
      · exact vl_take_all _ _ h
      · have h3 := vl_split lb la.length h
        have h4 : vl (lb.drop la.length) = 0 := by
          rcases Nat.eq_zero_or_pos (vl (lb.drop la.length)) with h5 | h5
          · exact h5
          · have : 65536 ^ la.length * 1 ≤ 65536 ^ la.length * vl (lb.drop la.length) := Nat.mul_le_mul_left _ h5
            omega
        rw [h4] at h3
        omega
    rw [hvb'] at hv
    exact trim_spec (k := k) (n := vl la - vl lb) ⟨lo, ho.vw, hdo, by omega, by omega⟩ hk fun s' hs' hin => hK s' w1 hs' ho.fr0 fun c hc => ⟨ho.nw c (hin c hc), ho.ow.own.lt (hin c hc)⟩
end
end Go.Proofs.YtfclokkfnkieoaaGreatDoor

/- The reference's digits: products. Conditions: none. -/
namespace Go.Proofs.YtfclokkfnkieoaaGreatDoor
open Go Pw

section
variable {w w' w0 : World} {s a b : Sl} {k j n m : Nat}

theorem getD_set_other {l : List Nat} {i p v : Nat} (h : p ≠ i) : (l.set i v).getD p 0 = l.getD p 0 := by
  simp [List.getD_eq_getElem?_getD, List.getElem?_set_ne (Ne.symm h)]

theorem getD_set_self {l : List Nat} {i v : Nat} (h : i < l.length) : (l.set i v).getD i 0 = v := by
  simp [List.getD_eq_getElem?_getD, List.getElem?_set_self h]

theorem digit_bound {o x y c : Nat} (ho : o < 65536) (hx : x < 65536) (hy : y < 65536) (hc : c < 65536) : o + x * y + c < 65536 * 65536 := by
  have : x * y ≤ 65535 * 65535 := Nat.mul_le_mul (by omega) (by omega)
  omega

theorem times_spec' {K : Sl → World → Prop} (ha : Nm k w a n) (hb : Nm j w b m) (hk : k ≤ 2 ^ 39) (hj : j ≤ 2 ^ 39) (hK : ∀ s' w', Nt (k + j) w' s' (n * m) → Fr F0 w w' → Bt w.heap.size w'.heap.size s' → K s' w') : probityref01_times_sh a b K w := by
  obtain ⟨la, va, da, rfl, kla⟩ := ha
  obtain ⟨lb, vb, db, rfl, klb⟩ := hb
  have hla := va.len
  have hlb := vb.len
  refine ⟨?_⟩
  unfold probityref01_times_sd
  refine ⟨inR64 (by omega) (by omega), Mk.make (w0 := w) (enc := di) (z := 0) Fr.refl rfl rfl (by omega) (by omega) (by omega) fun out w1 h1 _ => ?_⟩
  refine ⟨⟨fun i w' => ∃ (i' : Nat) (lo : List Nat), i = i' ∧ i' ≤ la.length ∧ lo.length = la.length + lb.length ∧ Dg lo ∧ Mk w 1 di w' out lo ∧ vl lo = vl (la.take i') * vl lb ∧ ∀ p, i' + lb.length ≤ p → lo.getD p 0 = 0,
    fun i _ => la.length - i.toNat, ⟨0, _, rfl, by omega, by simp; omega, Dg.replicate _, h1, by simp [vl_replicate, vl], fun p _ => by simp [List.getD_eq_getElem?_getD, List.getElem?_replicate]; split <;> rfl⟩, ?_⟩⟩
  clear h1
  rintro i w2 ⟨i', lo, rfl, hi, hlo, hdo, ho, hv, hz⟩
  unfold probityref01_times_b0
  rw [cnd_prop]
  constructor
  · intro hlt
    have hlt : i' < la.length := by omega
    have hai := da.getD i'
    refine ⟨⟨fun c kk w' => ∃ (c' k' : Nat) (lo : List Nat), c = c' ∧ kk = k' ∧ c' < 65536 ∧ k' ≤ lb.length ∧ lo.length = la.length + lb.length ∧ Dg lo ∧ Mk w 1 di w' out lo ∧
        vl lo + 65536 ^ (i' + k') * c' = vl (la.take i') * vl lb + 65536 ^ i' * (la.getD i' 0 * vl (lb.take k')) ∧ ∀ p, i' + lb.length ≤ p → lo.getD p 0 = 0,
      fun _ kk _ => lb.length - kk.toNat, ⟨0, 0, lo, rfl, rfl, by omega, by omega, hlo, hdo, ho, by simp [vl, hv], hz⟩, ?_⟩⟩
    clear ho hdo hlo hv hz lo
    rintro c kk w3 ⟨c', k', lo, rfl, rfl, hc, hk', hlo, hdo, ho, hv, hz⟩
    unfold probityref01_times_b1
    rw [cnd_prop]
    constructor
    · intro hlt2
      have hlt2 : k' < lb.length := by omega
      have hbk := db.getD k'
      have hok := hdo.getD (i' + k')
      intro w4
      have ho : Mk w 1 di w4 out lo := ho.fr Fr.drew
      clear_value w4
      refine ⟨inR64 (by omega) (by omega), ho.vw.ld 0 (i' + k') (by omega) (by omega) ((va.fr ho.fr0).ld 0 i' rfl hlt ((vb.fr ho.fr0).ld 0 k' rfl hlt2 ?_))⟩
      have hbd := digit_bound hok hai hbk hc
      rw [mulN, addN, addN]
      generalize hd : lo.getD (i' + k') 0 + la.getD i' 0 * lb.getD k' 0 + c' = d at *
      have hq : d / 65536 < 65536 := by omega
      have hm : d % 65536 < 65536 := by omega
      refine ⟨inR64 (by omega) (by omega), inR64 (by omega) (by omega), inR64 (by omega) (by omega), inR64 (by omega) (by omega), by omega, ?_⟩
      obtain ⟨ad, hp, hbd2, hwr, hset⟩ := ho.st (i := (i' : Int) + k') (i' + k') (by omega) (by omega)
      rw [hp]
      refine ⟨hbd2, hwr, ?_⟩
      intro w5
      have h5 : Mk w 1 di w5 out (lo.set (i' + k') (d % 65536)) := (hset (d % 65536)).1
      clear_value w5
      refine ⟨by omega, ?_, inR64 (by omega) (by omega), ⟨⟨rfl, rfl, rfl, rfl, trivial⟩, d / 65536, k' + 1, _, rfl, by omega, hq, by omega, by simp [hlo], hdo.set _ hm, h5, ?_, ?_⟩, by dsimp only; omega⟩
      · exact inR64 (by rw [show (65536 : Int) = ((65536 : Nat) : Int) from rfl, tdivN]; omega) (by rw [show (65536 : Int) = ((65536 : Nat) : Int) from rfl, tdivN]; omega)
      · have e1 := vl_set lo (i' + k') (d % 65536) (by omega)
        rw [vl_take_succ lb k' hlt2, ← Nat.add_assoc, Nat.pow_succ]
        have e2 : 65536 ^ (i' + k') * d = 65536 ^ (i' + k') * (d % 65536) + 65536 ^ (i' + k') * 65536 * (d / 65536) := by
          rw [Nat.mul_assoc, ← Nat.mul_add, Nat.mod_add_div]
        rw [← hd, Nat.mul_add, Nat.mul_add] at e2
        have e3 : 65536 ^ (i' + k') * (la.getD i' 0 * lb.getD k' 0) = 65536 ^ i' * (la.getD i' 0 * (65536 ^ k' * lb.getD k' 0)) := by
          rw [Nat.pow_add, Nat.mul_assoc, Nat.mul_left_comm (65536 ^ k')]
        rw [hd, e3] at e2
        rw [Nat.mul_add, Nat.mul_add]
        omega
      · intro p hp
        rw [getD_set_other (by omega)]
        exact hz p hp
    · intro hlt2
      have hk2 : k' = lb.length := by omega
      subst hk2
      obtain ⟨ad, hp, hbd2, hwr, hset⟩ := ho.st (i := (i' : Int) + (b.l : Int)) (i' + lb.length) (by omega) (by omega)
      rw [hp]
      refine ⟨inR64 (by omega) (by omega), hbd2, hwr, ?_⟩
      intro w4
      have h4 : Mk w 1 di w4 out (lo.set (i' + lb.length) c') := (hset c').1
      clear_value w4
      refine ⟨inR64 (by omega) (by omega), ⟨⟨rfl, rfl, rfl, trivial⟩, i' + 1, _, rfl, by omega, by simp [hlo], hdo.set _ hc, h4, ?_, ?_⟩, by dsimp only; omega⟩
      · have e1 := vl_set lo (i' + lb.length) c' (by omega)
        rw [hz _ (Nat.le_refl _), vl_take_all lb _ (Nat.le_refl _)] at *
        rw [vl_take_succ la i' hlt, Nat.add_mul, Nat.mul_assoc]
        omega
      · intro p hp
        rw [getD_set_other (by omega)]
        exact hz p (by omega)
  · intro hlt
    have : i' = la.length := by omega
    subst this
    rw [vl_take_all la _ (Nat.le_refl _)] at hv
    exact trim_spec (k := k + j) ⟨lo, ho.vw, hdo, hv, by omega⟩ (by omega) fun s' hs' hin => hK s' w2 hs' ho.fr0 fun c hc => ⟨ho.nw c (hin c hc), ho.ow.own.lt (hin c hc)⟩

theorem by_spec {K : Sl → World → Prop} {d : Nat} (ha : Nm k w a n) (hd : d < 65536) (hk : k ≤ 2 ^ 39) (hK : ∀ s' w', Nt (k + 1) w' s' (n * d) → Fr F0 w w' → K s' w') : probityref01_by_sh a (d : Int) K w := by
  refine ⟨?_⟩
  unfold probityref01_by_sd
  intro w1
  have hf : Fr F0 w w1 := Fr.alloc
  refine times_spec' (j := 1) (m := d) (ha.fr hf) ⟨[d], Vw.new (enc := di) rfl rfl, by intro x hx; simp at hx; omega, by simp [vl], by simp⟩ hk (by omega) fun s' w' hs hf' _ => hK s' w' hs (Fr0.t hf hf')
end
end Go.Proofs.YtfclokkfnkieoaaGreatDoor

/- The reference's digits: quotients, remainders, common divisors. Conditions: none. -/
namespace Go.Proofs.YtfclokkfnkieoaaGreatDoor
open Go Pw

section
variable {w w' w0 : World} {s a b : Sl} {k j n m : Nat}

theorem mid_div {m R lo hi : Nat} (h1 : m * lo ≤ R) (h2 : R < m * hi) (h3 : hi ≤ lo + 1) : lo = R / m ∧ R - m * lo = R % m := by
  have hm : 0 < m := by
    rcases Nat.eq_zero_or_pos m with h | h
    · subst h; omega
    · exact h
  have h4 : m * hi ≤ m * (lo + 1) := Nat.mul_le_mul_left _ h3
  rw [Nat.mul_add] at h4
  have e : R = m * lo + (R - m * lo) := by omega
  have h5 : R / m = lo := by
    rw [e, Nat.mul_add_div hm, Nat.div_eq_of_lt (by omega)]; rfl
  have h6 := Nat.div_add_mod R m
  rw [h5] at h6
  omega

/-- The search for a digit, and what comes behind it. -/
theorem over_l2 {q r : Sl} {i low high R : Nat} {lq : List Nat} {N : Sl → Sl → Sl → Sl → Int → World → Prop} {K : Sl → Sl → World → Prop}
    (hb : Nm j w0 b m) (hj : j ≤ 2 ^ 38) (hr : Nt (j + 1) w r R) (hq : Mk w0 1 di w q lq) (hi : i < lq.length) (hl : lq.length ≤ 2 ^ 40) (hlo : low < high) (hhi : high ≤ 65536) (h1 : m * low ≤ R) (h2 : R < m * high) (hmj : m < 65536 ^ j) (hd : ∀ c, inB r c → ¬ inB q c)
    (hN : ∀ r' w', Nt j w' r' (R % m) → (∀ c, inB r' c → w.heap.size ≤ c) → w.heap.size ≤ w'.heap.size → Mk w0 1 di w' q (lq.set i (R / m)) → N a b q r' ((i : Int) - 1) w') : probityref01_over_l2 a b q r (i : Int) (low : Int) (high : Int) N K w := by
  refine ⟨⟨fun lo hi w' => ∃ lo' hi' : Nat, lo = lo' ∧ hi = hi' ∧ lo' < hi' ∧ hi' ≤ 65536 ∧ m * lo' ≤ R ∧ R < m * hi' ∧ Fr F0 w w', fun lo hi _ => (hi - lo).toNat, ⟨low, high, rfl, rfl, hlo, hhi, h1, h2, Fr.refl⟩, ?_⟩⟩
  clear h1 h2 hlo hhi
  rintro lo hi w1 ⟨lo', hi', rfl, rfl, hlo, hhi, h1, h2, hf⟩
  have hf0 := Fr0.t hq.fr0 hf
  unfold probityref01_over_b2
  refine ⟨inR64 (by omega) (by omega), ?_⟩
  rw [cnd_prop]
  constructor
  · intro hgt
    have hmid : Int.tdiv ((lo' : Int) + (hi' : Int)) 2 = (((lo' + hi') / 2 : Nat) : Int) := by rw [addN, show (2 : Int) = ((2 : Nat) : Int) from rfl, tdivN]
    rw [hmid]
    generalize hmd : (lo' + hi') / 2 = mid
    have e1 : lo' < mid := by omega
    have e2 : mid < hi' := by omega
    refine ⟨inR64 (by omega) (by omega), by omega, inR64 (by omega) (by omega), by_spec (hb.fr hf0) (by omega) (by omega) fun s2 w2 hs2 hf2 => ?_⟩
    refine compareD_spec hs2 ((hr.fr hf).fr hf2) (by omega) fun w3 hf3 => ?_
    have hfa := Fr0.t (Fr0.t hf hf2) hf3
    rw [cnd_prop]
    constructor
    · intro hc
      have : m * mid ≤ R := by
        rcases Nat.lt_or_ge R (m * mid) with h | h
        · rw [cmpI_gt (by omega)] at hc; omega
        · exact h
      exact ⟨⟨⟨rfl, rfl, rfl, rfl, rfl, trivial⟩, mid, hi', rfl, rfl, e2, hhi, this, h2, hfa⟩, by dsimp only; omega⟩
    · intro hc
      have : R < m * mid := by
        rcases Nat.lt_or_ge R (m * mid) with h | h
        · exact h
        · rcases Nat.lt_or_ge (m * mid) R with h' | h'
          · rw [cmpI_lt (by omega)] at hc; omega
          · rw [cmpI_eq (by omega)] at hc; omega
      exact ⟨⟨⟨rfl, rfl, rfl, rfl, rfl, trivial⟩, lo', mid, rfl, rfl, e1, by omega, h1, this, hfa⟩, by dsimp only; omega⟩
  · intro hgt
    obtain ⟨e1, e2⟩ := mid_div h1 h2 (by omega)
    have hq1 := hq.fr hf
    obtain ⟨ad, hp, hbd, hwr, hset⟩ := hq1.st (i := (i : Int)) i rfl hi
    rw [hp]
    refine ⟨hbd, hwr, ?_⟩
    intro w2
    have h5 : Mk w0 1 di w2 q (lq.set i lo') ∧ Fr (inB q) w1 w2 := hset lo'
    clear_value w2
    have hf2 := h5.1.fr0
    have hr2 : Nt (j + 1) w2 r R := by
      obtain ⟨lr, vr, dr, tr, er, kr⟩ := hr.fr hf
      exact ⟨lr, vr.frF h5.2 hd, dr, tr, er, kr⟩
    refine by_spec (hb.fr hf2) (by omega) (by omega) fun s3 w3 hs3 hf3 => ?_
    refine minus_spec (hr2.fr hf3).nm hs3.nm h1 (by omega) fun s4 w4 hs4 hf4 hn4 => ⟨inR64 (by omega) (by omega), ?_⟩
    rw [e2] at hs4
    have := hN s4 w4 (hs4.short (Nat.lt_trans (Nat.mod_lt _ (by
      rcases Nat.eq_zero_or_pos m with h | h
      · subst h; omega
      · exact h)) hmj)) (fun c hc => Nat.le_trans (Nat.le_trans hf.1 (Nat.le_trans h5.2.1 hf3.1)) (hn4 c hc).1) (Nat.le_trans (Nat.le_trans hf.1 h5.2.1) (Nat.le_trans hf3.1 hf4.1)) (by rw [← e1]; exact (h5.1.fr hf3).fr hf4)
    exact this

theorem over_spec {K : Sl → Sl → World → Prop} (ha : Nm k w a n) (hb : Nm j w b m) (hbt : Nt j w b m) (hm : 0 < m) (hmj : m < 65536 ^ j) (hk : k ≤ 2 ^ 38) (hj : j ≤ 2 ^ 38)
    (hK : ∀ q r w', Nt k w' q (n / m) → Nt j w' r (n % m) → Fr F0 w w' → K q r w') : probityref01_over_sh a b K w := by
  obtain ⟨la, va, da, rfl, kla⟩ := ha
  have hla := va.len
  refine ⟨?_⟩
  unfold probityref01_over_sd
  refine Mk.make (w0 := w) (enc := di) (z := 0) Fr.refl rfl rfl (by omega) (by omega) (by omega) fun q w1 h1 hf1 => ⟨inR64 (by omega) (by omega), ?_⟩
  have hqlt : ∀ c, inB q c → c < w1.heap.size := fun c hc => h1.ow.own.lt hc
  refine ⟨⟨fun r i w' => ∃ (i' : Nat) (lq : List Nat) (r' : Nat), i = (i' : Int) - 1 ∧ i' ≤ la.length ∧ lq.length = la.length ∧ Dg lq ∧ Mk w 1 di w' q lq ∧ Nt j w' r r' ∧ r' < m ∧ (∀ c, inB r c → w1.heap.size ≤ c) ∧ Fr F0 w w' ∧ w1.heap.size ≤ w'.heap.size ∧ vl (la.drop i') = vl (lq.drop i') * m + r',
    fun _ i _ => (i + 1).toNat, ⟨la.length, _, 0, by omega, Nat.le_refl _, by simp; omega, Dg.replicate _, h1, ⟨[], Vw.nil, Dg.nil, .inl rfl, rfl, Nat.zero_le _⟩, hm, (fun c ⟨_, hc, _⟩ => by cases hc), hf1, Nat.le_refl _, ?_⟩, ?_⟩⟩
  · rw [List.drop_length, List.drop_of_length_le (by simp; omega)]; simp [vl]
  rintro r i w2 ⟨i', lq, r', rfl, hi, hlq, hdq, hq, hr, hrm, hrn, hf2, hsz, hv⟩
  unfold probityref01_over_b0
  rw [cnd_prop]
  constructor
  · intro hpos
    obtain ⟨i, rfl⟩ : ∃ i, i' = i + 1 := ⟨i' - 1, by omega⟩
    have hidx : ((i + 1 : Nat) : Int) - 1 = (i : Int) := by omega
    rw [hidx]
    have hx := da.getD i
    refine (va.fr hf2).ld 0 i rfl (by omega) ?_
    intro w3
    have hf3 : Fr F0 w2 w3 := Fr.alloc
    have hmk : Mk w2 1 di w3 ⟨some ⟨w2.heap.size, 0, none⟩, 1, 1⟩ [la.getD i 0] := Mk.new Fr.refl rfl rfl
    clear_value w3
    obtain ⟨lr, vr, dr, tr, er, kr⟩ := hr.fr hf3
    refine hmk.app vr (ie_ok _ _) rfl (by simp; omega) (by simp; omega) fun s6 w4 h6 hf4 => ?_
    have hf4' : Fr F0 w2 w4 := h6.fr0
    have hRv : vl ([la.getD i 0] ++ lr) = la.getD i 0 + 65536 * r' := by simp [vl, er]
    have hRd : Dg ([la.getD i 0] ++ lr) := dr.cons hx
    refine trim_spec (k := j + 1) ⟨_, h6.vw, hRd, hRv, by simp; omega⟩ (by omega) fun s9 h9 hin9 => ?_
    have hfa := Fr0.t hf2 hf4'
    refine compareD_spec h9 (hbt.fr hfa) (by omega) fun w5 hf5 => ?_
    have hf5' := Fr0.t hf4' hf5
    have hq5 := hq.fr hf5'
    have hdis : ∀ c, inB s9 c → ¬ inB q c := fun c hc hcq => by
      have e1 := h6.nw c (hin9 c hc)
      have e2 := hqlt c hcq
      omega
    have next : ∀ low high : Nat, low < high → high ≤ 65536 → m * low ≤ la.getD i 0 + 65536 * r' → la.getD i 0 + 65536 * r' < m * high →
        probityref01_over_k1 a b q s9 (i : Int) (low : Int) (high : Int) (fun (a_0' : Sl) (b_1' : Sl) (q_6' : Sl) (r_7' : Sl) (i_8' : Int) (w' : World) => ((a_0' = a ∧ b_1' = b ∧ q_6' = q ∧ True) ∧ ∃ (i' : Nat) (lq : List Nat) (r' : Nat), i_8' = (i' : Int) - 1 ∧ i' ≤ la.length ∧ lq.length = la.length ∧ Dg lq ∧ Mk w 1 di w' q lq ∧ Nt j w' r_7' r' ∧ r' < m ∧ (∀ c, inB r_7' c → w1.heap.size ≤ c) ∧ Fr F0 w w' ∧ w1.heap.size ≤ w'.heap.size ∧ vl (la.drop i') = vl (lq.drop i') * m + r') ∧ (i_8' + 1).toNat < (((i : Int)) + 1).toNat) K w5 := by
      intro low high e1 e2 e3 e4
      refine ⟨?_⟩
      refine over_l2 hb hj (h9.fr hf5) hq5 (by omega) (by omega) e1 e2 e3 e4 hmj hdis fun r2 w6 hr2 hn2 hs6 hq6 => ⟨⟨⟨rfl, rfl, rfl, trivial⟩, i, _, _, rfl, by omega, by simp [hlq], hdq.set _ ?_, hq6, hr2, Nat.mod_lt _ hm, fun c hc => Nat.le_trans (Nat.le_trans hsz hf5'.1) (hn2 c hc), hq6.fr0, Nat.le_trans (Nat.le_trans hsz hf5'.1) hs6, ?_⟩, by omega⟩
      · have := Nat.div_lt_of_lt_mul e4
        omega
      · rw [vl_drop la i (by omega), vl_drop (lq.set i _) i (by simp; omega), hv, getD_set_self (by omega), List.drop_set_of_lt (by omega)]
        have := Nat.div_add_mod (la.getD i 0 + 65536 * r') m
        rw [Nat.add_mul, Nat.mul_add, ← Nat.mul_assoc, Nat.mul_comm ((la.getD i 0 + 65536 * r') / m) m]
        omega
    rw [cnd_prop]
    constructor
    · intro hc
      have hlt : la.getD i 0 + 65536 * r' < m := by
        rcases Nat.lt_or_ge (la.getD i 0 + 65536 * r') m with h | h
        · exact h
        · rcases Nat.lt_or_ge m (la.getD i 0 + 65536 * r') with h' | h'
          · rw [cmpI_gt (by omega)] at hc; omega
          · rw [cmpI_eq (by omega)] at hc; omega
      exact next 0 1 (by omega) (by omega) (by omega) (by omega)
    · intro hc
      exact next 0 65536 (by omega) (by omega) (by omega) (by omega)
  · intro hneg
    have : i' = 0 := by omega
    subst this
    simp only [List.drop_zero] at hv
    have e : vl lq = vl la / m ∧ r' = vl la % m := by
      rw [hv, Nat.mul_comm, Nat.mul_add_div hm, Nat.div_eq_of_lt hrm, Nat.mul_add_mod, Nat.mod_eq_of_lt hrm]
      exact ⟨rfl, rfl⟩
    refine trim_spec (k := k) ⟨lq, hq.vw, hdq, e.1, by omega⟩ (by omega) fun s' hs' _ => hK s' r w2 hs' (by rw [← e.2]; exact hr) hf2

theorem common_spec {K : Sl → World → Prop} (ha : Nm k w a n) (hb : Nm k w b m) (hnk : n < 65536 ^ k) (hmk : m < 65536 ^ k) (hk : k ≤ 2 ^ 38)
    (hK : ∀ s' w', Nt k w' s' (Nat.gcd n m) → Fr F0 w w' → K s' w') : probityref01_common_sh a b K w := by
  refine ⟨⟨⟨fun a b w' => ∃ x y : Nat, Nm k w' a x ∧ Nm k w' b y ∧ x < 65536 ^ k ∧ y < 65536 ^ k ∧ Nat.gcd x y = Nat.gcd n m ∧ Fr F0 w w', fun a b w' => Classical.epsilon fun y => Nm k w' b y, ⟨n, m, ha, hb, hnk, hmk, rfl, Fr.refl⟩, ?_⟩⟩⟩
  rintro a1 b1 w1 ⟨x, y, hx, hy, hxk, hyk, hg, hf⟩
  have huniq : ∀ {w' : World} {s : Sl} {u v : Nat}, Nm k w' s u → Nm k w' s v → u = v := by
    rintro w' s u v ⟨l, h1, h2, rfl, _⟩ ⟨l', h1', h2', rfl, _⟩
    have e : l = l' := by
      have g1 := h1.rd
      have g2 := h1'.rd
      have hl := h1.len
      have hl' := h1'.len
      apply List.ext_getElem?
      intro i
      rcases Nat.lt_or_ge i l.length with hi | hi
      · have hi' : i < l'.length := by omega
        obtain ⟨ad, hp, hc⟩ := h1.at (fun _ => rfl) (List.getElem?_eq_getElem hi) (by decide)
        obtain ⟨ad', hp', hc'⟩ := h1'.at (fun _ => rfl) (List.getElem?_eq_getElem hi') (by decide)
        rw [hp] at hp'
        cases hp'
        have e1 := hc 0 _ rfl
        have e2 := hc' 0 _ rfl
        rw [e1] at e2
        rw [List.getElem?_eq_getElem hi, List.getElem?_eq_getElem hi']
        have := Option.some.inj e2
        injection this with _ e3
        congr 1
        have e4 : ((l[i] : Nat) : Int) = (l'[i] : Nat) := e3
        omega
      · rw [List.getElem?_eq_none hi, List.getElem?_eq_none (by omega)]
    rw [e]
  have heps : ∀ {w' : World} {s : Sl} {u : Nat}, Nm k w' s u → (Classical.epsilon fun y => Nm k w' s y) = u := fun {w' s u} h => huniq (Classical.epsilon_spec (p := fun y => Nm k w' s y) ⟨u, h⟩) h
  unfold probityref01_common_b0
  refine trim_spec hy (by omega) fun s2 h2 _ => ?_
  have hz := h2.zero
  rw [cnd_prop]
  constructor
  · intro hpos
    have hy0 : 0 < y := by
      rcases Nat.eq_zero_or_pos y with h | h
      · rw [hz.2 h] at hpos; omega
      · exact h
    refine trim_spec hx (by omega) fun s4 h4 _ => trim_spec hy (by omega) fun s6 h6 _ => over_spec h4.nm h6.nm h6 hy0 hyk (by omega) (by omega) fun q r w2 _ hr hf2 => ⟨⟨trivial, y, x % y, hy.fr hf2, hr.nm, hyk, ?_, ?_, Fr0.t hf hf2⟩, ?_⟩
    · exact Nat.lt_trans (Nat.mod_lt _ hy0) hyk
    · rw [← hg, Nat.gcd_comm y, ← Nat.gcd_rec, Nat.gcd_comm]
    · show (Classical.epsilon fun z => Nm k w2 r z) < (Classical.epsilon fun z => Nm k w1 b1 z)
      rw [heps hr.nm, heps hy]
      exact Nat.mod_lt _ hy0
  · intro h0
    have hy0 : y = 0 := hz.1 (by omega)
    subst hy0
    rw [Nat.gcd_zero_right] at hg
    refine trim_spec hx (by omega) fun s4 h4 _ => hK s4 w1 (by rw [← hg]; exact h4) hf
end
end Go.Proofs.YtfclokkfnkieoaaGreatDoor

/- The reference's integers: laying them out in digits, reading them back, lowest terms. Conditions: none. -/
namespace Go.Proofs.YtfclokkfnkieoaaGreatDoor
open Go Pw

section
variable {w w' w0 : World} {s a b : Sl} {k j n m : Nat}

/-- A result of a truth value and a slice, laid into its variable and read again. -/
theorem putbs {l : List (Nat × List Value)} {b : Nat} {x y : Value} {s : Sl} {e : Bool} {K : Bool → Sl → World → Prop} (m : Mem w0 w l) (j : Nat) (hj : l[j]? = some (b, [x, y])) (hK : ∀ w', Mem w0 w' (l.set j (b, [.bool e, .slice s.p s.l s.c])) → Fr (fun c => c = b) w w' → K e s w') :
    wrOk w (Addr.mk b 0 none) ∧ (let w4 : World := w.setCell (Addr.mk b 0 none) (Value.bool e)
      wrOk w4 (Addr.mk b 1 none) ∧ (let w5 : World := w4.setCell (Addr.mk b 1 none) (Value.slice s.p s.l s.c)
        ∃ x6 : Bool, w5.cell? (Addr.mk b 0 none) = some (Value.bool x6) ∧ ∃ x7 : Sl, w5.cell? (Addr.mk b 1 none) = some (Value.slice x7.p x7.l x7.c) ∧ K x6 x7 w5)) := by
  have hl : j < l.length := (List.getElem?_eq_some_iff.1 hj).1
  refine ⟨m.wr j hj rfl, ?_⟩
  intro w2
  have m : Mem w0 w2 _ := m.set j hj
  have f2 : Fr (fun c => c = b) w w2 := Fr.set rfl
  clear_value w2
  refine ⟨m.wr j (cs := [Value.bool e, y]) (by simp [hl]) rfl, ?_⟩
  intro w3
  have m : Mem w0 w3 _ := m.set j (cs := [Value.bool e, y]) (by simp [hl])
  have f3 : Fr (fun c => c = b) w w3 := f2.trans (Fr.set (F := fun c => c = b) rfl) fun _ h _ => h
  clear_value w3
  refine ⟨_, m.ld j (cs := [Value.bool e, Value.slice s.p s.l s.c]) (by simp [hl]) rfl, s, m.ld j (cs := [Value.bool e, Value.slice s.p s.l s.c]) (by simp [hl]) rfl, hK w3 ?_ f3⟩
  simpa using m

theorem tr_push {l : List Nat} {d : Nat} (hd : d ≠ 0) : Tr (l ++ [d]) := .inr (by simp [List.getD_eq_getElem?_getD, hd])

theorem rof_spec {n : Int} {K : Bool → Sl → World → Prop} (h : I64 n) (hK : ∀ s' w', Nt 4 w' s' n.natAbs → Fr F0 w w' → K (decide (n < 0)) s' w') : probityref01_of_sh n K w := by
  have hbound := natAbs_pow_four h
  refine ⟨?_⟩
  unfold probityref01_of_sd
  intro w1
  have m : Mem w w1 _ := Mem.nil.alloc
  clear_value w1
  have hlt1 : w.heap.size < w1.heap.size := (m.2.1 _ (List.mem_cons_self ..)).lt
  have k0 : probityref01_of_k0 n (Addr.mk w.heap.size 0 none) (Sl.mk none 0 0) (n.natAbs : Int) K w1 := by
    refine ⟨⟨⟨fun l mm w' => ∃ (lo : List Nat) (m' : Nat), mm = m' ∧ Mk w1 1 di w' l lo ∧ Dg lo ∧ vl lo + 65536 ^ lo.length * m' = n.natAbs ∧ (m' = 0 → Tr lo) ∧ lo.length ≤ 4, fun _ mm _ => mm.toNat, ⟨[], n.natAbs, rfl, Mk.nil Fr.refl, Dg.nil, by simp [vl], fun _ => .inl rfl, by simp⟩, ?_⟩⟩⟩
    rintro l mm w2 ⟨lo, m', rfl, ho, hdo, hv, htr, hlen⟩
    unfold probityref01_of_b1
    rw [cnd_prop]
    constructor
    · intro hpos
      have hlt : lo.length < 4 := by
        rcases Nat.lt_or_ge lo.length 4 with h4 | h4
        · exact h4
        · have : 65536 ^ 4 * 1 ≤ 65536 ^ lo.length * m' := Nat.mul_le_mul (Nat.pow_le_pow_right (by decide) h4) (by omega)
          omega
      have hm64 : m' < 18446744073709551616 := by
        have : 1 * m' ≤ 65536 ^ lo.length * m' := Nat.mul_le_mul_right _ (Nat.pow_pos (by decide))
        have : (65536 : Nat) ^ 4 = 18446744073709551616 := by decide
        omega
      refine ⟨by omega, ?_⟩
      have ew : IntKind.wrap .i64 (Int.tmod (m' : Int) 65536) = ((m' % 65536 : Nat) : Int) := by
        rw [show (65536 : Int) = ((65536 : Nat) : Int) from rfl, tmodN]
        exact wi64_in ⟨by omega, by omega⟩
      rw [ew]
      refine ho.push (a := m' % 65536) rfl rfl (ie_ok _ _) rfl (by omega) (by omega) fun r w3 h3 _ => ?_
      refine ⟨by omega, inRu (by rw [show (65536 : Int) = ((65536 : Nat) : Int) from rfl, tdivN]; omega) (by rw [show (65536 : Int) = ((65536 : Nat) : Int) from rfl, tdivN]; omega), ⟨⟨rfl, rfl, trivial⟩, lo ++ [m' % 65536], m' / 65536, rfl, h3, hdo.push (by omega), ?_, fun h0 => tr_push (by omega), by simp; omega⟩, ?_⟩
      · rw [vl_append, ← hv]
        simp only [vl, Nat.mul_zero, Nat.add_zero, List.length_append, List.length_cons, List.length_nil, Nat.zero_add, Nat.pow_succ]
        rw [Nat.mul_assoc, Nat.add_assoc, ← Nat.mul_add, Nat.mod_add_div]
      · show (Int.tdiv (m' : Int) 65536).toNat < ((m' : Int)).toNat
        rw [show (65536 : Int) = ((65536 : Nat) : Int) from rfl, tdivN]
        omega
    · intro h0
      have hm0 : m' = 0 := by omega
      subst hm0
      have m := m.fr ho.fr0
      have hs : ∀ c, inB l c → ¬ c = w.heap.size := fun c hc e => by
        have h1 := ho.nw c hc
        omega
      refine putbs m 0 rfl fun w3 m3 hf3 => hK l w3 ⟨lo, ho.vw.frF hf3 hs, hdo, htr rfl, by rw [← hv]; simp, hlen⟩ m3.1
  have hn1 := h.1
  have hn2 := h.2
  rw [cnd_prop]
  constructor
  · intro hn
    have e : IntKind.wrap .u64 ((0 : Int) - IntKind.wrap .u64 n) = (n.natAbs : Int) := by
      simp only [wu64_mod]
      omega
    rw [e]
    exact k0
  · intro hn
    have e : IntKind.wrap .u64 n = (n.natAbs : Int) := by
      simp only [wu64_mod]
      omega
    rw [e]
    exact k0
end
end Go.Proofs.YtfclokkfnkieoaaGreatDoor

/- The reference's integers: reading them back, lowest terms. Conditions: none. -/
namespace Go.Proofs.YtfclokkfnkieoaaGreatDoor
open Go Pw

/-- What a number of digits gives as an int. -/
def fitI (neg : Bool) (n : Nat) : Int × Bool := if neg = true ∧ n ≤ 9223372036854775808 then (-(n : Int), true) else if 9223372036854775808 ≤ n then (0, false) else ((n : Int), true)

section
variable {w w' w0 : World} {s a b : Sl} {k j n m : Nat}

theorem fit_spec {neg : Bool} {K : Int → Bool → World → Prop} (h : Nm k w s n) (hk : k ≤ 2 ^ 40) (hK : ∀ w', Fr F0 w w' → K (fitI neg n).1 (fitI neg n).2 w') : probityref01_fit_sh neg s K w := by
  unfold fitI at hK
  refine ⟨?_⟩
  unfold probityref01_fit_sd
  intro w1
  have hf1 : Fr F0 w w1 := Fr.alloc
  have m : Mem w w1 _ := Mem.nil.alloc
  clear_value w1
  refine ⟨s, m.ld 0 rfl rfl, trim_spec (h.fr hf1) hk fun s4 h4 _ => ?_⟩
  obtain ⟨l, hv, hd, ht, rfl, hl⟩ := h4
  have hlen := hv.len
  have hpow : (65536 : Nat) ^ 4 = 18446744073709551616 := by decide
  rw [cnd_prop]
  constructor
  · intro hgt
    have h5 := ht.le (by omega)
    have h6 : 65536 ^ 4 ≤ 65536 ^ (l.length - 1) := Nat.pow_le_pow_right (by decide) (by omega)
    have := hK w1 hf1
    rw [if_neg (by omega), if_pos (by omega)] at this
    exact this
  · intro hle
    have hlt : vl l < 18446744073709551616 := by
      have h5 := vl_lt hd
      have h6 : 65536 ^ l.length ≤ 65536 ^ 4 := Nat.pow_le_pow_right (by decide) (by omega)
      omega
    have ew : IntKind.wrap .i64 ((s4.l : Int) - 1) = (l.length : Int) - 1 := by rw [hlen]; exact wi64_in ⟨by omega, by omega⟩
    rw [ew]
    refine ⟨⟨fun mm i w' => ∃ i' : Nat, i = (i' : Int) - 1 ∧ i' ≤ l.length ∧ mm = (vl (l.drop i') : Nat) ∧ w' = w1, fun _ i _ => (i + 1).toNat, ⟨l.length, rfl, Nat.le_refl _, by rw [List.drop_length]; rfl, rfl⟩, ?_⟩⟩
    rintro mm i w2 ⟨i', rfl, hi, rfl, rfl⟩
    unfold probityref01_fit_b0
    have hdle : vl (l.drop i') ≤ vl l := by
      rw [vl_split l i' hi]
      have : 1 * vl (l.drop i') ≤ 65536 ^ i' * vl (l.drop i') := Nat.mul_le_mul_right _ (Nat.pow_pos (by decide))
      omega
    rw [cnd_prop]
    constructor
    · intro hpos
      obtain ⟨i, rfl⟩ : ∃ i, i' = i + 1 := ⟨i' - 1, by omega⟩
      have hdle2 : vl (l.drop i) ≤ vl l := by
        rw [vl_split l i (by omega)]
        have : 1 * vl (l.drop i) ≤ 65536 ^ i * vl (l.drop i) := Nat.mul_le_mul_right _ (Nat.pow_pos (by decide))
        omega
      have hx := hd.getD i
      have e := vl_drop l i (by omega)
      refine hv.ld 0 i (by omega) (by omega) ?_
      have e1 : IntKind.wrap .u64 (IntKind.wrap .u64 ((vl (l.drop (i + 1)) : Nat) * 65536) + IntKind.wrap .u64 ((l.getD i 0 : Nat) : Int)) = ((vl (l.drop i) : Nat) : Int) := by
        rw [wu64_mod, wu64_mod, wu64_mod]
        omega
      have e2 : IntKind.wrap .i64 (((i + 1 : Nat) : Int) - 1 - 1) = (i : Int) - 1 := by rw [wi64_in ⟨by omega, by omega⟩]; omega
      rw [e1, e2]
      exact ⟨⟨⟨rfl, rfl, trivial⟩, i, rfl, by omega, rfl, rfl⟩, by dsimp only; omega⟩
    · intro hneg
      have h0 : i' = 0 := by omega
      subst h0
      rw [List.drop_zero]
      have k1 : ¬ (neg = true ∧ vl l ≤ 9223372036854775808) → probityref01_fit_k1 ((vl l : Nat) : Int) K w2 := by
        intro hn
        have := hK w2 hf1
        rw [if_neg hn] at this
        refine ⟨?_⟩
        unfold probityref01_fit_k1d
        rw [cnd_prop]
        constructor
        · intro h
          rw [if_pos (by omega)] at this
          exact this
        · intro h
          rw [if_neg (by omega)] at this
          rw [wi64_in ⟨by omega, by omega⟩]
          exact this
      refine ⟨neg, m.ld 0 rfl rfl, ?_⟩
      cases neg
      · rw [cnd_false]
        exact k1 (by simp)
      · rw [cnd_true, cnd_prop]
        constructor
        · intro h
          have := hK w2 hf1
          rw [if_pos ⟨rfl, by omega⟩] at this
          have e : IntKind.wrap .i64 (IntKind.wrap .u64 ((0 : Int) - (vl l : Nat))) = -((vl l : Nat) : Int) := by
            rw [wu64_mod]
            unfold IntKind.wrap
            simp [IntKind.bits, IntKind.signed]
            omega
          rw [e]
          exact this
        · intro h
          exact k1 (by omega)
end
end Go.Proofs.YtfclokkfnkieoaaGreatDoor

/- The reference's integers: lowest terms, small numbers, Make. Conditions: none. -/
namespace Go.Proofs.YtfclokkfnkieoaaGreatDoor
open Go Pw

section
variable {w w' w0 : World} {s a b : Sl} {k j n m : Nat}

theorem rOf_spec {n : Int} {K : Int → Int → World → Prop} (hK : ∀ w', Fr F0 w w' → K n 1 w') : probityref01_Of_sh n K w := by
  refine ⟨?_⟩
  unfold probityref01_Of_sd
  intro w1
  have m : Mem w w1 _ := Mem.nil.alloc
  clear_value w1
  exact put2 m 0 rfl hK

theorem small_spec {n : Int} {K : Bool → World → Prop} (hK : K (decide (-1000000000 < n ∧ n < 1000000000)) w) : probityref01_small_sh n K w := by
  refine ⟨?_⟩
  unfold probityref01_small_sd
  rw [cnd_prop]
  constructor
  · intro h
    by_cases h2 : n < 1000000000
    · rw [decide_eq_true (⟨by omega, h2⟩ : -1000000000 < n ∧ n < 1000000000)] at hK
      rw [decide_eq_true h2]; exact hK
    · rw [decide_eq_false (by omega)] at hK
      rw [decide_eq_false h2]; exact hK
  · intro h
    rw [decide_eq_false (by omega)] at hK
    exact hK

theorem lowest_k1 {l : List (Nat × List Value)} {t : Nat} {x y : Value} {K : Int → Int → Bool → World → Prop} (m : Mem w0 w l) (j : Nat) (hj : l[j]? = some (t, [x, y])) (hK : ∀ w', Fr F0 w0 w' → Kr K zr w') : probityref01_lowest_k1 ⟨t, 0, none⟩ K w :=
  ⟨rOf_spec fun _ hf => put2b (m.fr hf) j hj hK⟩

theorem lowest_k0 {l : List (Nat × List Value)} {t : Nat} {x y : Value} {neg neg' : Bool} {c d : Nat} {K : Int → Int → Bool → World → Prop} (m : Mem w0 w l) (j : Nat) (hj : l[j]? = some (t, [x, y])) (hy : Nm k w s d) (hk : k ≤ 2 ^ 38)
    (hneg : neg' = (neg && decide (c ≠ 0))) (hK : ∀ w', Fr F0 w0 w' → Kr K (ratI neg c d) w') : probityref01_lowest_k0 ⟨t, 0, none⟩ s (fitI neg' c).1 (fitI neg' c).2 K w := by
  refine ⟨fit_spec hy (by omega) fun w1 hf => ?_⟩
  have m := m.fr hf
  have hd : fitI false d = if 9223372036854775808 ≤ d then (0, false) else ((d : Int), true) := by simp [fitI]
  have hbad : ¬ (d < 9223372036854775808 ∧ (c < 9223372036854775808 ∨ c = 9223372036854775808 ∧ neg = true)) → probityref01_lowest_k1 ⟨t, 0, none⟩ K w1 := by
    intro h
    refine lowest_k1 m j hj fun w' hf => ?_
    have := hK w' hf
    unfold ratI at this
    rw [if_neg h] at this
    exact this
  by_cases hc : (fitI neg' c).2 = true
  · rw [hc, Bool.not_true, cnd_false]
    have hc' : (c < 9223372036854775808 ∨ c = 9223372036854775808 ∧ neg = true) ∧ (fitI neg' c).1 = if neg then -(c : Int) else c := by
      subst hneg
      unfold fitI at hc ⊢
      cases neg
      · simp at hc ⊢
        split at hc
        · cases hc
        · rename_i h
          exact ⟨by omega, by rw [if_neg h]⟩
      · simp at hc ⊢
        split at hc
        · rename_i h
          rw [if_pos h]
          exact ⟨by omega, rfl⟩
        · rename_i h
          split at hc
          · cases hc
          · rename_i h'
            rw [if_neg h, if_neg h']
            exact ⟨by omega, by simp at h; omega⟩
    rw [hc'.2, hd]
    by_cases hdl : 9223372036854775808 ≤ d
    · rw [if_pos hdl, Bool.not_false, cnd_true]
      exact hbad fun h => absurd h.1 (by omega)
    · rw [if_neg hdl, Bool.not_true, cnd_false]
      refine put2b m j hj fun w' hf => ?_
      have := hK w' hf
      unfold ratI at this
      rw [if_pos ⟨by omega, hc'.1⟩] at this
      exact this
  · have hc : (fitI neg' c).2 = false := by simpa using hc
    rw [hc, Bool.not_false, cnd_true]
    refine hbad ?_
    rintro ⟨_, h⟩
    subst hneg
    unfold fitI at hc
    cases neg
    · simp at hc h
      split at hc
      · omega
      · cases hc
    · simp at hc h
      split at hc
      · cases hc
      · rename_i h2
        split at hc
        · omega
        · cases hc

theorem rlowest_spec {neg1 neg2 : Bool} {s1 s2 : Sl} {d : Nat} {K : Int → Int → Bool → World → Prop} (h1 : Nm k w s1 n) (h2 : Nm k w s2 d) (hn : n < 65536 ^ k) (hd : d < 65536 ^ k) (hd0 : 0 < d) (hk : k ≤ 2 ^ 37)
    (hK : ∀ w', Fr F0 w w' → Kr K (fitQ (mkRat (sgn (neg1 != neg2) n) d)) w') : probityref01_lowest_sh neg1 s1 neg2 s2 K w := by
  rw [← lowest_rat (neg1 != neg2) n d (by omega)] at hK
  have hg0 : 0 < Nat.gcd n d := Nat.gcd_pos_of_pos_right _ hd0
  have hgk : Nat.gcd n d < 65536 ^ k := Nat.lt_of_le_of_lt (Nat.gcd_le_right _ hd0) hd
  refine ⟨?_⟩
  unfold probityref01_lowest_sd
  intro w1
  have m : Mem w w1 _ := Mem.nil.alloc
  clear_value w1
  intro w2
  have m : Mem w w2 _ := m.alloc
  clear_value w2
  intro w3
  have m : Mem w w3 _ := m.alloc
  clear_value w3
  refine ⟨s1, m.ld 2 rfl rfl, s2, m.ld 1 rfl rfl, common_spec (h1.fr m.1) (h2.fr m.1) hn hd (by omega) fun s7 w6 h7 hf6 => ?_⟩
  have m := m.fr hf6
  refine ⟨s1, m.ld 2 rfl rfl, trim_spec (h1.fr m.1) (by omega) fun s10 h10 _ => ?_⟩
  refine over_spec h10.nm h7.nm h7 hg0 hgk (by omega) (by omega) fun s12 s13 w11 h12 _ hf11 => ?_
  have m := m.fr hf11
  refine ⟨s2, m.ld 1 rfl rfl, trim_spec (h2.fr m.1) (by omega) fun s16 h16 _ => ?_⟩
  refine over_spec h16.nm (h7.fr hf11).nm (h7.fr hf11) hg0 hgk (by omega) (by omega) fun s18 s19 w17 h18 _ hf17 => ?_
  have m := m.fr hf17
  have h12 := h12.fr hf17
  refine ⟨neg1, m.ld 2 rfl rfl, neg2, m.ld 1 rfl rfl, ?_⟩
  have hz := h12.zero
  cases hne : neg1 == neg2
  · have e : (neg1 != neg2) = true := by simp [bne, hne]
    rw [Bool.not_false, cnd_true]
    refine fit_spec h12.nm (by omega) fun w22 hf22 => ?_
    refine lowest_k0 (neg := neg1 != neg2) (m.fr hf22) 0 rfl (h18.fr hf22).nm (by omega) ?_ hK
    rw [e, Bool.true_and]
    apply decide_eq_decide.2
    omega
  · have e : (neg1 != neg2) = false := by simp [bne, hne]
    rw [Bool.not_true, cnd_false]
    refine fit_spec h12.nm (by omega) fun w22 hf22 => ?_
    refine lowest_k0 (neg := neg1 != neg2) (m.fr hf22) 0 rfl (h18.fr hf22).nm (by omega) ?_ hK
    rw [e, Bool.false_and]
end

theorem divInt_sgn (n d : Int) : mkRat (sgn ((decide (n < 0)) != (decide (d < 0))) n.natAbs) d.natAbs = Rat.divInt n d := by
  rcases Int.lt_or_le d 0 with hneg | hpos
  · have e1 : Rat.divInt n d = Rat.divInt (-n) (-d) := (Rat.neg_divInt_neg n d).symm
    have e2 : -d = ((d.natAbs : Nat) : Int) := by omega
    rw [e1, e2, Rat.divInt_ofNat]
    congr 1
    rcases Int.lt_or_le n 0 with h | h
    · simp [sgn, h, hneg]; omega
    · have h' : ¬ n < 0 := by omega
      simp [sgn, h', hneg]; omega
  · have e2 : d = ((d.natAbs : Nat) : Int) := by omega
    have hd' : ¬ d < 0 := by omega
    conv => rhs; rw [e2]
    rw [Rat.divInt_ofNat]
    congr 1
    rcases Int.lt_or_le n 0 with h | h
    · simp [sgn, h, hd']; omega
    · have h' : ¬ n < 0 := by omega
      simp [sgn, h', hd']; omega

section
variable {w w0 : World}

/-- Quotients of numbers that are well within the ints. -/
theorem quick_q {n d : Int} (hn : n.natAbs < 9223372036854775808) (hd : d.natAbs < 9223372036854775808) (hd0 : 0 < d) :
    fitQ (Rat.divInt n d) = ⟨Int.tdiv n (Nat.gcd n.natAbs d.natAbs : Nat), Int.tdiv d (Nat.gcd n.natAbs d.natAbs : Nat), true⟩ := by
  have hd1 : ¬ d < 0 := by omega
  rw [← divInt_sgn, ← lowest_rat _ _ _ (by omega)]
  have h1 := Nat.div_le_self n.natAbs (Nat.gcd n.natAbs d.natAbs)
  have h2 := Nat.div_le_self d.natAbs (Nat.gcd n.natAbs d.natAbs)
  unfold ratI
  rw [if_pos ⟨by omega, .inl (by omega)⟩]
  generalize Nat.gcd n.natAbs d.natAbs = g at *
  have e2 : d = ((d.natAbs : Nat) : Int) := by omega
  congr 1
  · rcases Int.lt_or_le n 0 with h | h
    · have e1 : n = -((n.natAbs : Nat) : Int) := by omega
      simp only [h, hd1, decide_true, decide_false]
      conv => rhs; rw [e1]
      rw [Int.neg_tdiv, tdivN]
      simp
    · have e1 : n = ((n.natAbs : Nat) : Int) := by omega
      have h' : ¬ n < 0 := by omega
      simp only [h', hd1, decide_false]
      conv => rhs; rw [e1]
      rw [tdivN]
      simp
  · conv => rhs; rw [e2]
    rw [tdivN]

theorem quick_k0 {n d : Int} {t : Nat} {x y : Value} {l : List (Nat × List Value)} {K : Int → Int → World → Prop} (m : Mem w0 w l) (j : Nat) (hj : l[j]? = some (t, [x, y])) (hn : n.natAbs < 9223372036854775808) (hd : d.natAbs < 9223372036854775808) (hd0 : 0 < d)
    (hK : ∀ w', Fr F0 w0 w' → K (fitQ (Rat.divInt n d)).n (fitQ (Rat.divInt n d)).d w') : probityref01_quick_k0 n d ⟨t, 0, none⟩ K w := by
  rw [quick_q hn hd hd0] at hK
  have hm : max n (-n) = (n.natAbs : Int) := by omega
  refine ⟨?_⟩
  unfold probityref01_quick_k0d
  rw [hm]
  have e2 : d = ((d.natAbs : Nat) : Int) := by omega
  refine ⟨inR64 (by omega) (by omega), ⟨⟨fun x y w' => ∃ a b : Nat, x = a ∧ y = b ∧ Nat.gcd a b = Nat.gcd n.natAbs d.natAbs ∧ w' = w, fun _ y _ => y.toNat, ⟨n.natAbs, d.natAbs, rfl, e2, rfl, rfl⟩, ?_⟩⟩⟩
  rintro x y w1 ⟨a, b, rfl, rfl, hg, rfl⟩
  unfold probityref01_quick_b1
  rw [cnd_prop]
  constructor
  · intro h
    refine ⟨by omega, ⟨⟨rfl, rfl, rfl, trivial⟩, b, a % b, rfl, rfl, ?_, rfl⟩, ?_⟩
    · rw [← hg, Nat.gcd_comm b, ← Nat.gcd_rec, Nat.gcd_comm]
    · rw [tmodN]
      have := Nat.mod_lt a (show 0 < b by omega)
      show ((a % b : Nat) : Int).toNat < (b : Int).toNat
      omega
  · intro h
    have hb : b = 0 := by omega
    subst hb
    rw [Nat.gcd_zero_right] at hg
    subst hg
    intro w2
    have m : Mem w0 w2 _ := m.drew
    clear_value w2
    have hg0 : 0 < Nat.gcd n.natAbs d.natAbs := Nat.gcd_pos_of_pos_right _ (by omega)
    have b1 : (Int.tdiv n (Nat.gcd n.natAbs d.natAbs : Nat)).natAbs ≤ n.natAbs := by rw [Int.natAbs_tdiv]; exact Nat.div_le_self _ _
    have b2 : (Int.tdiv d (Nat.gcd n.natAbs d.natAbs : Nat)).natAbs ≤ d.natAbs := by rw [Int.natAbs_tdiv]; exact Nat.div_le_self _ _
    exact ⟨fun _ => True, trivial, by omega, inR64 (by omega) (by omega), by omega, inR64 (by omega) (by omega), put2 m j hj hK⟩

theorem quick_spec {n d : Int} {K : Int → Int → World → Prop} (hn : n.natAbs < 9223372036854775808) (hd : d.natAbs < 9223372036854775808) (hd0 : d ≠ 0)
    (hK : ∀ w', Fr F0 w w' → K (fitQ (Rat.divInt n d)).n (fitQ (Rat.divInt n d)).d w') : probityref01_quick_sh n d K w := by
  refine ⟨?_⟩
  unfold probityref01_quick_sd
  intro w1
  have m : Mem w w1 _ := Mem.nil.alloc
  clear_value w1
  rw [cnd_prop]
  constructor
  · intro h
    refine ⟨inR64 (by omega) (by omega), inR64 (by omega) (by omega), quick_k0 m 0 rfl (by omega) (by omega) (by omega) ?_⟩
    rw [Rat.neg_divInt_neg]
    exact hK
  · intro h
    exact quick_k0 m 0 rfl hn hd (by omega) hK

theorem quick_ok {n d : Int} (hn : n.natAbs < 9223372036854775808) (hd : d.natAbs < 9223372036854775808) (hd0 : d ≠ 0) : (fitQ (Rat.divInt n d)).ok = true := by
  rcases Int.lt_or_le d 0 with h | h
  · rw [← Rat.neg_divInt_neg, quick_q (by omega) (by omega) (by omega)]
  · rw [quick_q hn hd (by omega)]

def makeQ (n d : Int) : RR := if d = 0 then zr else fitQ (Rat.divInt n d)

theorem Kr_mk {K : Int → Int → Bool → World → Prop} {r : RR} {w : World} (h : Kr K r w) (hr : r.ok = true) : K r.n r.d true w := by
  unfold Kr at h
  rw [hr] at h
  exact h

theorem rMake_k0 {n d : Int} {t : Nat} {x y : Value} {l : List (Nat × List Value)} {K : Int → Int → Bool → World → Prop} (m : Mem w0 w l) (j : Nat) (hj : l[j]? = some (t, [x, y])) (hn : I64 n) (hd : I64 d) (hd0 : d ≠ 0)
    (hK : ∀ w', Fr F0 w0 w' → Kr K (fitQ (Rat.divInt n d)) w') : probityref01_Make_k0 n d ⟨t, 0, none⟩ K w := by
  refine ⟨rof_spec hn fun s1 w1 h1 hf1 => rof_spec hd fun s2 w2 h2 hf2 => rlowest_spec (h1.fr hf2).nm h2.nm (natAbs_pow_four hn) (natAbs_pow_four hd) (by omega) (by omega) fun w3 hf3 => ?_⟩
  have m := m.fr (Fr0.t (Fr0.t hf1 hf2) hf3)
  refine put2b m j hj fun w4 hf4 => ?_
  rw [divInt_sgn]
  exact hK w4 hf4

theorem rMake_spec {n d : Int} {K : Int → Int → Bool → World → Prop} (hn : I64 n) (hd : I64 d) (hK : ∀ w', Fr F0 w w' → Kr K (makeQ n d) w') : probityref01_Make_sh n d K w := by
  unfold makeQ at hK
  refine ⟨?_⟩
  unfold probityref01_Make_sd
  intro w1
  have m : Mem w w1 _ := Mem.nil.alloc
  clear_value w1
  rw [cnd_beq]
  constructor
  · intro h0
    rw [if_pos h0] at hK
    exact rOf_spec fun w2 hf => put2b (m.fr hf) 0 rfl hK
  · intro h0
    rw [if_neg h0] at hK
    refine small_spec ?_
    rw [cnd_prop]
    constructor
    · intro h1
      refine small_spec ?_
      rw [cnd_prop]
      constructor
      · intro h2
        refine quick_spec (by omega) (by omega) h0 fun w2 hf2 => put2b (m.fr hf2) 0 rfl fun w3 hf3 => ?_
        exact Kr_mk (hK w3 hf3) (quick_ok (by omega) (by omega) h0)
      · intro h2
        exact rMake_k0 m 0 rfl hn hd h0 hK
    · intro h1
      exact rMake_k0 m 0 rfl hn hd h0 hK
end
end Go.Proofs.YtfclokkfnkieoaaGreatDoor

/- The reference's numbers made of three ints. Conditions: none. -/
namespace Go.Proofs.YtfclokkfnkieoaaGreatDoor
open Go Pw

section
variable {w w0 : World}

theorem fitQ_I64 (q : Rat) : I64 (fitQ q).n ∧ I64 (fitQ q).d := by
  unfold fitQ
  split
  · rename_i h
    refine ⟨⟨h.1, h.2.1⟩, ?_⟩
    have := h.2.2
    show I64 (q.den : Int)
    exact ⟨by omega, by omega⟩
  · exact ⟨⟨by decide, by decide⟩, ⟨by decide, by decide⟩⟩

theorem makeQ_right (n d : Int) : rightP (makeQ n d).n (makeQ n d).d ∧ I64 (makeQ n d).n ∧ I64 (makeQ n d).d := by
  unfold makeQ
  split
  · exact ⟨by decide, ⟨by decide, by decide⟩, ⟨by decide, by decide⟩⟩
  · exact ⟨fitQ_right _, fitQ_I64 _⟩

theorem tmod_bound (n : Int) {m : Int} (hm : 0 < m) : -m < Int.tmod n m ∧ Int.tmod n m < m := by
  have := Int.natAbs_tmod n m
  have h7 : n.natAbs % m.natAbs < m.natAbs := Nat.mod_lt _ (by omega)
  rw [← this] at h7
  omega

def modI (n m : Int) : Int := n % m

theorem mod_code (n : Int) {m : Int} (hm : 0 < m) : Int.tmod (Int.tmod n m + m) m = n % m := by
  obtain ⟨h1, h2⟩ := tmod_bound n hm
  have h3 := Int.tmod_add_mul_tdiv n m
  rw [Int.tmod_eq_emod_of_nonneg (by omega), Int.add_emod_right]
  conv => rhs; rw [← h3]
  rw [Int.add_mul_emod_self_left]

theorem Mod_spec {n m : Int} {K : Int → World → Prop} (hm : 0 < m) (hm2 : m < 4611686018427387904) (hK : K (n % m) w) : probityref01_Mod_sh n m K w := by
  refine ⟨?_⟩
  unfold probityref01_Mod_sd
  obtain ⟨h1, h2⟩ := tmod_bound n hm
  refine ⟨by omega, inR64 (by omega) (by omega), by omega, ?_⟩
  rw [mod_code n hm]
  exact hK

theorem Made_k0 {n d : Int} {t : Nat} {x y : Value} {l : List (Nat × List Value)} {K : Int → Int → World → Prop} (m : Mem w0 w l) (j : Nat) (hj : l[j]? = some (t, [x, y])) (hn : I64 n) (hd : I64 d)
    (hK : ∀ a b w', rightP a b → I64 a → I64 b → Fr F0 w0 w' → K a b w') : probityref01_Made_k0 ⟨t, 0, none⟩ n d K w := by
  refine ⟨rMake_spec hn hd fun w1 hf => ?_⟩
  obtain ⟨r1, r2, r3⟩ := makeQ_right n d
  show _
  unfold Kr
  generalize makeQ n d = r at *
  have m := m.fr hf
  intro w2
  have m : Mem w0 w2 _ := m.alloc
  clear_value w2
  refine ⟨m.wr 0 rfl rfl, ?_⟩
  intro w3
  have m : Mem w0 w3 _ := m.set 0 rfl
  clear_value w3
  refine ⟨m.wr 0 rfl rfl, ?_⟩
  intro w4
  have m : Mem w0 w4 _ := m.set 0 rfl
  clear_value w4
  have hj' : ∀ p : Nat × List Value, (p :: l)[j + 1]? = some (t, [x, y]) := fun p => by simpa using hj
  cases hr : r.ok
  · rw [Bool.not_false, cnd_true]
    refine ⟨by omega, rOf_spec fun w5 hf5 => put2 (m.fr hf5) (j + 1) (hj' _) fun w6 hf6 => hK _ _ w6 ?_ ?_ ?_ hf6⟩
    · exact ⟨by decide, by simp⟩
    · obtain ⟨h1, h2⟩ := tmod_bound n (m := 1000) (by decide)
      exact ⟨by omega, by omega⟩
    · exact ⟨by decide, by decide⟩
  · rw [Bool.not_true, cnd_false]
    refine ⟨_, m.ld 0 rfl rfl, _, m.ld 0 rfl rfl, put2 m (j + 1) (hj' _) fun w6 hf6 => hK _ _ w6 r1 r2 r3 hf6⟩

theorem Made_spec {p q r : Int} {K : Int → Int → World → Prop} (hp : I64 p) (hq : I64 q) (hr : I64 r)
    (hK : ∀ a b w', rightP a b → I64 a → I64 b → Fr F0 w w' → K a b w') : probityref01_Made_sh p q r K w := by
  refine ⟨?_⟩
  unfold probityref01_Made_sd
  intro w1
  have m : Mem w w1 _ := Mem.nil.alloc
  clear_value w1
  intro w2
  have m : Mem w w2 _ := m.alloc
  clear_value w2
  have b0 : (0 ≤ (0 : Int) ∧ (0 : Int) < ((3 : Nat) : Int)) := by decide
  have b1 : (0 ≤ (1 : Int) ∧ (1 : Int) < ((3 : Nat) : Int)) := by decide
  have b2 : (0 ≤ (2 : Int) ∧ (2 : Int) < ((3 : Nat) : Int)) := by decide
  have l0 : w2.cell? ((Addr.mk w.heap.size 0 none).add ((0 : Int).toNat * 1)) = some (.int .i64 p) := m.ld 1 rfl rfl
  have l1 : w2.cell? ((Addr.mk w.heap.size 0 none).add ((1 : Int).toNat * 1)) = some (.int .i64 q) := by
    rw [add_mk]; exact m.ld 1 rfl rfl
  have l2 : w2.cell? ((Addr.mk w.heap.size 0 none).add ((2 : Int).toNat * 1)) = some (.int .i64 r) := by
    rw [add_mk]; exact m.ld 1 rfl rfl
  refine ⟨b0, p, l0, b1, q, l1, b2, r, l2, Mod_spec (by omega) (by omega) ?_⟩
  have t20 := tmod_bound p (m := 20) (by decide)
  have tM := tmod_bound p (m := 1000000) (by decide)
  have t100 := tmod_bound p (m := 100) (by decide)
  rw [cnd_beq]
  refine ⟨fun _ => ⟨b0, p, l0, by omega, b1, q, l1, Mod_spec (by omega) (by omega) ⟨inR64 (by omega) (by omega), Made_k0 m 0 rfl ⟨by omega, by omega⟩ ⟨by omega, by omega⟩ hK⟩⟩, fun _ => ?_⟩
  rw [cnd_beq]
  refine ⟨fun _ => ⟨b0, p, l0, by omega, b1, q, l1, Mod_spec (by omega) (by omega) ⟨inR64 (by omega) (by omega), Made_k0 m 0 rfl ⟨by omega, by omega⟩ ⟨by omega, by omega⟩ hK⟩⟩, fun _ => ?_⟩
  rw [cnd_beq]
  refine ⟨fun _ => Made_k0 m 0 rfl hp ⟨by decide, by decide⟩ hK, fun _ => ?_⟩
  rw [cnd_beq]
  refine ⟨fun _ => ⟨b0, p, l0, by omega, inR64 (by omega) (by omega), b1, q, l1, Mod_spec (by omega) (by omega) ⟨inR64 (by omega) (by omega), Made_k0 m 0 rfl ⟨by omega, by omega⟩ ⟨by omega, by omega⟩ hK⟩⟩, fun _ => ?_⟩
  rw [cnd_beq]
  refine ⟨fun _ => ⟨b1, q, l1, Mod_spec (by omega) (by omega) ⟨inR64 (by omega) (by omega), inR64 (by omega) (by omega), Made_k0 m 0 rfl ⟨by decide, by decide⟩ ⟨by omega, by omega⟩ hK⟩⟩, fun _ => ?_⟩
  rw [cnd_beq]
  refine ⟨fun _ => ⟨b0, p, l0, by omega, b1, q, l1, Mod_spec (by omega) (by omega) ⟨inR64 (by omega) (by omega), Made_k0 m 0 rfl ⟨by omega, by omega⟩ ⟨by omega, by omega⟩ hK⟩⟩, fun _ => Made_k0 m 0 rfl hp hq hK⟩
end
end Go.Proofs.YtfclokkfnkieoaaGreatDoor

