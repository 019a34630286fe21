/- The reference's digits: trimming, comparing, sums, differences. Conditions: none. -/
import Derived.Test.YtfclokkfnkieoaaDoorRG1
import Derived.Test.YtfclokkfnkieoaaDoorRS11
import Derived.Test.YtfclokkfnkieoaaDoorPwT
namespace Go.Proofs.YtfclokkfnkieoaaDoor
open Go Pw

abbrev di : Nat → List Value := ie .i64 (fun d : Nat => (d : Int))

/-- The slice reads as digits of a number, at most k of them. -/
def Nm (k : Nat) (w : World) (s : Sl) (n : Nat) : Prop := ∃ l, Vw 1 di w s l ∧ Dg l ∧ vl l = n ∧ l.length ≤ k
/-- The same, with no zero at the end. -/
def Nt (k : Nat) (w : World) (s : Sl) (n : Nat) : Prop := ∃ l, Vw 1 di w s l ∧ Dg l ∧ Tr l ∧ vl l = n ∧ l.length ≤ k

section
variable {w w' w0 : World} {s a b : Sl} {k j n m : Nat}

theorem Nm.fr (h : Nm k w s n) (hf : Fr F0 w w') : Nm k w' s n := let ⟨l, h1, h2⟩ := h; ⟨l, h1.fr hf, h2⟩
theorem Nt.fr (h : Nt k w s n) (hf : Fr F0 w w') : Nt k w' s n := let ⟨l, h1, h2⟩ := h; ⟨l, h1.fr hf, h2⟩
theorem Nt.nm (h : Nt k w s n) : Nm k w s n := let ⟨l, h1, h2, _, h3, h4⟩ := h; ⟨l, h1, h2, h3, h4⟩
theorem Nm.up (h : Nm k w s n) (hk : k ≤ j) : Nm j w s n := let ⟨l, h1, h2, h3, h4⟩ := h; ⟨l, h1, h2, h3, Nat.le_trans h4 hk⟩
theorem Nt.short (h : Nt k w s n) (hj : n < 65536 ^ j) : Nt j w s n := let ⟨l, h1, h2, h3, h4, _⟩ := h; ⟨l, h1, h2, h3, h4, h3.short (by rw [h4]; exact hj)⟩
theorem Nt.nil : Nt 0 w ⟨none, 0, 0⟩ 0 := ⟨[], Vw.nil, Dg.nil, .inl rfl, rfl, Nat.le_refl _⟩
theorem Nt.zero (h : Nt k w s n) : s.l = 0 ↔ n = 0 := by
  obtain ⟨l, h1, _, h3, h4, _⟩ := h
  rw [h1.len, ← h4]
  exact h3.zero.symm

theorem inB_sub {c i k l z : Nat} (h : inB ⟨subP s.p i z k, l, j⟩ c) : inB s c := by
  obtain ⟨ad, h1, h2⟩ := h
  unfold subP at h1
  split at h1
  · exact ⟨ad, h1, h2⟩
  · cases hs : s.p with
    | none => simp only at h1; rw [hs] at h1; cases h1
    | some a =>
      simp only at h1
      rw [hs] at h1
      cases h1
      exact ⟨a, hs, by rw [← h2, add_block]⟩

theorem trim_spec {K : Sl → World → Prop} (h : Nm k w s n) (hk : k ≤ 2 ^ 40) (hK : ∀ s', Nt k w s' n → (∀ c, inB s' c → inB s c) → K s' w) : probityref01_trim_sh s K w := by
  refine ⟨⟨fun s' w' => Nm k w s' n ∧ (∀ c, inB s' c → inB s c) ∧ w' = w, fun s' _ => s'.l, ⟨h, fun _ hc => hc, rfl⟩, ?_⟩⟩
  rintro s1 w1 ⟨⟨l, hv, hd, hn, hl⟩, hin, rfl⟩
  have hlen := hv.len
  unfold probityref01_trim_b0
  rw [cnd_prop]
  constructor
  · intro hpos
    refine ⟨inR64 (by omega) (by omega), hv.ld 0 (l.length - 1) (by omega) (by omega) ?_⟩
    rw [cnd_beq]
    constructor
    · intro h0
      have h0' : l.getD (l.length - 1) 0 = 0 := by simpa using h0
      have hcap := hv.cap
      refine ⟨inR64 (by omega) (by omega), ⟨by omega, by omega, by omega⟩, ⟨trivial, ⟨l.take ((s1.l : Int) - 1).toNat, hv.take (fun _ => rfl) (by omega), hd.take _, ?_, by simp; omega⟩, fun c hc => hin c (inB_sub hc), rfl⟩, by simp; omega⟩
      have hidx : ((s1.l : Int) - 1).toNat = l.length - 1 := by omega
      have := vl_take_succ l (l.length - 1) (by omega)
      rw [hidx]
      rw [vl_take_all _ _ (by omega), h0'] at this
      omega
    · intro h0
      refine hK _ ⟨l, hv, hd, .inr ?_, hn, hl⟩ hin
      intro h1
      exact h0 (by rw [h1]; rfl)
  · intro h0
    exact hK _ ⟨l, hv, hd, .inl (by omega), hn, hl⟩ hin

theorem compareD_spec {K : Int → World → Prop} (ha : Nt k w a n) (hb : Nt j w b m) (hk : k ≤ 2 ^ 40) (hK : ∀ w', Fr F0 w w' → K (cmpI n m) w') : probityref01_compare_sh a b K w := by
  obtain ⟨la, va, da, ta, rfl, kla⟩ := ha
  obtain ⟨lb, vb, db, tb, rfl, klb⟩ := hb
  have hla := va.len
  have hlb := vb.len
  refine ⟨?_⟩
  unfold probityref01_compare_sd
  rw [cnd_bne]
  constructor
  · intro hne
    rw [cnd_prop]
    constructor
    · intro hlt
      have := vl_lt_of_length da tb (by omega)
      rw [← cmpI_lt (x := (vl la : Int)) (y := (vl lb : Int)) (by omega)]
      exact hK w Fr.refl
    · intro hlt
      have := vl_lt_of_length db ta (by omega)
      rw [← cmpI_gt (x := (vl la : Int)) (y := (vl lb : Int)) (by omega)]
      exact hK w Fr.refl
  · intro heq
    refine ⟨inR64 (by omega) (by omega), ⟨⟨fun i w' => ∃ i' : Nat, i = (i' : Int) - 1 ∧ i' ≤ la.length ∧ la.drop i' = lb.drop i' ∧ Fr F0 w w', fun i _ => (i + 1).toNat, ⟨la.length, by omega, Nat.le_refl _, ?_, Fr.refl⟩, ?_⟩⟩⟩
    · rw [List.drop_length, show la.length = lb.length by omega, List.drop_length]
    · rintro i w1 ⟨i', rfl, hi', hd, hf⟩
      unfold probityref01_compare_b0
      rw [cnd_prop]
      constructor
      · intro hpos
        obtain ⟨i, rfl⟩ : ∃ i, i' = i + 1 := ⟨i' - 1, by omega⟩
        intro w2
        have hf2 : Fr F0 w w2 := Fr0.t hf Fr.drew
        clear_value w2
        refine (va.fr hf2).ld 0 i (by omega) (by omega) ((vb.fr hf2).ld 0 i (by omega) (by omega) ?_)
        rw [cnd_bne]
        constructor
        · intro hne w3
          have hf3 : Fr F0 w w3 := Fr0.t hf2 Fr.drew
          clear_value w3
          refine (va.fr hf3).ld 0 i (by omega) (by omega) ((vb.fr hf3).ld 0 i (by omega) (by omega) ?_)
          rw [cnd_prop]
          constructor
          · intro hlt
            have := vl_lt_at da (by omega) (by omega) hd (by omega : la.getD i 0 < lb.getD i 0)
            rw [← cmpI_lt (x := (vl la : Int)) (y := (vl lb : Int)) (by omega)]
            exact hK _ hf3
          · intro hlt
            have := vl_lt_at db (by omega) (by omega) hd.symm (by omega : lb.getD i 0 < la.getD i 0)
            rw [← cmpI_gt (x := (vl la : Int)) (y := (vl lb : Int)) (by omega)]
            exact hK _ hf3
        · intro heq
          refine ⟨inR64 (by omega) (by omega), ⟨⟨rfl, rfl, trivial⟩, i, by omega, by omega, drop_eq_at (by omega) (by omega) hd (by omega), hf2⟩, by dsimp only; omega⟩
      · intro h0
        have : i' = 0 := by omega
        subst this
        simp only [List.drop_zero] at hd
        rw [← cmpI_eq (x := (vl la : Int)) (y := (vl lb : Int)) (by rw [hd])]
        exact hK _ hf
end
end Go.Proofs.YtfclokkfnkieoaaDoor
