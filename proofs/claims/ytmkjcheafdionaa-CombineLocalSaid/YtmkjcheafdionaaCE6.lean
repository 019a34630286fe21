/- More money, or a higher limit, brings no fewer points. Conditions: none. -/
import Derived.Test.YtmkjcheafdionaaCE5
namespace Pw

/-- The same problem, with another limit and another budget. -/
abbrev wt (p : Pr) (m b : Int) : Pr := ⟨p.lots, p.ch, p.de, m, b⟩

section
variable {p : Pr} {m b : Int}

theorem wt_decs : ∀ ls f : List Int, Decs (wt p m b) ls f ↔ Decs p ls f
  | _, [] => by simp [Decs]
  | [], _ :: _ => by simp [Decs]
  | lot :: ls, n :: f => by
    unfold Decs
    rw [wt_decs ls f]
    exact Iff.rfl

theorem wt_prefN : ∀ ls : List Int, prefN (wt p m b) ls = prefN p ls
  | [] => rfl
  | lot :: ls => by
    unfold prefN
    rw [wt_prefN ls]
    rfl

theorem wt_right (h : RightPr p) (hm : Wi m 1000000000) (hb : Wi b 1000000000) : RightPr (wt p m b) := ⟨h.some, h.few, h.diff, h.chs, h.des, hm, hb, h.ch, h.de⟩

/-- Where more is permitted, the best take has no fewer points. -/
theorem more_pts {a c : List Int} (ha : IsBest p a) (hc : IsBest (wt p m b) c) (hb : p.budget ≤ b) (hm : m = 0 ∨ 0 < p.most ∧ p.most ≤ m) : ptsOf p a ≤ ptsOf p c := by
  obtain ⟨⟨h1, h2, h3, h4⟩, _⟩ := ha
  have hpa : Perm (wt p m b) a := by
    refine ⟨h1, (wt_decs _ _).2 h2, Int.le_trans h3 hb, fun h => h4 ?_⟩
    obtain ⟨q1, bd, q2⟩ := h
    rcases hm with hm | ⟨hm, hm'⟩
    · have : 0 < m := q1
      omega
    · exact ⟨hm, bd, Int.lt_of_le_of_lt hm' q2⟩
  have hw : ¬ worth (wt p m b) c < worth (wt p m b) a := fun h => hc.2 a hpa (.inl h)
  have e1 : worth (wt p m b) c = ptsOf p c * (b + 1) - leastOf p c := rfl
  have e2 : worth (wt p m b) a = ptsOf p a * (b + 1) - leastOf p a := rfl
  rw [e1, e2] at hw
  have l1 : 0 ≤ leastOf p c := by unfold leastOf; omega
  have l2 : 0 ≤ leastOf p a := by unfold leastOf; omega
  have l3 : leastOf p a ≤ b := Int.le_trans h3 hb
  apply Decidable.byContradiction
  intro hlt
  have : (ptsOf p c + 1) * (b + 1) ≤ ptsOf p a * (b + 1) := Int.mul_le_mul_of_nonneg_right (by omega) (by omega)
  rw [Int.add_mul] at this
  omega

/-- How many prefixes there are at most, for some lots. -/
def prB : Nat → Nat
  | 0 => 1
  | k + 1 => 1 + 13 * prB k

theorem prefN_le (h : p.ch.length ≤ 12) : ∀ ls : List Int, prefN p ls ≤ prB ls.length
  | [] => Nat.le_refl _
  | lot :: ls => by
    have ih := prefN_le h ls
    have hl : (opts p lot).length ≤ 13 := by
      have := Go.Proofs.Ytmkjcheafdionaa.optsFrom_len (lot := lot) p.ch 0
      have := List.countP_le_length (p := fun c : Ch => c.lot == lot) (l := p.ch)
      simp only [opts, List.length_cons]
      omega
    have := Nat.mul_le_mul hl ih
    show 1 + (opts p lot).length * prefN p ls ≤ 1 + 13 * prB ls.length
    omega

theorem made_prefN (l : List Int) : prefN (madeP l) (madeP l).lots ≤ 30941 := by
  have h1 := nv_range (l := l) (j := 3 + (mLots l).toNat) (n := 13) (by decide)
  have h2 := mLots_range (l := l)
  have h3 := prefN_le (p := madeP l) (by simp only [madeP, mChL, List.length_map, List.length_range, mChoices]; omega) (madeP l).lots
  have h4 : (madeP l).lots.length = (mLots l).toNat := mLotsL_len
  rw [h4] at h3
  have : (mLots l).toNat = 1 ∨ (mLots l).toNat = 2 ∨ (mLots l).toNat = 3 ∨ (mLots l).toNat = 4 := by omega
  refine Nat.le_trans h3 ?_
  rcases this with h | h | h | h <;> rw [h] <;> decide
end
end Pw
namespace Go.Proofs.Ytmkjcheafdionaa
open Go Pw

section
variable {w w4 : World} {s t s0 s1 s2 : Sl} {l : List Int}

/-- A result's cells. -/
abbrev reC (t : Sl) (a b : Int) (n : Sl) : List Value := [.slice t.p t.l t.c, .int .i64 a, .int .i64 b, .slice n.p n.l n.c]

theorem CombineMore_k0 {bb qb ab : Nat} {mo b : Int} {T1 T2 : List Int} {t1 t2 n1 n2 : Sl} {bnd1 bnd2 : Int} {K : Bool → World → Prop} {R : List (Nat × List Value)} (hP : PV w4 s0 s1 s2 (madeP l)) (hwk : Wi (prefN (madeP l) (madeP l).lots : Nat) 1048576)
    (hT1 : IsBest (madeP l) T1) (hT2 : IsBest (wt (madeP l) (nv l 0 4) b) T2) (hmo0 : 0 ≤ mo) (hmo1 : mo ≤ 1000) (hb : nv l 1 30 ≤ b) (hb' : b ≤ 1000) (hmo : mo = 0 ∨ 0 < nv l 0 4 ∧ nv l 0 4 ≤ mo)
    (m : Mem w4 w ((bb, reC t2 (ptsOf (madeP l) T2) bnd2 n2) :: (qb, prC s0 s1 s2 mo b) :: (ab, reC t1 (ptsOf (madeP l) T1) bnd1 n1) :: R)) (hK : ∀ w', Fr F0 w4 w' → K true w') :
    Lw_CombineMore_k0 true (prefN (madeP l) (madeP l).lots : Nat) ⟨ab, 0, none⟩ 0 ⟨qb, 0, none⟩ ⟨bb, 0, none⟩ 0 K w := by
  have r0 := nv_range (l := l) (j := 0) (n := 4) (by decide)
  have r1 := nv_range (l := l) (j := 1) (n := 30) (by decide)
  refine ⟨?_⟩
  unfold Lw_CombineMore_k0d
  refine ⟨_, m.ld 1 rfl rfl, ?_⟩
  refine ⟨_, m.ld 1 rfl rfl, ?_⟩
  refine ⟨_, m.ld 1 rfl rfl, ?_⟩
  refine ⟨_, m.ld 1 rfl rfl, ?_⟩
  refine ⟨_, m.ld 1 rfl rfl, ?_⟩
  refine Solve_full (p := wt (madeP l) mo b) (wt_right (madeP_right l) ⟨by omega, by omega⟩ ⟨by omega, by omega⟩) ⟨(hP.fr m.1).lots, (hP.fr m.1).ch, (hP.fr m.1).de, hP.l0, hP.l1, hP.l2⟩ hwk (by rw [wt_prefN]; exact Int.le_refl _) fun w54 u1 cnd1 ns1 U1 cs1 N1 hV1 hU1 _ _ => ?_; have m := m.fr hV1.m.1
  intro w57; have m : Mem w4 w57 _ := m.allocL; clear_value w57
  refine stN_at m 0 rfl rfl fun w58 m => ?_; simp only [List.set_cons_zero] at m; skip
  refine ⟨m.wr 2 rfl rfl, ?_⟩
  intro w59; have m : Mem w4 w59 _ := m.set 2 rfl; clear_value w59; simp only [List.set_cons_zero, List.set_cons_succ] at m
  refine ⟨_, m.ld 2 rfl rfl, ?_⟩
  refine ⟨_, m.ld 2 rfl rfl, ?_⟩
  refine ⟨_, m.ld 2 rfl rfl, ?_⟩
  refine ⟨_, m.ld 2 rfl rfl, ?_⟩
  refine ⟨_, m.ld 2 rfl rfl, ?_⟩
  refine Solve_full (p := wt (madeP l) 0 b) (wt_right (madeP_right l) ⟨by decide, by decide⟩ ⟨by omega, by omega⟩) ⟨(hP.fr m.1).lots, (hP.fr m.1).ch, (hP.fr m.1).de, hP.l0, hP.l1, hP.l2⟩ hwk (by rw [wt_prefN]; exact Int.le_refl _) fun w65 u2 cnd2 ns2 U2 cs2 N2 hV2 hU2 _ _ => ?_; have m := m.fr hV2.m.1
  intro w68; have m : Mem w4 w68 _ := m.allocL; clear_value w68
  refine stN_at m 0 rfl rfl fun w69 m => ?_; simp only [List.set_cons_zero] at m; skip
  have h1 : ptsOf (madeP l) T1 ≤ ptsOf (madeP l) T2 := more_pts (p := madeP l) hT1 hT2 (by show nv l 1 30 ≤ b; omega) (by show nv l 0 4 = 0 ∨ 0 < nv l 0 4 ∧ nv l 0 4 ≤ nv l 0 4; omega)
  have h2 : ptsOf (madeP l) T2 ≤ ptsOf (madeP l) U1 := more_pts (p := wt (madeP l) (nv l 0 4) b) hT2 hU1 (Int.le_refl _) hmo
  have h3 : ptsOf (madeP l) U1 ≤ ptsOf (madeP l) U2 := more_pts (p := wt (madeP l) mo b) hU1 hU2 (Int.le_refl _) (.inl rfl)
  refine cnd_iff.2 ⟨fun _ => ?_, fun h => by cases h⟩
  refine cnd_beq.2 ⟨fun _ => ?_, fun h => absurd rfl h⟩
  refine cnd_beq.2 ⟨fun _ => ?_, fun h => absurd rfl h⟩
  refine cnd_beq.2 ⟨fun _ => ?_, fun h => absurd rfl h⟩
  refine cnd_beq.2 ⟨fun _ => ?_, fun h => absurd rfl h⟩
  refine ⟨_, m.ld 4 rfl rfl, ?_⟩
  refine ⟨_, m.ld 2 rfl rfl, ?_⟩
  refine cnd_prop.2 ⟨fun _ => ?_, fun h => absurd h1 h⟩
  refine ⟨_, m.ld 2 rfl rfl, ?_⟩
  refine ⟨_, m.ld 1 rfl rfl, ?_⟩
  refine cnd_prop.2 ⟨fun _ => ?_, fun h => absurd h2 h⟩
  refine ⟨_, m.ld 1 rfl rfl, ?_⟩
  refine ⟨_, m.ld 0 rfl rfl, ?_⟩
  have h4 := hK w69 m.1; rw [← decide_eq_true h3] at h4; exact h4

theorem CombineMore_spec {m0 m1 : Int} {K : Bool → World → Prop} (hv : VI w s l) (hl : l.length < 2 ^ 63) (hm : (0 ≤ m0 ∧ m0 < 256) ∧ (0 ≤ m1 ∧ m1 < 256)) (hK : ∀ w', Fr F0 w w' → K true w') : Lw_CombineMore_sh s m0 m1 K w := by
  have r0 := nv_range (l := l) (j := 0) (n := 4) (by decide)
  have r1 := nv_range (l := l) (j := 1) (n := 30) (by decide)
  have rb : (madeP l).budget = nv l 1 30 := rfl
  have rm : (madeP l).most = nv l 0 4 := rfl
  have r2 := Int.tmod_nonneg (a := m0) (20 : Int) hm.1.1
  have r3 := Int.tmod_lt_of_pos m0 (b := (20 : Int)) (by decide)
  have r4 := Int.tmod_nonneg (a := m1) (3 : Int) hm.2.1
  have r5 := Int.tmod_lt_of_pos m1 (b := (3 : Int)) (by decide)
  have hpn := made_prefN l
  have hwk : Wi (prefN (madeP l) (madeP l).lots : Nat) 1048576 := ⟨by omega, by omega⟩
  refine ⟨?_⟩
  unfold Lw_CombineMore_sd
  intro w1; have m : Mem w w1 _ := Mem.nil.allocL (w := w) (cs := [.int .u8 m0, .int .u8 m1]); clear_value w1
  refine sanity_spec fun w2 hf => ?_; have m := m.fr hf
  refine Made_spec (hv.fr m.1) hl fun w4 s0 s1 s2 hf hP => ?_; have hA := (m.fr hf).row 0 rfl; have hf0 := (m.fr hf).1; have m : Mem w4 w4 [] := Mem.nil
  intro w6; have m : Mem w4 w6 _ := m.allocL; clear_value w6
  refine stN_at m 0 rfl rfl fun w7 m => ?_; simp only [List.set_cons_zero] at m; skip
  refine ⟨_, m.ld 0 rfl rfl, ?_⟩
  refine ⟨_, m.ld 0 rfl rfl, ?_⟩
  refine ⟨_, m.ld 0 rfl rfl, ?_⟩
  refine ⟨_, m.ld 0 rfl rfl, ?_⟩
  refine ⟨_, m.ld 0 rfl rfl, ?_⟩
  refine Prefixes_spec (hP.fr m.1) (by omega) fun w13 hf => ?_; have m := m.fr hf
  refine ⟨_, m.ld 0 rfl rfl, ?_⟩
  refine ⟨_, m.ld 0 rfl rfl, ?_⟩
  refine ⟨_, m.ld 0 rfl rfl, ?_⟩
  refine ⟨_, m.ld 0 rfl rfl, ?_⟩
  refine ⟨_, m.ld 0 rfl rfl, ?_⟩
  refine Solve_full (p := madeP l) (madeP_right l) ⟨(hP.fr m.1).lots, (hP.fr m.1).ch, (hP.fr m.1).de, hP.l0, hP.l1, hP.l2⟩ hwk (Int.le_refl _) fun w20 t1 bnd1 ns1 T1 cs1 N1 hV1 hT1 _ _ => ?_; have m := m.fr hV1.m.1
  intro w23; have m : Mem w4 w23 _ := m.allocL; clear_value w23
  refine stN_at m 0 rfl rfl fun w24 m => ?_; simp only [List.set_cons_zero] at m; skip
  refine ⟨_, m.ld 1 rfl rfl, ?_⟩
  refine ⟨_, m.ld 1 rfl rfl, ?_⟩
  refine ⟨_, m.ld 1 rfl rfl, ?_⟩
  refine ⟨_, m.ld 1 rfl rfl, ?_⟩
  refine ⟨_, m.ld 1 rfl rfl, ?_⟩
  intro w30; have m : Mem w4 w30 _ := m.allocL; clear_value w30
  refine stN_at m 0 rfl rfl fun w31 m => ?_; simp only [List.set_cons_zero] at m; skip
  refine ⟨_, m.ld 2 rfl rfl, ?_⟩
  refine ⟨by decide, ?_⟩
  refine ⟨_, (m.1.row hA fun h => h).at rfl, ?_⟩
  refine ⟨by decide, ?_⟩
  refine ⟨inR64 (by omega) (by omega), ?_⟩
  refine ⟨inR64 (by omega) (by omega), ?_⟩
  refine ⟨m.wr 0 rfl rfl, ?_⟩
  intro w34; have m : Mem w4 w34 _ := m.set 0 rfl; clear_value w34; simp only [List.set_cons_zero, List.set_cons_succ] at m
  refine ⟨_, m.ld 0 rfl rfl, ?_⟩
  refine ⟨_, m.ld 0 rfl rfl, ?_⟩
  refine ⟨_, m.ld 0 rfl rfl, ?_⟩
  refine ⟨_, m.ld 0 rfl rfl, ?_⟩
  refine ⟨_, m.ld 0 rfl rfl, ?_⟩
  refine Solve_full (p := wt (madeP l) (nv l 0 4) (nv l 1 30 + Int.tmod m0 20)) (wt_right (madeP_right l) ⟨by omega, by omega⟩ ⟨by omega, by omega⟩) ⟨(hP.fr m.1).lots, (hP.fr m.1).ch, (hP.fr m.1).de, hP.l0, hP.l1, hP.l2⟩ hwk (by rw [wt_prefN]; exact Int.le_refl _) fun w40 t2 bnd2 ns2 T2 cs2 N2 hV2 hT2 _ _ => ?_; have m := m.fr hV2.m.1
  intro w43; have m : Mem w4 w43 _ := m.allocL; clear_value w43
  refine stN_at m 0 rfl rfl fun w44 m => ?_; simp only [List.set_cons_zero] at m; skip
  refine ⟨_, m.ld 3 rfl rfl, ?_⟩
  refine cnd_prop.2 ⟨fun hc1 => ?_, fun hc1 => ?_⟩
  · refine ⟨_, m.ld 3 rfl rfl, ?_⟩
    refine ⟨by decide, ?_⟩
    refine ⟨_, (m.1.row hA fun h => h).at rfl, ?_⟩
    refine ⟨by decide, ?_⟩
    refine ⟨inR64 (by omega) (by omega), ?_⟩
    refine ⟨inR64 (by omega) (by omega), ?_⟩
    refine ⟨m.wr 1 rfl rfl, ?_⟩
    intro w48; have m : Mem w4 w48 _ := m.set 1 rfl; clear_value w48; simp only [List.set_cons_zero, List.set_cons_succ] at m
    exact CombineMore_k0 (mo := nv l 0 4 + Int.tmod m1 3) hP hwk hT1 hT2 (by omega) (by omega) (by omega) (by omega) (.inr ⟨by show 0 < nv l 0 4; omega, by show nv l 0 4 ≤ _; omega⟩) m (fun w h => hK w (hf0.t h))
  · exact CombineMore_k0 (mo := nv l 0 4) hP hwk hT1 hT2 (by omega) (by omega) (by omega) (by omega) (.inl (by omega)) m (fun w h => hK w (hf0.t h))
end
end Go.Proofs.Ytmkjcheafdionaa
