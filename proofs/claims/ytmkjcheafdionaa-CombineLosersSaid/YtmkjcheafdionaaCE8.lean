/- CombineLosers. Conditions: none. -/
import Derived.Test.YtmkjcheafdionaaCE7
namespace Go.Proofs.Ytmkjcheafdionaa
open Go Pw

section
variable {w wB : World} {s t t2 s0 s1 s2 n1 n2 : Sl} {l a : List Int} {p : Pr} {pb ab bb qb k : Nat} {pts bnd pts2 bnd2 : Int}

theorem Losers_k2 {i : Nat} {N1 : Bool → Addr → Int → Addr → Int → World → Prop} {K : Bool → World → Prop} (rb : Row w bb (reC t2 pts2 bnd2 n2)) (ht2 : VI w t2 (a.map (dn k))) (hi : i < a.length) (hl : a.length ≤ 12)
    (hN : N1 true ⟨ab, 0, none⟩ k ⟨bb, 0, none⟩ ((i : Int) + 1) w) : Lw_CombineLosers_k2 true ⟨ab, 0, none⟩ k ⟨bb, 0, none⟩ i (dn k a[i]) N1 K w := by
  refine ⟨?_⟩
  unfold Lw_CombineLosers_k2d
  refine ⟨t2, rb.at rfl, VI.ld ht2 i rfl (by simpa using hi) ?_⟩
  rw [List.getElem_map]
  exact cnd_bne.2 ⟨fun h => absurd rfl h, fun _ => ⟨inR64 (by omega) (by omega), hN⟩⟩

theorem Losers_l1 {K : Bool → World → Prop} (rb : Row w bb (reC t2 pts2 bnd2 n2)) (ra : Row w ab (reC t pts bnd n1)) (ht : VI w t a) (ht2 : VI w t2 (a.map (dn k))) (hl : a.length ≤ 12) (hr : ∀ n ∈ a, -1 ≤ n ∧ n < 480)
    (hK : K true w) : Lw_CombineLosers_l1 true ⟨ab, 0, none⟩ k ⟨bb, 0, none⟩ 0 K w := by
  have hlen := ht.len
  refine ⟨⟨fun i w' => ∃ i' : Nat, i = i' ∧ i' ≤ a.length ∧ w' = w, fun i _ => a.length - i.toNat, ⟨0, rfl, by omega, rfl⟩, ?_⟩⟩
  rintro i w1 ⟨i, rfl, hi, rfl⟩
  unfold Lw_CombineLosers_b1
  refine ⟨t, ra.at rfl, ?_⟩
  rw [cnd_prop]
  refine ⟨fun hlt => ?_, fun _ => hK⟩
  have hlt : i < a.length := by omega
  refine ⟨t, ra.at rfl, VI.ld ht i rfl hlt ?_⟩
  rw [cnd_prop]
  have hd : dn k a[i] = if (k : Int) < a[i] then a[i] - 1 else a[i] := rfl
  have hN := Losers_k2 (K := K) (k := k) (i := i) (N1 := fun up a8 k10 b13 i15 w' => ((up = true ∧ a8 = ⟨ab, 0, none⟩ ∧ k10 = k ∧ b13 = ⟨bb, 0, none⟩ ∧ True) ∧ (∃ i' : Nat, i15 = i' ∧ i' ≤ a.length ∧ w' = w1)) ∧ a.length - i15.toNat < a.length - (i : Int).toNat) rb ht2 hlt hl ⟨⟨⟨rfl, rfl, rfl, rfl, trivial⟩, i + 1, by omega, by omega, rfl⟩, by omega⟩
  refine ⟨fun hg => ?_, fun hg => ?_⟩
  · rw [if_pos hg] at hd
    have ha := hr _ (List.getElem_mem hlt)
    rw [hd] at hN
    exact ⟨inR64 (by omega) (by omega), hN⟩
  · rw [if_neg hg] at hd
    rw [hd] at hN
    exact hN

/-- The numbers of a take are small. -/
theorem take_range (hp : RightPr p) (h : Perm p a) : ∀ n ∈ a, -1 ≤ n ∧ n < 480 := by
  intro n hn
  obtain ⟨i, hi, rfl⟩ := List.mem_iff_getElem.1 hn
  have hi' : i < p.lots.length := by rw [← h.1]; exact hi
  rcases (decs_get (Nat.le_of_eq h.1)).1 h.2.1 i p.lots[i] a[i] (List.getElem?_eq_getElem hi') (List.getElem?_eq_getElem hi) with h | ⟨c, hc, _⟩
  · omega
  · unfold chAt at hc
    split at hc
    · have := (List.getElem?_eq_some_iff.1 hc).1
      have := hp.chs
      omega
    · cases hc

theorem Losers_l0 {K : Bool → World → Prop} (hp : RightPr p) (hP : PV wB s0 s1 s2 p) (hA : IsBest p a) (ht : VI wB t a) (hk : k < p.ch.length) (hw : Wi (prefN p p.lots : Nat) 1048576)
    (hpr : Row wB pb (prC s0 s1 s2 p.most p.budget)) (m : Mem wB w [(ab, reC t (ptsOf p a) bnd n1)]) (hK : ∀ w', Fr F0 wB w' → K true w') :
    Lw_CombineLosers_l0 true ⟨pb, 0, none⟩ (prefN p p.lots : Nat) ⟨ab, 0, none⟩ k 0 K w := by
  have hlen := ht.len
  have hal : a.length ≤ 12 := by have := hA.1.1; have := hp.few; omega
  have hr := take_range hp hA.1
  refine ⟨⟨fun i w' => ∃ i' : Nat, i = i' ∧ i' ≤ a.length ∧ w' = w ∧ (k : Int) ∉ a.take i', fun i _ => a.length - i.toNat, ⟨0, rfl, by omega, rfl, by simp⟩, ?_⟩⟩
  rintro i w1 ⟨i, rfl, hi, rfl, hno⟩
  unfold Lw_CombineLosers_b0
  refine ⟨t, m.ld 0 rfl rfl, ?_⟩
  rw [cnd_prop]
  refine ⟨fun hlt => ?_, fun hge => ?_⟩
  · have hlt : i < a.length := by omega
    refine ⟨t, m.ld 0 rfl rfl, VI.ld (ht.fr m.1) i rfl hlt ?_⟩
    rw [cnd_beq]
    refine ⟨fun _ => hK _ m.1, fun hne => ⟨inR64 (by omega) (by omega), ⟨⟨rfl, rfl, rfl, rfl, rfl, trivial⟩, i + 1, by omega, by omega, rfl, ?_⟩, by dsimp only; omega⟩⟩
    rw [take_succ' hlt, List.mem_append, List.mem_singleton]
    rintro (h | h)
    · exact hno h
    · exact hne h.symm
  · have : i = a.length := by omega
    subst this
    rw [List.take_length] at hno
    obtain ⟨hbest, hpts⟩ := losers hk hp hA hno
    have hpr1 := m.1.row hpr fun h => h
    refine ⟨s0, hpr1.at rfl, s1, hpr1.at rfl, s2, hpr1.at rfl, _, hpr1.at rfl, _, hpr1.at rfl, ?_⟩
    refine stN_new rfl m fun w38 m => ?_
    intro w39
    have m : Mem wB w39 _ := m.drew
    clear_value w39
    have hchl := hP.ch.len
    have hchc := hP.ch.cap
    have hpl := hP.l1
    refine ⟨fun u => Row u pb (prC s0 s1 s2 p.most p.budget), m.1.row hpr fun h => h, s1, fun u hu => hu.at rfl, ⟨by omega, by omega, by omega⟩, s1, fun u hu => hu.at rfl, inR64 (by omega) (by omega), ⟨by omega, by omega⟩, ?_⟩
    intro w43
    have h : Sp wB w43 _ _ _ _ _ _ _ := Sp.empty (α := Ch) (n := 4) (enc := encC) (fun a => encC_length a) m
    clear_value w43
    refine ⟨h.m.1.row hpr fun h => h, ?_⟩
    refine h.app ((hP.ch.fr h.m.1).take (fun a => encC_length a) (j := ((k : Nat) : Int).toNat) (by omega)) encC_ok rfl (by simp; omega) (by simp; omega) fun s44 w45 h => ?_
    refine ⟨h.m.1.row hpr fun h => h, ?_⟩
    refine h.app ((hP.ch.fr h.m.1).drop (fun a => encC_length a) (j := ((k : Int) + 1).toNat) (by omega)) encC_ok rfl (by simp; omega) (by simp; omega) fun s46 w47 h => ?_
    refine ⟨h.m.1.row hpr fun h => h, h.wr 0 rfl rfl, ?_⟩
    intro w48
    have h : Sp wB w48 _ _ _ _ _ _ _ := h.set (i := 1) (v := .slice s46.p s46.l s46.c) 0 rfl
    clear_value w48
    simp only [List.set_cons_zero, List.set_cons_succ] at h
    refine ⟨s0, h.ld 0 rfl rfl, s46, h.ld 0 rfl rfl, s2, h.ld 0 rfl rfl, _, h.ld 0 rfl rfl, _, h.ld 0 rfl rfl, ?_⟩
    have hPr := hP.fr h.m.1
    have hch : VC w48 s46 (rmC p k).ch := by
      have := h.ow.vw
      rw [show ((k : Int) + 1).toNat = k + 1 by omega, Int.toNat_natCast, List.nil_append] at this
      exact this
    have hlr : (rmC p k).ch.length < 2 ^ 40 := by simp; omega
    refine Solve_full (p := rmC p k) (rm_right hp) ⟨hPr.lots, hch, hPr.de, hPr.l0, hlr, hPr.l2⟩ hw (by have := rm_prefN (p := p) (k := k) p.lots; show (prefN (rmC p k) p.lots : Int) ≤ _; omega) fun w54 t2 bnd2 ns2 T cs N hV hT hbd _ => ?_
    have hTe : T = a.map (dn k) := hT.uniq hbest
    subst hTe
    have m := h.m.fr hV.m.1
    have hv2 := hV.tv.vw
    have hl2 := hv2.len
    rw [List.length_map] at hl2
    have ha0 := m.row 1 rfl
    refine stN_new (w0 := w54) (l := []) rfl Mem.nil fun w58 m2 => ?_
    have ha1 := m2.1.row ha0 fun h => h
    rw [cnd_bne]
    refine ⟨fun h => absurd rfl h, fun _ => ⟨t2, m2.ld 0 rfl rfl, t, ha1.at rfl, ?_⟩⟩
    rw [cnd_bne]
    refine ⟨fun h => absurd (by omega) h, fun _ => ⟨_, m2.ld 0 rfl rfl, _, ha1.at rfl, ?_⟩⟩
    rw [cnd_bne]
    refine ⟨fun h => absurd hpts h, fun _ => ?_⟩
    have hf := m.1.t m2.1
    exact Losers_l1 (m2.row 0 rfl) ha1 (ht.fr hf) (hv2.fr m2.1) hal hr (hK _ hf)

theorem Losers_spec {which : Int} {K : Bool → World → Prop} (hv : VI w s l) (hl : l.length < 2 ^ 63) (hm : 0 ≤ which ∧ which < 256) (hK : ∀ w', Fr F0 w w' → K true w') : Lw_CombineLosers_sh s which K w := by
  have hpn := made_prefN l
  have hp := madeP_right l
  have hwk : Wi (prefN (madeP l) (madeP l).lots : Nat) 1048576 := ⟨by omega, by omega⟩
  refine ⟨?_⟩
  unfold Lw_CombineLosers_sd
  refine sanity_spec fun w1 hf1 => ?_
  refine Made_spec (hv.fr hf1) hl fun w3 s0 s1 s2 hf3 hP => ?_
  refine stN_new (w0 := w3) (l := []) rfl Mem.nil fun w6 m => ?_
  refine ⟨s0, m.ld 0 rfl rfl, s1, m.ld 0 rfl rfl, s2, m.ld 0 rfl rfl, _, m.ld 0 rfl rfl, _, m.ld 0 rfl rfl, ?_⟩
  refine Prefixes_spec (hP.fr m.1) (by omega) fun w12 hf => ?_
  have m := m.fr hf
  refine ⟨s0, m.ld 0 rfl rfl, s1, m.ld 0 rfl rfl, s2, m.ld 0 rfl rfl, _, m.ld 0 rfl rfl, _, m.ld 0 rfl rfl, ?_⟩
  refine Solve_full hp (hP.fr m.1) hwk (Int.le_refl _) fun w19 t bnd ns T cs N hV hT hbd _ => ?_
  have m := m.fr hV.m.1
  have hv1 := hV.tv.vw
  have hP1 := hP.fr m.1
  have hp0 := m.row 0 rfl
  have hf0 := (hf1.t hf3).t m.1
  refine stN_new (w0 := w19) (l := []) rfl Mem.nil fun w23 m2 => ?_
  have hp1 := m2.1.row hp0 fun h => h
  rw [cnd_bne]
  refine ⟨fun h => absurd rfl h, fun _ => ⟨t, m2.ld 0 rfl rfl, s0, hp1.at rfl, ?_⟩⟩
  have e1 := hv1.len
  have e2 := hP.lots.len
  have e3 := hT.1.1
  have e4 := hP.ch.len
  have hfin := hK w23 (hf0.t m2.1)
  rw [cnd_bne]
  refine ⟨fun h => absurd (by omega) h, fun _ => ⟨s1, hp1.at rfl, ?_⟩⟩
  rw [cnd_beq]
  refine ⟨fun _ => hfin, fun hne => ⟨inR64 (by omega) (by omega), s1, hp1.at rfl, hne, ?_⟩⟩
  have q1 := Int.tmod_nonneg (a := which) (s1.l : Int) hm.1
  have q2 := Int.tmod_lt_of_pos which (b := (s1.l : Int)) (by omega)
  obtain ⟨k, hk⟩ := Int.eq_ofNat_of_zero_le q1
  rw [hk] at q2 ⊢
  exact Losers_l0 hp hP1 hT hv1 (by omega) hwk hp0 m2 fun w' h => hK w' (hf0.t h)
end
end Go.Proofs.Ytmkjcheafdionaa
