/- combine: run and Solve. Conditions: none. -/
import Derived.Test.YtmkjcheafdionaaCDG
import Derived.Test.YtmkjcheafdionaaCB
namespace Go.Proofs.Ytmkjcheafdionaa
open Go Pw

section
variable {wB u w : World} {l : List (Nat × List Value)} {R : List (Sl × List Int)} {O : List (Nat × Obj)} {ns t take s0 s1 s2 : Sl} {p : Pr} {T f ds : List Int} {cs : List NdC} {N : List Nd} {left work : Int} {sb : Nat}

theorem not_inB {b : Nat} : ¬ inB ⟨none, 0, 0⟩ b := fun ⟨a, ha, _⟩ => by cases ha

theorem V.start (m : Mem wB u l) : V wB u l [] [] ⟨none, 0, 0⟩ ⟨none, 0, 0⟩ [] [] [] :=
  ⟨m, fun _ h => (by cases h), ⟨rfl, by simpa using OwnV.nil⟩, ⟨rfl, by simpa using OwnV.nil⟩, trivial, fun _ _ => ⟨not_inB, not_inB, fun _ h => (by cases h)⟩, fun _ h => (by cases h), fun b hb => (not_inB hb).elim, fun b hb => (not_inB hb).elim, fun b hb => (not_inB hb).elim, fun _ h => (by cases h), fun _ h => (by cases h), fun _ h => (by cases h)⟩

theorem V.clr (h : V wB u l R O ns t T cs N) : V wB u l R O ⟨none, 0, 0⟩ t T [] [] :=
  ⟨h.m, h.r, ⟨rfl, by simpa using OwnV.nil⟩, h.tv, trivial, fun p hp => ⟨not_inB, (h.a1 p hp).2.1, fun _ h => (by cases h)⟩, fun x hx b hb => ⟨(h.a2 x hx b hb).1, not_inB, (h.a2 x hx b hb).2.2⟩, fun b hb => (not_inB hb).elim, fun b hb => (not_inB hb).elim, h.n1, fun _ h => (by cases h), fun _ h => (by cases h), fun o ho => ⟨(h.ob o ho).1, (h.ob o ho).2.1, not_inB, (h.ob o ho).2.2.2.1, fun _ h => (by cases h), (h.ob o ho).2.2.2.2.2⟩⟩

theorem V.addNil (h : V wB u l R O ns t T cs N) : V wB u l ((⟨none, 0, 0⟩, []) :: R) O ns t T cs N := by
  refine ⟨h.m, fun x hx => ?_, h.ow, h.tv, h.nv, h.a1, fun x hx b hb => ?_, h.a3, h.n0, h.n1, h.n2, h.a4, fun o ho => ⟨(h.ob o ho).1, (h.ob o ho).2.1, (h.ob o ho).2.2.1, (h.ob o ho).2.2.2.1, (h.ob o ho).2.2.2.2.1, fun x hx => ?_, (h.ob o ho).2.2.2.2.2.2⟩⟩
  · rcases List.mem_cons.1 hx with rfl | hx
    · exact Vw.nil
    · exact h.r x hx
  · rcases List.mem_cons.1 hx with rfl | hx
    · exact (not_inB hb).elim
    · exact h.a2 x hx b hb
  · rcases List.mem_cons.1 hx with rfl | hx
    · exact not_inB
    · exact (h.ob o ho).2.2.2.2.2.1 x hx

theorem run_spec {K : Bool -> World -> Prop} (hp : RightPr p) (hPV : PV wB s0 s1 s2 p) (m : V wB w l [] [] ⟨none, 0, 0⟩ t T [] []) (j : Nat) (hj : l[j]? = some (sb, schC t 0 0 ⟨none, 0, 0⟩ s0 s1 s2 p.most p.budget left)) (hT : Perm p T) (h0 : 0 <= left) (h1 : left <= 1048576)
    (hK : ∀ w' ok left' ns' t' T' cs' N', V wB w' (l.set j (sb, schC t' 0 0 ns' s0 s1 s2 p.most p.budget left')) [] [] ns' t' T' cs' N' -> VP (upB p) p [] p.lots left T [] left' T' N' 0 ok -> K ok w') : Cs_run_sh (some ⟨sb, 0, none⟩) K w := by
  refine ⟨?_⟩
  unfold Cs_run_sd
  intro w1
  have m : V wB w1 _ _ _ _ _ _ _ _ := m.allocL
  clear_value w1
  intro w2
  have m : V wB w2 _ _ _ _ _ _ _ _ := m.allocL
  clear_value w2
  refine ⟨m.wr 0 rfl rfl, ?_⟩
  intro w3
  have m : V wB w3 _ _ _ _ _ _ _ _ := m.set (i := 0) (v := fnv (idOf Cs_run_1_ok) [w.heap.size, w1.heap.size]) 0 rfl
  clear_value w3
  simp only [List.set_cons_zero] at m
  have m := m.addNil
  refine ⟨_, m.ld 0 rfl rfl, ?_⟩
  refine callV_of Cs_run_1_ok (visit_ok hp hPV p.lots (ds := []) (f := []) (jr := j + 2) (jp := 1) (jv := 0) rfl rfl m ⟨hj, rfl, rfl, by omega, by omega⟩ (List.mem_cons_self ..) (by cases p.lots <;> exact trivial) hT h0 (by simpa using h1) fun w' n ok left' ns' t' T' cs' N' v hvp => ⟨n, ok, rfl, ?_⟩)
  simp only [List.set_cons_succ] at v
  refine hK w' ok left' ns' t' T' cs' N' ((v.dR fun _ h => (by cases h)).dr 2 rfl) ⟨hvp.perm, hvp.bt, hvp.pre, hvp.lo, fun h => ?_, hvp.no⟩
  obtain ⟨q1, q2⟩ := hvp.yes h
  exact ⟨rfl, q2⟩

theorem Solve_k0 {rb : Nat} {K : Sl -> Int -> Int -> Sl -> Int -> World -> Prop} {a b c d : Value} (m : Mem wB w l) (j : Nat) (hj : l[j]? = some (rb, [a, b, c, d])) (hK : ∀ w', Fr F0 wB w' -> K ⟨none, 0, 0⟩ 0 0 ⟨none, 0, 0⟩ 1 w') : Cb_Solve_k0 ⟨rb, 0, none⟩ K w := by
  refine ⟨?_⟩
  unfold Cb_Solve_k0d
  have hl : j < l.length := (List.getElem?_eq_some_iff.1 hj).1
  refine stN_at m j hj rfl fun w1 m => ?_
  have hj' : (l.set j (rb, [.slice none 0 0, .int .i64 0, .int .i64 0, .slice none 0 0]))[j]? = some (rb, [.slice none 0 0, .int .i64 0, .int .i64 0, .slice none 0 0]) := by simp [hl]
  exact ⟨⟨none, 0, 0⟩, m.ld j hj' rfl, _, m.ld j hj' rfl, _, m.ld j hj' rfl, ⟨none, 0, 0⟩, m.ld j hj' rfl, hK w1 m.1⟩

/-- The variables of Solve, newest first. -/
abbrev svL (ab sb rb pb : Nat) (A : List Value) (t : Sl) (pts bnd : Int) (s0 s1 s2 : Sl) (p : Pr) (left : Int) (B : List Value) : List (Nat × List Value) :=
  [(ab, A), (sb, schC t pts bnd ⟨none, 0, 0⟩ s0 s1 s2 p.most p.budget left), (rb, B), (pb, prC s0 s1 s2 p.most p.budget)]

theorem mostF_app (p : Pr) : ∀ (a b : List Int) (m : Int), mostF p (a ++ b) m = mostF p b (mostF p a m)
  | [], _, _ => rfl
  | n :: a, b, m => by simp only [List.cons_append, mostF]; exact mostF_app p a b _

theorem Solve_l2 {ab rb pb : Nat} {A B : List Value} {pts bnd : Int} {k : Nat} {so : Sl} {lot t72 : Int} {N1 : Addr -> Addr -> Addr -> Int -> Int -> World -> Prop} {K : Sl -> Int -> Int -> Sl -> Int -> World -> Prop} (hp : RightPr p) (hPV : PV wB s0 s1 s2 p)
    (m : V wB w (svL ab sb rb pb A t pts bnd s0 s1 s2 p left B) ((so, opts p lot) :: []) [] ⟨none, 0, 0⟩ t T [] []) (hb : 0 <= bnd /\ bnd <= 100000000) (hk : k < 2 ^ 40)
    (hN : ∀ w', V wB w' (svL ab sb rb pb A t pts (bnd + mostL p lot) s0 s1 s2 p left B) [] [] ⟨none, 0, 0⟩ t T [] [] -> N1 ⟨pb, 0, none⟩ ⟨rb, 0, none⟩ ⟨sb, 0, none⟩ t72 ((k : Int) + 1) w') :
    Cb_Solve_l2 ⟨pb, 0, none⟩ ⟨rb, 0, none⟩ ⟨sb, 0, none⟩ 0 t72 k so (so.l : Int) 0 N1 K w := by
  have hso : VI w so (opts p lot) := m.r _ (List.mem_cons_self ..)
  have hsl := hso.len
  have hol := opts_len p lot
  have hch := hp.chs
  have e1 := hPV.ch.len
  refine ⟨⟨fun mo i w' => ∃ i' : Nat, i = i' /\ i' <= (opts p lot).length /\ mo = mostF p ((opts p lot).take i') 0 /\ V wB w' (svL ab sb rb pb A t pts bnd s0 s1 s2 p left B) ((so, opts p lot) :: []) [] ⟨none, 0, 0⟩ t T [] [], fun _ i _ => (opts p lot).length - i.toNat, ⟨0, rfl, by omega, rfl, m⟩, ?_⟩⟩
  rintro mo i w1 ⟨i, rfl, hi, rfl, m⟩
  unfold Cb_Solve_b2
  rw [cnd_prop]
  refine ⟨fun hlt => ?_, fun hge => ?_⟩
  · have hlt : i < (opts p lot).length := by omega
    have hs := take_succ' hlt
    have hso1 : VI w1 so (opts p lot) := m.r _ (List.mem_cons_self ..)
    refine VI.ld hso1 i rfl hlt ?_
    have hmem := opts_mem.1 (List.getElem_mem hlt)
    rw [cnd_prop]
    refine ⟨fun hpos => ?_, fun hneg => ⟨inR64 (by omega) (by omega), ⟨⟨rfl, rfl, rfl, rfl, rfl, rfl, rfl, trivial⟩, i + 1, by omega, by omega, ?_, m⟩, by dsimp only; omega⟩⟩
    · rcases hmem with hm | ⟨c, hc, _⟩
      · omega
      obtain ⟨_, hix, hcx⟩ := chAt_some hc
      refine ⟨s1, m.ld 3 rfl rfl, ?_⟩
      refine VC.ld (hPV.fr m.m.1).ch (opts p lot)[i].toNat (by omega) hix fun a hca => ?_
      refine ⟨_, (hca w1 Fr.refl).2.2.2, inR64 (by omega) (by omega), ⟨⟨rfl, rfl, rfl, rfl, rfl, rfl, rfl, trivial⟩, i + 1, by omega, by omega, ?_, m⟩, by dsimp only; omega⟩
      rw [hs, mostF_app, hcx]
      simp only [mostF, hc]
    · rw [hs, mostF_app]
      simp only [mostF, chAt_neg (by omega : ¬ 0 <= (opts p lot)[i])]
  · have : i = (opts p lot).length := by omega
    subst this
    rw [List.take_length]
    have hmb := mostF_le hp (opts p lot) 0 (Int.le_refl _) (by decide)
    refine ⟨bnd, m.ld 1 rfl rfl, inR64 (by omega) (by omega), m.wr 1 rfl rfl, ?_⟩
    intro w2
    have m : V wB w2 _ _ _ _ _ _ _ _ := m.set (i := 2) (v := .int .i64 (bnd + mostF p (opts p lot) 0)) 1 rfl
    clear_value w2
    simp only [List.set_cons_zero, List.set_cons_succ] at m
    exact ⟨inR64 (by omega) (by omega), hN w2 (m.dR fun _ h => (by cases h))⟩

theorem Solve_l1 {ab rb pb : Nat} {A : List Value} {a b c d : Value} {pts : Int} {K : Sl -> Int -> Int -> Sl -> Int -> World -> Prop} (hp : RightPr p) (hPV : PV wB s0 s1 s2 p)
    (hK : ∀ w', V wB w' [] [] [] ⟨none, 0, 0⟩ t T [] [] -> K t pts (mostOf p) ⟨none, 0, 0⟩ 42 w')
    (m : V wB w (svL ab sb rb pb A t pts 0 s0 s1 s2 p left [a, b, c, d]) [] [] ⟨none, 0, 0⟩ t T [] []) :
    Cb_Solve_l1 ⟨pb, 0, none⟩ ⟨rb, 0, none⟩ ⟨sb, 0, none⟩ (p.lots.length : Int) 0 K w := by
  have hfew := hp.few
  refine ⟨⟨fun i w' => ∃ i' : Nat, i = i' /\ i' <= p.lots.length /\ V wB w' (svL ab sb rb pb A t pts ((p.lots.take i').map (mostL p)).sum s0 s1 s2 p left [a, b, c, d]) [] [] ⟨none, 0, 0⟩ t T [] [], fun i _ => p.lots.length - i.toNat, ⟨0, rfl, by omega, m⟩, ?_⟩⟩
  rintro i w1 ⟨i, rfl, hi, m⟩
  unfold Cb_Solve_b1
  rw [cnd_prop]
  refine ⟨fun hlt => ?_, fun hge => ?_⟩
  · have hlt : i < p.lots.length := by omega
    refine options_spec (k := i) (hPV.fr m.m.1) (m.row 1 rfl) hlt fun so w2 hmk => ?_
    have m := m.add hmk
    have hb := most_bound hp (List.take_prefix i p.lots)
    refine Solve_l2 hp hPV m ⟨hb.1, by omega⟩ (by omega) fun w3 m3 => ⟨⟨⟨rfl, rfl, rfl, rfl, trivial⟩, i + 1, by omega, by omega, ?_⟩, by dsimp only; omega⟩
    have e : ((p.lots.take (i + 1)).map (mostL p)).sum = ((p.lots.take i).map (mostL p)).sum + mostL p p.lots[i] := by
      rw [take_succ' hlt, List.map_append, List.sum_append, List.map_cons, List.map_nil, List.sum_cons, List.sum_nil, Int.add_zero]
    rw [e]
    exact m3
  · have : i = p.lots.length := by omega
    subst this
    rw [List.take_length] at m
    refine ⟨t, m.ld 1 rfl rfl, _, m.ld 1 rfl rfl, _, m.ld 1 rfl rfl, ⟨none, 0, 0⟩, m.ld 1 rfl rfl, ?_⟩
    refine stN_atV m 2 rfl rfl fun w2 m => ?_
    simp only [List.set_cons_zero, List.set_cons_succ] at m
    exact ⟨t, m.ld 2 rfl rfl, _, m.ld 2 rfl rfl, _, m.ld 2 rfl rfl, ⟨none, 0, 0⟩, m.ld 2 rfl rfl, hK w2 (m.dr 4 rfl)⟩

theorem Solve_spec {K : Sl -> Int -> Int -> Sl -> Int -> World -> Prop} (h : PV w s0 s1 s2 p)
    (hbad : rightB p = false \/ wiB work 1048576 = false -> ∀ w', Fr F0 w w' -> K ⟨none, 0, 0⟩ 0 0 ⟨none, 0, 0⟩ 1 w')
    (hgood : RightPr p -> Wi work 1048576 -> ∀ w' t pts bnd ns e T cs N, V w w' [] [] [] ns t T cs N -> SolveP (upB p) p work T pts bnd N e -> K t pts bnd ns e w') : Cb_Solve_sh s0 s1 s2 p.most p.budget work K w := by
  refine ⟨?_⟩
  unfold Cb_Solve_sd
  have e0 := h.lots.len
  have m : Mem w w [] := Mem.nil
  intro w1; have m : Mem w w1 _ := m.allocL; clear_value w1
  intro w2; have m : Mem w w2 _ := m.allocL; clear_value w2
  refine ⟨_, m.ld 1 rfl rfl, ?_⟩
  refine ⟨_, m.ld 1 rfl rfl, ?_⟩
  refine ⟨_, m.ld 1 rfl rfl, ?_⟩
  refine ⟨_, m.ld 1 rfl rfl, ?_⟩
  refine ⟨_, m.ld 1 rfl rfl, ?_⟩
  refine right_spec (h.fr m.1) fun w8 hf => ?_; have m := m.fr hf
  refine cnd_iff.2 ⟨fun hc1 => ?_, fun hc1 => ?_⟩
  · exact Solve_k0 m 0 rfl fun w' hf => hbad (.inl (by simpa using hc1)) w' hf
  · have hp : RightPr p := rightB_iff.1 (by simpa using hc1)
    refine within_spec ?_
    refine cnd_iff.2 ⟨fun hc2 => ?_, fun hc2 => ?_⟩
    · exact Solve_k0 m 0 rfl fun w' hf => hbad (.inr (by simpa using hc2)) w' hf
    · refine ⟨_, m.ld 1 rfl rfl, ?_⟩
      refine ⟨_, m.ld 1 rfl rfl, ?_⟩
      refine ⟨_, m.ld 1 rfl rfl, ?_⟩
      refine ⟨_, m.ld 1 rfl rfl, ?_⟩
      refine ⟨_, m.ld 1 rfl rfl, ?_⟩
      intro w22; have m : Mem w w22 _ := m.allocL; clear_value w22
      intro w23; have m : Mem w w23 _ := m.allocL; clear_value w23
      refine ⟨_, m.ld 3 rfl rfl, ?_⟩
      have hwk : Wi work 1048576 := wiB_iff.1 (by simpa using hc2)
      have hk1 := hp.some
      have hk2 := hp.few
      have v := V.start m
      rw [e0]
      refine Repeat_spec (v := -1) (k := p.lots.length) (Ow.row (l := [-1]) (m.row 0 rfl)).vw hk1 (by omega) fun t w25 hmk => ?_
      have m := v.newT hmk
      refine ⟨m.wr 1 rfl rfl, ?_⟩
      intro w27; have m : V w w27 _ _ _ _ _ _ _ _ := m.set 1 rfl; clear_value w27; simp only [List.set_cons_zero, List.set_cons_succ] at m
      refine run_spec hp h m 1 rfl (perm_none hp) hwk.1 hwk.2 fun w28 ok left' ns' t' T' cs' N' m hvp => ?_
      simp only [List.set_cons_zero, List.set_cons_succ] at m
      intro w30; have m : V w w30 _ _ _ _ _ _ _ _ := m.drew; clear_value w30
      refine ⟨fun u => Rs u _, m.sub 0 rfl, ?_⟩
      refine ⟨_, fun _ h => h.ld 3 rfl rfl, ?_⟩
      refine ⟨_, fun _ h => h.ld 3 rfl rfl, ?_⟩
      refine ⟨_, fun _ h => h.ld 3 rfl rfl, ?_⟩
      refine ⟨_, fun _ h => h.ld 3 rfl rfl, ?_⟩
      refine ⟨_, fun _ h => h.ld 3 rfl rfl, ?_⟩
      refine ⟨_, fun _ h => h.ld 1 rfl rfl, ?_⟩
      have hpT := hvp.perm
      refine points_spec hp ⟨h.fr m.m.1, m.tv.vw, by have := hpT.1; omega⟩ hpT.2.1 fun w38 hf => ?_; have m := m.fr hf
      refine ⟨m.sub 0 rfl, ?_⟩
      refine ⟨m.wr 1 rfl rfl, ?_⟩
      intro w40; have m : V w w40 _ _ _ _ _ _ _ _ := m.set 1 rfl; clear_value w40; simp only [List.set_cons_zero, List.set_cons_succ] at m
      refine ⟨_, m.ld 1 rfl rfl, ?_⟩
      refine ⟨m.wr 1 rfl rfl, ?_⟩
      intro w42; have m : V w w42 _ _ _ _ _ _ _ _ := m.set 1 rfl; clear_value w42; simp only [List.set_cons_zero, List.set_cons_succ] at m
      refine cnd_iff.2 ⟨fun hc3 => ?_, fun hc3 => ?_⟩
      · refine ⟨_, m.ld 1 rfl rfl, ?_⟩
        refine ⟨_, m.ld 1 rfl rfl, ?_⟩
        refine ⟨_, m.ld 1 rfl rfl, ?_⟩
        refine ⟨_, m.ld 1 rfl rfl, ?_⟩
        refine stN_atV m 2 rfl rfl fun w47 m => ?_; simp only [List.set_cons_zero, List.set_cons_succ] at m; skip
        refine ⟨_, m.ld 2 rfl rfl, ?_⟩
        refine ⟨_, m.ld 2 rfl rfl, ?_⟩
        refine ⟨_, m.ld 2 rfl rfl, ?_⟩
        refine ⟨_, m.ld 2 rfl rfl, ?_⟩
        obtain ⟨_, htr, _⟩ := hvp.yes hc3
        exact hgood hp hwk _ t' (ptsOf p T') (ptsOf p T') ns' 0 T' cs' N' (m.dr 4 rfl) (.inl ⟨rfl, ⟨hpT, fun u hu => tree_sound hp (upB_good hp) hu p.lots [] [] 0 N'.length rfl rfl htr List.nil_prefix⟩, rfl, rfl, htr⟩)
      · refine ⟨m.wr 1 rfl rfl, ?_⟩
        intro w52; have m : V w w52 _ _ _ _ _ _ _ _ := m.set 1 rfl; clear_value w52; simp only [List.set_cons_zero, List.set_cons_succ] at m
        refine ⟨m.wr 1 rfl rfl, ?_⟩
        intro w53; have m : V w w53 _ _ _ _ _ _ _ _ := m.set 1 rfl; clear_value w53; simp only [List.set_cons_zero, List.set_cons_succ] at m
        refine ⟨_, m.ld 3 rfl rfl, ?_⟩
        have m := m.clr
        rw [e0]
        exact Solve_l1 hp h (fun w' hv' => hgood hp hwk w' t' (ptsOf p T') (mostOf p) ⟨none, 0, 0⟩ 42 T' [] [] hv' (.inr ⟨rfl, hpT, rfl, rfl, rfl, by have := hvp.no hc3; exact this⟩)) m
end
end Go.Proofs.Ytmkjcheafdionaa
