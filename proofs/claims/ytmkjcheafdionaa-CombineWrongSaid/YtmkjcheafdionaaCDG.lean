/- combine: a visit of the search. Conditions: none. -/
import Derived.Test.YtmkjcheafdionaaCDF
namespace Go.Proofs.Ytmkjcheafdionaa
open Go Pw

section
variable {wB u w : World} {l : List (Nat × List Value)} {R : List (Sl × List Int)} {O : List (Nat × Obj)} {ns t take s0 s1 s2 : Sl} {p : Pr} {T f ds : List Int} {cs : List NdC} {N : List Nd} {left : Int} {jr jp jv sb spb vb fid : Nat} {row row' : List Value}

theorem opts_len (p : Pr) (lot : Int) : (opts p lot).length <= p.ch.length + 1 := by
  have : ∀ (l : List Ch) (i : Nat), (optsFrom lot i l).length <= l.length := by
    intro l
    induction l with
    | nil => intro i; simp [optsFrom]
    | cons c l ih =>
      intro i
      unfold optsFrom
      have := ih (i + 1)
      split <;> simp <;> omega
  have := this p.ch 0
  simp only [opts, List.length_cons]
  omega

theorem V.setSb {front : List (Nat × List Value)} {i : Nat} {v : Value} (h : V wB u (front ++ l) R O ns t T cs N) (ix : Ix l jr jp jv sb spb vb fid row) (hrow : row.set i v = row') :
    V wB (u.setCell ⟨sb, i, none⟩ v) (front ++ l.set jr (sb, row')) R O ns t T cs N := by
  have := h.set (i := i) (v := v) _ (ix.front front).r
  rw [hrow, List.set_append_right _ _ (by omega), Nat.add_sub_cancel] at this
  exact this

theorem V.setDual {x y : Int} (h : V wB u l R O ns t T (cs ++ [⟨x, 0, 1, ⟨none, 0, 0⟩⟩]) (N ++ [⟨y, 0, 1, []⟩])) (hx : x = y) (hcn : cs.length = N.length) :
    ∃ b, ns.p = some ⟨b, 0, none⟩ /\ wrOk u ⟨b, cs.length * 4 + 1, none⟩ /\ ∀ a, wrOk (u.setCell ⟨b, cs.length * 4 + 1, none⟩ (.int .i64 a)) ⟨b, cs.length * 4 + 2, none⟩ /\
      ∀ d, V wB ((u.setCell ⟨b, cs.length * 4 + 1, none⟩ (.int .i64 a)).setCell ⟨b, cs.length * 4 + 2, none⟩ (.int .i64 d)) l R O ns t T (cs ++ [⟨x, a, d, ⟨none, 0, 0⟩⟩]) (N ++ [⟨y, a, d, []⟩]) := by
  subst hx
  obtain ⟨b, hp, hq⟩ := h.nodeAt (i := cs.length) (c := ⟨x, 0, 1, ⟨none, 0, 0⟩⟩) (by simp)
  refine ⟨b, hp, (hq 1 (by decide)).1, fun a => ?_⟩
  have h1 := h.setNd (i := cs.length) (k := 1) (c := ⟨x, 0, 1, ⟨none, 0, 0⟩⟩) (d := ⟨x, a, 1, ⟨none, 0, 0⟩⟩) (n := ⟨x, 0, 1, []⟩) (m := ⟨x, a, 1, []⟩) (v := .int .i64 a) (by simp) (by rw [hcn]; simp) hp (by decide) rfl ⟨rfl, rfl, rfl, rfl⟩ rfl
  have e1 : (cs ++ [(⟨x, 0, 1, ⟨none, 0, 0⟩⟩ : NdC)]).set cs.length ⟨x, a, 1, ⟨none, 0, 0⟩⟩ = cs ++ [⟨x, a, 1, ⟨none, 0, 0⟩⟩] := by simp
  have e2 : (N ++ [(⟨x, 0, 1, []⟩ : Nd)]).set cs.length ⟨x, a, 1, []⟩ = N ++ [⟨x, a, 1, []⟩] := by rw [hcn]; simp
  rw [e1, e2] at h1
  obtain ⟨b', hp', hq'⟩ := h1.nodeAt (i := cs.length) (c := ⟨x, a, 1, ⟨none, 0, 0⟩⟩) (by simp)
  rw [hp] at hp'
  cases hp'
  refine ⟨(hq' 2 (by decide)).1, fun d => ?_⟩
  have h2 := h1.setNd (i := cs.length) (k := 2) (c := ⟨x, a, 1, ⟨none, 0, 0⟩⟩) (d := ⟨x, a, d, ⟨none, 0, 0⟩⟩) (n := ⟨x, a, 1, []⟩) (m := ⟨x, a, d, []⟩) (v := .int .i64 d) (by simp) (by rw [hcn]; simp) hp (by decide) rfl ⟨rfl, rfl, rfl, rfl⟩ rfl
  have e3 : (cs ++ [(⟨x, a, 1, ⟨none, 0, 0⟩⟩ : NdC)]).set cs.length ⟨x, a, d, ⟨none, 0, 0⟩⟩ = cs ++ [⟨x, a, d, ⟨none, 0, 0⟩⟩] := by simp
  have e4 : (N ++ [(⟨x, a, 1, []⟩ : Nd)]).set cs.length ⟨x, a, d, []⟩ = N ++ [⟨x, a, d, []⟩] := by rw [hcn]; simp
  rw [e3, e4] at h2
  exact h2

theorem visit_k0 {a b e : Nat × List Value} {r1 r2 : Nat} {x : Bool} {y n : Int} {K : Int -> Bool -> World -> Prop} (m : V wB w (a :: b :: (r2, [.bool x]) :: (r1, [.int .i64 y]) :: e :: l) R O ns t T cs N)
    (hK : ∀ w', V wB w' l R O ns t T cs N -> K n true w') : Cs_run_1_k0 ⟨r1, 0, none⟩ ⟨r2, 0, none⟩ n K w := by
  refine ⟨?_⟩
  unfold Cs_run_1_k0d
  refine ⟨m.wr 3 rfl rfl, ?_⟩
  intro w1
  have m : V wB w1 _ _ _ _ _ _ _ _ := m.set (i := 0) (v := .int .i64 n) 3 rfl
  clear_value w1
  refine ⟨m.wr 2 rfl rfl, ?_⟩
  intro w2
  have m : V wB w2 _ _ _ _ _ _ _ _ := m.set (i := 0) (v := .bool true) 2 rfl
  clear_value w2
  simp only [List.set_cons_succ, List.set_cons_zero] at m
  exact ⟨_, m.ld 3 rfl rfl, _, m.ld 2 rfl rfl, hK w2 (m.dr 5 rfl)⟩

theorem visit_step (hp : RightPr p) (hPV : PV wB s0 s1 s2 p) (ls : List Int) (hIH : ∀ lot ls', ls = lot :: ls' -> VisitOk wB s0 s1 s2 p ls') : VisitOk wB s0 s1 s2 p ls := by
  intro w l R O ns t take T f ds cs N left jr jp jv sb spb vb K hlots hfl m ix htk hd hperm h0 hmax hK
  refine ⟨?_⟩
  unfold Cs_run_1_sd
  have ix0 := ix
  have hl12 := right_len hp hd
  have hfew := hp.few
  have hchs := hp.chs
  have e0 := hPV.lots.len
  have etk : take.l = f.length := (m.r _ htk).len
  have hnl := m.ow.len
  have hcn := m.nv.len
  have hnsN : ns.l = N.length := by omega
  have hPF : ∀ {u l' R' cs' N' ns' t' T'}, V wB u l' R' O ns' t' T' cs' N' -> (take, f) ∈ R' -> PF u s0 s1 s2 take p f := fun h hm => ⟨hPV.fr h.m.1, h.r _ hm, by omega⟩
  have hPF : ∀ {u l' cs' N' ns' t' T'}, V wB u l' R O ns' t' T' cs' N' -> PF u s0 s1 s2 take p f := fun h => hPF h htk
  have hPT : ∀ {u l' R' cs' N' ns' t' T'}, V wB u l' R' O ns' t' T' cs' N' -> Perm p T' -> PF u s0 s1 s2 t' p T' := fun h hm => ⟨hPV.fr h.m.1, h.tv.vw, by have := hm.1; omega⟩
  intro w1; have m : V wB w1 _ _ _ _ _ _ _ _ := m.allocL; clear_value w1
  intro w2; have m : V wB w2 _ _ _ _ _ _ _ _ := m.allocL; clear_value w2
  intro w3; have m : V wB w3 _ _ _ _ _ _ _ _ := m.allocL; clear_value w3
  refine ⟨_, m.ld (jp + 3) ix.p rfl, ?_⟩
  refine nz_iff.2 ⟨_, rfl, ?_⟩
  refine ⟨_, m.ld (jr + 3) ix.r rfl, ?_⟩
  refine ⟨inR64 (by omega) (by omega), ?_⟩
  refine nz_iff.2 ⟨_, rfl, ?_⟩
  refine ⟨m.wr (jr + 3) ix.r rfl, ?_⟩
  intro w8
  have m : V wB w8 _ _ _ _ _ _ _ _ := V.setSb (front := [_, _, _]) m ix (i := 9) (v := .int .i64 (left - 1)) (row' := schC t 0 0 ns s0 s1 s2 p.most p.budget (left - 1)) rfl
  clear_value w8
  have ix := ix.set (schC t 0 0 ns s0 s1 s2 p.most p.budget (left - 1))
  simp only [List.cons_append, List.nil_append] at m
  generalize he1 : l.set jr (sb, schC t 0 0 ns s0 s1 s2 p.most p.budget (left - 1)) = l1 at m ix
  refine ⟨_, m.ld (jp + 3) ix.p rfl, ?_⟩
  refine nz_iff.2 ⟨_, rfl, ?_⟩
  refine ⟨_, m.ld (jr + 3) ix.r rfl, ?_⟩
  refine cnd_prop.2 ⟨fun hc1 => ?_, fun hc1 => ?_⟩
  · refine ⟨m.wr 1 rfl rfl, ?_⟩
    intro w12; have m : V wB w12 _ _ _ _ _ _ _ _ := m.set 1 rfl; clear_value w12; simp only [List.set_cons_zero, List.set_cons_succ] at m
    refine ⟨m.wr 0 rfl rfl, ?_⟩
    intro w13; have m : V wB w13 _ _ _ _ _ _ _ _ := m.set 0 rfl; clear_value w13; simp only [List.set_cons_zero] at m
    refine ⟨_, m.ld 1 rfl rfl, ?_⟩
    refine ⟨_, m.ld 0 rfl rfl, ?_⟩
    exact hK _ 0 false (left - 1) ns t T cs N (by rw [he1]; exact m.dr 3 rfl) ⟨hperm, .inl rfl, List.prefix_refl _, by omega, fun h => (by cases h), fun _ => by have := prefN_pos p ls; omega⟩
  · refine ⟨_, m.ld (jp + 3) ix.p rfl, ?_⟩
    refine nz_iff.2 ⟨_, rfl, ?_⟩
    refine ⟨_, m.ld (jr + 3) ix.r rfl, ?_⟩
    intro w19; have m : V wB w19 _ _ _ _ _ _ _ _ := m.drew; clear_value w19
    refine ⟨fun u => Rs u _, m.sub 0 rfl, ?_⟩
    refine ⟨_, fun _ h => h.ld (jp + 3) ix.p rfl, ?_⟩
    refine ⟨_, fun _ h => h.ld (jp + 3) ix.p rfl, ?_⟩
    refine nz_iff.2 ⟨_, rfl, ?_⟩
    refine ⟨_, fun _ h => h.ld (jr + 3) ix.r rfl, ?_⟩
    refine ⟨_, fun _ h => h.ld 2 rfl rfl, ?_⟩
    refine Of_spec fun w26 hf => ?_; have m := m.fr hf
    refine ⟨m.sub 0 rfl, ?_⟩
    intro w28; have mw28 : V wB w28 _ _ _ _ _ _ _ _ := m.allocL
    refine ⟨mw28.sub 1 rfl, ?_⟩
    refine m.push (c := ⟨(take.l : Int), 0, 1, ⟨none, 0, 0⟩⟩) (n := ⟨f.length, 0, 1, []⟩) ⟨by simp [etk], rfl, rfl, ⟨rfl, by simpa using OwnV.nil⟩⟩ (fun b hb => by obtain ⟨a, ha, _⟩ := hb; cases ha) rfl (by omega) (by omega) fun s29 w30 m => ?_
    refine ⟨m.sub 0 rfl, ?_⟩
    refine nz_iff.2 ⟨_, rfl, ?_⟩
    refine ⟨m.wr (jr + 3) ix.r rfl, ?_⟩
    intro w32
    have m : V wB w32 _ _ _ _ _ _ _ _ := V.setSb (front := [_, _, _]) m ix (i := 3) (v := .slice s29.p s29.l s29.c) (row' := schC t 0 0 s29 s0 s1 s2 p.most p.budget (left - 1)) rfl
    clear_value w32
    have ix := ix.set (schC t 0 0 s29 s0 s1 s2 p.most p.budget (left - 1))
    simp only [List.cons_append, List.nil_append] at m
    have he : l.set jr (sb, schC t 0 0 s29 s0 s1 s2 p.most p.budget (left - 1)) = l1.set jr (sb, schC t 0 0 s29 s0 s1 s2 p.most p.budget (left - 1)) := by rw [← he1, List.set_set]
    generalize l1.set jr (sb, schC t 0 0 s29 s0 s1 s2 p.most p.budget (left - 1)) = l2 at m ix he
    intro w33; have m : V wB w33 _ _ _ _ _ _ _ _ := m.drew; clear_value w33
    refine ⟨fun u => Rs u _, m.sub 0 rfl, ?_⟩
    refine ⟨_, fun _ h => h.ld (jp + 3) ix.p rfl, ?_⟩
    refine nz_iff.2 ⟨_, rfl, ?_⟩
    refine ⟨_, fun _ h => h.ld (jr + 3) ix.r rfl, ?_⟩
    refine ⟨_, fun _ h => h.ld (jr + 3) ix.r rfl, ?_⟩
    refine ⟨_, fun _ h => h.ld (jr + 3) ix.r rfl, ?_⟩
    refine ⟨_, fun _ h => h.ld (jr + 3) ix.r rfl, ?_⟩
    refine ⟨_, fun _ h => h.ld (jr + 3) ix.r rfl, ?_⟩
    refine ⟨_, fun _ h => h.ld 2 rfl rfl, ?_⟩
    intro w43; have m : V wB w43 _ _ _ _ _ _ _ _ := m.allocL; clear_value w43
    refine ⟨m.sub 1 rfl, ?_⟩
    refine stN_atV m 0 rfl rfl fun w44 m => ?_; simp only [List.set_cons_zero] at m
    refine ⟨_, m.ld (jp + 4) ix.p rfl, ?_⟩
    refine ⟨_, m.ld 0 rfl rfl, ?_⟩
    refine ⟨_, m.ld 0 rfl rfl, ?_⟩
    refine ⟨_, m.ld 0 rfl rfl, ?_⟩
    refine ⟨_, m.ld 0 rfl rfl, ?_⟩
    refine ⟨_, m.ld 0 rfl rfl, ?_⟩
    refine ⟨_, m.ld 0 rfl rfl, ?_⟩
    refine hopeless_spec hp (hPF m) hd (m.row (jr + 4) ix.r) (hPT m hperm) hperm fun w52 a b ok hf hcl hno => ?_; have m := m.fr hf
    intro w55; have m : V wB w55 _ _ _ _ _ _ _ _ := m.allocL; clear_value w55
    refine ⟨m.wr 0 rfl rfl, ?_⟩
    intro w56; have m : V wB w56 _ _ _ _ _ _ _ _ := m.set 0 rfl; clear_value w56; simp only [List.set_cons_zero] at m
    refine ⟨m.wr 0 rfl rfl, ?_⟩
    intro w57; have m : V wB w57 _ _ _ _ _ _ _ _ := m.set 0 rfl; clear_value w57; simp only [List.set_cons_zero, List.set_cons_succ] at m
    refine cnd_iff.2 ⟨fun hc2 => ?_, fun hc2 => ?_⟩
    · intro w58; have m : V wB w58 _ _ _ _ _ _ _ _ := m.drew; clear_value w58
      refine ⟨fun u => Rs u _, m.sub 0 rfl, ?_⟩
      refine ⟨_, fun _ h => h.ld (jp + 5) ix.p rfl, ?_⟩
      refine nz_iff.2 ⟨_, rfl, ?_⟩
      refine ⟨_, fun _ h => h.ld (jr + 5) ix.r rfl, ?_⟩
      refine ⟨_, fun _ h => h.ld 0 rfl rfl, ?_⟩
      refine ⟨_, fun _ h => h.ld 0 rfl rfl, ?_⟩
      obtain ⟨nsb, hnp, hw1, hq⟩ := m.setDual (by simp [etk]) hcn
      have hadr : ∀ k, ((⟨nsb, 0, none⟩ : Addr).add ((ns.l : Int).toNat * 4)).add k = ⟨nsb, cs.length * 4 + k, none⟩ := fun k => by simp [hnl]
      have hsl := m.ow.len
      simp only [List.length_append, List.length_singleton] at hsl
      refine nz_iff.2 ⟨_, hnp, ⟨by omega, by omega⟩, ?_⟩
      simp -zeta only [hadr]
      refine ⟨hw1, ?_⟩
      intro w66
      refine ⟨(hq a).1, ?_⟩
      intro w67
      have m : V wB w67 _ _ _ _ _ _ _ _ := (hq a).2 b
      clear_value w67
      refine ⟨m.wr 3 rfl rfl, ?_⟩
      intro w68; have m : V wB w68 _ _ _ _ _ _ _ _ := m.set 3 rfl; clear_value w68; simp only [List.set_cons_zero, List.set_cons_succ] at m
      refine ⟨m.wr 2 rfl rfl, ?_⟩
      intro w69; have m : V wB w69 _ _ _ _ _ _ _ _ := m.set 2 rfl; clear_value w69; simp only [List.set_cons_zero, List.set_cons_succ] at m
      refine ⟨_, m.ld 3 rfl rfl, ?_⟩
      refine ⟨_, m.ld 2 rfl rfl, ?_⟩
      exact hK _ _ true (left - 1) s29 t T _ (N ++ [⟨f.length, a, b, []⟩]) (by rw [he]; exact m.dr 5 rfl) ⟨hperm, .inl rfl, List.prefix_append _ _, by omega, fun _ => ⟨by omega, by rw [List.length_append, List.length_singleton]; exact tree_leaf (x := ⟨f.length, a, b, []⟩) (by simp) rfl (hcl hc2), by simp; omega, by omega, by have := prefN_pos p ls; simp; omega⟩, fun h => by cases h⟩
    · intro w72; have m : V wB w72 _ _ _ _ _ _ _ _ := m.drew; clear_value w72
      refine ⟨_, m.ld 4 rfl rfl, ?_⟩
      refine ⟨_, m.ld (jp + 5) ix.p rfl, ?_⟩
      refine nz_iff.2 ⟨_, rfl, ?_⟩
      refine ⟨_, m.ld (jr + 5) ix.r rfl, ?_⟩
      refine cnd_beq.2 ⟨fun hc3 => ?_, fun hc3 => ?_⟩
      · intro w77; have m : V wB w77 _ _ _ _ _ _ _ _ := m.drew; clear_value w77
        refine ⟨fun u => Rs u _, m.sub 0 rfl, ?_⟩
        refine ⟨_, fun _ h => h.ld 1 rfl rfl, ?_⟩
        refine ⟨_, fun _ h => h.ld 1 rfl rfl, ?_⟩
        refine ⟨_, fun _ h => h.ld 1 rfl rfl, ?_⟩
        refine ⟨_, fun _ h => h.ld 1 rfl rfl, ?_⟩
        refine ⟨_, fun _ h => h.ld 1 rfl rfl, ?_⟩
        refine ⟨_, fun _ h => h.ld 1 rfl rfl, ?_⟩
        refine ⟨_, fun _ h => h.ld (jp + 5) ix.p rfl, ?_⟩
        refine nz_iff.2 ⟨_, rfl, ?_⟩
        refine ⟨_, fun _ h => h.ld (jr + 5) ix.r rfl, ?_⟩
        refine ⟨_, fun _ h => h.ld (jr + 5) ix.r rfl, ?_⟩
        refine ⟨_, fun _ h => h.ld (jr + 5) ix.r rfl, ?_⟩
        refine ⟨_, fun _ h => h.ld (jr + 5) ix.r rfl, ?_⟩
        refine ⟨_, fun _ h => h.ld (jr + 5) ix.r rfl, ?_⟩
        refine ⟨_, fun _ h => h.ld (jp + 5) ix.p rfl, ?_⟩
        refine nz_iff.2 ⟨_, rfl, ?_⟩
        refine ⟨_, fun _ h => h.ld (jr + 5) ix.r rfl, ?_⟩
        have hfull : f.length = p.lots.length := by omega
        refine better_spec hp (hPF m) (hPT m hperm) hd hperm.2.1 (by rw [hfull, hperm.1]) fun w95 hf => ?_; have m := m.fr hf
        refine ⟨m.sub 0 rfl, ?_⟩
        refine cnd_iff.2 ⟨fun hc4 => ?_, fun hc4 => ?_⟩
        · intro w97; have m : V wB w97 _ _ _ _ _ _ _ _ := m.drew; clear_value w97
          refine ⟨fun u => Rs u _, m.sub 0 rfl, ?_⟩
          refine ⟨_, fun _ h => h.ld (jp + 5) ix.p rfl, ?_⟩
          refine ⟨_, fun _ h => h.ld 4 rfl rfl, ?_⟩
          refine Clone_spec (show VI _ take f from m.r _ htk) (by omega) fun sc w101 hmk => ?_; have m := m.newT hmk
          refine ⟨m.sub 0 rfl, ?_⟩
          refine nz_iff.2 ⟨_, rfl, ?_⟩
          refine ⟨m.wr (jr + 5) ix.r rfl, ?_⟩
          intro w104
          have m : V wB w104 _ _ _ _ _ _ _ _ := V.setSb (front := [_, _, _, _, _]) m ix (i := 0) (v := .slice sc.p sc.l sc.c) (row' := schC sc 0 0 s29 s0 s1 s2 p.most p.budget (left - 1)) rfl
          clear_value w104
          simp only [List.cons_append, List.nil_append] at m
          have he3 : l.set jr (sb, schC sc 0 0 s29 s0 s1 s2 p.most p.budget (left - 1)) = l2.set jr (sb, schC sc 0 0 s29 s0 s1 s2 p.most p.budget (left - 1)) := by rw [← he, List.set_set]
          exact visit_k0 m fun w' m' => hK w' _ true (left - 1) s29 sc f _ (N ++ [⟨f.length, 0, 1, []⟩]) (by rw [he3]; exact m') ⟨⟨hfull, hd, (hno hc2).2, (hno hc2).1⟩, .inr (btB_iff.1 hc4), List.prefix_append _ _, by omega, fun _ => ⟨by omega, by rw [List.length_append, List.length_singleton]; exact tree_leaf (x := ⟨f.length, 0, 1, []⟩) (by simp) rfl (.inr (.inr (.inl ⟨hfull, fun h => Bt.irrefl h.2⟩))), by simp; omega, by omega, by have := prefN_pos p ls; simp; omega⟩, fun h => by cases h⟩
        · exact visit_k0 m fun w' m' => hK w' _ true (left - 1) s29 t T _ (N ++ [⟨f.length, 0, 1, []⟩]) (by rw [he]; exact m') ⟨hperm, .inl rfl, List.prefix_append _ _, by omega, fun _ => ⟨by omega, by rw [List.length_append, List.length_singleton]; exact tree_leaf (x := ⟨f.length, 0, 1, []⟩) (by simp) rfl (.inr (.inr (.inl ⟨hfull, fun h => by rw [btB_iff.2 h.2] at hc4; cases hc4⟩))), by simp; omega, by omega, by have := prefN_pos p ls; simp; omega⟩, fun h => by cases h⟩
      · refine ⟨_, m.ld (jp + 5) ix.p rfl, ?_⟩
        refine ⟨_, m.ld 4 rfl rfl, ?_⟩
        have hlt : f.length < p.lots.length := by have := decs_len hd; omega
        rw [etk]
        refine options_spec (k := f.length) (hPV.fr m.m.1) (m.row (jr + 5) ix.r) hlt fun so w111 hmk => ?_
        have hsol := hmk.len
        have m := m.add hmk
        have hso40 := opts_len p p.lots[f.length]
        intro w113; have m : V wB w113 _ _ _ _ _ _ _ _ := m.allocL; clear_value w113
        refine ⟨m.wr 0 rfl rfl, ?_⟩
        intro w114; have m : V wB w114 _ _ _ _ _ _ _ _ := m.set 0 rfl; clear_value w114; simp only [List.set_cons_zero] at m
        refine ⟨_, m.ld 0 rfl rfl, ?_⟩
        refine V.make (k := so.l) m (by omega) fun w117 m => ?_
        intro w118; have m : V wB w118 _ _ _ _ _ _ _ _ := m.allocL; clear_value w118
        refine ⟨m.wr 0 rfl rfl, ?_⟩
        intro w119; have m : V wB w119 _ _ _ _ _ _ _ _ := m.set 0 rfl; clear_value w119; simp only [List.set_cons_zero] at m
        refine ⟨_, m.ld 2 rfl rfl, ?_⟩
        refine ⟨?_⟩
        unfold slices_Backward_sd
        intro w121
        have m : V wB w121 _ _ _ _ _ _ _ _ := m.allocL
        clear_value w121
        obtain ⟨lot, ls', rfl⟩ : ∃ lot ls', ls = lot :: ls' := by
          cases ls with
          | nil => have := congrArg List.length hlots; simp at this; omega
          | cons lot ls' => exact ⟨lot, ls', rfl⟩
        have hlot : p.lots[f.length] = lot := by simp [hlots, hfl]
        rw [hnsN]
        rw [← he] at m
        refine visit_f1 (os := opts p p.lots[f.length]) (nx := List.replicate so.l 0) (N0 := N) (T0 := T) (left0 := left) (ns := s29) (D := _) (F := _) hp (hIH lot ls' rfl) hlots hfl (by rw [hlot]) hd (by simpa [frL] using m) ⟨_, ix0⟩ htk (by omega) ⟨by simp [hsol], ?_, hperm, .inl rfl, List.prefix_refl _, by simp; omega, by omega, by simp⟩ hmax h0 hK
        rw [List.drop_of_length_le (Nat.le_refl _), List.drop_of_length_le (by simp [hsol])]
        simp [kids]

theorem visit_ok (hp : RightPr p) (hPV : PV wB s0 s1 s2 p) : ∀ ls, VisitOk wB s0 s1 s2 p ls
  | [] => visit_step hp hPV [] fun _ _ h => by cases h
  | lot :: ls => visit_step hp hPV (lot :: ls) fun _ _ h => by cases h; exact visit_ok hp hPV ls
end
end Go.Proofs.Ytmkjcheafdionaa
