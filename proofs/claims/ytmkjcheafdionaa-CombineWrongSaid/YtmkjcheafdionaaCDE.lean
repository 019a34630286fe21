/- combine: a search's round over the numbers that may follow. Conditions: none. -/
import Derived.Test.YtmkjcheafdionaaCDD
import Derived.Test.YtmkjcheafdionaaCB
namespace Go.Proofs.Ytmkjcheafdionaa
open Go Pw

/-- The variables of a visit, newest first. -/
abbrev frL (bb nxb nb ob db fb r2b r1b tkb : Nat) (o : Sl) (nx : List Int) (D F : List Value) (b2 : Bool) (a1 : Int) (take : Sl) : List (Nat × List Value) :=
  [(bb, [.slice o.p o.l o.c]), (nxb, [.slice (some ⟨nb, 0, none⟩) nx.length nx.length]), (nb, nx.map fun n => Value.int .i64 n), (ob, [.slice o.p o.l o.c]), (db, D), (fb, F), (r2b, [.bool b2]), (r1b, [.int .i64 a1]), (tkb, [.slice take.p take.l take.c])]

/-- What a visit is known to do. -/
def VisitOk (wB : World) (s0 s1 s2 : Sl) (p : Pr) (ls : List Int) : Prop :=
  ∀ {w : World} {l : List (Nat × List Value)} {R : List (Sl × List Int)} {O : List (Nat × Obj)} {ns t take : Sl} {T f ds : List Int} {cs : List NdC} {N : List Nd} {left : Int} {jr jp jv sb spb vb : Nat} {K : Int -> Bool -> World -> Prop},
    p.lots = ds ++ ls -> f.length = ds.length -> V wB w l R O ns t T cs N -> Ix l jr jp jv sb spb vb (idOf Cs_run_1_ok) (schC t 0 0 ns s0 s1 s2 p.most p.budget left) -> (take, f) ∈ R -> Decs p p.lots f -> Perm p T -> 0 <= left -> left + N.length <= 1048576 ->
    (∀ w' n ok left' ns' t' T' cs' N', V wB w' (l.set jr (sb, schC t' 0 0 ns' s0 s1 s2 p.most p.budget left')) R O ns' t' T' cs' N' -> VP (upB p) p f ls left T N left' T' N' n ok -> K n ok w') ->
    Cs_run_1_sh take ⟨spb, 0, none⟩ ⟨vb, 0, none⟩ K w

theorem callV_yield {l : Nat} {vs : List Value} {w : World} {K : VW} (h : Yl Try.prog l vs.toArray w K) : CallV Try.prog (.func (.yield l) #[] #[]) vs w K := by
  unfold CallV
  simpa using h

/-- What holds between the rounds, i numbers being left; N0: the nodes ahead of the visit's own one. -/
structure Rd (p : Pr) (f ls os : List Int) (left0 : Int) (T0 : List Int) (N0 : List Nd) (i : Nat) (left : Int) (T : List Int) (N : List Nd) (nx : List Int) : Prop where
  len : nx.length = os.length
  kd : kids (Tree (upB p) p T N ls) f (os.drop i) (nx.drop i) (N0.length + 1) N.length
  perm : Perm p T
  bt : T = T0 \/ Bt p T T0
  pre : N0 ++ [⟨f.length, 0, 1, []⟩] <+: N
  lf : left + N.length = left0 + N0.length
  l0 : 0 <= left
  up : N.length <= N0.length + 1 + (os.length - i) * prefN p ls

section
variable {wB w : World} {l : List (Nat × List Value)} {R : List (Sl × List Int)} {O : List (Nat × Obj)} {ns t take o s0 s1 s2 : Sl} {p : Pr} {T f ds ls os nx T0 : List Int} {cs : List NdC} {N N0 : List Nd} {left left0 : Int} {jr jp jv sb spb vb : Nat}
  {bb nxb nb ob db fb r2b r1b tkb lb dq fn i : Nat} {D F : List Value} {tmps : Array Value} {g h2 : Value} {nn : Int} {lot : Int}

theorem frL_len {b2 : Bool} {a1 : Int} : (frL bb nxb nb ob db fb r2b r1b tkb o nx D F b2 a1 take).length = 9 := rfl

/-- A round: the number at place i is visited. -/
theorem round_spec {K' : VW} (hp : RightPr p) (hIH : VisitOk wB s0 s1 s2 p ls) (hlots : p.lots = ds ++ lot :: ls) (hfl : f.length = ds.length) (hos : os = opts p lot) (hd : Decs p p.lots f)
    (hv : V wB w (frL bb nxb nb ob db fb r2b r1b tkb o nx D F false 0 take ++ l.set jr (sb, schC t 0 0 ns s0 s1 s2 p.most p.budget left)) ((o, os) :: R) ((lb, lrec fn tmps Cs_run_1_ps1 Cs_run_1_as1 Cs_run_1_bd1 dq .ready none) :: (dq, .deferred (some [])) :: O) ns t T cs N)
    (hix : ∃ row, Ix l jr jp jv sb spb vb (idOf Cs_run_1_ok) row) (htk : (take, f) ∈ R) (hO : ∀ q ∈ (dq, Obj.deferred (some [])) :: O, q.1 ≠ lb)
    (hag : agrT 139 [(1, (Value.pointer (some ⟨spb, 0, none⟩))), (2, (Value.pointer (some ⟨vb, 0, none⟩))), (3, (Value.pointer (some ⟨tkb, 0, none⟩))), (4, (Value.pointer (some ⟨r1b, 0, none⟩))), (5, (Value.pointer (some ⟨r2b, 0, none⟩))), (6, (Value.int .i64 nn)), (10, (Value.pointer (some ⟨ob, 0, none⟩))), (11, (Value.pointer (some ⟨nxb, 0, none⟩))), (107, g)] tmps)
    (hi : i < os.length) (_hol : os.length < 2 ^ 40) (hr : Rd p f ls os left0 T0 N0 (i + 1) left T N nx) (hmax : left0 + N0.length <= 1048576)
    (hK : ∀ w' ns' t' T' cs' N' left' nx', V wB w' (frL bb nxb nb ob db fb r2b r1b tkb o nx' D F false 0 take ++ l.set jr (sb, schC t' 0 0 ns' s0 s1 s2 p.most p.budget left')) ((o, os) :: R) ((lb, lrec fn tmps Cs_run_1_ps1 Cs_run_1_as1 Cs_run_1_bd1 dq .ready none) :: (dq, .deferred (some [])) :: O) ns' t' T' cs' N' ->
      Rd p f ls os left0 T0 N0 i left' T' N' nx' -> K' (.bool true) w')
    (hF : ∀ w' ns' t' T' cs' N' left' nx', V wB w' (frL bb nxb nb ob db fb r2b r1b tkb o nx' D F false 0 take ++ l.set jr (sb, schC t' 0 0 ns' s0 s1 s2 p.most p.budget left')) ((o, os) :: R) ((lb, lrec fn tmps Cs_run_1_ps1 Cs_run_1_as1 Cs_run_1_bd1 dq .done (some .ret)) :: (dq, .deferred (some [])) :: O) ns' t' T' cs' N' ->
      Perm p T' -> (T' = T0 \/ Bt p T' T0) -> N0 <+: N' -> -1 <= left' -> left0 < prefN p (lot :: ls) -> K' (.bool false) w') :
    Yl Try.prog lb #[.int .i64 i, h2] w K' := by
  obtain ⟨row, ix0⟩ := hix
  refine Cs_run_1_y1 (fun _ _ => True) ⟨spb, 0, none⟩ ⟨vb, 0, none⟩ ⟨tkb, 0, none⟩ ⟨r1b, 0, none⟩ ⟨r2b, 0, none⟩ nn ⟨ob, 0, none⟩ ⟨nxb, 0, none⟩ g i h2 hag (hv.ob _ (List.mem_cons_self ..)).1 ⟨?_⟩
  unfold Cs_run_1_r1d
  refine ⟨(hv.ob _ (List.mem_cons_self ..)).1, ?_⟩
  have v := (hv.put (o' := lrec fn tmps Cs_run_1_ps1 Cs_run_1_as1 Cs_run_1_bd1 dq .busy none) hO).drew
  dsimp -zeta only
  intro w1
  have v : V wB w1 _ _ _ _ _ _ _ _ := v
  clear_value w1
  have ix1 := (ix0.set (schC t 0 0 ns s0 s1 s2 p.most p.budget left)).front (frL bb nxb nb ob db fb r2b r1b tkb o nx D F false 0 take)
  rw [frL_len] at ix1
  -- what the round's loads lean on
  let S : World -> Prop := fun u => Row u vb [fnv (idOf Cs_run_1_ok) [spb, vb]] /\ Row u tkb [.slice take.p take.l take.c] /\ Row u ob [.slice o.p o.l o.c] /\ VI u o os
  have hS : ∀ {u l' ns' t' T' cs' N' R' O'}, V wB u (frL bb nxb nb ob db fb r2b r1b tkb o nx D F false 0 take ++ l') R' O' ns' t' T' cs' N' -> (o, os) ∈ R' -> Ix l' jr jp jv sb spb vb (idOf Cs_run_1_ok) (schC t' 0 0 ns' s0 s1 s2 p.most p.budget left) \/ (∃ row, Ix l' jr jp jv sb spb vb (idOf Cs_run_1_ok) row) -> S u := by
    intro u l' ns' t' T' cs' N' R' O' vv hm hx
    obtain ⟨row, hx⟩ : ∃ row, Ix l' jr jp jv sb spb vb (idOf Cs_run_1_ok) row := by
      rcases hx with hx | hx
      · exact ⟨_, hx⟩
      · exact hx
    have hx := hx.front (frL bb nxb nb ob db fb r2b r1b tkb o nx D F false 0 take)
    exact ⟨vv.row _ hx.v, vv.row 8 rfl, vv.row 3 rfl, vv.r _ hm⟩
  have hxs : ∀ row', ∃ row, Ix (l.set jr (sb, row')) jr jp jv sb spb vb (idOf Cs_run_1_ok) row := fun row' => ⟨_, ix0.set row'⟩
  have hom : (o, os) ∈ (o, os) :: R := List.mem_cons_self ..
  have hfi : f.length < 2 ^ 40 := by have := right_len hp hd; omega
  have hfr : VI w1 take f := v.r _ (List.mem_cons_of_mem _ htk)
  -- the visit itself
  have call : ∀ {u : World} {s : Sl}, Mk w1 1 (ie .i64 id) u s (f ++ [os[i]]) -> CallV Try.prog (fnv (idOf Cs_run_1_ok) [spb, vb]) [(Value.slice s.p s.l s.c)] u fun (u138 : Value) (w139 : World) => ∃ x140 : Int, ∃ x141 : Bool, u138 = (Value.tuple #[(Value.int .i64 x140), (Value.bool x141)]) /\ S w139 /\ Cs_run_1_k2 ⟨r1b, 0, none⟩ ⟨r2b, 0, none⟩ ⟨nxb, 0, none⟩ i x140 x141
      (rN lb fn tmps Cs_run_1_ps1 Cs_run_1_as1 Cs_run_1_bd1 dq K') (rR lb fn tmps Cs_run_1_ps1 Cs_run_1_as1 Cs_run_1_bd1 dq K') (fun _ _ _ => True) w139 := by
    intro u s hs
    have va := v.add hs
    have hd' : Decs p p.lots (f ++ [os[i]]) := by
      refine (decs_get (by rw [hlots]; simp; omega)).2 fun j lot' n' h1 h2 => ?_
      rcases Nat.lt_or_ge j f.length with hj | hj
      · rw [List.getElem?_append_left hj] at h2
        exact (decs_get (decs_len hd)).1 hd j lot' n' h1 h2
      · rw [List.getElem?_append_right hj] at h2
        have hj0 : j - f.length = 0 := by
          have := (List.getElem?_eq_some_iff.1 h2).1
          simp at this
          omega
        rw [hj0] at h2
        simp at h2
        have hje : j = ds.length := by omega
        rw [hlots, hje, List.getElem?_append_right (Nat.le_refl _)] at h1
        simp at h1
        rw [← h1, ← h2]
        exact opts_mem.1 (hos ▸ List.getElem_mem hi)
    have hlf := hr.lf
    refine callV_of Cs_run_1_ok (hIH (ds := ds ++ [lot]) (by rw [hlots]; simp) (by simp [hfl]) va ix1 (List.mem_cons_self ..) hd' hr.perm hr.l0 (by omega) fun w2 n ok left' ns' t' T' cs' N' v2 hvp => ⟨n, ok, rfl, ?_⟩)
    have v2 := v2.dR (Q := (o, os) :: R) fun x hx => List.mem_cons_of_mem _ hx
    have e2 : (frL bb nxb nb ob db fb r2b r1b tkb o nx D F false 0 take ++ l.set jr (sb, schC t 0 0 ns s0 s1 s2 p.most p.budget left)).set (jr + 9) (sb, schC t' 0 0 ns' s0 s1 s2 p.most p.budget left') = frL bb nxb nb ob db fb r2b r1b tkb o nx D F false 0 take ++ l.set jr (sb, schC t' 0 0 ns' s0 s1 s2 p.most p.budget left') := by
      simp only [List.cons_append, List.nil_append, List.set_cons_succ, List.set_set]
    rw [e2] at v2
    refine ⟨hS v2 hom (.inr (hxs _)), ⟨?_⟩⟩
    unfold Cs_run_1_k2d
    rw [cnd_iff]
    refine ⟨fun hno => ?_, fun hyes => ?_⟩
    · have hok : ok = false := by simpa using hno
      have hlt := hvp.no hok
      refine ⟨v2.wr 7 rfl rfl, ?_⟩
      intro w3
      have v3 : V wB w3 _ _ _ _ _ _ _ _ := v2.set (i := 0) (v := .int .i64 0) 7 rfl
      clear_value w3
      refine ⟨v3.wr 6 rfl rfl, ?_⟩
      intro w4
      have v4 : V wB w4 _ _ _ _ _ _ _ _ := v3.set (i := 0) (v := .bool false) 6 rfl
      clear_value w4
      simp only [List.cons_append, List.nil_append, List.set_cons_succ, List.set_cons_zero] at v4
      refine ⟨(v4.ob _ (List.mem_cons_self ..)).1, ?_⟩
      have v5 := v4.put (o' := lrec fn tmps Cs_run_1_ps1 Cs_run_1_as1 Cs_run_1_bd1 dq .done (some .ret)) hO
      have hpre := hr.pre
      have hup := hr.up
      refine hF _ ns' t' T' cs' N' left' nx v5 hvp.perm (bt_trans hr.bt hvp.bt) (((List.prefix_append _ _).trans hpre).trans hvp.pre) hvp.lo ?_
      unfold prefN
      rw [← hos]
      have hsub : os.length - (i + 1) + 1 <= os.length := by omega
      have := Nat.mul_le_mul_right (prefN p ls) hsub
      rw [Nat.add_mul, Nat.one_mul] at this
      omega
    · have hok : ok = true := by simpa using hyes
      obtain ⟨hn, htree, hcnt, hl0, hup'⟩ := hvp.yes hok
      have hnl := hr.len
      refine ⟨⟨some ⟨nb, 0, none⟩, nx.length, nx.length⟩, v2.ld 1 rfl rfl, ?_⟩
      refine nz_iff.2 ⟨_, rfl, ⟨by omega, by simp only; omega⟩, ?_⟩
      simp -zeta only [add_mk, Int.toNat_natCast, Nat.mul_one, Nat.zero_add]
      refine ⟨v2.wr 2 rfl (by simp [Nat.blt_eq]; omega), ?_⟩
      intro w3
      have v3 : V wB w3 _ _ _ _ _ _ _ _ := v2.set (i := i) (v := .int .i64 n) 2 rfl
      clear_value w3
      have e3 : (nx.map fun n => Value.int .i64 n).set i (.int .i64 n) = (nx.set i n).map fun n => Value.int .i64 n := by rw [List.map_set]
      simp only [List.cons_append, List.nil_append, List.set_cons_succ, List.set_cons_zero, e3] at v3
      have v3 : V wB w3 (frL bb nxb nb ob db fb r2b r1b tkb o (nx.set i n) D F false 0 take ++ l.set jr (sb, schC t' 0 0 ns' s0 s1 s2 p.most p.budget left')) ((o, os) :: R) ((lb, lrec fn tmps Cs_run_1_ps1 Cs_run_1_as1 Cs_run_1_bd1 dq .busy none) :: (dq, .deferred (some [])) :: O) ns' t' T' cs' N' := by
        simpa [frL] using v3
      refine ⟨(v3.ob _ (List.mem_cons_self ..)).1, hK _ ns' t' T' cs' N' left' (nx.set i n) (v3.put (o' := lrec fn tmps Cs_run_1_ps1 Cs_run_1_as1 Cs_run_1_bd1 dq .ready none) hO) ?_⟩
      refine ⟨by simp [hnl], ?_, hvp.perm, bt_trans hr.bt hvp.bt, hr.pre.trans hvp.pre, by omega, hl0, ?_⟩
      · have e4 : os.drop i = os[i] :: os.drop (i + 1) := List.drop_eq_getElem_cons hi
        have e5 : (nx.set i n).drop i = n :: nx.drop (i + 1) := by
          rw [List.drop_eq_getElem_cons (by simp; omega)]
          rw [List.getElem_set_self, List.drop_set, if_pos (by omega)]
        rw [e4, e5, hn]
        exact kids_step hvp.bt hvp.pre hr.kd htree
      · have hup := hr.up
        have hsub : os.length - i = os.length - (i + 1) + 1 := by omega
        rw [hsub, Nat.add_mul, Nat.one_mul]
        omega
  have ho : VI w1 o os := v.r _ hom
  refine ⟨S, hS v hom (.inr (hxs _)), _, fun u hu => hu.1.at rfl, take, fun u hu => hu.2.1.at rfl, o, fun u hu => hu.2.2.1.at rfl, ?_⟩
  have hlo := ho.len
  obtain ⟨ad, hp0, _⟩ := ho.at (fun a => ie_length _ _ a) (List.getElem?_eq_getElem hi) (by decide)
  refine nz_iff.2 ⟨ad, hp0, ⟨by omega, by omega⟩, os[i], fun u hu => ?_, ?_, ?_⟩
  · obtain ⟨ad', hp', hc⟩ := hu.2.2.2.at (fun a => ie_length _ _ a) (List.getElem?_eq_getElem hi) (by decide)
    rw [hp0] at hp'
    cases hp'
    exact hc 0 _ rfl
  · refine Clone_spec hfr hfi fun s2' w2 hm => ⟨hS (v.fr hm.fr0) hom (.inr (hxs _)), ?_⟩
    intro w3
    have hf3 : Fr F0 w2 w3 := Fr.alloc
    refine ⟨hS ((v.fr hm.fr0).fr hf3) hom (.inr (hxs _)), ?_⟩
    refine Mk.push hm (a := os[i]) rfl rfl (ie_ok _ _) rfl (by omega) (by omega) fun r w4 hm4 _ => ⟨hS (v.fr hm4.fr0) hom (.inr (hxs _)), call hm4⟩
  · intro w2
    have hf2 : Fr F0 w1 w2 := Fr.alloc
    have hx : VI w2 ⟨some ⟨w1.heap.size, 0, none⟩, 1, 1⟩ [os[i]] := Vw.new rfl rfl
    clear_value w2
    refine ⟨hS (v.fr hf2) hom (.inr (hxs _)), Clone_spec (hfr.fr hf2) hfi fun s2' w3 hm => ⟨hS ((v.fr hf2).fr hm.fr0) hom (.inr (hxs _)), ?_⟩⟩
    have hm' : Mk w1 1 (ie .i64 id) w3 s2' f := ⟨hf2.t hm.fr0, hm.ow, fun b hb => Nat.le_trans hf2.1 (hm.nw b hb)⟩
    exact hm'.app (hx.fr hm.fr0) (ie_ok _ _) rfl (by simp; omega) (by simp; omega) fun r w4 hm4 _ => ⟨hS (v.fr hm4.fr0) hom (.inr (hxs _)), call hm4⟩
end
end Go.Proofs.Ytmkjcheafdionaa
