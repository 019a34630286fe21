/- combine: a search's loop over the numbers that may follow. Conditions: none. -/
import Derived.Test.YtmkjcheafdionaaCDE
namespace Go.Proofs.Ytmkjcheafdionaa
open Go Pw

section
variable {wB w : World} {l : List (Nat × List Value)} {R : List (Sl × List Int)} {O : List (Nat × Obj)} {ns t take o s0 s1 s2 : Sl} {p : Pr} {T f ds ls os nx T0 : List Int} {cs : List NdC} {N N0 : List Nd} {left left0 : Int} {jr jp jv sb spb vb : Nat}
  {bb nxb nb ob db fb r2b r1b tkb : Nat} {D F : List Value} {lot : Int} {K : Int -> Bool -> World -> Prop}

theorem set_len_append (N0 : List Nd) (x y : Nd) (r : List Nd) : (N0 ++ x :: r).set N0.length y = N0 ++ y :: r := by
  rw [List.set_append, if_neg (by omega), Nat.sub_self, List.set_cons_zero]

theorem visit_f1 (hp : RightPr p) (hIH : VisitOk wB s0 s1 s2 p ls) (hlots : p.lots = ds ++ lot :: ls) (hfl : f.length = ds.length) (hos : os = opts p lot) (hd : Decs p p.lots f)
    (hv : V wB w (frL bb nxb nb ob db fb r2b r1b tkb o nx D F false 0 take ++ l.set jr (sb, schC t 0 0 ns s0 s1 s2 p.most p.budget left)) ((o, os) :: R) O ns t T cs N)
    (hix : ∃ row, Ix l jr jp jv sb spb vb (idOf Cs_run_1_ok) row) (htk : (take, f) ∈ R)
    (hol : os.length < 2 ^ 40) (hr : Rd p f ls os left0 T0 N0 os.length left T N nx) (hmax : left0 + N0.length <= 1048576) (_hl00 : 0 <= left0)
    (hK : ∀ w' n ok left' ns' t' T' cs' N', V wB w' (l.set jr (sb, schC t' 0 0 ns' s0 s1 s2 p.most p.budget left')) R O ns' t' T' cs' N' -> VP (upB p) p f (lot :: ls) left0 T0 N0 left' T' N' n ok -> K n ok w') :
    Cs_run_1_f1 ⟨spb, 0, none⟩ ⟨vb, 0, none⟩ ⟨tkb, 0, none⟩ ⟨r1b, 0, none⟩ ⟨r2b, 0, none⟩ (N0.length : Int) ⟨ob, 0, none⟩ ⟨nxb, 0, none⟩ (fnv (idOf slices_Backward_1_ok) [bb]) K w := by
  refine ⟨?_⟩
  unfold Cs_run_1_f1d
  refine ⟨⟨_, _, _, rfl⟩, fun fn tmps hag => ?_⟩
  have v1 := hv.newO (o := .deferred (some []))
  have hsz : (w.alloc (.deferred (some []))).heap.size = w.heap.size + 1 := by simp
  have v2 := v1.newO (o := lrec fn tmps Cs_run_1_ps1 Cs_run_1_as1 Cs_run_1_bd1 w.heap.size .ready none)
  rw [hsz] at v2
  have hO : ∀ q ∈ (w.heap.size, Obj.deferred (some [])) :: O, q.1 ≠ w.heap.size + 1 := by
    intro q hq
    have := v1.olt hq
    rw [hsz] at this
    omega
  have hO2 : ∀ q ∈ O, q.1 ≠ w.heap.size := fun q hq => by have := hv.olt hq; omega
  clear v1 hv
  generalize (w.alloc (.deferred (some []))).alloc (lrec fn tmps Cs_run_1_ps1 Cs_run_1_as1 Cs_run_1_bd1 w.heap.size .ready none) = w2 at v2 ⊢
  generalize w.heap.size = dq at *
  refine callV_of slices_Backward_1_ok (show slices_Backward_1_sh (.func (.yield (dq + 1)) #[] #[]) ⟨bb, 0, none⟩ _ w2 from ⟨?_⟩)
  unfold slices_Backward_1_sd
  have hoi : VI w2 o os := v2.r _ (List.mem_cons_self ..)
  have hlo := hoi.len
  refine ⟨o, v2.ld 0 rfl rfl, inR64 (by omega) (by omega), ⟨⟨fun i w' => ∃ (i' : Nat) (ns t : Sl) (T : List Int) (cs : List NdC) (N : List Nd) (left : Int) (nx : List Int), i = (i' : Int) - 1 /\ i' <= os.length /\
      V wB w' (frL bb nxb nb ob db fb r2b r1b tkb o nx D F false 0 take ++ l.set jr (sb, schC t 0 0 ns s0 s1 s2 p.most p.budget left)) ((o, os) :: R) ((dq + 1, lrec fn tmps Cs_run_1_ps1 Cs_run_1_as1 Cs_run_1_bd1 dq .ready none) :: (dq, .deferred (some [])) :: O) ns t T cs N /\
      Rd p f ls os left0 T0 N0 i' left T N nx, fun i _ => (i + 1).toNat, ⟨os.length, ns, t, T, cs, N, left, nx, by omega, Nat.le_refl _, v2, hr⟩, ?_⟩⟩⟩
  clear v2 hr
  rintro i w3 ⟨i, ns, t, T, cs, N, left, nx, rfl, hi, v, hr⟩
  have hxs : ∀ row', ∃ row, Ix (l.set jr (sb, row')) jr jp jv sb spb vb (idOf Cs_run_1_ok) row := fun row' => by
    obtain ⟨row, hx⟩ := hix
    exact ⟨_, hx.set row'⟩
  unfold slices_Backward_1_b0
  rw [cnd_prop]
  refine ⟨fun hge => ?_, fun hlt => ?_⟩
  · obtain ⟨j, rfl⟩ : ∃ j, i = j + 1 := ⟨i - 1, by omega⟩
    have hj : j < os.length := by omega
    have hoj : VI w3 o os := v.r _ (List.mem_cons_self ..)
    refine ⟨o, v.ld 0 rfl rfl, ?_⟩
    refine VI.ld hoj j (by omega) hj ?_
    have ej : ((j + 1 : Nat) : Int) - 1 = (j : Int) := by omega
    rw [ej]
    refine callV_yield (round_spec hp hIH hlots hfl hos hd v hix htk hO hag hj hol hr hmax (fun w' ns' t' T' cs' N' left' nx' v' hr' => ⟨true, rfl, ?_⟩) fun w' ns' t' T' cs' N' left' nx' v' hpm hbt hpre hlo' hno => ⟨false, rfl, ?_⟩)
    · rw [Bool.not_true, cnd_false]
      exact ⟨inR64 (by omega) (by omega), ⟨⟨rfl, rfl, trivial⟩, j, ns', t', T', cs', N', left', nx', rfl, by omega, v', hr'⟩, by dsimp only; omega⟩
    · rw [Bool.not_false, cnd_true]
      refine .inr ⟨(v'.ob _ (List.mem_cons_self ..)).1, ?_⟩
      have v4 := v'.put (o' := lrec fn tmps Cs_run_1_ps1 Cs_run_1_as1 Cs_run_1_bd1 dq .exhausted (some .ret)) hO
      have v4 := v4.dO (Q := (dq, .deferred (some [])) :: O) fun q hq => List.mem_cons_of_mem _ hq
      dsimp -zeta only
      refine ⟨(v4.ob _ (List.mem_cons_self ..)).1, ?_⟩
      intro w5
      have v5 : V wB w5 _ _ _ _ _ _ _ _ := v4.put (o' := .deferred none) hO2
      clear_value w5
      refine ⟨_, v5.ld 7 rfl rfl, _, v5.ld 6 rfl rfl, hK w5 0 false left' ns' t' T' cs' N' (((v5.dO fun q hq => List.mem_cons_of_mem _ hq).dR fun q hq => List.mem_cons_of_mem _ hq).dr 9 rfl) ⟨hpm, hbt, hpre, hlo', fun h => (by cases h), fun _ => hno⟩⟩
  · have hi0 : i = 0 := by omega
    subst hi0
    refine .inl ⟨(v.ob _ (List.mem_cons_self ..)).1, ?_⟩
    have v4 := v.put (o' := lrec fn tmps Cs_run_1_ps1 Cs_run_1_as1 Cs_run_1_bd1 dq .exhausted none) hO
    have v4 := (v4.dO (Q := (dq, .deferred (some [])) :: O) fun q hq => List.mem_cons_of_mem _ hq).drew
    have v4 := v4.dR (Q := R) fun q hq => List.mem_cons_of_mem _ hq
    dsimp -zeta only
    intro w5
    have v5 : V wB w5 _ _ _ _ _ _ _ _ := v4
    clear_value w5
    obtain ⟨row0, hx0⟩ := hix
    have ix := (hx0.set (schC t 0 0 ns s0 s1 s2 p.most p.budget left)).front (frL bb nxb nb ob db fb r2b r1b tkb o nx D F false 0 take)
    rw [frL_len] at ix
    have hcl := v5.nv.len
    obtain ⟨r, hNr⟩ := hr.pre
    have hNr : N = N0 ++ ⟨f.length, 0, 1, []⟩ :: r := by rw [← hNr]; simp
    have hNlen : N0.length < N.length := by rw [hNr]; simp
    have hcat : cs[N0.length]? = some (cs[N0.length]'(by omega)) := List.getElem?_eq_getElem _
    have hNat : N[N0.length]? = some ⟨f.length, 0, 1, []⟩ := by rw [hNr]; simp
    have v6 := v5.dr 2 (k := (nb, nx.map fun n => Value.int .i64 n) :: ([(ob, [.slice o.p o.l o.c]), (db, D), (fb, F), (r2b, [.bool false]), (r1b, [.int .i64 0]), (tkb, [.slice take.p take.l take.c])] ++ l.set jr (sb, schC t 0 0 ns s0 s1 s2 p.most p.budget left))) rfl
    obtain ⟨nsb, hnp, hnq⟩ := v5.nodeAt hcat
    have hnl := v5.ow.len
    refine ⟨fun u => Rs u _, v5.sub 0 rfl, _, fun _ h => h.ld (jp + 9) ix.p rfl, ?_⟩
    refine nz_iff.2 ⟨_, rfl, ?_⟩
    refine ⟨ns, fun _ h => h.ld (jr + 9) ix.r rfl, ⟨some ⟨nb, 0, none⟩, nx.length, nx.length⟩, fun _ h => h.ld 1 rfl rfl, ?_⟩
    refine nz_iff.2 ⟨_, hnp, ⟨by omega, by omega⟩, ?_⟩
    have hadr : ((⟨nsb, 0, none⟩ : Addr).add ((N0.length : Int).toNat * 4)).add 3 = ⟨nsb, N0.length * 4 + 3, none⟩ := by simp
    rw [hadr]
    refine ⟨(hnq 3 (by decide)).1, ?_⟩
    intro w6
    have v7 : V wB w6 _ _ _ _ _ _ _ _ := v6.giveNx hcat hNat hnp
    clear_value w6
    refine ⟨v7.wr 4 rfl rfl, ?_⟩
    intro w7
    have v8 : V wB w7 _ _ _ _ _ _ _ _ := v7.set (i := 0) (v := .int .i64 N0.length) 4 rfl
    clear_value w7
    refine ⟨v8.wr 3 rfl rfl, ?_⟩
    intro w8
    have v9 : V wB w8 _ _ _ _ _ _ _ _ := v8.set (i := 0) (v := .bool true) 3 rfl
    clear_value w8
    simp only [List.cons_append, List.nil_append, List.set_cons_succ, List.set_cons_zero] at v9
    refine ⟨(v9.ob _ (List.mem_cons_self ..)).1, ?_⟩
    intro w9
    have v10 : V wB w9 _ _ _ _ _ _ _ _ := v9.put (o' := .deferred none) hO2
    clear_value w9
    have hset : N.set N0.length ⟨f.length, 0, 1, nx⟩ = N0 ++ ⟨f.length, 0, 1, nx⟩ :: r := by rw [hNr]; exact set_len_append N0 _ _ r
    have hlen' : (N.set N0.length ⟨f.length, 0, 1, nx⟩).length = N.length := by simp
    refine ⟨_, v10.ld 4 rfl rfl, _, v10.ld 3 rfl rfl, hK w9 _ true left ns t T _ _ ((v10.dO fun q hq => List.mem_cons_of_mem _ hq).dr 6 rfl) ⟨hr.perm, hr.bt, ?_, by have := hr.l0; omega, fun _ => ⟨rfl, ?_, ?_, hr.l0, ?_⟩, fun h => by cases h⟩⟩
    · rw [hset]; exact List.prefix_append _ _
    · have hkd := hr.kd
      rw [List.drop_zero, List.drop_zero] at hkd
      have : (N.set N0.length ⟨f.length, 0, 1, nx⟩).length = N.length := hlen'
      refine tree_inner (x := ⟨f.length, 0, 1, nx⟩) (ks := nx) ?_ rfl rfl ?_
      · rw [List.getElem?_set_self hNlen]
      · rw [hlen', ← hos]
        exact kids_congr (.inl rfl) (fun i h1 _ => List.getElem?_set_ne (by omega)) hkd
    · rw [hlen']; exact hr.lf
    · rw [hlen']
      have := hr.up
      rw [Nat.sub_zero] at this
      unfold prefN
      rw [← hos]
      omega
end
end Go.Proofs.Ytmkjcheafdionaa
