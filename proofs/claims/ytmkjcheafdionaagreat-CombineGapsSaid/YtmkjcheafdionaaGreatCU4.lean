/- The reference's Proof: what it answers; a search's tree is a proof. Conditions: none. -/
import Derived.Test.YtmkjcheafdionaaGreatCU3
import Derived.Test.YtmkjcheafdionaaGreatCDZ
namespace Go.Proofs.YtmkjcheafdionaaGreat
open Go Pw
def proofB (p : Pr) (N : List Nd) (T : List Int) : Bool := (rightB p && permB p T) && ((walkB p N T p.lots [] 0 (List.replicate N.length false)).1 && (walkB p N T p.lots [] 0 (List.replicate N.length false)).2.all id)
def mkd (l : List Bool) (a b : Nat) : List Bool := l.mapIdx fun i x => if a <= i /\ i < b then true else x
theorem mkd_len (l : List Bool) (a b : Nat) : (mkd l a b).length = l.length := by simp [mkd]
theorem mkd_get (l : List Bool) (a b i : Nat) : (mkd l a b)[i]? = (l[i]?).map fun x => if a <= i /\ i < b then true else x := by simp [mkd]
theorem mkd_self (l : List Bool) (a : Nat) : mkd l a a = l := by
 apply List.ext_getElem?
 intro i
 rw [mkd_get]
 cases l[i]? with
 | none => rfl
 | some x => simp only [Option.map_some]; rw [if_neg (by omega)]
theorem mkd_mkd (l : List Bool) {a m b : Nat} (h1 : a <= m) (h2 : m <= b) : mkd (mkd l m b) a m = mkd l a b := by
 apply List.ext_getElem?
 intro i
 rw [mkd_get, mkd_get, mkd_get]
 cases l[i]? with
 | none => rfl
 | some x =>
  simp only [Option.map_some]
  by_cases g1 : a <= i /\ i < m
  ·rw [if_pos g1, if_pos (by omega)]
  ·rw [if_neg g1]
   by_cases g2 : m <= i /\ i < b
   ·rw [if_pos g2, if_pos (by omega)]
   ·rw [if_neg g2, if_neg (by omega)]
theorem mkd_set (l : List Bool) {n m : Nat} (h : n < m) : mkd (l.set n true) (n + 1) m = mkd l n m := by
 apply List.ext_getElem?
 intro i
 rw [mkd_get, mkd_get, List.getElem?_set]
 by_cases hi : n = i
 ·subst hi
  by_cases hl : n < l.length
  ·rw [if_pos rfl, if_pos hl, List.getElem?_eq_getElem hl]
   simp only [Option.map_some]
   rw [if_neg (by omega), if_pos (by omega)]
  ·rw [if_pos rfl, if_neg hl, List.getElem?_eq_none (by omega)]
   rfl
 ·rw [if_neg hi]
  cases l[i]? with
  | none => rfl
  | some x =>
   simp only [Option.map_some]
   by_cases g : n + 1 <= i /\ i < m
   ·rw [if_pos g, if_pos (by omega)]
   ·rw [if_neg g, if_neg (by omega)]
theorem kids_len {Tr : List Int -> Nat -> Nat -> Prop} {f : List Int} : ∀ (os ks : List Int) (a b : Nat), kids Tr f os ks a b -> ks.length = os.length
 | [], [], _, _, _ => rfl
 | [], _ :: _, _, _, h => h.elim
 | _ :: _, [], _, _, h => h.elim
 | _ :: os, _ :: ks, a, b, h => by
  obtain ⟨m, h1, _⟩ := h
  simp [kids_len os ks a m h1]
section
variable {p : Pr} {T : List Int} {N : List Nd}
theorem closed_closedB {f : List Int} {a b : Int} (hp : RightPr p) (hT : Perm p T) (hd : Decs p p.lots f) (h : Closed (upB p) p f a b T) : closedB p f a b T = true := by
 unfold closedB
 rcases h with h | h | ⟨hl, h⟩ | ⟨n, hn, h⟩
 ·rw [crowdB_iff.2 h]; rfl
 ·rw [decide_eq_true h]; simp
 ·have e : betterR p f T = false := by
   cases hb : betterR p f T with
   | false => rfl
   | true =>
    unfold betterR at hb
    rw [permB_iff.2 hT] at hb
    simp only [Bool.and_eq_true, Bool.not_true, Bool.false_or] at hb
    exact absurd ⟨permB_iff.1 hb.2.1, btB_iff.1 hb.2.2⟩ h
  rw [decide_eq_true hl, e]; simp
 ·have e : boundB p f a b T = true := by
   unfold boundB upR
   rw [rightB_iff.2 hp, decsB_iff.2 hd, Bool.true_and, if_pos rfl, hn]
   rcases h with h | ⟨h, g⟩
   ·simp [h]
   ·simp [h, g]
  rw [e]; simp
theorem tree_walk (hp : RightPr p) (hT : Perm p T) : ∀ (ls ds f : List Int) (n m : Nat) (seen : List Bool), p.lots = ds ++ ls -> f.length = ds.length -> Decs p p.lots f -> Tree (upB p) p T N ls f n m -> seen.length = N.length -> m <= N.length ->
  (∀ i, n <= i -> i < m -> seen[i]? = some false) -> walkB p N T ls f n seen = (true, mkd seen n m) := by
 intro ls
 induction ls with
 | nil =>
  intro ds f n m seen hl hfl hd ht hsl hm hs
  obtain ⟨x, h1, h2, rfl, h4⟩ := ht
  have h0 : (0 : Int) <= (n : Int) := by omega
  unfold walkB
  simp only [h0, if_true, Int.toNat_natCast, h1, List.getD_eq_getElem?_getD, hs n (by omega) (by omega), Option.getD_some, h2, closed_closedB hp hT hd h4]
  rw [if_neg (by decide), ← mkd_set _ (by omega), mkd_self]
 | cons lot ls ih =>
  intro ds f n m seen hl hfl hd ht hsl hm hs
  have hlt := tree_lt _ _ _ _ ht
  obtain ⟨x, h1, h2⟩ := ht
  have h0 : (0 : Int) <= (n : Int) := by omega
  have hsn := hs n (by omega) (by omega)
  unfold walkB
  simp only [h0, if_true, Int.toNat_natCast, h1, List.getD_eq_getElem?_getD, hsn, Option.getD_some]
  rw [if_neg (by decide)]
  rcases h2 with ⟨h2, rfl, h4⟩ | ⟨h2, h3⟩
  ·rw [if_pos h2, closed_closedB hp hT hd h4, ← mkd_set _ (by omega), mkd_self]
  ·have hkl := kids_len _ _ _ _ h3
   rw [if_neg (fun h => by rw [h] at hkl; simp [opts] at hkl), if_neg (by rintro (q | q); exact q h2; exact q hkl)]
   have key : ∀ (os ks : List Int) (a b : Nat) (sq : List Bool), (∀ o ∈ os, o ∈ opts p lot) -> kids (Tree (upB p) p T N ls) f os ks a b -> n < a -> b <= N.length -> sq.length = N.length -> (∀ i, a <= i -> i < b -> sq[i]? = some false) ->
     kidsB (walkB p N T ls) n f os ks sq = (true, mkd sq a b) := by
    intro os
    induction os with
    | nil =>
     intro ks a b sq _ hk _ _ _ _
     cases ks with
     | nil =>
      have : a = b := hk
      subst this
      rw [mkd_self]; rfl
     | cons _ _ => exact hk.elim
    | cons o os ihk =>
     intro ks a b sq ho hk hna hb hq hf
     cases ks with
     | nil => exact hk.elim
     | cons k ks =>
      obtain ⟨c, hk1, rfl, hk2⟩ := hk
      have hac := kids_le (fun g n m => tree_lt ls g n m) _ _ _ _ hk1
      have hcb := tree_lt _ _ _ _ hk2
      have hw := ih (ds ++ [lot]) (f ++ [o]) c b sq (by rw [hl]; simp) (by simp [hfl]) (by rw [hl]; exact decs_snoc (hl ▸ hd) hfl (opts_mem.1 (ho o (by simp)))) hk2 hq hb (fun i g1 g2 => hf i (by omega) g2)
      rw [kidsB, if_neg (by omega), hw]
      simp only [if_true]
      rw [ihk ks a c (mkd sq c b) (fun q hq => ho q (by simp [hq])) hk1 hna (by omega) (by rw [mkd_len]; exact hq) (fun i g1 g2 => by
       rw [mkd_get, hf i g1 (by omega)]
       simp only [Option.map_some]
       rw [if_neg (by omega)])]
      rw [mkd_mkd _ hac (by omega)]
   rw [key (opts p lot) x.next (n + 1) m (seen.set n true) (fun _ h => h) h3 (by omega) hm (by simpa using hsl) (fun i g1 g2 => by rw [List.getElem?_set_ne (by omega)]; exact hs i (by omega) g2), mkd_set _ hlt]
theorem proof_true (hp : RightPr p) (hT : Perm p T) (h : Tree (upB p) p T N p.lots [] 0 N.length) : proofB p N T = true := by
 have hw := tree_walk hp hT p.lots [] [] 0 N.length (List.replicate N.length false) rfl rfl (by cases p.lots <;> trivial) h (by simp) (Nat.le_refl _) (fun i _ h2 => by simp [h2])
 unfold proofB
 rw [rightB_iff.2 hp, permB_iff.2 hT]
 have e : ((0 : Nat) : Int) = 0 := rfl
 rw [e] at hw
 rw [hw]
 simp only [Bool.true_and]
 rw [List.all_eq_true]
 intro x hx
 obtain ⟨i, hi, rfl⟩ := List.mem_iff_getElem.1 hx
 rw [mkd_len, List.length_replicate] at hi
 have := mkd_get (List.replicate N.length false) 0 N.length i
 rw [List.getElem?_eq_getElem (by rw [mkd_len]; simpa using hi), List.getElem?_eq_getElem (by simpa using hi)] at this
 simp only [Option.map_some, Option.some.injEq] at this
 rw [this, if_pos ⟨Nat.zero_le _, hi⟩]
 rfl
end
section
variable {w wB w0 : World} {s0 s1 s2 t5 ns : Sl} {p : Pr} {T : List Int} {N : List Nd} {pts bnd : Int}
theorem walk_ok (hp : RightPr p) (hP0 : PV w0 s0 s1 s2 p) (hT0 : VI w0 t5 T) (hfit : fitsB p T = true) (hN0 : NV w0 ns N) : ∀ ls, WalkOk w0 s0 s1 s2 p t5 T pts bnd ns N ls := by
 intro ls
 induction ls with
 | nil => exact walk_step hp hP0 hT0 hfit hN0 [] fun lot ls' h => by cases h
 | cons lot ls ih =>
  refine walk_step hp hP0 hT0 hfit hN0 _ fun lot' ls' h => ?_
  cases h
  exact ih
theorem Proof_spec {K : Bool -> World -> Prop} (hP : PV w s0 s1 s2 p) (hT : VI w t5 T) (hTl : T.length < 2 ^ 63) (hN : NV w ns N) (hK : ∀ w', Fr F0 w w' -> K (proofB p N T) w') : z1s_sh s0 s1 s2 p.most p.budget t5 pts bnd ns K w := by
 have en := hN.len
 have hNl := hN.lt
 refine ⟨?_⟩
 unfold z1s_sd
 intro w1
 have m : Mem w w1 _ := Mem.nil.allocL (cs := prC s0 s1 s2 p.most p.budget)
 clear_value w1
 intro w2
 have m : Mem w w2 [(w1.heap.size, rsC t5 pts bnd ns), (w.heap.size, prC s0 s1 s2 p.most p.budget)] := m.allocL (cs := rsC t5 pts bnd ns)
 clear_value w2
 refine ⟨s0, m.ld 1 rfl rfl, s1, m.ld 1 rfl rfl, s2, m.ld 1 rfl rfl, _, m.ld 1 rfl rfl, _, m.ld 1 rfl rfl, t5, m.ld 0 rfl rfl, ?_⟩
 refine refPermitted_spec ⟨hP.fr m.1, hT.fr m.1, hTl⟩ fun w9 hf => ?_
 have m := m.fr hf
 have hb9 : Fr F0 w w9 := m.1
 refine ⟨ns, m.ld 0 rfl rfl, Mk.make (w0 := w9) (enc := be) (z := false) Fr.refl rfl rfl (by omega) (by omega) (by omega) fun sn w13 hmk hf13 => ?_⟩
 rw [show ((ns.l : Int)).toNat = N.length by omega] at hmk
 have m := m.fr hf13
 have hw9 : Fr F0 w w13 := m.1
 unfold proofB at hK
 refine cnd_iff.2 ⟨fun hn => ?_, fun hy => ?_⟩
 ·have e : (rightB p && permB p T) = false := by cases hq : (rightB p && permB p T) <;> simp_all
  have hk := hK w13 hw9
  rw [e, Bool.false_and] at hk
  exact hk
 have e : (rightB p && permB p T) = true := by cases hq : (rightB p && permB p T) <;> simp_all
 obtain ⟨er, ep⟩ := Bool.and_eq_true_iff.1 e
 have hp := rightB_iff.1 er
 rw [e, Bool.true_and] at hK
 refine ⟨s0, m.ld 1 rfl rfl, s1, m.ld 1 rfl rfl, s2, m.ld 1 rfl rfl, _, m.ld 1 rfl rfl, _, m.ld 1 rfl rfl, t5, m.ld 0 rfl rfl, _, m.ld 0 rfl rfl, _, m.ld 0 rfl rfl, ns, m.ld 0 rfl rfl, ?_⟩
 refine walk_ok (w0 := w9) hp (hP.fr hb9) (hT.fr hb9) (perm_fits ep) (hN.fr hb9) p.lots [] [] 0 _ w13 ⟨none, 0, 0⟩ sn _ hmk (by simp) rfl rfl (by cases p.lots <;> trivial) Vw.nil (fun b ⟨a, ha, _⟩ => by cases ha) fun w23 hm23 hF => ?_
 have hf23 : Fr F0 w w23 := hb9.t hm23.fr0
 refine cnd_iff.2 ⟨fun hn => ?_, fun hy => ?_⟩
 ·have hk := hK w23 hf23
  rw [show (walkB p N T p.lots [] 0 (List.replicate N.length false)).1 = false by simpa using hn, Bool.false_and] at hk
  exact hk
 rw [show (walkB p N T p.lots [] 0 (List.replicate N.length false)).1 = true by simpa using hy, Bool.true_and] at hK
 have hlen := walkB_len (N := N) (p := p) (T := T) p.lots [] 0 (List.replicate N.length false) (by simp : _ = N.length)
 generalize (walkB p N T p.lots [] 0 (List.replicate N.length false)).2 = sq at *
 have esn := hm23.vw.len
 refine ⟨⟨fun i u => ∃ i' : Nat, i = i' /\ i' <= sq.length /\ Fr F0 w23 u /\ (sq.take i').all id = true, fun i _ => sq.length - i.toNat, ⟨0, rfl, by omega, Fr.refl, rfl⟩, ?_⟩⟩
 rintro i u ⟨i, rfl, hi, hfu, hall⟩
 unfold z1s_b0
 refine cnd_prop.2 ⟨fun hlt => ?_, fun hge => ?_⟩
 ·have hil : i < sq.length := by omega
  refine be_ld (hm23.vw.fr hfu) i rfl hil (cnd_iff.2 ⟨fun hn => ?_, fun hy => ⟨inR64 (by omega) (by omega), ⟨⟨rfl, trivial⟩, i + 1, by omega, by omega, hfu, ?_⟩, by dsimp only; omega⟩⟩)
  ·have hk := hK u (hf23.t hfu)
   have e : sq.all id = false := by
    rw [List.all_eq_false]
    exact ⟨sq[i], List.getElem_mem hil, by simpa using hn⟩
   rw [e] at hk
   exact hk
  ·rw [take_succ' hil, List.all_append, hall]
   simpa using hy
 ·have : i = sq.length := by omega
  subst this
  rw [List.take_length] at hall
  have hk := hK u (hf23.t hfu)
  rw [hall] at hk
  exact hk
end
end Go.Proofs.YtmkjcheafdionaaGreat
