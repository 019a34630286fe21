/- The reference: when a node may be closed. Conditions: none. -/
import Derived.Test.YtfpobpjandjhjaaGreatDoorCU1
import Derived.Test.YtfpobpjandjhjaaGreatDoorCF2
import Derived.Test.YtfpobpjandjhjaaGreatDoorCDZ
import Derived.Lib.ItoaMem
import Derived.Lib.AtoiAllCases
import Derived.Lib.IndexBytes
import Derived.Lib.IndexMore
import Derived.Test.YtfpobpjandjhjaaGreatDoorPwS
namespace Go.Proofs.YtfpobpjandjhjaaGreatDoor
open Go Pw
def boundB (p : Pr) (f : List Int) (a b : Int) (T : List Int) : Bool := (upR p f a b).2 && (decide ((upR p f a b).1 < worth p T) || (decide ((upR p f a b).1 = worth p T) && gtL f T))
def closedB (p : Pr) (f : List Int) (a b : Int) (T : List Int) : Bool := crowdB p f || (decide (p.budget < leastOf p f) || ((decide (f.length = p.lots.length) && !betterR p f T) || boundB p f a b T))
end Go.Proofs.YtfpobpjandjhjaaGreatDoor

namespace Go.Proofs.YtfpobpjandjhjaaGreatDoor
open Go Pw
def NdV (w : World) (c : NdC) (n : Nd) : Prop := (c.lot = n.lot /\ c.num = n.num /\ c.den = n.den) /\ VI w c.nx n.next /\ I64 n.num /\ I64 n.den
structure NV (w : World) (s : Sl) (N : List Nd) : Prop where
 nds : ∃ cs : List NdC, Vw 4 encN w s cs /\ cs.length = N.length /\ ∀ (i : Nat) c n, cs[i]? = some c -> N[i]? = some n -> NdV w c n
 lt : N.length < 2 ^ 47
theorem NV.fr {w w' : World} {s : Sl} {N : List Nd} (h : NV w s N) (hf : Fr F0 w w') : NV w' s N := by
 obtain ⟨⟨cs, h1, h2, h3⟩, h4⟩ := h
 exact ⟨⟨cs, h1.fr hf, h2, fun i c n hc hn => ⟨(h3 i c n hc hn).1, (h3 i c n hc hn).2.1.fr hf, (h3 i c n hc hn).2.2⟩⟩, h4⟩
theorem NV.len {w : World} {s : Sl} {N : List Nd} (h : NV w s N) : s.l = N.length := by
 obtain ⟨⟨cs, h1, h2, _⟩, _⟩ := h
 rw [h1.len, h2]
def be : Bool -> List Value := fun b => [.bool b]
@[simp] theorem be_length (b : Bool) : (be b).length = 1 := rfl
def kidsB (W : List Int -> Int -> List Bool -> Bool × List Bool) (n : Int) (f : List Int) : List Int -> List Int -> List Bool -> Bool × List Bool
 | o :: os, k :: ks, seen => if k <= n then (false, seen) else
   if (W (f ++ [o]) k seen).1 then kidsB W n f os ks (W (f ++ [o]) k seen).2 else (false, (W (f ++ [o]) k seen).2)
 | _, _, seen => (true, seen)
def walkB (p : Pr) (N : List Nd) (T : List Int) : List Int -> List Int -> Int -> List Bool -> Bool × List Bool
 | ls, f, n, seen => match (if 0 <= n then N[n.toNat]? else none) with
  | none => (false, seen)
  | some x => if seen.getD n.toNat true then (false, seen) else
   if x.next = [] then (closedB p f x.num x.den T, seen.set n.toNat true) else
   match ls with
   | [] => (false, seen.set n.toNat true)
   | lot :: ls => if x.lot ≠ f.length \/ x.next.length ≠ (opts p lot).length then (false, seen.set n.toNat true)
    else kidsB (walkB p N T ls) n f (opts p lot) x.next (seen.set n.toNat true)
end Go.Proofs.YtfpobpjandjhjaaGreatDoor
namespace Pw
open Go
theorem Fr.any {F : Nat -> Prop} {w w' : World} (h : Fr F0 w w') : Fr F w w' := ⟨h.1, fun b hb _ => h.2.1 b hb fun h => h, h.2.2⟩
theorem Fr.comp {F : Nat -> Prop} {w w' w2 : World} (h : Fr F w w') (h' : Fr F w' w2) : Fr F w w2 := h.trans h' fun _ hb _ => hb
end Pw
namespace Go.Proofs.YtfpobpjandjhjaaGreatDoor
open Go Pw
section
variable {w w' w0 : World} {s : Sl} {l : List Bool} {N : List Nd}
theorem NV.ld {i : Int} {K : Addr -> Prop} (h : NV w0 s N) (hf : Fr F0 w0 w) (i' : Nat) (hi : i = (i' : Int)) (h1 : i' < N.length)
  (hK : ∀ (a : Addr) (nx : Sl), VI w0 nx N[i'].next -> (w.cell? (a.add (i.toNat * 4)) = some (.int .i64 N[i'].lot) /\ w.cell? ((a.add (i.toNat * 4)).add 1) = some (.int .i64 N[i'].num) /\ w.cell? ((a.add (i.toNat * 4)).add 2) = some (.int .i64 N[i'].den) /\ w.cell? ((a.add (i.toNat * 4)).add 3) = some (.slice nx.p nx.l nx.c)) -> K a) :
  nz s.p fun a => (0 <= i /\ i < (s.l : Nat)) /\ K a := by
 subst hi
 have hl := h.len
 obtain ⟨⟨cs, hv, hcl, hn⟩, _⟩ := h
 have h2 : i' < cs.length := by omega
 obtain ⟨⟨e1, e2, e3⟩, hx, _⟩ := hn i' _ _ (List.getElem?_eq_getElem h2) (List.getElem?_eq_getElem h1)
 obtain ⟨ad, hp, hc⟩ := (hv.fr hf).at (fun a => encN_length a) (List.getElem?_eq_getElem h2) (by decide)
 rw [hp]
 refine ⟨⟨by omega, by omega⟩, hK _ cs[i'].nx hx ⟨?_, ?_, ?_, ?_⟩⟩
 ·rw [← e1]; exact hc 0 _ rfl
 ·rw [← e2]; exact hc 1 _ rfl
 ·rw [← e3]; exact hc 2 _ rfl
 ·exact hc 3 _ rfl
theorem NV.i64 (h : NV w s N) {x : Nd} (hx : x ∈ N) : I64 x.num /\ I64 x.den := by
 obtain ⟨⟨cs, hv, hcl, hn⟩, _⟩ := h
 obtain ⟨i, hi, rfl⟩ := List.mem_iff_getElem.1 hx
 obtain ⟨_, _, h2, h3⟩ := hn i _ _ (List.getElem?_eq_getElem (by omega)) (List.getElem?_eq_getElem hi)
 exact ⟨h2, h3⟩
theorem kidsB_len {W : List Int -> Int -> List Bool -> Bool × List Bool} {n : Int} {f : List Int} {c : Nat} (hW : ∀ g k seen, seen.length = c -> (W g k seen).2.length = c) : ∀ (os ks : List Int) (seen : List Bool), seen.length = c -> (kidsB W n f os ks seen).2.length = c
 | [], [], _, h => h
 | [], _ :: _, _, h => h
 | _ :: _, [], _, h => h
 | o :: os, k :: ks, seen, h => by
  unfold kidsB
  split
  ·exact h
  ·split
   ·exact kidsB_len hW os ks _ (hW _ _ _ h)
   ·exact hW _ _ _ h
theorem walkB_len {p : Pr} {T : List Int} {c : Nat} : ∀ (ls f : List Int) (n : Int) (seen : List Bool), seen.length = c -> (walkB p N T ls f n seen).2.length = c := by
 intro ls
 induction ls with
 | nil =>
  intro f n seen h
  unfold walkB
  split
  ·exact h
  ·split
   ·exact h
   ·split <;> simpa using h
 | cons lot ls ih =>
  intro f n seen h
  unfold walkB
  split
  ·exact h
  ·split
   ·exact h
   ·split
    ·simpa using h
    ·simp only
     split
     ·simpa using h
     ·exact kidsB_len ih _ _ _ (by simpa using h)
end
section
variable {w w' w0 : World} {s0 s1 s2 t5 ns : Sl} {p : Pr} {T : List Int} {N : List Nd} {pts bnd : Int}
abbrev rsC (t5 : Sl) (pts bnd : Int) (ns : Sl) : List Value := [.slice t5.p t5.l t5.c, .int .i64 pts, .int .i64 bnd, .slice ns.p ns.l ns.c]
theorem decs_snoc {p : Pr} : ∀ {ds ls f : List Int} {lot o : Int}, Decs p (ds ++ lot :: ls) f -> f.length = ds.length -> Dec p lot o -> Decs p (ds ++ lot :: ls) (f ++ [o])
 | [], ls, [], lot, o, _, _, ho => ⟨ho, by cases ls <;> trivial⟩
 | [], _, _ :: _, _, _, _, h, _ => by simp at h
 | _ :: _, _, [], _, _, _, h, _ => by simp at h
 | d :: ds, ls, x :: f, lot, o, h, hl, ho => ⟨h.1, decs_snoc h.2 (by simpa using hl) ho⟩
end
end Go.Proofs.YtfpobpjandjhjaaGreatDoor
namespace Go.Proofs.YtfpobpjandjhjaaGreatDoor
open Go Pw
def proofB (p : Pr) (N : List Nd) (T : List Int) : Bool := (rightB p && permB p T) && ((walkB p N T p.lots [] 0 (List.replicate N.length false)).1 && (walkB p N T p.lots [] 0 (List.replicate N.length false)).2.all id)
def mkd (l : List Bool) (a b : Nat) : List Bool := l.mapIdx fun i x => if a <= i /\ i < b then true else x
theorem mkd_len (l : List Bool) (a b : Nat) : (mkd l a b).length = l.length := by simp [mkd]
theorem mkd_get (l : List Bool) (a b i : Nat) : (mkd l a b)[i]? = (l[i]?).map fun x => if a <= i /\ i < b then true else x := by simp [mkd]
theorem mkd_self (l : List Bool) (a : Nat) : mkd l a a = l := by
 apply List.ext_getElem?
 intro i
 rw [mkd_get]
 cases l[i]? with
 | none => rfl
 | some x => simp only [Option.map_some]; rw [if_neg (by omega)]
theorem mkd_mkd (l : List Bool) {a m b : Nat} (h1 : a <= m) (h2 : m <= b) : mkd (mkd l m b) a m = mkd l a b := by
 apply List.ext_getElem?
 intro i
 rw [mkd_get, mkd_get, mkd_get]
 cases l[i]? with
 | none => rfl
 | some x =>
  simp only [Option.map_some]
  by_cases g1 : a <= i /\ i < m
  ·rw [if_pos g1, if_pos (by omega)]
  ·rw [if_neg g1]
   by_cases g2 : m <= i /\ i < b
   ·rw [if_pos g2, if_pos (by omega)]
   ·rw [if_neg g2, if_neg (by omega)]
theorem mkd_set (l : List Bool) {n m : Nat} (h : n < m) : mkd (l.set n true) (n + 1) m = mkd l n m := by
 apply List.ext_getElem?
 intro i
 rw [mkd_get, mkd_get, List.getElem?_set]
 by_cases hi : n = i
 ·subst hi
  by_cases hl : n < l.length
  ·rw [if_pos rfl, if_pos hl, List.getElem?_eq_getElem hl]
   simp only [Option.map_some]
   rw [if_neg (by omega), if_pos (by omega)]
  ·rw [if_pos rfl, if_neg hl, List.getElem?_eq_none (by omega)]
   rfl
 ·rw [if_neg hi]
  cases l[i]? with
  | none => rfl
  | some x =>
   simp only [Option.map_some]
   by_cases g : n + 1 <= i /\ i < m
   ·rw [if_pos g, if_pos (by omega)]
   ·rw [if_neg g, if_neg (by omega)]
theorem kids_len {Tr : List Int -> Nat -> Nat -> Prop} {f : List Int} : ∀ (os ks : List Int) (a b : Nat), kids Tr f os ks a b -> ks.length = os.length
 | [], [], _, _, _ => rfl
 | [], _ :: _, _, _, h => h.elim
 | _ :: _, [], _, _, h => h.elim
 | _ :: os, _ :: ks, a, b, h => by
  obtain ⟨m, h1, _⟩ := h
  simp [kids_len os ks a m h1]
section
variable {p : Pr} {T : List Int} {N : List Nd}
theorem closed_closedB {f : List Int} {a b : Int} (hp : RightPr p) (hT : Perm p T) (hd : Decs p p.lots f) (h : Closed (upB p) p f a b T) : closedB p f a b T = true := by
 unfold closedB
 rcases h with h | h | ⟨hl, h⟩ | ⟨n, hn, h⟩
 ·rw [crowdB_iff.2 h]; rfl
 ·rw [decide_eq_true h]; simp
 ·have e : betterR p f T = false := by
   cases hb : betterR p f T with
   | false => rfl
   | true =>
    unfold betterR at hb
    rw [permB_iff.2 hT] at hb
    simp only [Bool.and_eq_true, Bool.not_true, Bool.false_or] at hb
    exact absurd ⟨permB_iff.1 hb.2.1, btB_iff.1 hb.2.2⟩ h
  rw [decide_eq_true hl, e]; simp
 ·have e : boundB p f a b T = true := by
   unfold boundB upR
   rw [rightB_iff.2 hp, decsB_iff.2 hd, Bool.true_and, if_pos rfl, hn]
   rcases h with h | ⟨h, g⟩
   ·simp [h]
   ·simp [h, g]
  rw [e]; simp
theorem tree_walk (hp : RightPr p) (hT : Perm p T) : ∀ (ls ds f : List Int) (n m : Nat) (seen : List Bool), p.lots = ds ++ ls -> f.length = ds.length -> Decs p p.lots f -> Tree (upB p) p T N ls f n m -> seen.length = N.length -> m <= N.length ->
  (∀ i, n <= i -> i < m -> seen[i]? = some false) -> walkB p N T ls f n seen = (true, mkd seen n m) := by
 intro ls
 induction ls with
 | nil =>
  intro ds f n m seen hl hfl hd ht hsl hm hs
  obtain ⟨x, h1, h2, rfl, h4⟩ := ht
  have h0 : (0 : Int) <= (n : Int) := by omega
  unfold walkB
  simp only [h0, if_true, Int.toNat_natCast, h1, List.getD_eq_getElem?_getD, hs n (by omega) (by omega), Option.getD_some, h2, closed_closedB hp hT hd h4]
  rw [if_neg (by decide), ← mkd_set _ (by omega), mkd_self]
 | cons lot ls ih =>
  intro ds f n m seen hl hfl hd ht hsl hm hs
  have hlt := tree_lt _ _ _ _ ht
  obtain ⟨x, h1, h2⟩ := ht
  have h0 : (0 : Int) <= (n : Int) := by omega
  have hsn := hs n (by omega) (by omega)
  unfold walkB
  simp only [h0, if_true, Int.toNat_natCast, h1, List.getD_eq_getElem?_getD, hsn, Option.getD_some]
  rw [if_neg (by decide)]
  rcases h2 with ⟨h2, rfl, h4⟩ | ⟨h2, h3⟩
  ·rw [if_pos h2, closed_closedB hp hT hd h4, ← mkd_set _ (by omega), mkd_self]
  ·have hkl := kids_len _ _ _ _ h3
   rw [if_neg (fun h => by rw [h] at hkl; simp [opts] at hkl), if_neg (by rintro (q | q); exact q h2; exact q hkl)]
   have key : ∀ (os ks : List Int) (a b : Nat) (sq : List Bool), (∀ o ∈ os, o ∈ opts p lot) -> kids (Tree (upB p) p T N ls) f os ks a b -> n < a -> b <= N.length -> sq.length = N.length -> (∀ i, a <= i -> i < b -> sq[i]? = some false) ->
     kidsB (walkB p N T ls) n f os ks sq = (true, mkd sq a b) := by
    intro os
    induction os with
    | nil =>
     intro ks a b sq _ hk _ _ _ _
     cases ks with
     | nil =>
      have : a = b := hk
      subst this
      rw [mkd_self]; rfl
     | cons _ _ => exact hk.elim
    | cons o os ihk =>
     intro ks a b sq ho hk hna hb hq hf
     cases ks with
     | nil => exact hk.elim
     | cons k ks =>
      obtain ⟨c, hk1, rfl, hk2⟩ := hk
      have hac := kids_le (fun g n m => tree_lt ls g n m) _ _ _ _ hk1
      have hcb := tree_lt _ _ _ _ hk2
      have hw := ih (ds ++ [lot]) (f ++ [o]) c b sq (by rw [hl]; simp) (by simp [hfl]) (by rw [hl]; exact decs_snoc (hl ▸ hd) hfl (opts_mem.1 (ho o (by simp)))) hk2 hq hb (fun i g1 g2 => hf i (by omega) g2)
      rw [kidsB, if_neg (by omega), hw]
      simp only [if_true]
      rw [ihk ks a c (mkd sq c b) (fun q hq => ho q (by simp [hq])) hk1 hna (by omega) (by rw [mkd_len]; exact hq) (fun i g1 g2 => by
       rw [mkd_get, hf i g1 (by omega)]
       simp only [Option.map_some]
       rw [if_neg (by omega)])]
      rw [mkd_mkd _ hac (by omega)]
   rw [key (opts p lot) x.next (n + 1) m (seen.set n true) (fun _ h => h) h3 (by omega) hm (by simpa using hsl) (fun i g1 g2 => by rw [List.getElem?_set_ne (by omega)]; exact hs i (by omega) g2), mkd_set _ hlt]
theorem proof_true (hp : RightPr p) (hT : Perm p T) (h : Tree (upB p) p T N p.lots [] 0 N.length) : proofB p N T = true := by
 have hw := tree_walk hp hT p.lots [] [] 0 N.length (List.replicate N.length false) rfl rfl (by cases p.lots <;> trivial) h (by simp) (Nat.le_refl _) (fun i _ h2 => by simp [h2])
 unfold proofB
 rw [rightB_iff.2 hp, permB_iff.2 hT]
 have e : ((0 : Nat) : Int) = 0 := rfl
 rw [e] at hw
 rw [hw]
 simp only [Bool.true_and]
 rw [List.all_eq_true]
 intro x hx
 obtain ⟨i, hi, rfl⟩ := List.mem_iff_getElem.1 hx
 rw [mkd_len, List.length_replicate] at hi
 have := mkd_get (List.replicate N.length false) 0 N.length i
 rw [List.getElem?_eq_getElem (by rw [mkd_len]; simpa using hi), List.getElem?_eq_getElem (by simpa using hi)] at this
 simp only [Option.map_some, Option.some.injEq] at this
 rw [this, if_pos ⟨Nat.zero_le _, hi⟩]
 rfl
end
end Go.Proofs.YtfpobpjandjhjaaGreatDoor

