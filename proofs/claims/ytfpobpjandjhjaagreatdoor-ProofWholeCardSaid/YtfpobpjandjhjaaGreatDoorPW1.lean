/- The tree of all prefixes, in the order in which it is grown: a proof of the best take. Conditions: none. -/
import Derived.Test.YtfpobpjandjhjaaGreatDoorPXZ
namespace Go.Proofs.YtfpobpjandjhjaaGreatDoor
open Go Pw
def kidsF (Tr : List Int -> Nat -> Nat -> Prop) (f : List Int) : List Int -> List Int -> Nat -> Nat -> Prop
 | [], [], a, b => a = b
 | o :: os, k :: ks, a, b => ∃ m : Nat, k = (a : Int) /\ Tr (f ++ [o]) a m /\ kidsF Tr f os ks m b
 | _, _, _, _ => False
def TreeF (p : Pr) (T : List Int) (N : List Nd) : List Int -> List Int -> Nat -> Nat -> Prop
 | [], f, n, m => ∃ x, N[n]? = some x /\ x.next = [] /\ m = n + 1 /\ closedB p f x.num x.den T = true
 | lot :: ls, f, n, m => ∃ x, N[n]? = some x /\ x.lot = f.length /\ kidsF (TreeF p T N ls) f (opts p lot) x.next (n + 1) m
section
variable {p : Pr} {T : List Int} {N N' : List Nd}
theorem kidsF_le {Tr : List Int -> Nat -> Nat -> Prop} {f : List Int} (hT : ∀ g n m, Tr g n m -> n < m) : ∀ (os ks : List Int) (a b : Nat), kidsF Tr f os ks a b -> a <= b
 | [], [], a, b, h => by simp [kidsF] at h; omega
 | [], _ :: _, _, _, h => h.elim
 | _ :: _, [], _, _, h => h.elim
 | o :: os, k :: ks, a, b, h => by
  obtain ⟨m, _, h1, h2⟩ := h
  have := kidsF_le hT os ks m b h2
  have := hT _ _ _ h1
  omega
theorem kidsF_len {Tr : List Int -> Nat -> Nat -> Prop} {f : List Int} : ∀ (os ks : List Int) (a b : Nat), kidsF Tr f os ks a b -> ks.length = os.length
 | [], [], _, _, _ => rfl
 | [], _ :: _, _, _, h => h.elim
 | _ :: _, [], _, _, h => h.elim
 | _ :: os, _ :: ks, a, b, h => by
  obtain ⟨m, _, _, h2⟩ := h
  simp [kidsF_len os ks m b h2]
theorem treeF_lt : ∀ (ls f : List Int) (n m : Nat), TreeF p T N ls f n m -> n < m
 | [], f, n, m, h => by obtain ⟨x, _, _, h, _⟩ := h; omega
 | lot :: ls, f, n, m, h => by
  obtain ⟨x, _, _, h⟩ := h
  have := kidsF_le (fun g n m => treeF_lt ls g n m) _ _ _ _ h
  omega
theorem kidsF_imp {Tr Tr' : List Int -> Nat -> Nat -> Prop} {f : List Int} (hT : ∀ g n m, Tr g n m -> n < m) : ∀ (os ks : List Int) (a b : Nat), kidsF Tr f os ks a b -> (∀ g n m, a <= n -> m <= b -> Tr g n m -> Tr' g n m) -> kidsF Tr' f os ks a b
 | [], [], a, b, h, _ => h
 | [], _ :: _, _, _, h, _ => h.elim
 | _ :: _, [], _, _, h, _ => h.elim
 | o :: os, k :: ks, a, b, h, hi => by
  obtain ⟨m, h1, h2, h3⟩ := h
  have hm := kidsF_le hT os ks m b h3
  have hb := hT _ _ _ h2
  exact ⟨m, h1, hi _ _ _ (Nat.le_refl _) hm h2, kidsF_imp hT os ks m b h3 (fun g n m' h4 h5 h6 => hi g n m' (by omega) h5 h6)⟩
theorem treeF_congr : ∀ (ls f : List Int) (n m : Nat), (∀ i, n <= i -> i < m -> N'[i]? = N[i]?) -> TreeF p T N ls f n m -> TreeF p T N' ls f n m
 | [], f, n, m, hN, h => by
  obtain ⟨x, h1, h2, h3, h4⟩ := h
  exact ⟨x, by rw [hN n (Nat.le_refl _) (by omega)]; exact h1, h2, h3, h4⟩
 | lot :: ls, f, n, m, hN, h => by
  have hlt := treeF_lt _ _ _ _ h
  obtain ⟨x, h1, h2, h3⟩ := h
  exact ⟨x, by rw [hN n (Nat.le_refl _) hlt]; exact h1, h2, kidsF_imp (fun g n m => treeF_lt ls g n m) _ _ _ _ h3 fun g a b ha hb h => treeF_congr ls g a b (fun i h4 h5 => hN i (by omega) (by omega)) h⟩
theorem kidsF_congr {ls os ks f : List Int} {a b : Nat} (hN : ∀ i, a <= i -> i < b -> N'[i]? = N[i]?) (h : kidsF (TreeF p T N ls) f os ks a b) : kidsF (TreeF p T N' ls) f os ks a b :=
 kidsF_imp (fun g n m => treeF_lt ls g n m) _ _ _ _ h fun g n m h1 h2 h => treeF_congr ls g n m (fun i h3 h4 => hN i (by omega) (by omega)) h
theorem kidsF_snoc {Tr : List Int -> Nat -> Nat -> Prop} {f : List Int} {o : Int} {m b : Nat} (ht : Tr (f ++ [o]) m b) : ∀ (os ks : List Int) (a : Nat), kidsF Tr f os ks a m -> kidsF Tr f (os ++ [o]) (ks ++ [(m : Int)]) a b
 | [], [], a, h => by
  have h : a = m := h
  subst h
  exact ⟨b, rfl, ht, rfl⟩
 | [], _ :: _, _, h => h.elim
 | _ :: _, [], _, h => h.elim
 | o' :: os, k :: ks, a, h => by
  obtain ⟨c, h1, h2, h3⟩ := h
  exact ⟨c, h1, h2, kidsF_snoc ht os ks c h3⟩
theorem mkd_mkd' (l : List Bool) {a m b : Nat} (h1 : a <= m) (h2 : m <= b) : mkd (mkd l a m) m b = mkd l a b := by
 apply List.ext_getElem?
 intro i
 rw [mkd_get, mkd_get, mkd_get]
 cases l[i]? with
 | none => rfl
 | some x =>
  simp only [Option.map_some]
  by_cases g1 : m <= i /\ i < b
  ·rw [if_pos g1, if_pos (by omega)]
  ·rw [if_neg g1]
   by_cases g2 : a <= i /\ i < m
   ·rw [if_pos g2, if_pos (by omega)]
   ·rw [if_neg g2, if_neg (by omega)]
theorem treeF_walk : ∀ (ls f : List Int) (n m : Nat) (seen : List Bool), TreeF p T N ls f n m -> seen.length = N.length -> m <= N.length ->
  (∀ i, n <= i -> i < m -> seen[i]? = some false) -> walkB p N T ls f n seen = (true, mkd seen n m) := by
 intro ls
 induction ls with
 | nil =>
  intro f n m seen ht hsl hm hs
  obtain ⟨x, h1, h2, rfl, h4⟩ := ht
  have h0 : (0 : Int) <= (n : Int) := by omega
  unfold walkB
  simp only [h0, if_true, Int.toNat_natCast, h1, List.getD_eq_getElem?_getD, hs n (by omega) (by omega), Option.getD_some, h2, h4]
  rw [if_neg (by decide), ← mkd_set _ (by omega), mkd_self]
 | cons lot ls ih =>
  intro f n m seen ht hsl hm hs
  have hlt := treeF_lt _ _ _ _ ht
  obtain ⟨x, h1, h2, h3⟩ := ht
  have h0 : (0 : Int) <= (n : Int) := by omega
  have hsn := hs n (by omega) (by omega)
  unfold walkB
  simp only [h0, if_true, Int.toNat_natCast, h1, List.getD_eq_getElem?_getD, hsn, Option.getD_some]
  rw [if_neg (by decide)]
  have hkl := kidsF_len _ _ _ _ h3
  rw [if_neg (fun h => by rw [h] at hkl; simp [opts] at hkl), if_neg (by rintro (q | q); exact q h2; exact q hkl)]
  have key : ∀ (os ks : List Int) (a b : Nat) (sq : List Bool), kidsF (TreeF p T N ls) f os ks a b -> n < a -> b <= N.length -> sq.length = N.length -> (∀ i, a <= i -> i < b -> sq[i]? = some false) ->
    kidsB (walkB p N T ls) n f os ks sq = (true, mkd sq a b) := by
   intro os
   induction os with
   | nil =>
    intro ks a b sq hk _ _ _ _
    cases ks with
    | nil =>
     have : a = b := hk
     subst this
     rw [mkd_self]; rfl
    | cons _ _ => exact hk.elim
   | cons o os ihk =>
    intro ks a b sq hk hna hb hq hf
    cases ks with
    | nil => exact hk.elim
    | cons k ks =>
     obtain ⟨c, rfl, hk1, hk2⟩ := hk
     have hcb := kidsF_le (fun g n m => treeF_lt ls g n m) _ _ _ _ hk2
     have hac := treeF_lt _ _ _ _ hk1
     have hw := ih (f ++ [o]) a c sq hk1 hq (by omega) (fun i g1 g2 => hf i g1 (by omega))
     rw [kidsB, if_neg (by omega), hw]
     simp only [if_true]
     rw [ihk ks c b (mkd sq a c) hk2 (by omega) hb (by rw [mkd_len]; exact hq) (fun i g1 g2 => by
      rw [mkd_get, hf i (by omega) g2]
      simp only [Option.map_some]
      rw [if_neg (by omega)])]
     rw [mkd_mkd' _ (by omega) hcb]
  rw [key (opts p lot) x.next (n + 1) m (seen.set n true) h3 (by omega) hm (by simpa using hsl) (fun i g1 g2 => by rw [List.getElem?_set_ne (by omega)]; exact hs i (by omega) g2), mkd_set _ hlt]
theorem proofF_true (hp : RightPr p) (hT : Perm p T) (h : TreeF p T N p.lots [] 0 N.length) : proofB p N T = true := by
 have hw := treeF_walk p.lots [] 0 N.length (List.replicate N.length false) h (by simp) (Nat.le_refl _) (fun i _ h2 => by simp [h2])
 unfold proofB
 rw [rightB_iff.2 hp, permB_iff.2 hT]
 have e : ((0 : Nat) : Int) = 0 := rfl
 rw [e] at hw
 rw [hw]
 simp only [Bool.true_and]
 rw [List.all_eq_true]
 intro x hx
 obtain ⟨i, hi, rfl⟩ := List.mem_iff_getElem.1 hx
 rw [mkd_len, List.length_replicate] at hi
 have := mkd_get (List.replicate N.length false) 0 N.length i
 rw [List.getElem?_eq_getElem (by rw [mkd_len]; simpa using hi), List.getElem?_eq_getElem (by simpa using hi)] at this
 simp only [Option.map_some, Option.some.injEq] at this
 rw [this, if_pos ⟨Nat.zero_le _, hi⟩]
 rfl
theorem full_closed {f : List Int} {a b : Int} (hb : IsBest p T) (hl : f.length = p.lots.length) : closedB p f a b T = true := by
 unfold closedB
 have e : betterR p f T = false := by
  cases h : betterR p f T with
  | false => rfl
  | true =>
   unfold betterR at h
   rw [permB_iff.2 hb.1] at h
   simp only [Bool.and_eq_true, Bool.not_true, Bool.false_or] at h
   exact absurd (btB_iff.1 h.2.2) (hb.2 f (permB_iff.1 h.2.1))
 rw [decide_eq_true hl, e]
 simp
theorem chkF {pts bnd : Int} (hp : RightPr p) (hA : IsBest p T) (h : TreeF p T N p.lots [] 0 N.length) (h1 : pts = ptsOf p T) (h2 : bnd = pts) : chkP p T pts bnd N = 0 := by
 subst h1 h2
 unfold chkP
 rw [rightB_iff.2 hp, permB_iff.2 hA.1, proofF_true hp hA.1 h, decide_eq_true rfl]
 rfl
end
end Go.Proofs.YtfpobpjandjhjaaGreatDoor
