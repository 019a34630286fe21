/- The bound as the code reckons it, and why it holds. Conditions: none. -/
import Derived.Test.YtfpobpjandjhjaaGreatDoorRQ0
import Derived.Test.YtfpobpjandjhjaaGreatDoorCXX
import Derived.Test.YtfpobpjandjhjaaGreatDoorCG2
namespace Go.Proofs.YtfpobpjandjhjaaGreatDoor
open Go Pw
instance (n : Int) : Decidable (I64 n) := inferInstanceAs (Decidable (_ /\ _))
def mulAdd (s : RR) (a b : Int × Int) : RR :=
 ⟨(addQ s.n s.d (mulQ a.1 a.2 b.1 b.2).n (mulQ a.1 a.2 b.1 b.2).d).n, (addQ s.n s.d (mulQ a.1 a.2 b.1 b.2).n (mulQ a.1 a.2 b.1 b.2).d).d, s.ok && ((mulQ a.1 a.2 b.1 b.2).ok && (addQ s.n s.d (mulQ a.1 a.2 b.1 b.2).n (mulQ a.1 a.2 b.1 b.2).d).ok)⟩
def netOf (p : Pr) (c : Ch) : Int := c.pts * (p.budget + 1) - c.price
def bstep (p : Pr) (f : List Int) (dual : Int × Int) (i : Nat) (lot : Int) (st : RR) (n : Nat) (c : Ch) : RR :=
 if c.lot ≠ lot \/ (i < f.length /\ f.getD i 0 ≠ (n : Int)) then st else
  if i < f.length \/ 0 < cmpQ (mulAdd ⟨netOf p c, 1, st.ok⟩ dual (-c.price, 1)).n (mulAdd ⟨netOf p c, 1, st.ok⟩ dual (-c.price, 1)).d st.n st.d
  then mulAdd ⟨netOf p c, 1, st.ok⟩ dual (-c.price, 1) else ⟨st.n, st.d, (mulAdd ⟨netOf p c, 1, st.ok⟩ dual (-c.price, 1)).ok⟩
def bfold (p : Pr) (f : List Int) (dual : Int × Int) (i : Nat) (lot : Int) : Nat -> List Ch -> RR -> RR
 | _, [], st => st
 | n, c :: l, st => bfold p f dual i lot (n + 1) l (bstep p f dual i lot st n c)
def lstep (p : Pr) (f : List Int) (dual : Int × Int) (i : Nat) (lot : Int) (s : RR) : RR :=
 mulAdd ⟨s.n, s.d, (bfold p f dual i lot 0 p.ch ⟨0, 1, s.ok⟩).ok⟩ (1, 1) ((bfold p f dual i lot 0 p.ch ⟨0, 1, s.ok⟩).n, (bfold p f dual i lot 0 p.ch ⟨0, 1, s.ok⟩).d)
def lfold (p : Pr) (f : List Int) (dual : Int × Int) : Nat -> List Int -> RR -> RR
 | _, [], s => s
 | i, lot :: ls, s => lfold p f dual (i + 1) ls (lstep p f dual i lot s)
def bfirst (p : Pr) (dual : Int × Int) : RR := mulAdd ⟨0, 1, true⟩ dual (p.budget, 1)
def bmore (dual : Int × Int) (ok : Bool) : RR := mulAdd ⟨1, 1, ok⟩ (1, 1) dual
def blast (p : Pr) (f : List Int) (s m : RR) : RR := mulAdd ⟨s.n, s.d, m.ok⟩ (m.n, m.d) (offs p f, 1)
def boundQ (p : Pr) (f : List Int) (dual : Int × Int) : RR :=
 blast p f (lfold p f dual 0 p.lots (bfirst p dual)) (bmore dual (lfold p f dual 0 p.lots (bfirst p dual)).ok)
def upB (p : Pr) (f : List Int) (a b : Int) : Option Int :=
 if rightP a b /\ I64 a /\ I64 b /\ 0 <= a then (if (boundQ p f (a, b)).ok then some (floorQ (boundQ p f (a, b)).n (boundQ p f (a, b)).d) else none) else none
theorem rightP_int (n : Int) : rightP n 1 := rI n
theorem val_int (n : Int) : val n 1 = (n : Rat) := by
 apply Rat.ext
 ·rw [val_num (rightP_int n)]; rfl
 ·have := val_den (rightP_int n)
  show (val n 1).den = 1
  omega
section
variable {p : Pr} {f : List Int} {dual : Int × Int}
theorem mulAdd_right (s : RR) (a b : Int × Int) : rightP (mulAdd s a b).n (mulAdd s a b).d := addQ_right _ _ _ _
theorem mulAdd_I64 (s : RR) (a b : Int × Int) : I64 (mulAdd s a b).n /\ I64 (mulAdd s a b).d := addQ_I64 _ _ _ _
theorem mulAdd_ok {s : RR} {a b : Int × Int} (h : (mulAdd s a b).ok = true) (hs : rightP s.n s.d) (ha : rightP a.1 a.2) (hb : rightP b.1 b.2) :
  s.ok = true /\ val (mulAdd s a b).n (mulAdd s a b).d = val s.n s.d + val a.1 a.2 * val b.1 b.2 := by
 simp only [mulAdd, Bool.and_eq_true] at h ⊢
 obtain ⟨h1, h2, h3⟩ := h
 exact ⟨h1, by rw [addQ_fit hs (mulQ_right _ _ _ _) h3, mulQ_fit ha hb h2]⟩
theorem net_gain (c : Ch) (lam : Rat) : val (netOf p c) 1 + lam * val (-c.price) 1 = gain p lam c := by
 rw [val_int, val_int]; rfl
theorem bstep_right {i : Nat} {lot : Int} {st : RR} {n : Nat} {c : Ch} (hs : rightP st.n st.d) : rightP (bstep p f dual i lot st n c).n (bstep p f dual i lot st n c).d := by
 unfold bstep
 split
 ·exact hs
 ·split
  ·exact mulAdd_right _ _ _
  ·exact hs
theorem bstep_I64 {i : Nat} {lot : Int} {st : RR} {n : Nat} {c : Ch} (hs : I64 st.n /\ I64 st.d) : I64 (bstep p f dual i lot st n c).n /\ I64 (bstep p f dual i lot st n c).d := by
 unfold bstep
 split
 ·exact hs
 ·split
  ·exact mulAdd_I64 _ _ _
  ·exact hs
theorem bfold_right {i : Nat} {lot : Int} : ∀ (l : List Ch) (n : Nat) (st : RR), rightP st.n st.d -> rightP (bfold p f dual i lot n l st).n (bfold p f dual i lot n l st).d
 | [], _, _, h => h
 | c :: l, n, st, h => bfold_right l (n + 1) _ (bstep_right h)
theorem bstep_ok {i : Nat} {lot : Int} {st : RR} {n : Nat} {c : Ch} (h : (bstep p f dual i lot st n c).ok = true) : st.ok = true := by
 unfold bstep at h
 split at h
 ·exact h
 ·have key : (mulAdd ⟨netOf p c, 1, st.ok⟩ dual (-c.price, 1)).ok = true := by split at h <;> exact h
  simp only [mulAdd, Bool.and_eq_true] at key
  exact key.1
theorem bfold_ok {i : Nat} {lot : Int} : ∀ (l : List Ch) (n : Nat) (st : RR), (bfold p f dual i lot n l st).ok = true -> st.ok = true
 | [], _, _, h => h
 | c :: l, n, st, h => bstep_ok (bfold_ok l (n + 1) _ h)
theorem bfold_free {i : Nat} {lot : Int} (hi : ¬ i < f.length) (hd : rightP dual.1 dual.2) : ∀ (l : List Ch) (n : Nat) (st : RR), rightP st.n st.d -> (bfold p f dual i lot n l st).ok = true ->
  val (bfold p f dual i lot n l st).n (bfold p f dual i lot n l st).d = l.foldl (fun m c => if c.lot = lot /\ m < gain p (val dual.1 dual.2) c then gain p (val dual.1 dual.2) c else m) (val st.n st.d)
 | [], _, _, _, _ => rfl
 | c :: l, n, st, hs, hok => by
  have hok1 := bfold_ok l (n + 1) _ hok
  rw [bfold, bfold_free hi hd l (n + 1) _ (bstep_right hs) hok, List.foldl_cons]
  congr 1
  unfold bstep at hok1 ⊢
  by_cases hl : c.lot = lot
  ·have hcond : ¬ (c.lot ≠ lot \/ (i < f.length /\ f.getD i 0 ≠ (n : Int))) := by
    rintro (h | ⟨h, _⟩)
    ·exact h hl
    ·exact hi h
   rw [if_neg hcond] at hok1 ⊢
   have key : (mulAdd ⟨netOf p c, 1, st.ok⟩ dual (-c.price, 1)).ok = true := by split at hok1 <;> exact hok1
   have hv := (mulAdd_ok key (rightP_int _) hd (rightP_int _)).2
   simp only at hv
   rw [net_gain] at hv
   have hc := cmpQ_val (mulAdd_right ⟨netOf p c, 1, st.ok⟩ dual (-c.price, 1)) hs
   rw [hv] at hc
   by_cases hlt : val st.n st.d < gain p (val dual.1 dual.2) c
   ·have hpos : 0 < cmpQ (mulAdd ⟨netOf p c, 1, st.ok⟩ dual (-c.price, 1)).n (mulAdd ⟨netOf p c, 1, st.ok⟩ dual (-c.price, 1)).d st.n st.d := by
     rw [hc]; unfold cmpR
     rw [if_neg (by grind), if_pos hlt]; decide
    rw [if_pos (.inr hpos), if_pos ⟨hl, hlt⟩, hv]
   ·have hneg : ¬ (i < f.length \/ 0 < cmpQ (mulAdd ⟨netOf p c, 1, st.ok⟩ dual (-c.price, 1)).n (mulAdd ⟨netOf p c, 1, st.ok⟩ dual (-c.price, 1)).d st.n st.d) := by
     rintro (h | h)
     ·exact hi h
     ·rw [hc] at h
      unfold cmpR at h
      simp only [if_neg hlt] at h
      split at h <;> omega
    rw [if_neg hneg, if_neg fun h => hlt h.2]
  ·rw [if_pos (.inl hl), if_neg fun h => hl h.1]
theorem bfold_skip {i : Nat} {lot : Int} (hi : i < f.length) : ∀ (l : List Ch) (n : Nat) (st : RR), (∀ j c, l[j]? = some c -> c.lot = lot -> f.getD i 0 ≠ ((n + j : Nat) : Int)) -> bfold p f dual i lot n l st = st
 | [], _, _, _ => rfl
 | c :: l, n, st, h => by
  have h0 : c.lot ≠ lot \/ (i < f.length /\ f.getD i 0 ≠ (n : Int)) := by
   by_cases hl : c.lot = lot
   ·exact .inr ⟨hi, h 0 c rfl hl⟩
   ·exact .inl hl
  rw [bfold, show bstep p f dual i lot st n c = st by unfold bstep; rw [if_pos h0]]
  exact bfold_skip hi l (n + 1) st fun j c' hj hl => by
   have := h (j + 1) c' (by simpa using hj) hl
   rwa [show n + 1 + j = n + (j + 1) by omega]
theorem bfold_fixed {i : Nat} {lot : Int} (hi : i < f.length) (hd : rightP dual.1 dual.2) {k : Nat} : ∀ (l : List Ch) (n : Nat) (st : RR), rightP st.n st.d -> (hn : n <= k) -> f.getD i 0 = (k : Int) -> (∃ c, l[k - n]? = some c /\ c.lot = lot) ->
  (bfold p f dual i lot n l st).ok = true -> ∃ c, l[k - n]? = some c /\ val (bfold p f dual i lot n l st).n (bfold p f dual i lot n l st).d = gain p (val dual.1 dual.2) c
 | [], _, _, _, _, _, h, _ => by obtain ⟨c, h, _⟩ := h; simp at h
 | c :: l, n, st, hs, hn, hk, h, hok => by
  rcases Nat.eq_or_lt_of_le hn with he | hlt
  ·subst he
   obtain ⟨c', h1, h2⟩ := h
   simp only [Nat.sub_self, List.getElem?_cons_zero, Option.some.injEq] at h1
   subst h1
   refine ⟨c, by simp, ?_⟩
   have hok1 := bfold_ok l (n + 1) _ hok
   have hcond : ¬ (c.lot ≠ lot \/ (i < f.length /\ f.getD i 0 ≠ (n : Int))) := by
    rintro (h | ⟨_, h⟩)
    ·exact h h2
    ·exact h hk
   have hb : bstep p f dual i lot st n c = mulAdd ⟨netOf p c, 1, st.ok⟩ dual (-c.price, 1) := by
    unfold bstep
    rw [if_neg hcond, if_pos (.inl hi)]
   rw [bfold, hb] at hok ⊢
   rw [hb] at hok1
   rw [bfold_skip hi l (n + 1) _ fun j c' _ _ => by rw [hk]; omega] at hok ⊢
   have hv := (mulAdd_ok hok1 (rightP_int _) hd (rightP_int _)).2
   simp only at hv
   rw [hv, net_gain]
  ·have hb : bstep p f dual i lot st n c = st := by
    unfold bstep
    rw [if_pos (.inr ⟨hi, by rw [hk]; omega⟩)]
   rw [bfold, hb] at hok ⊢
   have e : k - n = (k - (n + 1)) + 1 := by omega
   rw [e] at h ⊢
   simp only [List.getElem?_cons_succ] at h ⊢
   exact bfold_fixed hi hd l (n + 1) st hs hlt hk h hok
theorem lstep_ok {i : Nat} {lot : Int} {s : RR} (h : (lstep p f dual i lot s).ok = true) : (bfold p f dual i lot 0 p.ch ⟨0, 1, s.ok⟩).ok = true /\ s.ok = true := by
 unfold lstep at h
 simp only [mulAdd, Bool.and_eq_true] at h
 have := bfold_ok p.ch 0 ⟨0, 1, s.ok⟩ h.1
 exact ⟨h.1, this⟩
theorem lfold_ok : ∀ (ls : List Int) (i : Nat) (s : RR), (lfold p f dual i ls s).ok = true -> s.ok = true
 | [], _, _, h => h
 | _ :: ls, i, _, h => (lstep_ok (lfold_ok ls (i + 1) _ h)).2
theorem lfold_right : ∀ (ls : List Int) (i : Nat) (s : RR), rightP s.n s.d -> rightP (lfold p f dual i ls s).n (lfold p f dual i ls s).d
 | [], _, _, h => h
 | _ :: ls, i, _, _ => lfold_right ls (i + 1) _ (mulAdd_right _ _ _)
theorem decs_nil (ls : List Int) : Decs p ls [] := by cases ls <;> exact trivial
theorem lfold_val (hd : rightP dual.1 dual.2) : ∀ (ls : List Int) (i : Nat) (s : RR), rightP s.n s.d -> Decs p ls (f.drop i) -> (lfold p f dual i ls s).ok = true ->
  val (lfold p f dual i ls s).n (lfold p f dual i ls s).d = val s.n s.d + lotsB p (val dual.1 dual.2) ls (f.drop i)
 | [], i, s, _, hd', _ => by
  unfold lfold lotsB
  grind
 | lot :: ls, i, s, hs, hf, hok => by
  have h0 : rightP 0 1 := rightP_int 0
  have hok1 := lfold_ok ls (i + 1) _ hok
  obtain ⟨hok2, _⟩ := lstep_ok hok1
  have hr := bfold_right (p := p) (f := f) (dual := dual) (i := i) (lot := lot) p.ch 0 ⟨0, 1, s.ok⟩ h0
  have hl : val (lstep p f dual i lot s).n (lstep p f dual i lot s).d = val s.n s.d + val (bfold p f dual i lot 0 p.ch ⟨0, 1, s.ok⟩).n (bfold p f dual i lot 0 p.ch ⟨0, 1, s.ok⟩).d := by
   have := (mulAdd_ok (s := ⟨s.n, s.d, (bfold p f dual i lot 0 p.ch ⟨0, 1, s.ok⟩).ok⟩) (a := (1, 1)) (b := ((bfold p f dual i lot 0 p.ch ⟨0, 1, s.ok⟩).n, (bfold p f dual i lot 0 p.ch ⟨0, 1, s.ok⟩).d)) hok1 hs (rightP_int 1) hr).2
   simp only at this
   unfold lstep
   rw [this, val_int]
   grind
  by_cases hi : i < f.length
  ·have hdrop : f.drop i = f[i] :: f.drop (i + 1) := List.drop_eq_getElem_cons hi
   have hg : f.getD i 0 = f[i] := by simp [hi]
   rw [hdrop] at hf ⊢
   obtain ⟨hn, hf⟩ := hf
   have ih := lfold_val hd ls (i + 1) (lstep p f dual i lot s) (mulAdd_right _ _ _) hf hok
   rw [lfold, ih]
   rw [hl, lotsB]
   have hb : val (bfold p f dual i lot 0 p.ch ⟨0, 1, s.ok⟩).n (bfold p f dual i lot 0 p.ch ⟨0, 1, s.ok⟩).d = (match chAt p f[i] with | some c => gain p (val dual.1 dual.2) c | none => 0) := by
    rcases hn with hn | ⟨c, hc, hlot⟩
    ·rw [hn, show chAt p (-1) = none by simp [chAt]]
     rw [bfold_skip hi p.ch 0 _ fun j c' _ _ => by rw [hg, hn]; omega]
     exact val_zero
    ·rw [hc]
     unfold chAt at hc
     split at hc
     ·rename_i hpos
      obtain ⟨c', h1, h2⟩ := bfold_fixed (p := p) (dual := dual) (lot := lot) hi hd (k := f[i].toNat) p.ch 0 ⟨0, 1, s.ok⟩ h0 (Nat.zero_le _) (by rw [hg]; omega) ⟨c, by simpa using hc, hlot⟩ hok2
      rw [h2]
      rw [Nat.sub_zero, hc] at h1
      injection h1 with h1
      rw [h1]
     ·cases hc
   rw [hb]
   grind
  ·have hdrop : f.drop i = [] := List.drop_of_length_le (by omega)
   have hdrop' : f.drop (i + 1) = [] := List.drop_of_length_le (by omega)
   have ih := lfold_val hd ls (i + 1) (lstep p f dual i lot s) (mulAdd_right _ _ _) (by rw [hdrop']; exact decs_nil ls) hok
   rw [lfold, ih, hdrop, hdrop']
   rw [hl, lotsB, bfold_free hi hd p.ch 0 ⟨0, 1, s.ok⟩ h0 hok2]
   simp only [val_zero]
   change _ = _ + (free p (val dual.1 dual.2) lot + _)
   unfold free
   grind
theorem boundQ_val (hd : rightP dual.1 dual.2) (hf : Decs p p.lots f) (hok : (boundQ p f dual).ok = true) :
  rightP (boundQ p f dual).n (boundQ p f dual).d /\
  val (boundQ p f dual).n (boundQ p f dual).d = val dual.1 dual.2 * ((p.budget : Int) : Rat) + lotsB p (val dual.1 dual.2) p.lots f + (1 + val dual.1 dual.2) * ((offs p f : Int) : Rat) := by
 refine ⟨mulAdd_right _ _ _, ?_⟩
 have h1 : rightP (lfold p f dual 0 p.lots (bfirst p dual)).n (lfold p f dual 0 p.lots (bfirst p dual)).d := lfold_right _ _ _ (mulAdd_right _ _ _)
 obtain ⟨o1, v1⟩ := mulAdd_ok (s := ⟨(lfold p f dual 0 p.lots (bfirst p dual)).n, (lfold p f dual 0 p.lots (bfirst p dual)).d, (bmore dual (lfold p f dual 0 p.lots (bfirst p dual)).ok).ok⟩)
  (a := ((bmore dual (lfold p f dual 0 p.lots (bfirst p dual)).ok).n, (bmore dual (lfold p f dual 0 p.lots (bfirst p dual)).ok).d)) (b := (offs p f, 1)) hok h1 (mulAdd_right _ _ _) (rightP_int _)
 obtain ⟨o2, v2⟩ := mulAdd_ok (s := ⟨1, 1, (lfold p f dual 0 p.lots (bfirst p dual)).ok⟩) (a := (1, 1)) (b := dual) o1 (rightP_int 1) (rightP_int 1) hd
 have o3 := lfold_ok _ _ _ o2
 obtain ⟨_, v3⟩ := mulAdd_ok (s := ⟨0, 1, true⟩) (a := dual) (b := (p.budget, 1)) o3 (rightP_int 0) hd (rightP_int _)
 have v4 := lfold_val hd p.lots 0 (bfirst p dual) (mulAdd_right _ _ _) (by simpa using hf) o2
 rw [List.drop_zero] at v4
 simp only [val_int] at v1 v2 v3
 change val (boundQ p f dual).n (boundQ p f dual).d = _ at v1
 change val (bmore dual (lfold p f dual 0 p.lots (bfirst p dual)).ok).n (bmore dual (lfold p f dual 0 p.lots (bfirst p dual)).ok).d = _ at v2
 change val (bfirst p dual).n (bfirst p dual).d = _ at v3
 change val (lfold p f dual 0 p.lots (bfirst p dual)).n (lfold p f dual 0 p.lots (bfirst p dual)).d = _ at v4
 rw [v1, v2, v4, v3]
 grind
theorem le_floor {n d m : Int} (h : rightP n d) (hm : (m : Rat) <= val n d) : m <= n / d := by
 rw [← val_int, ← Rat.not_lt, val_lt h (rightP_int m)] at hm
 rw [Int.le_ediv_iff_mul_le h.1]
 omega
theorem upB_ok (hp : RightPr p) (hf : ∀ g t, g <+: t -> Perm p t -> Decs p p.lots g) : UpOk (upB p) p := by
 intro g a b n hn t hg ht
 unfold upB at hn
 split at hn
 ·rename_i hc
  split at hn
  ·rename_i hok
   injection hn with hn
   have hdg := hf g t hg ht
   obtain ⟨hr, hv⟩ := boundQ_val (dual := (a, b)) hc.1 hdg hok
   have hlam : 0 <= val a b := by
    rw [← Rat.not_lt, ← val_zero (d := 1), val_lt hc.1 (rightP_int 0)]
    have := hc.2.2.2
    omega
   have := dual_le hp hlam hg ht
   rw [← hv] at this
   have := le_floor hr this
   rw [← hn]
   unfold floorQ
   rw [if_pos hr]
   exact this
  ·cases hn
 ·cases hn
theorem decs_prefix : ∀ (ls g t : List Int), g <+: t -> Decs p ls t -> Decs p ls g
 | ls, [], t, _, _ => decs_nil ls
 | ls, _ :: _, [], h, _ => by simp at h
 | [], _ :: _, _ :: _, _, h => h.elim
 | lot :: ls, x :: g, y :: t, h, hd => by
  obtain ⟨rfl, h2⟩ := List.cons_prefix_cons.1 h
  exact ⟨hd.1, decs_prefix ls g t h2 hd.2⟩
theorem upB_good (hp : RightPr p) : UpOk (upB p) p := upB_ok hp fun g t hg ht => decs_prefix _ _ _ hg ht.2.1
end
end Go.Proofs.YtfpobpjandjhjaaGreatDoor

namespace Go.Proofs.YtfpobpjandjhjaaGreatDoor
open Go Pw
def rrC (n d : Int) : List Value := [.int .i64 n, .int .i64 d]
end Go.Proofs.YtfpobpjandjhjaaGreatDoor
namespace Go.Proofs.YtfpobpjandjhjaaGreatDoor
open Go Pw
def encR (x : Int × Int) : List Value := [.int .i64 x.1, .int .i64 x.2]
@[simp] theorem encR_length (x : Int × Int) : (encR x).length = 2 := rfl
end Go.Proofs.YtfpobpjandjhjaaGreatDoor

namespace Pw
def pointsR (p : Pr) (ri fi : Bool) (f : List Int) : Int := if ri && fi then ptsOf p f else 0
end Pw
namespace Go.Proofs.YtfpobpjandjhjaaGreatDoor
open Go Pw
def betterR (p : Pr) (a b : List Int) : Bool := rightB p && (permB p a && (!permB p b || btB p a b))
end Go.Proofs.YtfpobpjandjhjaaGreatDoor
