/- The bound as the code reckons it, and why it holds. Conditions: none. -/
import Derived.Test.YtfpobpjandjhjaaGreatDoorRQ0
import Derived.Test.YtfpobpjandjhjaaGreatDoorCXX
import Derived.Test.YtfpobpjandjhjaaGreatDoorCG2
namespace Go.Proofs.YtfpobpjandjhjaaGreatDoor
open Go Pw
instance (n : Int) : Decidable (I64 n) := inferInstanceAs (Decidable (_ /\ _))
def mulAdd (s : RR) (a b : Int × Int) : RR :=
 ⟨(addQ s.n s.d (mulQ a.1 a.2 b.1 b.2).n (mulQ a.1 a.2 b.1 b.2).d).n, (addQ s.n s.d (mulQ a.1 a.2 b.1 b.2).n (mulQ a.1 a.2 b.1 b.2).d).d, s.ok && ((mulQ a.1 a.2 b.1 b.2).ok && (addQ s.n s.d (mulQ a.1 a.2 b.1 b.2).n (mulQ a.1 a.2 b.1 b.2).d).ok)⟩
def netOf (p : Pr) (c : Ch) : Int := c.pts * (p.budget + 1) - c.price
def bstep (p : Pr) (f : List Int) (dual : Int × Int) (i : Nat) (lot : Int) (st : RR) (n : Nat) (c : Ch) : RR :=
 if c.lot ≠ lot \/ (i < f.length /\ f.getD i 0 ≠ (n : Int)) then st else
  if i < f.length \/ 0 < cmpQ (mulAdd ⟨netOf p c, 1, st.ok⟩ dual (-c.price, 1)).n (mulAdd ⟨netOf p c, 1, st.ok⟩ dual (-c.price, 1)).d st.n st.d
  then mulAdd ⟨netOf p c, 1, st.ok⟩ dual (-c.price, 1) else ⟨st.n, st.d, (mulAdd ⟨netOf p c, 1, st.ok⟩ dual (-c.price, 1)).ok⟩
def bfold (p : Pr) (f : List Int) (dual : Int × Int) (i : Nat) (lot : Int) : Nat -> List Ch -> RR -> RR
 | _, [], st => st
 | n, c :: l, st => bfold p f dual i lot (n + 1) l (bstep p f dual i lot st n c)
def lstep (p : Pr) (f : List Int) (dual : Int × Int) (i : Nat) (lot : Int) (s : RR) : RR :=
 mulAdd ⟨s.n, s.d, (bfold p f dual i lot 0 p.ch ⟨0, 1, s.ok⟩).ok⟩ (1, 1) ((bfold p f dual i lot 0 p.ch ⟨0, 1, s.ok⟩).n, (bfold p f dual i lot 0 p.ch ⟨0, 1, s.ok⟩).d)
def lfold (p : Pr) (f : List Int) (dual : Int × Int) : Nat -> List Int -> RR -> RR
 | _, [], s => s
 | i, lot :: ls, s => lfold p f dual (i + 1) ls (lstep p f dual i lot s)
def bfirst (p : Pr) (dual : Int × Int) : RR := mulAdd ⟨0, 1, true⟩ dual (p.budget, 1)
def bmore (dual : Int × Int) (ok : Bool) : RR := mulAdd ⟨1, 1, ok⟩ (1, 1) dual
def blast (p : Pr) (f : List Int) (s m : RR) : RR := mulAdd ⟨s.n, s.d, m.ok⟩ (m.n, m.d) (offs p f, 1)
def boundQ (p : Pr) (f : List Int) (dual : Int × Int) : RR :=
 blast p f (lfold p f dual 0 p.lots (bfirst p dual)) (bmore dual (lfold p f dual 0 p.lots (bfirst p dual)).ok)
def upB (p : Pr) (f : List Int) (a b : Int) : Option Int :=
 if rightP a b /\ I64 a /\ I64 b /\ 0 <= a then (if (boundQ p f (a, b)).ok then some (floorQ (boundQ p f (a, b)).n (boundQ p f (a, b)).d) else none) else none
theorem rightP_int (n : Int) : rightP n 1 := rI n
theorem val_int (n : Int) : val n 1 = (n : Rat) := by
 apply Rat.ext
 ·rw [val_num (rightP_int n)]; rfl
 ·have := val_den (rightP_int n)
  show (val n 1).den = 1
  omega
section
variable {p : Pr} {f : List Int} {dual : Int × Int}
theorem mulAdd_right (s : RR) (a b : Int × Int) : rightP (mulAdd s a b).n (mulAdd s a b).d := addQ_right _ _ _ _
theorem mulAdd_I64 (s : RR) (a b : Int × Int) : I64 (mulAdd s a b).n /\ I64 (mulAdd s a b).d := addQ_I64 _ _ _ _
theorem bstep_right {i : Nat} {lot : Int} {st : RR} {n : Nat} {c : Ch} (hs : rightP st.n st.d) : rightP (bstep p f dual i lot st n c).n (bstep p f dual i lot st n c).d := by
 unfold bstep
 split
 ·exact hs
 ·split
  ·exact mulAdd_right _ _ _
  ·exact hs
theorem bstep_I64 {i : Nat} {lot : Int} {st : RR} {n : Nat} {c : Ch} (hs : I64 st.n /\ I64 st.d) : I64 (bstep p f dual i lot st n c).n /\ I64 (bstep p f dual i lot st n c).d := by
 unfold bstep
 split
 ·exact hs
 ·split
  ·exact mulAdd_I64 _ _ _
  ·exact hs
theorem bfold_right {i : Nat} {lot : Int} : ∀ (l : List Ch) (n : Nat) (st : RR), rightP st.n st.d -> rightP (bfold p f dual i lot n l st).n (bfold p f dual i lot n l st).d
 | [], _, _, h => h
 | c :: l, n, st, h => bfold_right l (n + 1) _ (bstep_right h)
theorem decs_nil (ls : List Int) : Decs p ls [] := by cases ls <;> exact trivial
end
end Go.Proofs.YtfpobpjandjhjaaGreatDoor

namespace Go.Proofs.YtfpobpjandjhjaaGreatDoor
open Go Pw
def rrC (n d : Int) : List Value := [.int .i64 n, .int .i64 d]
end Go.Proofs.YtfpobpjandjhjaaGreatDoor
namespace Go.Proofs.YtfpobpjandjhjaaGreatDoor
open Go Pw
def encR (x : Int × Int) : List Value := [.int .i64 x.1, .int .i64 x.2]
@[simp] theorem encR_length (x : Int × Int) : (encR x).length = 2 := rfl
end Go.Proofs.YtfpobpjandjhjaaGreatDoor

namespace Go.Proofs.YtfpobpjandjhjaaGreatDoor
open Go Pw
def betterR (p : Pr) (a b : List Int) : Bool := rightB p && (permB p a && (!permB p b || btB p a b))
end Go.Proofs.YtfpobpjandjhjaaGreatDoor
