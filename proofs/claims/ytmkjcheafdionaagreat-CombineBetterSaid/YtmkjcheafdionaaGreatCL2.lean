/- CombinePaid. Conditions: none. -/
import Derived.Test.YtmkjcheafdionaaGreatCL1
import Derived.Test.YtmkjcheafdionaaGreatCDY
import Derived.Test.YtmkjcheafdionaaGreatCEC
namespace Go.Proofs.YtmkjcheafdionaaGreat
open Go Pw
def zz {α : Type} (i : Nat) (a b : α) : α := if i = 0 then a else b
def z3 {α : Type} (i : Nat) (a b c : α) : α := if i = 0 then a else if i = 1 then b else c
section
variable {w w' : World} {s s0 s1 s2 t0 t1 t2 r0 r1 r2 sm : Sl} {p q : Pr} {x0 x1 x2 l : List Int} {ab al lb : Nat}
structure AL (u : World) (ab al : Nat) (s0 s1 s2 : Sl) (p : Pr) (t0 t1 t2 : Sl) (q : Pr) : Prop where
  a : Row u ab (prC s0 s1 s2 p.most p.budget)
  al : Row u al (prC s0 s1 s2 p.most p.budget ++ prC t0 t1 t2 q.most q.budget)
  P : PV u s0 s1 s2 p
  Q : PV u t0 t1 t2 q
theorem AL.fr (h : AL w ab al s0 s1 s2 p t0 t1 t2 q) (hf : Fr F0 w w') : AL w' ab al s0 s1 s2 p t0 t1 t2 q :=
  ⟨hf.row h.a fun h => h, hf.row h.al fun h => h, h.P.fr hf, h.Q.fr hf⟩
theorem AL.at (h : AL w ab al s0 s1 s2 p t0 t1 t2 q) (i : Nat) (hi : i < 2) :
    (w.cell? ((⟨al, 0, none⟩ : Addr).add ((i : Int).toNat * 5)) = some (Value.slice (zz i s0 t0).p (zz i s0 t0).l (zz i s0 t0).c) /\
    w.cell? (((⟨al, 0, none⟩ : Addr).add ((i : Int).toNat * 5)).add 1) = some (Value.slice (zz i s1 t1).p (zz i s1 t1).l (zz i s1 t1).c) /\
    w.cell? (((⟨al, 0, none⟩ : Addr).add ((i : Int).toNat * 5)).add 2) = some (Value.slice (zz i s2 t2).p (zz i s2 t2).l (zz i s2 t2).c) /\
    w.cell? (((⟨al, 0, none⟩ : Addr).add ((i : Int).toNat * 5)).add 3) = some (Value.int .i64 (zz i p q).most) /\
    w.cell? (((⟨al, 0, none⟩ : Addr).add ((i : Int).toNat * 5)).add 4) = some (Value.int .i64 (zz i p q).budget)) /\
    PV w (zz i s0 t0) (zz i s1 t1) (zz i s2 t2) (zz i p q) := by
  rcases (show i = 0 \/ i = 1 by omega) with rfl | rfl
  . exact ⟨⟨h.al.at rfl, h.al.at rfl, h.al.at rfl, h.al.at rfl, h.al.at rfl⟩, h.P⟩
  . exact ⟨⟨h.al.at rfl, h.al.at rfl, h.al.at rfl, h.al.at rfl, h.al.at rfl⟩, h.Q⟩
end
end Go.Proofs.YtmkjcheafdionaaGreat
