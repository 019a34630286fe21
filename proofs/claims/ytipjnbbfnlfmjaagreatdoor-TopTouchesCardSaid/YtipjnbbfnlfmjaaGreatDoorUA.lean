/- Values of formulas, and rankings: plain. Conditions: none. -/
import Derived.Test.YtipjnbbfnlfmjaaGreatDoorDRTX
namespace Dp
open Go Pw
abbrev Vl:=B × Int
def q5v (o:Fin 6)(a b:Int × Int):RR:=match o with
 | 0=>addQ a.1 a.2 b.1 b.2
 | 1=>subQ a.1 a.2 b.1 b.2
 | 2=>mulQ a.1 a.2 b.1 b.2
 | 3=>quoQ a.1 a.2 b.1 b.2
 | 4=>if cmpQ a.1 a.2 b.1 b.2<=0 then ⟨a.1,a.2,true⟩ else ⟨b.1,b.2,true⟩
 | 5=>if cmpQ a.1 a.2 b.1 b.2>=0 then ⟨a.1,a.2,true⟩ else ⟨b.1,b.2,true⟩
def appQ (o:Fin 6)(a b:Int × Int):RR × Int :=
 if o=3/\b.1=0 then (⟨0,0,false⟩,15) else if (q5v o a b).ok=true then (q5v o a b,0) else (⟨0,0,false⟩,3)
namespace Fm
def ev (vs:List Vl):Fm->Except Int (Int × Int)
 | .num n d=>.ok (n,d)
 | .name s=>match vs.find? (fun v=>decide (v.1=s)) with
  | some v=>.ok (v.2,1)
  | none=>.error 13
 | .op o a b=>match a.ev vs with
  | .error e=>.error e
  | .ok x=>match b.ev vs with
   | .error e=>.error e
   | .ok y=>if (appQ o x y).2=0 then .ok ((appQ o x y).1.n,(appQ o x y).1.d) else .error (appQ o x y).2
def formed:Fm->Bool
 | .num n d=>decide (q0j n d)
 | .name s=>!decide (s=[])
 | .op _ a b=>a.formed && b.formed
def wrong (e:Fm):Int:=if e.parts<=60/\e.depth<=12 then (if e.formed then 0 else 1) else 2
def evE (vs:List Vl)(e:Fm):(Int × Int) × Int:=if e.wrong=0 then (match e.ev vs with
 | .ok x=>(x,0)
 | .error c=>((0,0),c)) else ((0,0),e.wrong)
end Fm
structure En where
 b:Int
 l:Int
 r:Int
 p:Int
 v:Sl
 vals:List Vl
def valF (vs:List Vl)(n:B):Option Int:=(vs.find? (fun v=>decide (v.1=n))).map (·.2)
def valN (vs:List Vl)(n:B):Nat:=vs.countP (fun v=>decide (v.1=n))
def badC (vs:List Vl)(c:Cr):Bool:=!decide (valN vs c.name=1) || (decide ((valF vs c.name).getD 0<c.low) || decide ((valF vs c.name).getD 0>c.high))
def wLe:B:=[60,61]
def wGe:B:=[62,61]
def q42 (vs:List Vl):List Rq->Int
 | []=>0
 | r :: rs=>if valN vs r.name=0 then 13 else if r.rel≠wLe/\r.rel≠wGe then 1
  else if (r.rel=wLe/\(valF vs r.name).getD 0>r.val)\/(r.rel=wGe/\(valF vs r.name).getD 0<r.val) then 37 else q42 vs rs
structure Rv where
 most:Int
 low:Int
 high:Int
 crit:List Cr
 reqs:List Rq
 fm:Fm
 ties:List B
def admQ (t:Rv)(x:En):Int :=
 if x.p<t.low then 16 else if x.p>min t.high t.most then 16
 else if t.crit.any (badC x.vals) then 16
 else if x.vals.any (fun v=>!t.crit.any (fun c=>decide (c.name=v.1))) then 13
 else q42 x.vals t.reqs
def ptsQ (t:Rv)(x:En)(low:Int):(Int × Int) × Int:=t.fm.evE ((q1m,x.p) :: (wLow,low) :: x.vals)
def tieQ (t:Rv)(n:B)(a b:En):Int :=
 if n=q1m then cmpI b.p a.p else match t.crit.find? (fun c=>decide (c.name=n)) with
  | none=>0
  | some c=>match valF a.vals n,valF b.vals n with
   | some x,some y=>(if c.less then -1 else 1)*cmpI x y
   | _,_=>0
def qaw (t:Rv)(a b:En):List B->Bool
 | []=>decide (a.r<b.r)
 | n :: ns=>if tieQ t n a b≠0 then decide (tieQ t n a b>0) else qaw t a b ns
def betQ (t:Rv)(a b:En)(p q:Int × Int):Bool:=if cmpQ p.1 p.2 q.1 q.2≠0 then decide (cmpQ p.1 p.2 q.1 q.2>0) else qaw t a b t.ties
abbrev Sc:=En × Int × Int
def cmpS (t:Rv)(x y:Sc):Int:=if betQ t x.1 y.1 x.2 y.2 then -1 else if betQ t y.1 x.1 y.2 x.2 then 1 else 0
def sink {α:Type}(c:α->α->Int)(l:List α):Nat->List α
 | 0=>l
 | j+1=>match l[j]?,l[j+1]? with
  | some x,some y=>if c y x<0 then sink c ((l.set (j+1) x).set j y) j else l
  | _,_=>l
def q72 {α:Type}(c:α->α->Int)(l:List α):Nat->List α
 | 0=>l
 | i+1=>sink c (q72 c l i) i
structure Rk where
 b:Int
 n:Int
 d:Int
 place:Int
 out:Int
def lowS (t:Rv)(s:Int × Bool)(x:En):Int × Bool:=if admQ t x=0/\(s.2=false\/x.p<s.1) then (x.p,true) else s
def lowQ (t:Rv)(es:List En):Int × Bool:=es.foldl (lowS t) (0,false)
def ptsA (t:Rv)(low:Int)(x:En):(Int × Int) × Int:=if admQ t x=0 then ptsQ t x low else ((0,0),admQ t x)
def splS (t:Rv)(low:Int)(s:List Sc × List Rk)(x:En):List Sc × List Rk :=
 if (ptsA t low x).2≠0 then (s.1,s.2++[⟨x.b,0,0,0,(ptsA t low x).2⟩]) else (s.1++[(x,(ptsA t low x).1)],s.2)
def splQ (t:Rv)(low:Int)(es:List En):List Sc × List Rk:=es.foldl (splS t low) ([],[])
def q30:Nat->List Sc->List Rk
 | _,[]=>[]
 | k,x :: l=>⟨x.1.b,x.2.1,x.2.2,(k:Int)+1,0⟩ :: q30 (k+1) l
def qeq (t:Rv)(es:List En):List Rk :=
 q30 0 (q72 (cmpS t) (splQ t (lowQ t es).1 es).1 (splQ t (lowQ t es).1 es).1.length)++(splQ t (lowQ t es).1 es).2
def q0m (t:Td)(lot:Int):Rv:=⟨((t.lots.find? (fun l=>decide (l.1=lot))).map (·.2)).getD 0,t.low,t.high,t.crit,t.reqs,t.fm,t.ties⟩
theorem q8d {α:Type}(c:α->α->Int):∀ (j:Nat) (l:List α),(sink c l j).length=l.length
 | 0,_=>rfl
 | j+1,l=>by
  unfold sink
  split
  ·split
   ·rw[q8d c j]; simp
   ·rfl
  ·rfl
theorem q43 {α:Type}(c:α->α->Int)(l:List α):∀ i,(q72 c l i).length=l.length
 | 0=>rfl
 | i+1=>by unfold q72; rw[q8d,q43 c l i]
