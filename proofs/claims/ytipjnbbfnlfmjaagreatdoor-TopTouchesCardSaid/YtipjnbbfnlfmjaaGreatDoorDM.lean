/- A formula and a tender in memory. Conditions: none. -/
import Derived.Test.YtipjnbbfnlfmjaaGreatDoorDSTX
import Derived.Test.YtipjnbbfnlfmjaaGreatDoorRXX
namespace Dp
open Go Pw
def wNum:B:=[110,117,109]
def opB (o:Fin 6):B:=match o with
 | 0=>[43]
 | 1=>[45]
 | 2=>[42]
 | 3=>[47]
 | 4=>wMin
 | 5=>wMax
end Dp
namespace Go.Proofs.YtipjnbbfnlfmjaaGreatDoor
open Go Pw Dp
structure XC where
 op:ByteArray
 n:Int
 d:Int
 nm:ByteArray
 a:Sl
def encX (c:XC):List Value:=[.string c.op,.int .i64 c.n,.int .i64 c.d,.string c.nm,.slice c.a.p c.a.l c.a.c]
@[simp] theorem q1u (c:XC):(encX c).length=5:=rfl
theorem qea (c:XC):∀ v∈encX c,okC v=true:=by
 intro v hv
 simp only[encX,List.mem_cons,List.not_mem_nil,or_false] at hv
 rcases hv with rfl | rfl | rfl | rfl | rfl<;>rfl
def encR (x:Rq):List Value:=[.string (ofL x.name),.string (ofL x.rel),.int .i64 x.val]
@[simp] theorem q1j (x:Rq):(encR x).length=3:=rfl
def XP (w:World):Fm->XC->Prop
 | .num n d,c=>c=⟨ofL wNum,n,d,ofL [],⟨none,0,0⟩⟩/\I64 n/\I64 d
 | .name s,c=>c=⟨ofL q0n,0,0,ofL s,⟨none,0,0⟩⟩/\s.length<=2^20
 | .op o a b,c=>∃ ca cb,(c.op=ofL (opB o)/\c.n=0/\c.d=0/\c.nm=ofL [])/\Vw 5 encX w c.a [ca,cb]/\XP w a ca/\XP w b cb
theorem XP.fr {w w':World}(hf:Fr F0 w w'):∀ {e:Fm} {c:XC},XP w e c->XP w' e c
 | .num _ _,_,h=>h
 | .name _,_,h=>h
 | .op _ _ _,_,⟨ca,cb,h1,h2,h3,h4⟩=>⟨ca,cb,h1,h2.fr hf,h3.fr hf,h4.fr hf⟩
def CP (w:World)(s:Sl)(L:List (List Int)):Prop :=
 ∃ Z:List Sl,Vw 1 encZ w s Z/\Z.length=L.length/\∀ i (h:i<Z.length) (h':i<L.length),Vw 1 encI w Z[i] L[i]
theorem CP.fr {w w':World}{s:Sl}{L:List (List Int)}(h:CP w s L)(hf:Fr F0 w w'):CP w' s L :=
 let ⟨Z,h1,h2,h3⟩:=h
 ⟨Z,h1.fr hf,h2,fun i a b=>(h3 i a b).fr hf⟩
structure TP (w:World)(x:T43)(t:Td):Prop where
 name:x.f0=ofL t.name
 lots:Vw 2 encL w x.f1 t.lots
 crit:Vw 5 encC w x.f2 t.crit
 reqs:Vw 3 encR w x.f3 t.reqs
 low:x.f4=t.low
 high:x.f5=t.high
 fm:XP w t.fm ⟨x.f6,x.f7,x.f8,x.f9,x.f10⟩
 ties:Vw 1 encB w x.f11 t.ties
 most:x.f12=t.most
 combos:CP w x.f13 t.combos
 budget:x.f14=t.budget
 t1:x.f15=t.t1
 t2:x.f16=t.t2
 t3:x.f17=t.t3
 t4:x.f18=t.t4
 t5:x.f19=t.t5
theorem TP.fr {w w':World}{x:T43}{t:Td}(h:TP w x t)(hf:Fr F0 w w'):TP w' x t :=
 { h with lots:=h.lots.fr hf,crit:=h.crit.fr hf,reqs:=h.reqs.fr hf,fm:=h.fm.fr hf,ties:=h.ties.fr hf,combos:=h.combos.fr hf }
structure Fit (t:Td):Prop where
 fp:t.fm.parts<=2^30
 name:t.name.length<=2^20
 lots:t.lots.length<=2^20
 crit:t.crit.length<=2^20
 reqs:t.reqs.length<=2^20
 ties:t.ties.length<=2^20
 combos:t.combos.length<=2^20
 lot:∀ l∈t.lots,I64 l.1/\I64 l.2
 cr:∀ c∈t.crit,c.name.length<=2^20/\I64 c.kind/\I64 c.low/\I64 c.high
 rq:∀ r∈t.reqs,r.name.length<=2^20/\r.rel.length<=2^20/\I64 r.val
 tie:∀ s∈t.ties,s.length<=2^20
 combo:∀ l∈t.combos,l.length<=2^20/\∀ i∈l,I64 i
 low:I64 t.low
 high:I64 t.high
 most:I64 t.most
 budget:I64 t.budget
 t1:I64 t.t1
 t2:I64 t.t2
 t3:I64 t.t3
 t4:I64 t.t4
 t5:I64 t.t5
