/- Tenders, their clauses, and what a change affects: plain. Conditions: none. -/
import Derived.Test.YtipjnbbfnlfmjaaGreatDoorPWX
namespace Dp
open Go Pw
abbrev B:=List UInt8
inductive Fm where
  | num (n d:Int)
  | name (s:B)
  | op (o:Fin 6) (a b:Fm)
deriving DecidableEq
structure Cr where
  name:B
  kind:Int
  low:Int
  high:Int
  less:Bool
deriving DecidableEq
structure Rq where
  name:B
  rel:B
  val:Int
deriving DecidableEq
structure Td where
  name:B
  lots:List (Int × Int)
  crit:List Cr
  reqs:List Rq
  low:Int
  high:Int
  fm:Fm
  ties:List B
  most:Int
  combos:List (List Int)
  budget:Int
  t1:Int
  t2:Int
  t3:Int
  t4:Int
  t5:Int
def q0n:B:=[110,97,109,101]
def wLot:B:=[108,111,116,32]
def q1b:B:=[99,114,105,116,101,114,105,111,110,32]
def wReq:B:=[114,101,113,117,105,114,101,32]
def q0y:B:=[114,97,110,103,101]
def q2t:B:=[102,111,114,109,117,108,97]
def q2u:B:=[116,105,101,115]
def q1v:B:=[109,111,115,116]
def q0f:B:=[99,111,109,98,111,115]
def q0o:B:=[98,117,100,103,101,116]
def q16:B:=[116,105,109,101,115]
def q1m:B:=[112,114,105,99,101]
def wLow:B:=[108,111,119]
def lotC (id:Int):B:=wLot++Lib.itoa id
def q0t (n:B):B:=q1b++n
def reqC (k:Nat):B:=wReq++Lib.itoa ((k:Int)+1)
def q35:List B:=[q0y,q2t,q2u,q1v,q0f,q0o,q16]
def addB (l:List B)(s:B):List B:=if s∈l then l else l++[s]
def q8x (t:Td):List B:=q0n :: (t.lots.map (fun l=>lotC l.1)++(t.crit.map (fun c=>q0t c.name)++(List.range t.reqs.length).map reqC))
def q02 (t:Td):List B:=(q8x t).foldl addB []++q35
def qdz (n d:Int):Bool:=decide (q0j n d) && (decide (0<=n) && (decide (Int.tmod 1000000 d=0) && decide (n<=1000000000*d)))
def q36 (c:UInt8):Bool:=(decide (97<=c.toNat) && decide (c.toNat<=122)) || (decide (65<=c.toNat) && decide (c.toNat<=90))
def q9k (c:UInt8):Bool:=decide (48<=c.toNat) && decide (c.toNat<=57)
def q1y (c:UInt8):Bool:=q36 c || q9k c || decide (c.toNat=95)
def q37 (s:B):Bool:=match s with
  | []=>false
  | c :: r=>decide ((c :: r).length<=30) && (q36 c && (c :: r).all q1y)
def wMin:B:=[109,105,110]
def wMax:B:=[109,97,120]
def q9l (s:B):Bool:=q37 s && (!decide (s=wMin) && !decide (s=wMax))
namespace Fm
def parts:Fm->Nat
  | .num _ _=>1
  | .name _=>1
  | .op _ a b=>1+a.parts+b.parts
def depth:Fm->Nat
  | .num _ _=>1
  | .name _=>1
  | .op _ a b=>max a.depth b.depth+1
def sound:Fm->Bool
  | .num n d=>qdz n d
  | .name s=>q9l s
  | .op _ a b=>a.sound && b.sound
def names:Fm->List B
  | .num _ _=>[]
  | .name s=>[s]
  | .op _ a b=>a.names++b.names
def right (e:Fm):Bool:=e.sound && (decide (e.parts<=60) && decide (e.depth<=12))
def namesR (e:Fm):List B:=if e.right then e.names else []
end Fm
def qix (t:Td)(c:B):List B :=
  ((List.range t.reqs.length).filter (fun k=>decide (c=reqC k))).map (fun k=>q0t ((t.reqs[k]?.map (·.name)).getD [])) ++
  (if c=q2t then t.fm.namesR.flatMap (fun n=>q0t n :: if n=q1m\/n=wLow then [q0y] else [])
   else if c=q2u then t.ties.flatMap (fun n=>q0t n :: if n=q1m then [q0y] else [])
   else if c=q1v then t.lots.map (fun l=>lotC l.1)
   else if c=q0o then t.lots.map (fun l=>lotC l.1)++[q0f]
   else if c=q0f then t.combos.flatMap (fun l=>l.map lotC) else [])
def uses (t:Td)(c:B):List B:=if c∈q02 t then (q02 t).filter (fun o=>decide (o∈qix t c)) else []
def lotM (t:Td)(c:B):Int:=((t.lots.find? (fun l=>decide (lotC l.1=c))).map (·.2)).getD 0
def q8y (t:Td)(c:B):Cr:=(t.crit.find? (fun x=>decide (q0t x.name=c))).getD ⟨[],0,0,0,false⟩
def reqF (t:Td)(c:B):Option Rq:=((List.range t.reqs.length).find? (fun k=>decide (c=reqC k))).bind (t.reqs[·]?)
def eqc (a b:Td)(c:B):Bool :=
  if c=q0n then decide (a.name=b.name)
  else if c=q0y then decide (a.low=b.low) && decide (a.high=b.high)
  else if c=q2t then decide (a.fm=b.fm)
  else if c=q2u then decide (a.ties=b.ties)
  else if c=q1v then decide (a.most=b.most)
  else if c=q0f then decide (a.combos=b.combos)
  else if c=q0o then decide (a.budget=b.budget)
  else if c=q16 then decide (a.t1=b.t1) && (decide (a.t2=b.t2) && (decide (a.t3=b.t3) && (decide (a.t4=b.t4) && decide (a.t5=b.t5))))
  else if wLot.isPrefixOf c then decide (lotM a c=lotM b c)
  else if q1b.isPrefixOf c then decide (q8y a c=q8y b c)
  else decide (reqF a c=reqF b c)
def both (a b:Td):List B:=(q02 a).foldl addB (q02 b)
def isCh (a b:Td)(c:B):Bool:=!(decide (c∈q02 a) && (decide (c∈q02 b) && eqc a b c))
def q12 (a b:Td):List B:=(both a b).filter (isCh a b)
def hitB (a b:Td)(S:List B)(c:B):Bool:=(uses a c).any (fun u=>decide (u∈S)) || (uses b c).any (fun u=>decide (u∈S))
def q6z (a b:Td)(S:List B)(c:B):List B:=if hitB a b S c then addB S c else S
def q9m (a b:Td)(S:List B):List B:=(both a b).foldl (q6z a b) S
def qcc (a b:Td):Nat->List B->List B
  | 0,S=>S
  | n+1,S=>qcc a b n (q9m a b S)
def affS (a b:Td):List B:=qcc a b (both a b).length (q12 a b)
def q38 (a b:Td):List B:=(both a b).filter (fun c=>decide (c∈affS a b))
def q5i (lots:List Int)(c:B):Bool:=if wLot.isPrefixOf c then lots.any (fun i=>decide (lotC i=c)) else !decide (c∈[q0n,q16,q1v,q0f,q0o])
def q7r (a b:Td)(lots:List Int):Bool:=(q38 a b).any (q5i lots)
inductive Aff (a b:Td):B->Prop
  | base {c:B}:c∈q12 a b->Aff a b c
  | step {c u:B}:c∈both a b->(u∈uses a c\/u∈uses b c)->Aff a b u->Aff a b c
theorem q23 {l:List B}{s c:B}:c∈addB l s ↔ c∈l\/c=s:=by
  unfold addB
  split
  . rename_i h
    constructor
    . exact .inl
    . rintro (h' | rfl)
      . exact h'
      . exact h
  . simp
theorem q7s:∀ {m l:List B} {c:B},c∈m.foldl addB l ↔ c∈l\/c∈m
  | [],l,c=>by simp
  | a :: m,l,c=>by
    rw[List.foldl_cons,q7s,q23,List.mem_cons,or_assoc]
theorem q28 {t:Td}{c:B}:c∈q02 t ↔ c∈q8x t\/c∈q35:=by
  unfold q02
  rw[List.mem_append,q7s]
  simp
theorem qme {a b:Td}{c:B}:c∈both a b ↔ c∈q02 b\/c∈q02 a:=q7s
theorem qmf {a b:Td}{c:B}(h:Aff a b c):c∈both a b:=by
  cases h with
  | base h=>exact(List.mem_filter.1 h).1
  | step h _ _=>exact h
section
variable {a b:Td}
theorem qe0 {S:List B}{c:B}:hitB a b S c=true ↔ ∃ u,(u∈uses a c\/u∈uses b c)/\u∈S:=by
  unfold hitB
  simp only[Bool.or_eq_true,List.any_eq_true,decide_eq_true_eq]
  constructor
  . rintro (⟨u,h,h'⟩ | ⟨u,h,h'⟩)
    . exact⟨u,.inl h,h'⟩
    . exact⟨u,.inr h,h'⟩
  . rintro⟨u,h | h,h'⟩
    . exact .inl ⟨u,h,h'⟩
    . exact .inr ⟨u,h,h'⟩
theorem qmg {S S':List B}{c:B}(hs:∀ u∈S,u∈S')(h:hitB a b S c=true):hitB a b S' c=true:=by
  rw[qe0] at h ⊢
  obtain⟨u,h1,h2⟩:=h
  exact⟨u,h1,hs u h2⟩
theorem qft {S:List B}{c u:B}(h:u∈S):u∈q6z a b S c:=by
  unfold q6z
  split
  . exact q23.2 (.inl h)
  . exact h
theorem qmh {S:List B}{c:B}(hS:∀ u∈S,Aff a b u)(hc:c∈both a b):∀ u∈q6z a b S c,Aff a b u:=by
  intro u hu
  unfold q6z at hu
  split at hu
  . rename_i h
    rcases q23.1 hu with h' | rfl
    . exact hS u h'
    . obtain⟨v,h1,h2⟩:=qe0.1 h
      exact .step hc h1 (hS v h2)
  . exact hS u hu
def q7t (a b:Td)(S l:List B):List B:=l.foldl (q6z a b) S
theorem q5j:∀ {l S:List B} {u:B},u∈S->u∈q7t a b S l
  | [],_,_,h=>h
  | _ :: l,_,_,h=>q5j (l:=l) (qft h)
theorem qcd:∀ {l S:List B},(∀ u∈S,Aff a b u)->(∀ c∈l,c∈both a b)->∀ u∈q7t a b S l,Aff a b u
  | [],_,h,_=>h
  | c :: l,_,h,hl=>qcd (l:=l) (qmh h (hl c (by simp))) fun x hx=>hl x (by simp[hx])
theorem qce:∀ {l S:List B} {c:B},c∈l->hitB a b S c=true->c∈q7t a b S l
  | x :: l,S,c,hc,h=>by
    rcases List.mem_cons.1 hc with rfl | hc
    . refine q5j (l:=l) ?_
      unfold q6z
      rw[if_pos h]
      exact q23.2 (.inr rfl)
    . exact qce (l:=l) hc (qmg (fun u hu=>qft hu) h)
def q4y (a b:Td)(S:List B):Prop:=∀ c∈both a b,hitB a b S c=true->c∈S
theorem qe1 {S:List B}(h:q4y a b S){c:B}(hc:c∈both a b):q6z a b S c=S:=by
  unfold q6z
  split
  . rename_i hh
    unfold addB
    rw[if_pos (h c hc hh)]
  . rfl
theorem q6s {S:List B}(h:q4y a b S):∀ {l:List B},(∀ c∈l,c∈both a b)->q7t a b S l=S
  | [],_=>rfl
  | c :: l,hl=>by
    unfold q7t
    rw[List.foldl_cons,qe1 h (hl c (by simp))]
    exact q6s h fun x hx=>hl x (by simp[hx])
theorem qh7 {S:List B}(h:q4y a b S)(hb:∀ c∈q12 a b,c∈S){c:B}(hc:Aff a b c):c∈S:=by
  induction hc with
  | base h'=>exact hb _ h'
  | step h1 h2 _ ih=>exact h _ h1 (qe0.2 ⟨_,h2,ih⟩)
def cntA (a b:Td)(S:List B):Nat:=(both a b).countP fun c=>decide (c∈S)
theorem cnt_le (S:List B):cntA a b S<=(both a b).length:=List.countP_le_length
theorem cnt_lt {S S':List B}(h:∀ u∈S,u∈S'){c:B}(hc:c∈both a b)(h1:c ∉ S)(h2:c∈S'):cntA a b S<cntA a b S':=by
  unfold cntA
  revert hc
  generalize both a b=l
  intro hc
  induction l with
  | nil=>cases hc
  | cons x l ih =>
    have hm:l.countP (fun c=>decide (c∈S))<=l.countP (fun c=>decide (c∈S')):=List.countP_mono_left fun c _ hc=>by simpa using h c (by simpa using hc)
    simp only[List.countP_cons]
    by_cases hx:x=c
    . subst hx
      simp[h1,h2]
      omega
    . have hc':c∈l:=by
        rcases List.mem_cons.1 hc with h | h
        . exact absurd h.symm hx
        . exact h
      have:=ih hc'
      by_cases hxs:x∈S
      . simp[hxs,h x hxs]; omega
      . by_cases hxs':x∈S'<;>simp[hxs,hxs']<;>omega
theorem qmi (S:List B):q4y a b S\/cntA a b S<cntA a b (q9m a b S):=by
  by_cases h:q4y a b S
  . exact .inl h
  . refine .inr ?_
    unfold q4y at h
    simp only[Classical.not_forall] at h
    obtain⟨c,hc,hh,hn⟩:=h
    exact cnt_lt (fun u hu=>q5j hu) hc hn (qce hc hh)
theorem qcf:∀ (n:Nat) (S:List B),(∀ u∈S,Aff a b u)->(both a b).length<=cntA a b S+n->(∀ u∈S,u∈qcc a b n S)/\(∀ u∈qcc a b n S,Aff a b u)/\q4y a b (qcc a b n S)
  | 0,S,h,hn=>by
    refine⟨fun u h=>h,h,fun c hc _=>?_⟩
    have hall:cntA a b S=(both a b).length:=Nat.le_antisymm (cnt_le S) (by omega)
    have:=List.countP_eq_length.1 hall c hc
    show c∈S
    simpa using this
  | n+1,S,h,hn=>by
    have h':∀ u∈q9m a b S,Aff a b u:=qcd h fun c hc=>hc
    rcases qmi S with hc | hlt
    . have e:q9m a b S=S:=q6s hc fun c hc=>hc
      have hi:∀ k,qcc a b k S=S:=fun k=>by
        induction k with
        | zero=>rfl
        | succ k ih=>unfold qcc; rw[e,ih]
      rw[hi]
      exact⟨fun u h=>h,h,hc⟩
    . obtain⟨h1,h2,h3⟩:=qcf n (q9m a b S) h' (by omega)
      exact⟨fun u hu=>h1 u (q5j hu),h2,h3⟩
theorem qmj {c:B}:c∈affS a b ↔ Aff a b c:=by
  obtain⟨h1,h2,h3⟩:=qcf (a:=a) (b:=b) (both a b).length (q12 a b) (fun u hu=>.base hu) (by omega)
  exact⟨h2 c,qh7 h3 h1⟩
theorem qcg {c:B}:c∈q38 a b ↔ Aff a b c:=by
  unfold q38
  rw[List.mem_filter]
  simp only[decide_eq_true_eq,qmj]
  exact⟨fun h=>h.2,fun h=>⟨qmf h,h⟩⟩
end
