/- An evaluator of the model's code on values of its own: blocks by names, what a capacity is left open. Conditions: none. -/
import Derived.Test.YtipjnbbfnlfmjaaGreatDoorPwY
import Derived.Test.YtipjnbbfnlfmjaaGreatDoorPwQ
import Derived.Great.BuildSlice
import Derived.Lib.Builder
open List renaming getElem?_append_left->J0,getElem?_eq_getElem->J1,getElem?_eq_some_iff->J2,getElem?_append_right->J3,length_map->J4,mem_of_getElem?->J5,getElem?_take->J6,prefix_append->J7,prefix_refl->J8,append_assoc->J9,getElem?_drop->Ja,length_append->Jb,eq_nil_of_length_eq_zero->Jc,getElem?_eq_none->Jd,length_cons->Je,getD_eq_getElem?_getD->Jf,extract_eq_take_drop->Jg,getElem?_map->Jh,ext_getElem?->Ji,map_cons->Jj,toList_toArray->Jk,mem_singleton->Jl,length_range->Jm,range'->Jn,length_take->Jo,range'_succ->Jp,getElem_mem->Jq,foldl_cons->Jr,nil_append->Js,mem_append->Jt,replicate->Ju,mem_cons->Jv
open Nat renaming eq_of_beq_eq_true->Jw,le_of_ble_eq_true->Jx,beq->Jy,zero_add->Jz,le_refl->JA,lt_of_lt_of_le->JB,add_mul->JC,add_zero->JD,add_assoc->JE,mul_le_mul_right->JF,min_eq_left->JG,blt->JH,ble->JI,le_of_lt->JJ,add_comm->JK
open Bool renaming false_eq_true->JL,and_eq_true->JM,eq_iff_iff->JN,or_eq_true->JO
open Option renaming map_eq_some_iff->JP
open Array renaming length_toList->JQ,toList_inj->JR,getElem?_toList->JS,toList_map->JT,getElem?_modify->JU,toArray_toList->JV,getElem?_eq_some_iff->JW,foldl_toList->JX,range->JY
namespace Xe
open Go Pw
inductive AV where
  | i (k:IntKind) (n:Int)
  | b (v:Bool)
  | s (l:List Nat)
  | p (a:Option (Nat × Nat))
  | sl (a:Option (Nat × Nat)) (l:Nat) (c:Option Nat) (z:Nat)
  | m (r:Option Nat)
  | f (id:Nat) (fs cs:List AV)
  | y (l:Nat)
  | nf
  | ni
  | ag (cs:List AV)
  | tu (cs:List AV)
abbrev un0:AV:=.tu []
inductive Tr (α:Type) where
  | lf
  | v (k:Nat) (a:α)
  | nd (l r:Tr α)
noncomputable def Tr.get {α:Type}(h:Tr α)(m:Nat):Nat->Option α :=
  Tr.rec (motive:=fun _=>Nat->Option α) (fun _=>none) (fun k a _=>match Jy k m with
    | true=>some a
    | false=>none) (fun _ _ gl gr n=>match Jy (n % 2) 0 with
    | true=>gl (n / 2)
    | false=>gr (n / 2)) h
noncomputable def Tr.fst {α:Type}:Tr α->Tr α
  | .nd l _=>l
  | _=>.lf
noncomputable def Tr.snd {α:Type}:Tr α->Tr α
  | .nd _ r=>r
  | _=>.lf
noncomputable def Tr.set {α:Type}(m:Nat)(a:α)(d:Nat):Tr α->Nat->Tr α :=
  Nat.rec (motive:=fun _=>Tr α->Nat->Tr α) (fun _ _=>.v m a) (fun _ st h n=>match Jy (n % 2) 0 with
    | true=>.nd (st h.fst (n / 2)) h.snd
    | false=>.nd h.fst (st h.snd (n / 2))) d
abbrev Sg:=Tr AV
noncomputable def sget (σ:Sg)(t:Nat):Option AV:=Tr.get σ t t
noncomputable def sput (σ:Sg)(t:Nat)(v:AV):Sg:=Tr.set t v 8 σ t
inductive Ob where
  | c (cs:List AV) (f:Option Nat)
  | m (es:List (AV × AV))
  | l (g:Nat) (σ:Sg) (ps:List Nat) (asg bd:Code) (st d:Nat)
  | d
  | xx
structure H where
  t:Tr Ob
  n:Nat
noncomputable def H.get (h:H)(b:Nat):Option Ob:=Tr.get h.t b b
noncomputable def H.new (h:H)(o:Ob):H:=⟨Tr.set h.n o 12 h.t h.n,h.n+1⟩
noncomputable def H.put (h:H)(b:Nat)(o:Ob):H:=⟨Tr.set b o 12 h.t b,h.n⟩
noncomputable def H.del (h:H)(b:Nat):H:=⟨Tr.set b .xx 12 h.t b,h.n⟩
noncomputable def H.cells (h:H)(b:Nat):Option (List AV):=match h.get b with
  | some (.c cs _)=>some cs
  | _=>none
noncomputable def H.flg (h:H)(b:Nat):Option Nat:=match h.get b with
  | some (.c _ f)=>f
  | _=>none
noncomputable def H.upd (h:H)(b:Nat)(cs:List AV):H:=h.put b (.c cs (h.flg b))
mutual
noncomputable def cv:Value->Option AV
  | .int k n=>some (.i k n)
  | .bool b=>some (.b b)
  | .string s=>some (.s (s.data.toList.map UInt8.toNat))
  | .pointer none=>some (.p none)
  | .slice none l c=>match l,c with
    | 0,0=>some (.sl none 0 (some 0) 0)
    | _,_=>none
  | .map none=>some (.m none)
  | .nilFunc=>some .nf
  | .nilIface=>some .ni
  | .agg ⟨cs⟩=>match cvs cs with
    | some l=>some (.ag l)
    | none=>none
  | .tuple ⟨cs⟩=>match cvs cs with
    | some l=>some (.tu l)
    | none=>none
  | _=>none
noncomputable def cvs:List Value->Option (List AV)
  | []=>some []
  | v :: r=>match cv v with
    | some x=>match cvs r with
      | some xs=>some (x :: xs)
      | none=>none
    | none=>none
end
noncomputable def ev (σ:Sg):Operand->Option AV
  | .tmp t=>sget σ t
  | .const v=>cv v
  | .func f=>some (.f f [] [])
  | .global _=>none
noncomputable def evs (σ:Sg):List Operand->Option (List AV)
  | []=>some []
  | x :: r=>match ev σ x with
    | none=>none
    | some v=>match evs σ r with
      | none=>none
      | some vs=>some (v :: vs)
noncomputable def flat:AV->List AV
  | .ag cs=>cs
  | v=>[v]
noncomputable def nth {α:Type}:List α->Nat->Option α
  | [],_=>none
  | x :: r,n=>match n with
    | 0=>some x
    | n+1=>nth r n
noncomputable def drp {α:Type}:Nat->List α->List α
  | 0,l=>l
  | n+1,l=>match l with
    | []=>[]
    | _ :: r=>drp n r
noncomputable def tk {α:Type}:Nat->List α->Option (List α)
  | 0,_=>some []
  | n+1,l=>match l with
    | []=>none
    | x :: r=>match tk n r with
      | some s=>some (x :: s)
      | none=>none
noncomputable def putl {α:Type}:List α->Nat->List α->Option (List α)
  | l,0,vs=>match vs with
    | []=>some l
    | v :: vs=>match l with
      | []=>none
      | _ :: r=>match putl r 0 vs with
        | some r=>some (v :: r)
        | none=>none
  | l,n+1,vs=>match l with
    | []=>none
    | x :: r=>match putl r n vs with
      | some r=>some (x :: r)
      | none=>none
noncomputable def len {α:Type}:List α->Nat
  | []=>0
  | _ :: r=>len r+1
noncomputable def app {α:Type}:List α->List α->List α
  | [],m=>m
  | x :: l,m=>x :: app l m
noncomputable def rep (z:List AV):Nat->List AV
  | 0=>[]
  | n+1=>app z (rep z n)
noncomputable def okA:AV->Bool
  | .ag _=>false
  | .tu _=>false
  | _=>true
noncomputable def okAs:List AV->Bool
  | []=>true
  | x :: r=>match okA x with
    | true=>okAs r
    | false=>false
mutual
noncomputable def eqv:AV->AV->Option Bool
  | .i k a,.i k' b=>match decide (k=k') with
    | true=>some (decide (a=b))
    | false=>none
  | .b a,.b b=>some (a == b)
  | .s a,.s b=>some (a == b)
  | .ag a,.ag b=>eqvs a b
  | _,_=>none
noncomputable def eqvs:List AV->List AV->Option Bool
  | [],[]=>some true
  | x :: a,y :: b=>match eqv x y with
    | some r=>match eqvs a b with
      | some s=>some (r && s)
      | none=>none
    | none=>none
  | _,_=>none
end
mutual
noncomputable def toV:AV->Option Value
  | .i k n=>some (.int k n)
  | .b b=>some (.bool b)
  | .ni=>some .nilIface
  | .p none=>some (.pointer none)
  | .sl none _ _ _=>some (.slice none 0 0)
  | .m none=>some (.map none)
  | .ag cs=>match toVs cs with
    | some l=>some (.agg l.toArray)
    | none=>none
  | _=>none
noncomputable def toVs:List AV->Option (List Value)
  | []=>some []
  | x :: r=>match toV x with
    | some v=>match toVs r with
      | some l=>some (v :: l)
      | none=>none
    | none=>none
end
noncomputable def avs:List Nat->List AV
  | []=>[]
  | n :: r=>.i .u8 n :: avs r
noncomputable def byt:List AV->Option (List Nat)
  | []=>some []
  | .i .u8 n :: r=>match decide (0<=n) && decide (n<256) with
    | true=>match byt r with
      | some l=>some (n.toNat :: l)
      | none=>none
    | false=>none
  | _ :: _=>none
noncomputable def mget:List (AV × AV)->AV->Option (Option AV)
  | [],_=>some none
  | (k,v) :: r,x=>match eqv k x with
    | some true=>some (some v)
    | some false=>mget r x
    | none=>none
noncomputable def mput:List (AV × AV)->AV->AV->Option (List (AV × AV))
  | [],x,v=>some [(x,v)]
  | (k,u) :: r,x,v=>match eqv k x with
    | some true=>some ((k,v) :: r)
    | some false=>match mput r x v with
      | some r=>some ((k,u) :: r)
      | none=>none
    | none=>none
section
noncomputable def siz (P:Program)(t:TypeId):Option Nat:=match P.info? t with
  | some i=>some i.size
  | none=>none
noncomputable def zer (P:Program)(t:TypeId):Option (List AV):=match P.info? t with
  | some i=>match i.zero with
    | some z=>match cv z with
      | some v=>some (flat v)
      | none=>none
    | none=>none
  | none=>none
noncomputable def mkA (P:Program)(t:TypeId)(cs:List AV):Option AV:=match aggT P t with
  | true=>some (.ag cs)
  | false=>match cs with
    | [x]=>match okA x with
      | true=>some x
      | false=>none
    | _=>none
noncomputable def flds (P:Program)(t:TypeId):Option (Array Field):=match P.underlying t with
  | some (.struct fs)=>some fs
  | _=>none
noncomputable def plc (P:Program)(t:TypeId):Option (List (Nat × Nat)):=match P.underlying t with
  | some (.struct fs)=>fs.toList.mapM (fun f=>(P.info? f.type).map fun i=>(f.offset,i.size))
  | _=>none
noncomputable def ldA (P:Program)(h:H)(t:TypeId)(b o:Nat):Option AV:=match h.cells b with
  | some cs=>match P.underlying t with
    | some _=>match siz P t with
      | some n=>match tk n (drp o cs) with
        | some l=>mkA P t l
        | none=>none
      | none=>none
    | none=>none
  | none=>none
noncomputable def lay (off:Nat->Option (Nat × Nat))(σ:Sg):List (Nat × Operand)->List AV->Option (List AV)
  | [],cs=>some cs
  | (i,o) :: r,cs=>match ev σ o with
    | some v=>match off i with
      | some (k,n)=>match Jy n (len (flat v)) with
        | true=>match putl cs k (flat v) with
          | some cs=>lay off σ r cs
          | none=>none
        | false=>none
      | none=>none
    | none=>none
noncomputable def inr (k:IntKind)(n:Int):Option AV:=match decide (k.wrap n=n) with
  | true=>some (.i k n)
  | false=>none
noncomputable def binI (op:BinOp)(k:IntKind)(a b:Int):Option AV:=match op with
  | .add=>inr k (a+b)
  | .sub=>inr k (a-b)
  | .mul=>inr k (a*b)
  | .quo=>match decide (b=0) with
    | true=>none
    | false=>inr k (a.tdiv b)
  | .rem=>match decide (b=0) with
    | true=>none
    | false=>some (.i k (a.tmod b))
  | .eql=>some (.b (a == b))
  | .neq=>some (.b (a != b))
  | .lss=>some (.b (decide (a<b)))
  | .leq=>some (.b (decide (a<=b)))
  | .gtr=>some (.b (decide (a>b)))
  | .geq=>some (.b (decide (a>=b)))
  | .shl=>match decide (0<=b) with
    | true=>some (.i k (k.wrap (a*2^(min b.toNat k.bits))))
    | false=>none
  | .shr=>match decide (0<=b) with
    | true=>some (.i k (a.fdiv (2^(min b.toNat k.bits))))
    | false=>none
  | _=>none
noncomputable def q8k (P:Program):List Field->Nat->List AV->List AV->Option Bool
  | [],_,[],[]=>some true
  | f :: fs,i,x :: xs,y :: ys=>match (f.name != "_") && Jy f.offset i with
    | true=>match P.underlying f.type with
      | some (.int _)=>match x,y with
        | .i k a,.i k' b=>match decide (k=k') with
          | true=>match q8k P fs (i+1) xs ys with
            | some r=>some (a == b && r)
            | none=>none
          | false=>none
        | _,_=>none
      | some .bool=>match x,y with
        | .b a,.b b=>match q8k P fs (i+1) xs ys with
          | some r=>some (a == b && r)
          | none=>none
        | _,_=>none
      | some .string=>match x,y with
        | .s a,.s b=>match q8k P fs (i+1) xs ys with
          | some r=>some (a == b && r)
          | none=>none
        | _,_=>none
      | _=>none
    | false=>none
  | _,_,_,_=>none
noncomputable def eqAgA (P:Program)(t:TypeId)(xs ys:List AV):Option Bool:=match P.underlying t with
  | some (.struct fs)=>match P.stoodInHeld t || P.eqGuardType P.depth t with
    | false=>q8k P fs.toList 0 xs ys
    | true=>none
  | _=>none
noncomputable def bin (P:Program)(op:BinOp)(t:TypeId)(X Y:Operand)(x y:AV):Option AV:=match (match x,y with
    | .i k a,.i k' b=>match op with
      | .shl=>binI op k a b
      | .shr=>binI op k a b
      | op=>match decide (k=k') with
        | true=>binI op k a b
        | false=>none
    | .s a,.s b=>match op with
      | .add=>match JH (len a+len b) 4294967296 with
        | true=>some (.s (app a b))
        | false=>none
      | .eql=>some (.b (a == b))
      | .neq=>some (.b (!(a == b)))
      | _=>none
    | .sl (some _) _ _ _,.sl none _ _ _=>match P.underlying t with
      | some (.slice _)=>match op with
        | .eql=>some (.b false)
        | .neq=>some (.b true)
        | _=>none
      | _=>none
    | .m (some _),.m none=>match P.underlying t with
      | some (.map _ _)=>match op with
        | .eql=>some (.b false)
        | .neq=>some (.b true)
        | _=>none
      | _=>none
    | .p (some _),.p none=>match P.underlying t with
      | some (.pointer _)=>match op with
        | .eql=>some (.b false)
        | .neq=>some (.b true)
        | _=>none
      | _=>none
    | .p (some a),.p (some b)=>match P.underlying t with
      | some (.pointer e)=>match siz P e with
        | some (_+1)=>match a == b with
          | true=>match op with
            | .eql=>some (.b true)
            | .neq=>some (.b false)
            | _=>none
          | false=>none
        | _=>none
      | _=>none
    | .ag a,.ag b=>match eqAgA P t a b with
      | some r=>match op with
        | .eql=>some (.b r)
        | .neq=>some (.b (!r))
        | _=>none
      | none=>none
    | _,_=>none) with
  | some v=>some v
  | none=>match toV x with
    | some u=>match toV y with
      | some v=>match qdo P (do eqGuard op t X Y u v; Pure.pure (Next.value (← binOp op t u v))) with
        | some r=>cv r
        | none=>none
      | none=>none
    | none=>none
noncomputable def low (σ:Sg)(o:Option Operand)(d:Nat):Option Nat:=match o with
  | none=>some d
  | some x=>match ev σ x with
    | some (.i _ n)=>match decide (0<=n) with
      | true=>some n.toNat
      | false=>none
    | _=>none
noncomputable def qpx (x:Operand)(P:Program)(σ:Sg):Option AV:=ev σ x
noncomputable def qf1 (x:Operand)(P:Program)(σ:Sg):Option AV:=ev σ x
noncomputable def qni (c a b:Operand)(P:Program)(σ:Sg):Option AV:=match ev σ c with
    | some (.b true)=>ev σ a
    | some (.b false)=>ev σ b
    | _=>none
noncomputable def q4h (t:TypeId)(x:Operand)(i:Nat)(P:Program)(σ:Sg):Option AV:=match ev σ x with
  | some (.p (some (b,o)))=>match flds P t with
    | some fs=>match fs[i]? with
      | some f=>match siz P f.type with
        | some (_+1)=>some (.p (some (b,o+f.offset)))
        | _=>none
      | none=>none
    | none=>none
  | _=>none
noncomputable def qgh (t:TypeId)(x:Operand)(i:Nat)(P:Program)(σ:Sg):Option AV:=match ev σ x with
  | some (.ag cs)=>match flds P t with
    | some fs=>match fs[i]? with
      | some f=>match P.underlying f.type with
        | some _=>match siz P f.type with
          | some n=>match tk n (drp f.offset cs) with
            | some l=>mkA P f.type l
            | none=>none
          | none=>none
        | none=>none
      | none=>none
    | none=>none
  | _=>none
noncomputable def q5z (x:Operand)(P:Program)(σ:Sg):Option AV:=match ev σ x with
    | some (.p (some a))=>some (.p (some a))
    | some (.f g fs cs)=>some (.f g fs cs)
    | some (.y l)=>some (.y l)
    | _=>none
noncomputable def q4i (t:TypeId)(x i:Operand)(P:Program)(σ:Sg):Option AV:=match ev σ x with
    | some (.sl (some (b,o)) l _ _)=>match ev σ i with
      | some (.i _ j)=>match P.underlying t with
        | some (.slice e)=>match siz P e with
          | some sz=>match decide (0<=j) && JH j.toNat l with
            | true=>some (.p (some (b,o+j.toNat*sz)))
            | false=>none
          | none=>none
        | _=>none
      | _=>none
    | some (.p (some (b,o)))=>match ev σ i with
      | some (.i _ j)=>match P.underlying t with
        | some (.array n e)=>match siz P e with
          | some sz=>match decide (0<=j) && JH j.toNat n with
            | true=>some (.p (some (b,o+j.toNat*sz)))
            | false=>none
          | none=>none
        | _=>none
      | _=>none
    | _=>none
noncomputable def qgi (t:TypeId)(x i:Operand)(P:Program)(σ:Sg):Option AV:=match ev σ x with
    | some (.s l)=>match ev σ i with
      | some (.i _ j)=>match P.underlying t with
        | some .string=>match decide (0<=j) with
          | true=>match nth l j.toNat with
            | some n=>some (.i .u8 n)
            | none=>none
          | false=>none
        | _=>none
      | _=>none
    | some (.ag cs)=>match ev σ i with
      | some (.i _ j)=>match P.underlying t with
        | some (.array n e)=>match P.underlying e with
          | some _=>match siz P e with
            | some sz=>match decide (0<=j) && JH j.toNat n with
              | true=>match tk sz (drp (j.toNat*sz) cs) with
                | some l=>mkA P e l
                | none=>none
              | false=>none
            | none=>none
          | none=>none
        | _=>none
      | _=>none
    | _=>none
noncomputable def qgj (op:BinOp)(t:TypeId)(x y:Operand)(_:TypeId)(P:Program)(σ:Sg):Option AV:=match ev σ x with
    | some a=>match ev σ y with
      | some b=>bin P op t x y a b
      | none=>none
    | none=>none
noncomputable def qnj (op:UnOp)(_:TypeId)(x:Operand)(P:Program)(σ:Sg):Option AV:=match ev σ x with
    | some (.i k n)=>match op with
      | .neg=>inr k (-n)
      | _=>none
    | some (.b v)=>match op with
      | .not=>some (.b (!v))
      | _=>none
    | _=>none
noncomputable def q7a (s d:TypeId)(x:Operand)(P:Program)(σ:Sg):Option AV:=match ev σ x with
    | some (.i _ n)=>match P.underlying s with
      | some _=>match P.underlying d with
        | some (.int k)=>inr k n
        | some .string=>match decide (0<=n) && JH n.toNat 128 with
          | true=>some (.s [n.toNat])
          | false=>none
        | _=>none
      | none=>none
    | _=>none
noncomputable def q7b (x:Operand)(i:Nat)(P:Program)(σ:Sg):Option AV:=match ev σ x with
    | some (.tu vs)=>nth vs i
    | _=>none
noncomputable def qgk (t:TypeId)(ps:Array (Nat × Operand))(P:Program)(σ:Sg):Option AV:=match zer P t with
    | some z=>match plc P t with
      | some l=>match lay (fun i=>nth l i) σ ps.toList z with
        | some cs=>some (.ag cs)
        | none=>none
      | none=>match P.underlying t with
        | some (.array _ e)=>match siz P e with
          | some sz=>match lay (fun i=>some (i*sz,sz)) σ ps.toList z with
            | some cs=>some (.ag cs)
            | none=>none
          | none=>none
        | _=>none
    | none=>none
noncomputable def q60 (g:Fn)(first cap:Array Operand)(P:Program)(σ:Sg):Option AV:=match g with
  | .func f=>match evs σ first.toList with
    | some fs=>match evs σ cap.toList with
      | some cs=>some (.f f fs cs)
      | none=>none
    | none=>none
  | _=>none
noncomputable def qgl (t:TypeId)(x:Operand)(lo hi mx:Option Operand)(P:Program)(σ:Sg):Option AV:=match mx with
  | some _=>none
  | none=>match ev σ x with
    | some (.s l)=>match P.underlying t with
      | some .string=>match low σ lo 0 with
        | some a=>match low σ hi (len l) with
          | some b=>match JI a b && JI b (len l) with
            | true=>match tk (b-a) (drp a l) with
              | some r=>some (.s r)
              | none=>none
            | false=>none
          | none=>none
        | none=>none
      | _=>none
    | some (.sl p n c z)=>match P.underlying t with
      | some (.slice e)=>match siz P e with
        | some sz=>match low σ lo 0 with
          | some a=>match low σ hi n with
            | some b=>match (Jy a 0 || JH a b) && (JI b n || (match c with
                | some c=>JI b c
                | none=>false)) with
              | true=>match p with
                | none=>some (.sl none 0 (some 0) 0)
                | some (q,o)=>match Jy sz z with
                  | true=>some (.sl (some (q,o+a*sz)) (b-a) (match c with
                    | some c=>some (c-a)
                    | none=>none) z)
                  | false=>none
              | false=>none
            | none=>none
          | none=>none
        | none=>none
      | _=>none
    | _=>none
noncomputable def und0 (P:Program)(ts:Array TypeId):Option TypeDesc:=match ts[0]? with
  | some t=>P.underlying t
  | none=>none
noncomputable def pLen (args:Array Operand)(ts:Array TypeId)(P:Program)(σ:Sg):Option AV:=match evs σ args.toList with
    | some [.s l]=>match und0 P ts with
      | some .string=>some (.i .i64 (len l))
      | _=>none
    | some [.sl _ l _ _]=>match und0 P ts with
      | some (.slice _)=>some (.i .i64 l)
      | _=>none
    | _=>none
noncomputable def pCap (args:Array Operand)(ts:Array TypeId)(P:Program)(σ:Sg):Option AV:=match evs σ args.toList with
    | some [.sl _ _ (some c) _]=>match und0 P ts with
      | some (.slice _)=>some (.i .i64 c)
      | _=>none
    | _=>none
noncomputable def pMin (args:Array Operand)(_:Array TypeId)(_:Program)(σ:Sg):Option AV:=match evs σ args.toList with
    | some [.i k a,.i k' b]=>match decide (k=k') with
      | true=>some (.i k (min a b))
      | false=>none
    | _=>none
noncomputable def pMax (args:Array Operand)(_:Array TypeId)(_:Program)(σ:Sg):Option AV:=match evs σ args.toList with
    | some [.i k a,.i k' b]=>match decide (k=k') with
      | true=>some (.i k (max a b))
      | false=>none
    | _=>none
noncomputable def q1z (args:Array Operand)(_argTypes:Array TypeId)(_:Program)(σ:Sg):Option AV:=match evs σ args.toList with
    | some [.sl p l _ _]=>match l with
      | 0=>none
      | _+1=>some (.p p)
    | _=>none
noncomputable def qnk (c:Call):Program->Sg->Option AV:=match c.callee with
  | .builtin b=>match b with
    | .len=>pLen c.args c.argTypes
    | .cap=>pCap c.args c.argTypes
    | .min=>pMin c.args c.argTypes
    | .max=>pMax c.args c.argTypes
    | .unsafeSliceData=>q1z c.args c.argTypes
    | _=>fun _ _=>none
  | _=>fun _ _=>none
noncomputable def pux:Op->Program->Sg->Option AV :=
  Op.rec (motive:=fun _=>Program->Sg->Option AV) qpx qf1 qni (fun _=>fun _ _=>none) (fun _ _=>fun _ _=>none) qgk (fun _ _ _=>fun _ _=>none) (fun _ _ _ _=>fun _ _=>none) (fun _ _=>fun _ _=>none) (fun _ _ _=>fun _ _=>none) (fun _=>fun _ _=>none) (fun _=>fun _ _=>none) q5z qgj qnj q7a (fun _ _=>fun _ _=>none) (fun _ _=>fun _ _=>none) q60 (fun _ _=>fun _ _=>none) (fun _ _=>fun _ _=>none) (fun _ _ _=>fun _ _=>none) qgl q4h qgh q4i qgi (fun _ _ _ _=>fun _ _=>none) (fun _ _ _ _=>fun _ _=>none) (fun _ _ _=>fun _ _=>none) (fun _ _ _ _=>fun _ _=>none) (fun _ _=>fun _ _=>none) (fun _ _=>fun _ _=>none) (fun _=>fun _ _=>none) (fun _ _ _ _=>fun _ _=>none) q7b qnk (fun _=>fun _ _=>none) (fun _=>fun _ _=>none) (fun _=>fun _ _=>none) (fun _ _=>fun _ _=>none) (fun _ _ _=>fun _ _=>none) (fun _ _=>fun _ _=>none)
noncomputable def src (h:H)(sz:Nat):AV->Option (List AV × Nat)
  | .s l=>some (avs l,len l)
  | .sl none _ _ _=>some ([],0)
  | .sl (some (b,o)) n _ _=>match h.cells b with
    | some cs=>match tk (n*sz) (drp o cs) with
      | some l=>some (l,n)
      | none=>none
    | none=>none
  | _=>none
noncomputable def qpy (t:TypeId)(x:Operand)(P:Program)(σ:Sg)(h:H):Option (AV × H):=match ev σ x with
    | some (.p (some (b,o)))=>match ldA P h t b o with
      | some v=>some (v,h)
      | none=>none
    | _=>none
noncomputable def qkl (t:TypeId)(x v:Operand)(P:Program)(σ:Sg)(h:H):Option (AV × H):=match ev σ x with
    | some (.p (some (b,o)))=>match ev σ v with
      | some v=>match h.cells b with
        | some cs=>match siz P t with
          | some n=>match Jy n (len (flat v)) && okAs (flat v) with
            | true=>match putl cs o (flat v) with
              | some cs=>some (un0,h.upd b cs)
              | none=>none
            | false=>none
          | none=>none
        | none=>none
      | none=>none
    | _=>none
noncomputable def qkm (t:TypeId)(P:Program)(σ:Sg)(h:H):Option (AV × H):=match zer P t with
    | some z=>some (.p (some (h.n,0)),h.new (.c z (some t)))
    | none=>none
noncomputable def hBox (t:TypeId)(x:Operand)(P:Program)(σ:Sg)(h:H):Option (AV × H):=match ev σ x with
    | some v=>match okAs (flat v) with
      | true=>some (.p (some (h.n,0)),h.new (.c (flat v) (some t)))
      | false=>none
    | none=>none
noncomputable def byE (P:Program)(t:TypeId):Option TypeId:=match P.underlying t with
  | some (.slice e)=>match P.underlying e with
    | some (.int .u8)=>some e
    | _=>none
  | _=>none
noncomputable def qb8 (s d:TypeId)(x:Operand)(P:Program)(σ:Sg)(h:H):Option (AV × H):=match ev σ x with
    | some (.sl p n _ _)=>match byE P s with
      | some _=>match P.underlying d with
        | some .string=>match p with
          | none=>some (.s [],h)
          | some (b,o)=>match h.cells b with
            | some cs=>match tk n (drp o cs) with
              | some l=>match byt l with
                | some l=>some (.s l,h)
                | none=>none
              | none=>none
            | none=>none
        | _=>none
      | none=>none
    | some (.s l)=>match P.underlying s with
      | some .string=>match byE P d with
        | some e=>some (.sl (some (h.n,0)) (len l) none 1,h.new (.c (avs l) (some e)))
        | none=>none
      | _=>none
    | _=>none
noncomputable def hUns (s d:TypeId)(x:Operand)(P:Program)(σ:Sg)(h:H):Option (AV × H):=match ev σ x with
    | some (.p (some (b,o)))=>match h.cells b with
      | some cs=>match P.underlying s with
        | some (.pointer t)=>match P.underlying d with
          | some .unsafePointer=>match siz P t with
            | some (_+1)=>match JH o (len cs) with
              | true=>some (.p (some (b,o)),h)
              | false=>none
            | _=>none
          | _=>none
        | some .unsafePointer=>match P.underlying d with
          | some (.pointer u)=>match siz P u with
            | some _=>match h.flg b with
              | some e=>match Jy e u && (Jy o 0 && (JI (P.cellsOf u) (len cs) && JH 0 (P.cellsOf u))) with
                | true=>some (.p (some (b,o)),h)
                | false=>none
              | none=>none
            | none=>none
          | _=>none
        | _=>none
      | none=>none
    | _=>none
noncomputable def q52 (t:TypeId)(n:Nat)(ps:Array (Nat × Operand))(P:Program)(σ:Sg)(h:H):Option (AV × H):=match P.underlying t with
    | some (.slice e)=>match siz P e with
      | some sz=>match n,ps.toList with
       | 0,[]=>some (.sl (some (h.n,0)) 0 (some 0) sz,h.new (.c [] (some e)))
       | _,_=>match zer P e with
        | some z=>match Jy (len z) sz && (JH 0 (n*sz) && JI (n*sz) 16777216) with
          | true=>match lay (fun i=>some (i*sz,sz)) σ ps.toList (rep z n) with
            | some cs=>some (.sl (some (h.n,0)) n (some n) sz,h.new (.c cs (some e)))
            | none=>none
          | false=>none
        | none=>none
      | none=>none
    | _=>none
noncomputable def qb9 (_:TypeId)(r:Option Operand)(_:Program)(_:Sg)(h:H):Option (AV × H):=match r with
  | some _=>none
  | none=>some (.m (some h.n),h.new (.m []))
noncomputable def kOk (P:Program)(kt:TypeId):AV->Bool
  | .i _ _=>match P.underlying kt with
    | some (.int _)=>true
    | _=>false
  | .s _=>match P.underlying kt with
    | some .string=>true
    | _=>false
  | .ag [.i _ _,.i _ _]=>match P.underlying kt with
    | some (.array n e)=>match P.underlying e with
      | some (.int _)=>match siz P e with
        | some s=>Jy n 2 && Jy s 1
        | none=>false
      | _=>false
    | _=>false
  | _=>false
noncomputable def zval (P:Program)(t:TypeId):Option AV:=match P.info? t with
  | some i=>match i.zero with
    | some z=>cv z
    | none=>none
  | none=>none
noncomputable def q4j (t:TypeId)(m k v:Operand)(P:Program)(σ:Sg)(h:H):Option (AV × H):=match ev σ m with
    | some (.m (some r))=>match ev σ k with
      | some k=>match ev σ v with
        | some v=>match P.underlying t with
          | some (.map kt _)=>match kOk P kt k with
            | true=>match h.get r with
              | some (.m es)=>match mput es k v with
                | some es=>some (un0,h.put r (.m es))
                | none=>none
              | _=>none
            | false=>none
          | _=>none
        | none=>none
      | none=>none
    | _=>none
noncomputable def mes (h:H):Option Nat->Option (List (AV × AV))
  | none=>some []
  | some r=>match h.get r with
    | some (.m es)=>some es
    | _=>none
noncomputable def qf2 (t:TypeId)(x k:Operand)(ok:Bool)(P:Program)(σ:Sg)(h:H):Option (AV × H):=match ev σ x with
    | some (.m r)=>match ev σ k with
      | some k=>match P.underlying t with
        | some (.map kt e)=>match kOk P kt k with
          | true=>match mes h r with
            | none=>none
            | some es=>match mget es k with
              | none=>none
              | some none=>match zval P e with
                | none=>none
                | some z=>match ok with
                  | true=>some (.tu [z,.b false],h)
                  | false=>some (z,h)
              | some (some v)=>match ok with
                | true=>some (.tu [v,.b true],h)
                | false=>some (v,h)
          | false=>none
        | _=>none
      | none=>none
    | _=>none
noncomputable def q6o (t:TypeId)(l c:Operand)(P:Program)(σ:Sg)(h:H):Option (AV × H):=match ev σ l with
    | some (.i _ l)=>match ev σ c with
      | some (.i _ c)=>match P.underlying t with
        | some (.slice e)=>match P.info? e with
          | some ti=>match zer P e with
            | some z=>match Jy (len z) ti.size && (decide (0<=l) && decide (l<=c) && (decide (c<9223372036854775808) && decide (c*ti.bytes<=281474976710656))) with
              | true=>some (.sl (some (h.n,0)) l.toNat (some c.toNat) ti.size,h.new (.c (rep z c.toNat) (some e)))
              | false=>none
            | none=>none
          | none=>none
        | _=>none
      | _=>none
    | _=>none
noncomputable def hLen (args:Array Operand)(ts:Array TypeId)(P:Program)(σ:Sg)(h:H):Option (AV × H):=match evs σ args.toList with
    | some [.m (some r)]=>match und0 P ts with
      | some (.map _ _)=>match h.get r with
        | some (.m es)=>some (.i .i64 (len es),h)
        | _=>none
      | _=>none
    | _=>none
noncomputable def aTy (P:Program)(ti:TypeInfo)(xt:TypeId)(x:AV):Bool:=match x with
  | .s _=>match P.underlying xt with
    | some .string=>match ti.zero with
      | some (.int .u8 0)=>Jy ti.size 1 && Jy ti.bytes 1
      | _=>false
    | _=>false
  | .sl _ _ _ _=>match P.underlying xt with
    | some (.slice _)=>true
    | _=>false
  | _=>false
noncomputable def apc (c:Option Nat)(m:Nat):Option Nat:=match c with
  | none=>none
  | some k=>match JI m k with
    | true=>some k
    | false=>none
noncomputable def apf (f:Option Nat)(e o:Nat):Option Nat:=match f with
  | none=>none
  | some d=>match Jy d e && Jy o 0 with
    | true=>some e
    | false=>none
noncomputable def apx (e:Nat)(ti:TypeInfo)(p:Option (Nat × Nat))(l:Nat)(c:Option Nat)(z:Nat)(new:List AV)(n:Nat)(h:H):Option (AV × H):=match n with
  | 0=>match p with
    | none=>some (.sl none 0 (some 0) 0,h)
    | some _=>some (.sl p l c z,h)
  | _+1=>match okAs new && JI ((l+n)*ti.bytes) 140737488355328 && JH (l+n) 9223372036854775808 && JH 0 ti.size with
    | false=>none
    | true=>match p with
      | none=>some (.sl (some (h.n,0)) n none ti.size,h.new (.c new (some e)))
      | some (b,o)=>match h.cells b with
        | none=>none
        | some cs=>match tk (l*ti.size) (drp o cs) with
          | none=>none
          | some old=>match Jy z ti.size with
            | true=>some (.sl (some (h.n,0)) (l+n) (apc c (l+n)) ti.size,(h.del b).new (.c (app old new) (apf (h.flg b) e o)))
            | false=>none
noncomputable def qf3 (args:Array Operand)(ts:Array TypeId)(P:Program)(σ:Sg)(h:H):Option (AV × H):=match evs σ args.toList with
  | some [.sl p l c z,x]=>match ts.toList with
    | [st,xt]=>match P.underlying st with
      | some (.slice e)=>match P.info? e with
        | some ti=>match zer P e with
          | some zl=>match Jy (len zl) ti.size && aTy P ti xt x with
            | true=>match src h ti.size x with
              | some (new,n)=>apx e ti p l c z new n h
              | none=>none
            | false=>none
          | none=>none
        | none=>none
      | _=>none
    | _=>none
  | _=>none
noncomputable def qpz (args:Array Operand)(ts:Array TypeId)(P:Program)(σ:Sg)(h:H):Option (AV × H):=match evs σ args.toList with
    | some [.sl p l _ _,x]=>match ts.toList with
      | t :: _ :: _=>match P.underlying t with
        | some (.slice e)=>match siz P e with
          | some sz=>match src h sz x with
            | none=>none
            | some (new,n)=>match p with
              | none=>none
              | some (b,o)=>match h.cells b with
                | none=>none
                | some cs=>match JI n l && okAs new with
                  | false=>none
                  | true=>match putl cs o new with
                      | some cs=>some (.i .i64 n,h.upd b cs)
                      | none=>none
          | none=>none
        | _=>none
      | _=>none
    | _=>none
noncomputable def q3g (args:Array Operand)(ts:Array TypeId)(P:Program)(σ:Sg)(h:H):Option (AV × H):=match evs σ args.toList with
    | some [.p (some (b,o)),.i .i64 n]=>match ts.toList with
      | [pt,_]=>match P.underlying pt with
        | some (.pointer e)=>match Jy (P.cellsOf e) 1 with
          | true=>match h.cells b with
            | some cs=>match h.flg b with
              | none=>none
              | some d=>match Jy d e && (Jy o 0 && (decide (0<n) && decide (n<9223372036854775808))) with
              | true=>match tk n.toNat cs with
                | some l=>match byt l with
                  | some l=>some (.s l,h.del b)
                  | none=>none
                | none=>none
              | false=>none
            | none=>none
          | false=>none
        | _=>none
      | _=>none
    | _=>none
noncomputable def hCall (c:Call):Program->Sg->H->Option (AV × H):=match c.callee with
  | .builtin b=>match b with
    | .len=>hLen c.args c.argTypes
    | .append=>qf3 c.args c.argTypes
    | .copy=>qpz c.args c.argTypes
    | .unsafeString=>q3g c.args c.argTypes
    | _=>fun _ _ _=>none
  | _=>fun _ _ _=>none
inductive Ex where
  | nor
  | ret
  | exit (i:Nat)
noncomputable def zipS:Nat->List AV->Sg->Sg
  | _,[],σ=>σ
  | n,v :: r,σ=>zipS (n+1) r (sput σ n v)
noncomputable def zipP:List Nat->List AV->Sg->Sg
  | t :: r,v :: vs,σ=>zipP r vs (sput σ t v)
  | _,_,σ=>σ
noncomputable def resX (P:Program)(σ:Sg)(h:H):List ResultVar->Option (List AV)
  | []=>some []
  | .tmp t :: r=>match sget σ t with
    | some v=>match resX P σ h r with
      | some vs=>some (v :: vs)
      | none=>none
    | none=>none
  | .cell a t :: r=>match sget σ a with
    | some (.p (some (b,o)))=>match ldA P h t b o with
      | some v=>match resX P σ h r with
        | some vs=>some (v :: vs)
        | none=>none
      | none=>none
    | _=>none
noncomputable def want (ops:Array Oper)(σ:Sg)(o:Oper):Option Bool:=match o.guard with
  | none=>some true
  | some (j,w)=>match ops[j]? with
    | none=>none
    | some q=>match q.dst with
      | none=>none
      | some t=>match sget σ t with
        | some (.b v)=>some (v == w)
        | some (.tu _)=>some false
        | _=>none
noncomputable def put (d:Option Nat)(v:AV)(σ:Sg):Sg:=match d with
  | none=>σ
  | some d=>sput σ d v
end
mutual
noncomputable def eqA:AV->AV->Bool
 | .i k a,.i k' b=>match decide (k=k') with
  | true=>decide (a=b)
  | false=>false
 | .b a,.b b=>a == b
 | .s a,.s b=>a == b
 | .p a,.p b=>a == b
 | .sl a l c z,.sl a' l' c' z'=>match a == a' with
  | true=>match Jy l l' && Jy z z' with
   | true=>c == c'
   | false=>false
  | false=>false
 | .m a,.m b=>a == b
 | .f i a b,.f i' a' b'=>match Jy i i' with
  | true=>match eqAs a a' with
   | true=>eqAs b b'
   | false=>false
  | false=>false
 | .y a,.y b=>Jy a b
 | .nf,.nf=>true
 | .ni,.ni=>true
 | .ag a,.ag b=>eqAs a b
 | .tu a,.tu b=>eqAs a b
 | _,_=>false
noncomputable def eqAs:List AV->List AV->Bool
 | [],[]=>true
 | x :: a,y :: b=>match eqA x y with
  | true=>eqAs a b
  | false=>false
 | _,_=>false
end
mutual
noncomputable def ren (e:Nat->Nat):AV->AV
 | .i k n=>.i k n
 | .b v=>.b v
 | .s l=>.s l
 | .p none=>.p none
 | .p (some (b,o))=>.p (some (e b,o))
 | .sl none l c z=>.sl none l c z
 | .sl (some (b,o)) l c z=>.sl (some (e b,o)) l c z
 | .m none=>.m none
 | .m (some r)=>.m (some (e r))
 | .f id fs cs=>.f id (rens e fs) (rens e cs)
 | .y l=>.y (e l)
 | .nf=>.nf
 | .ni=>.ni
 | .ag cs=>.ag (rens e cs)
 | .tu cs=>.tu (rens e cs)
noncomputable def rens (e:Nat->Nat):List AV->List AV
 | []=>[]
 | x :: r=>ren e x :: rens e r
end
noncomputable def renE (e:Nat->Nat):List (AV × AV)->List (AV × AV)
 | []=>[]
 | (x,y) :: r=>(ren e x,ren e y) :: renE e r
noncomputable def renO (e:Nat->Nat):Ob->Ob
 | .c cs f=>.c (rens e cs) f
 | .m es=>.m (renE e es)
 | _=>.xx
noncomputable def eqE:List (AV × AV)->List (AV × AV)->Bool
 | [],[]=>true
 | (x,y) :: a,(x',y') :: b=>match eqA x x' with
  | true=>match eqA y y' with
   | true=>eqE a b
   | false=>false
  | false=>false
 | _,_=>false
noncomputable def eqO:Option Ob->Ob->Bool
 | some (.c a f),.c b g=>match eqAs a b with
  | true=>f == g
  | false=>false
 | some (.m a),.m b=>eqE a b
 | _,_=>false
noncomputable def emb (l:List Nat)(n:Nat)(b:Nat):Nat:=match nth l b with
 | some x=>x
 | none=>n
noncomputable def rng:Nat->Nat->List Nat
 | _,0=>[]
 | d,n+1=>d :: rng (d+1) n
noncomputable def qnl (x:Nat):List Nat->Bool
 | []=>true
 | y :: r=>match Jy x y with
  | true=>false
  | false=>qnl x r
noncomputable def qa1:List Nat->Bool
 | []=>true
 | x :: r=>match qnl x r with
  | true=>qa1 r
  | false=>false
noncomputable def chkB (h:H)(e:Nat->Nat):List Nat->List Ob->Bool
 | [],[]=>true
 | n :: l,o :: B=>match eqO (h.get n) (renO e o) with
  | true=>chkB h e l B
  | false=>false
 | _,_=>false
noncomputable def adds (h:H):List Ob->H
 | []=>h
 | o :: r=>adds (h.new o) r
noncomputable def mkH (B:List Ob):H:=adds ⟨.lf,0⟩ B
noncomputable def obsR (e:Nat->Nat):List Ob->List Ob
 | []=>[]
 | o :: r=>renO e o :: obsR e r
structure Fg where
 al:List (List Nat × List Nat)
 ts:List Nat
 ds:List Nat
 out:List Nat
inductive Pl where
 | p (i:Nat)
 | e (i:Nat)
 | b (F:Fg)
 | g
abbrev Log:=List (Nat × Nat × List AV)
structure Cx where
 P:Program
 /-- the functions whose code may be gone into -/
 fs:Nat->Option Func
 /-- the plans of regions that draw their order: by function and region -/
 pl:Nat->Nat->Option (List Pl)
 /-- what is qh3 of other functions -/
 kn:Nat->List AV->H->Option (AV × H)
abbrev q3h:=AV->List AV->H->Option (AV × H)
noncomputable def cFn (f:Operand)(args:Array Operand)(cf:q3h)(σ:Sg)(h:H):Option (AV × H):=match ev σ f with
 | some f=>match evs σ args.toList with
  | some xs=>cf f xs h
  | none=>none
 | none=>none
noncomputable def qq0 (c:Call)(X:Cx)(cf:q3h)(σ:Sg)(h:H):Option (AV × H):=match c.callee with
 | .value f=>cFn f c.args cf σ h
 | .builtin b=>match qnk { callee:=.builtin b,args:=c.args,argTypes:=c.argTypes } X.P σ with
  | some v=>some (v,h)
  | none=>hCall { callee:=.builtin b,args:=c.args,argTypes:=c.argTypes } X.P σ h
 | .invoke _ _=>none
noncomputable def pr (f:Program->Sg->Option AV)(X:Cx)(_:q3h)(σ:Sg)(h:H):Option (AV × H):=match f X.P σ with
 | some v=>some (v,h)
 | none=>none
noncomputable def hp (f:Program->Sg->H->Option (AV × H))(X:Cx)(_:q3h)(σ:Sg)(h:H):Option (AV × H):=f X.P σ h
noncomputable def qq1 (s d:TypeId)(x:Operand)(X:Cx)(_:q3h)(σ:Sg)(h:H):Option (AV × H):=match q7a s d x X.P σ with
 | some v=>some (v,h)
 | none=>match qb8 s d x X.P σ h with
  | some r=>some r
  | none=>hUns s d x X.P σ h
noncomputable def opx:Op->Cx->q3h->Sg->H->Option (AV × H) :=
 Op.rec (motive:=fun _=>Cx->q3h->Sg->H->Option (AV × H)) (fun a=>pr (qpx a)) (fun a=>pr (qf1 a)) (fun a b c=>pr (qni a b c)) (fun a=>hp (qkm a)) (fun a b=>hp (hBox a b)) (fun a b=>pr (qgk a b)) (fun a b c=>hp (q52 a b c)) (fun a b c d=>hp (q4j a b c d)) (fun a b=>hp (qpy a b)) (fun a b c=>hp (qkl a b c)) (fun _=>fun _ _ _ _=>none) (fun _=>fun _ _ _ _=>none) (fun a=>pr (q5z a)) (fun a b c d e=>pr (qgj a b c d e)) (fun a b c=>pr (qnj a b c)) qq1 (fun _ _=>fun _ _ _ _=>none) (fun _ _=>fun _ _ _ _=>none) (fun a b c=>pr (q60 a b c)) (fun a b=>hp (qb9 a b)) (fun _ _=>fun _ _ _ _=>none) (fun a b c=>hp (q6o a b c)) (fun a b c d e=>pr (qgl a b c d e)) (fun a b c=>pr (q4h a b c)) (fun a b c=>pr (qgh a b c)) (fun a b c=>pr (q4i a b c)) (fun a b c=>pr (qgi a b c)) (fun a b c d=>hp (qf2 a b c d)) (fun a b c d=>hp (q4j a b c d)) (fun _ _ _=>fun _ _ _ _=>none) (fun _ _ _ _=>fun _ _ _ _=>none) (fun _ _=>fun _ _ _ _=>none) (fun _ _=>fun _ _ _ _=>none) (fun _=>fun _ _ _ _=>none) (fun _ _ _ _=>fun _ _ _ _=>none) (fun a b=>pr (q7b a b)) qq0 (fun _=>fun _ _ _ _=>none) (fun _=>fun _ _ _ _=>none) (fun _=>fun _ _ _ _=>none) (fun _ _=>fun _ _ _ _=>none) (fun _ _ _=>fun _ _ _ _=>none) (fun _ _=>fun _ _ _ _=>none)
noncomputable def runO (X:Cx)(cf:q3h)(ops:Array Oper):List Oper->Sg->H->Option (Sg × H)
 | [],σ,h=>some (σ,h)
 | o :: r,σ,h=>match want ops σ o with
  | some false=>runO X cf ops r (put o.dst un0 σ) h
  | some true=>match opx o.op X cf σ h with
   | some (v,h)=>runO X cf ops r (put o.dst v σ) h
   | none=>none
  | none=>none
noncomputable def hold (h:H):Log->Bool
 | []=>true
 | (b,o,l) :: r=>match h.cells b with
  | some cs=>match tk (len l) (drp o cs) with
   | some l'=>match eqAs l l' with
    | true=>hold h r
    | false=>false
   | none=>false
  | none=>false
noncomputable def holds (L:Log):List H->Bool
 | []=>true
 | h :: r=>match hold h L with
  | true=>holds L r
  | false=>false
noncomputable def runI (X:Cx)(ops:Array Oper):List Nat->Sg->H->Option (Sg × H)
 | [],σ,h=>some (σ,h)
 | i :: r,σ,h=>match ops[i]? with
  | some o=>match o.guard with
   | some _=>none
   | none=>match opx o.op X (fun _ _ _=>none) σ h with
    | some (v,h)=>runI X ops r (put o.dst v σ) h
    | none=>none
  | none=>none
noncomputable def clo:AV->Bool
 | .i _ _=>true
 | .b _=>true
 | .s _=>true
 | _=>false
noncomputable def pk (σ:Sg):List Nat->Sg->Option Sg
 | [],a=>some a
 | t :: r,a=>match sget σ t with
  | some x=>match clo x with
   | true=>pk σ r (sput a t x)
   | false=>none
  | none=>none
noncomputable def Tr.cut {α:Type}(d:Nat):Tr α->Nat->Tr α :=
 Nat.rec (motive:=fun _=>Tr α->Nat->Tr α) (fun _ _=>.lf) (fun _ st h n=>match Jy (n % 2) 0 with
  | true=>.nd (st h.fst (n / 2)) h.snd
  | false=>.nd h.fst (st h.snd (n / 2))) d
noncomputable def strk:List Nat->Sg->Sg
 | [],σ=>σ
 | t :: r,σ=>strk r (Tr.cut 8 σ t)
noncomputable def getB (h:H):List Nat->Option (List Ob)
 | []=>some []
 | n :: r=>match h.get n with
  | some o=>match getB h r with
   | some B=>some (o :: B)
   | none=>none
  | none=>none
noncomputable def getO (σ:Sg):List Nat->Option (List (Nat × AV))
 | []=>some []
 | t :: r=>match sget σ t with
  | some x=>match getO σ r with
   | some o=>some ((t,x) :: o)
   | none=>none
  | none=>none
noncomputable def chkO (σ:Sg)(e:Nat->Nat):List (Nat × AV)->Bool
 | []=>true
 | (t,x) :: r=>match sget σ t with
  | some y=>match eqA (ren e x) y with
   | true=>chkO σ e r
   | false=>false
  | none=>false
noncomputable def chkA (X:Cx)(ops:Array Oper)(σ0:Sg)(outs:List (Nat × AV))(B:List Ob):List (List Nat × List Nat)->Bool
 | []=>true
 | (o,l) :: r=>match runI X ops o σ0 ⟨.lf,0⟩ with
  | some (σ,h)=>match chkB h (emb l h.n) l B && (qa1 l && chkO σ (emb l h.n) outs) with
   | true=>chkA X ops σ0 outs B r
   | false=>false
  | none=>false
abbrev Pnd:=List (Nat × AV) × List Ob
noncomputable def fgR (X:Cx)(ops:Array Oper)(F:Fg)(σ:Sg):Option Pnd:=match F.al with
 | []=>none
 | (o,l) :: _=>match pk σ F.ts .lf with
  | none=>none
  | some σ0=>match runI X ops o σ0 ⟨.lf,0⟩ with
   | none=>none
   | some (σ1,h1)=>match getB h1 l with
    | none=>none
    | some B=>match getO σ1 F.out with
     | none=>none
     | some outs=>match chkA X ops σ0 outs B F.al with
      | true=>some (outs,B)
      | false=>none
noncomputable def putO (e:Nat->Nat):List (Nat × AV)->Sg->Sg
 | [],σ=>σ
 | (t,x) :: r,σ=>putO e r (sput σ t (ren e x))
noncomputable def lod (σ:Sg):Op->Option (TypeId × Nat × Nat)
 | .load t x=>match ev σ x with
  | some (.p (some (b,k)))=>some (t,b,k)
  | _=>none
 | _=>none
noncomputable def runD (X:Cx)(cf:q3h)(ops:Array Oper):List Pl->Option Pnd->Sg->H->Log->List H->Option (Sg × H)
 | [],_,σ,h,L,hs=>match holds L hs with
  | true=>some (σ,h)
  | false=>none
 | .p i :: r,A,σ,h,L,hs=>match ops[i]? with
  | some o=>match want ops σ o with
   | some false=>runD X cf ops r A (put o.dst un0 σ) h L hs
   | some true=>match q5c o.op with
    | true=>match lod σ o.op with
     | some (t,b,k)=>match ldA X.P h t b k with
      | some v=>runD X cf ops r A (put o.dst v σ) h ((b,k,flat v) :: L) hs
      | none=>none
     | none=>none
    | false=>match pux o.op X.P σ with
     | some v=>runD X cf ops r A (put o.dst v σ) h L hs
     | none=>none
   | none=>none
  | none=>none
 | .e i :: r,A,σ,h,L,hs=>match ops[i]? with
  | some o=>match want ops σ o with
   | some false=>runD X cf ops r A (put o.dst un0 σ) h L hs
   | some true=>match opx o.op X cf σ h with
    | some (v,h)=>match q67 ops i with
     | true=>runD X cf ops r A (put o.dst v σ) h L (h :: hs)
     | false=>runD X cf ops r A (put o.dst v σ) h L hs
    | none=>none
   | none=>none
  | none=>none
 | .b F :: r,_,σ,h,L,hs=>match fgR X ops F σ with
  | some pd=>runD X cf ops r (some pd) (strk F.ds σ) h L hs
  | none=>none
 | .g :: r,A,σ,h,L,hs=>match A with
  | some (outs,B)=>runD X cf ops r none (putO (emb (rng h.n (len B)) (h.n+len B)) outs σ) (adds h (obsR (emb (rng h.n (len B)) (h.n+len B)) B)) L hs
  | none=>none
abbrev Res:=Option (Ex × Sg × H)
abbrev CT:=Cx->Nat->q3h->(Code->Sg->H->Res)->Sg->H->Res
noncomputable def qf4 (id:Nat)(ops:Array Oper)(d:Bool):CT:=fun X g cf _ σ h=>match d with
 | false=>match runO X cf ops ops.toList σ h with
  | some (σ,h)=>some (.nor,σ,h)
  | none=>none
 | true=>match X.pl g id with
  | some pl=>match runD X cf ops pl none σ h [] [h] with
   | some (σ,h)=>some (.nor,σ,h)
   | none=>none
  | none=>none
noncomputable def eSeq (a b:Code):CT:=fun _ _ _ rc σ h=>match rc a σ h with
 | some (.nor,σ,h)=>rc b σ h
 | r=>r
noncomputable def qq2 (c:Operand)(a b:Code):CT:=fun _ _ _ rc σ h=>match ev σ c with
 | some (.b true)=>rc a σ h
 | some (.b false)=>rc b σ h
 | _=>none
noncomputable def qkn (i:Nat)(c:Code):CT:=fun _ _ _ rc σ h=>match rc c σ h with
 | some (.exit j,σ,h)=>match Jy i j with
  | true=>some (.nor,σ,h)
  | false=>some (.exit j,σ,h)
 | r=>r
noncomputable def qq3 (c:Code):CT:=fun _ _ _ rc σ h=>match rc c σ h with
 | some (.nor,σ,h)=>rc (.loop c) σ h
 | r=>r
noncomputable def bod (X:Cx)(id:Nat):Bool:=match X.fs id with
 | some fn=>match fn.body with
  | some _=>true
  | none=>false
 | none=>false
noncomputable def eRf (f:Operand)(ps:Array Tmp)(asg bd:Code):CT:=fun X g cf _ σ h=>match ev σ f with
 | some (.f id fs cs)=>match bod X id with
  | true=>match cf (.f id fs cs) [.y (h.n+1)] ((h.new .d).new (.l g σ ps.toList asg bd 0 h.n)) with
   | some (_,h')=>match h'.get h.n with
    | some .d=>match h'.get (h.n+1) with
     | some (.l _ _ _ _ _ 0 _)=>some (.nor,σ,(h'.del (h.n+1)).del h.n)
     | some (.l _ _ _ _ _ 2 _)=>some (.ret,σ,(h'.del (h.n+1)).del h.n)
     | _=>none
    | _=>none
   | none=>none
  | false=>none
 | _=>none
noncomputable def exC:Code->CT:=Code.rec (motive:=fun _=>CT) (fun _ _ _ _ σ h=>some (.nor,σ,h)) qf4 (fun a b _ _=>eSeq a b) (fun c a b _ _=>qq2 c a b) (fun i c _=>qkn i c) (fun c _=>qq3 c)
 (fun f ps a b _ _=>eRf f ps a b) (fun i _ _ _ _ σ h=>some (.exit i,σ,h)) (fun c _ _ _ _ rc σ h=>rc c σ h) (fun _ _ _ _ _ σ h=>some (.nor,σ,h)) (fun _ _ _ _ _ _ _=>none) (fun _ _ _ _ σ h=>some (.ret,σ,h)) (fun _ _ _ _ _ _ _=>none)
noncomputable def isDef:Code->Bool
 | .region _ ops _=>match ops.back? with
  | some o=>match o.op with
   | .defer _=>true
   | _=>false
  | none=>false
 | _=>false
noncomputable def defs:Code->Bool
 | .seq a r=>match isDef a with
  | true=>true
  | false=>defs r
 | _=>false
noncomputable def q8l:Code->Bool
 | .seq a b=>match q8l a with
  | true=>q8l b
  | false=>false
 | .cond _ a b=>match q8l a with
  | true=>q8l b
  | false=>false
 | .block _ c=>q8l c
 | .loop c=>q8l c
 | .scope c=>q8l c
 | .rangeFunc _ _ _ _=>false
 | _=>true
abbrev Rcs:=Option (Ex × Sg × H)
noncomputable def dpre (X:Cx)(cf:q3h)(rc:Code->Sg->H->Rcs):Code->Sg->H->Option (Option (AV × Code) × Sg × H)
 | .seq a r,σ,h=>match isDef a with
  | true=>match a with
   | .region _ ops false=>match ops.back? with
    | some ⟨d,.defer ⟨.value f,⟨[]⟩,_⟩,_,_,_,none⟩=>match runO X cf ops ops.pop.toList σ h with
     | some (σ,h)=>match ev σ f with
      | some (.f i fs cs)=>some (some (.f i fs cs,r),put d un0 σ,h)
      | _=>none
     | none=>none
    | _=>none
   | _=>none
  | false=>match q8l a with
   | true=>match rc a σ h with
    | some (.nor,σ,h)=>dpre X cf rc r σ h
    | some (.ret,σ,h)=>some (none,σ,h)
    | _=>none
   | false=>none
 | _,_,_=>none
noncomputable def runP (P:Program):List Oper->Sg->Option Sg
 | [],σ=>some σ
 | o :: r,σ=>match o.guard with
  | some _=>none
  | none=>match pux o.op P σ with
   | some v=>runP P r (put o.dst v σ)
   | none=>none
noncomputable def dfr (X:Cx)(rc:Nat->Code->Sg->H->Res)(f:AV)(h:H):Option H:=match f with
 | .f id fs cs=>match X.fs id with
  | some fn=>match fn.body with
   | some (.seq (.region _ ops false) r)=>match ops.toList with
    | ⟨d,.call ⟨.builtin .recover,⟨[]⟩,_⟩,_,_,_,none⟩ :: os=>match JI (len (app fs cs)) fn.ntmps with
     | true=>match runP X.P os (put d .ni (zipS 0 (app fs cs) .lf)) with
      | some σ=>match rc id r σ h with
       | some (.exit _,_,_)=>none
       | some (_,_,h)=>match fn.results.toList with
        | []=>some h
        | _=>none
       | none=>none
      | none=>none
     | false=>none
    | _=>none
   | _=>none
  | none=>none
 | _=>none
noncomputable def enter (X:Cx)(cf:q3h)(rc:Nat->Code->Sg->H->Res)(id:Nat)(fn:Func)(xs:List AV)(h:H):Option (AV × H):=match fn.body with
 | none=>none
 | some code=>match JI (len xs) fn.ntmps with
  | false=>none
  | true=>match (match defs code with
    | false=>match rc id code (zipS 0 xs .lf) h with
     | some (.exit _,_,_)=>none
     | some (_,σ,h)=>some (σ,h)
     | none=>none
    | true=>match dpre X cf (rc id) code (zipS 0 xs .lf) h with
     | some (none,σ,h)=>some (σ,h)
     | some (some (f,r),σ,h)=>match rc id r σ h with
      | some (.exit _,_,_)=>none
      | some (_,σ,h)=>match dfr X rc f h with
       | some h=>some (σ,h)
       | none=>none
      | none=>none
     | none=>none) with
   | some (σ,h)=>match resX X.P σ h fn.results.toList with
    | some [v]=>some (v,h)
    | some vs=>some (.tu vs,h)
    | none=>none
   | none=>none
noncomputable def stt (h:H)(l a b:Nat):Option H:=match h.get l with
 | some (.l g σ ps asg bd st d)=>match Jy st a with
  | true=>some (h.put l (.l g σ ps asg bd b d))
  | false=>none
 | _=>none
noncomputable def qq4 (X:Cx)(cf:q3h)(rc:Nat->Code->Sg->H->Res)(f:AV)(xs:List AV)(h:H):Option (AV × H):=match f with
 | .y l=>match h.get l with
  | some (.l g σ ps asg bd _ _)=>match Jy (len xs) (len ps) with
   | false=>none
   | true=>match rc g asg (zipP ps xs σ) h with
    | some (.nor,σ1,h1)=>match stt h1 l 0 1 with
     | none=>none
     | some h1=>match rc g bd σ1 h1 with
      | some (.nor,_,h2)=>match stt h2 l 1 0 with
       | some h2=>some (.b true,h2)
       | none=>none
      | some (.ret,_,h2)=>match stt h2 l 1 2 with
       | some h2=>some (.b false,h2)
       | none=>none
      | _=>none
    | _=>none
  | _=>none
 | .f id first cap=>match X.kn id (app first (app xs cap)) h with
  | some r=>some r
  | none=>match X.fs id with
   | none=>none
   | some fn=>enter X cf rc id fn (app first (app xs cap)) h
 | _=>none
structure M where
 cf:q3h
 rc:Nat->Code->Sg->H->Res
noncomputable def ex (X:Cx)(n:Nat):M :=
 Nat.rec (motive:=fun _=>M) ⟨fun _ _ _=>none,fun _ _ _ _=>none⟩ (fun _ m=>⟨qq4 X m.cf m.rc,fun g c=>exC c X g m.cf (m.rc g)⟩) n
section
variable {α:Type}
theorem Tr.get_lf (m n:Nat):Tr.get (α:=α) .lf m n=none:=rfl
theorem Tr.get_v (k:Nat)(a:α)(m n:Nat):Tr.get (.v k a) m n=if k=m then some a else none:=by
 show(match Jy k m with | true=>some a | false=>none)=_
 by_cases h:k=m
 ·subst h; simp
 ·rw[if_neg h]
  cases hb:Jy k m with
  | true=>exact absurd (Jw hb) h
  | false=>rfl
theorem Tr.get_nd (l r:Tr α)(m n:Nat):Tr.get (.nd l r) m n=match Jy (n % 2) 0 with
 | true=>Tr.get l m (n / 2)
 | false=>Tr.get r m (n / 2):=rfl
theorem Tr.set_zero (m:Nat)(a:α)(h:Tr α)(n:Nat):Tr.set m a 0 h n=.v m a:=rfl
theorem Tr.set_succ (m:Nat)(a:α)(d:Nat)(h:Tr α)(n:Nat):Tr.set m a (d+1) h n=match Jy (n % 2) 0 with
 | true=>.nd (Tr.set m a d h.fst (n / 2)) h.snd
 | false=>.nd h.fst (Tr.set m a d h.snd (n / 2)):=rfl
theorem Tr.get_fst {h:Tr α}{m n:Nat}{x:α}(hx:Tr.get h.fst m (n / 2)=some x)(hn:Jy (n % 2) 0=true):Tr.get h m n=some x:=by
 cases h with
 | nd l r=>rw[get_nd,hn]; exact hx
 | _=>cases hx
theorem Tr.get_snd {h:Tr α}{m n:Nat}{x:α}(hx:Tr.get h.snd m (n / 2)=some x)(hn:Jy (n % 2) 0=false):Tr.get h m n=some x:=by
 cases h with
 | nd l r=>rw[get_nd,hn]; exact hx
 | _=>cases hx
theorem Tr.get_set' {k:Nat}{a:α}:∀ (d:Nat) (h:Tr α) (i m n:Nat) (x:α),(m=k->n=i)->Tr.get (Tr.set k a d h i) m n=some x->(m=k/\x=a)\/(m≠k/\Tr.get h m n=some x)
 | 0,h,i,m,n,x,_,hx=>by
  rw[set_zero,get_v] at hx
  split at hx
  ·rename_i e; cases hx; exact .inl ⟨e.symm,rfl⟩
  ·cases hx
 | d+1,h,i,m,n,x,he,hx=>by
  rw[set_succ] at hx
  have he2:m=k->n / 2=i / 2:=fun e=>by rw[he e]
  split at hx<;>rename_i hi<;>rw[get_nd] at hx<;>split at hx<;>rename_i hn
  ·rcases get_set' d h.fst _ m _ x he2 hx with h' | ⟨h1,h2⟩
   ·exact .inl h'
   ·exact .inr ⟨h1,get_fst h2 hn⟩
  ·refine .inr ⟨fun e=>?_,get_snd hx hn⟩
   rw[he e,hi] at hn; cases hn
  ·refine .inr ⟨fun e=>?_,get_fst hx hn⟩
   rw[he e,hi] at hn; cases hn
  ·rcases get_set' d h.snd _ m _ x he2 hx with h' | ⟨h1,h2⟩
   ·exact .inl h'
   ·exact .inr ⟨h1,get_snd h2 hn⟩
theorem Tr.get_set {k:Nat}{a:α}{d:Nat}{h:Tr α}{m:Nat}{x:α}(hx:Tr.get (Tr.set k a d h k) m m=some x):(m=k/\x=a)\/(m≠k/\Tr.get h m m=some x) :=
 get_set' d h k m m x (fun e=>e) hx
end
structure Nm where
 b:Nat
 o:Nat
 z:Nat
abbrev Rn:=List Nm
mutual
def VR (ρ:Rn):AV->Value->Prop
 | .i k n,v=>v=.int k n
 | .b b,v=>v=.bool b
 | .s l,v=>∃ s:ByteArray,v=.string s/\s.data.toList.map UInt8.toNat=l
 | .p none,v=>v=.pointer none
 | .p (some (b,o)),v=>∃ q,ρ[b]?=some q/\v=.pointer (some ⟨q.b,q.o+o,none⟩)
 | .sl none l c _,v=>v=.slice none 0 0/\l=0/\c=some 0
 | .sl (some (b,o)) l c z,v=>∃ (q:Nm) (c':Nat),ρ[b]?=some q/\v=.slice (some ⟨q.b,q.o+o,none⟩) l c'/\l<=c'/\(∀ k,c=some k->k=c')/\q.o+o+c'*z<=q.z/\(c=none->0<z/\q.o+o+c'*z=q.z)
 | .m none,v=>v=.map none
 | .m (some r),v=>∃ q,ρ[r]?=some q/\v=.map (some q.b)
 | .f id fs cs,v=>∃ vs bs:Array Value,v=.func (.func id) vs bs/\VRs ρ fs vs.toList/\VRs ρ cs bs.toList
 | .y l,v=>∃ q,ρ[l]?=some q/\v=.func (.yield q.b) #[] #[]
 | .nf,v=>v=.nilFunc
 | .ni,v=>v=.nilIface
 | .ag cs,v=>∃ vs:Array Value,v=.agg vs/\VRs ρ cs vs.toList
 | .tu cs,v=>∃ vs:Array Value,v=.tuple vs/\VRs ρ cs vs.toList
def VRs (ρ:Rn):List AV->List Value->Prop
 | [],l=>l=[]
 | x :: r,l=>∃ v s,l=v :: s/\VR ρ x v/\VRs ρ r s
end
theorem q0b {ρ ρ':Rn}(h:ρ <+: ρ'){b:Nat}{q:Nm}(hb:ρ[b]?=some q):ρ'[b]?=some q:=by
 obtain⟨t,rfl⟩:=h
 rw[J0 (J2.1 hb).1]
 exact hb
mutual
theorem VR.mono {ρ ρ':Rn}(h:ρ <+: ρ'):∀ {x:AV} {v:Value},VR ρ x v->VR ρ' x v
 | .i _ _,_,hv=>hv
 | .b _,_,hv=>hv
 | .s _,_,hv=>hv
 | .p none,_,hv=>hv
 | .p (some _),_,⟨q,hq,hv⟩=>⟨q,q0b h hq,hv⟩
 | .sl none _ _ _,_,hv=>hv
 | .sl (some _) _ _ _,_,⟨q,c,hq,hv⟩=>⟨q,c,q0b h hq,hv⟩
 | .m none,_,hv=>hv
 | .m (some _),_,⟨q,hq,hv⟩=>⟨q,q0b h hq,hv⟩
 | .f _ _ _,_,⟨vs,bs,hv,h1,h2⟩=>⟨vs,bs,hv,VRs.mono h h1,VRs.mono h h2⟩
 | .y _,_,⟨q,hq,hv⟩=>⟨q,q0b h hq,hv⟩
 | .nf,_,hv=>hv
 | .ni,_,hv=>hv
 | .ag _,_,⟨vs,hv,h1⟩=>⟨vs,hv,VRs.mono h h1⟩
 | .tu _,_,⟨vs,hv,h1⟩=>⟨vs,hv,VRs.mono h h1⟩
theorem VRs.mono {ρ ρ':Rn}(h:ρ <+: ρ'):∀ {x:List AV} {v:List Value},VRs ρ x v->VRs ρ' x v
 | [],_,hv=>hv
 | _ :: _,_,⟨v,s,hl,h1,h2⟩=>⟨v,s,hl,VR.mono h h1,VRs.mono h h2⟩
end
theorem VRs.length {ρ:Rn}:∀ {x:List AV} {v:List Value},VRs ρ x v->v.length=x.length
 | [],_,hv=>by subst hv; rfl
 | _ :: _,_,⟨v,s,hl,_,h2⟩=>by subst hl; simp[VRs.length h2]
theorem VRs.at {ρ:Rn}:∀ {x:List AV} {v:List Value},VRs ρ x v->∀ {i:Nat} {a:AV},x[i]?=some a->∃ u,v[i]?=some u/\VR ρ a u
 | [],_,_,i,a,h=>by simp at h
 | _ :: _,_,⟨v,s,hl,h1,h2⟩,0,a,h=>by subst hl; simp at h; subst h; exact⟨v,rfl,h1⟩
 | _ :: _,_,⟨v,s,hl,h1,h2⟩,i+1,a,h=>by subst hl; simpa using VRs.at h2 (by simpa using h)
theorem VRs.of {ρ:Rn}:∀ {x:List AV} {v:List Value},v.length=x.length->(∀ (i:Nat) (a:AV),x[i]?=some a->∃ u,v[i]?=some u/\VR ρ a u)->VRs ρ x v
 | [],v,hl,_=>(by simpa using hl:v=[])
 | a :: x,[],hl,_=>by simp at hl
 | a :: x,u :: v,hl,h=>by
  obtain⟨u',hu,hr⟩:=h 0 a rfl
  simp at hu
  subst hu
  exact⟨_,v,rfl,hr,VRs.of (by simpa using hl) fun i b hb=>by simpa using h (i+1) b (by simpa using hb)⟩
theorem VRs.append {ρ:Rn}:∀ {x:List AV} {v:List Value} {y:List AV} {u:List Value},VRs ρ x v->VRs ρ y u->VRs ρ (x++y) (v++u)
 | [],_,_,_,hv,h=>by subst hv; exact h
 | _ :: _,_,_,_,⟨v,s,hl,h1,h2⟩,h=>by subst hl; exact⟨v,_,rfl,h1,VRs.append h2 h⟩
mutual
theorem qko {ρ:Rn}:∀ {v:Value} {x:AV},cv v=some x->VR ρ x v
 | .int k n,x,h=>by simp only[cv,Option.some.injEq] at h; subst h; rfl
 | .bool b,x,h=>by simp only[cv,Option.some.injEq] at h; subst h; rfl
 | .string s,x,h=>by simp only[cv,Option.some.injEq] at h; subst h; exact⟨s,rfl,rfl⟩
 | .pointer none,x,h=>by simp only[cv,Option.some.injEq] at h; subst h; rfl
 | .pointer (some _),x,h=>by simp[cv] at h
 | .slice none l c,x,h=>by
  simp only[cv] at h
  split at h
  ·cases h; exact⟨rfl,rfl,rfl⟩
  ·cases h
 | .slice (some _) _ _,x,h=>by simp[cv] at h
 | .map none,x,h=>by simp only[cv,Option.some.injEq] at h; subst h; rfl
 | .map (some _),x,h=>by simp[cv] at h
 | .nilFunc,x,h=>by simp only[cv,Option.some.injEq] at h; subst h; rfl
 | .nilIface,x,h=>by simp only[cv,Option.some.injEq] at h; subst h; rfl
 | .agg ⟨cs⟩,x,h=>by
  simp only[cv] at h
  split at h
  ·rename_i l hl; cases h; exact⟨_,rfl,qkp hl⟩
  ·cases h
 | .tuple ⟨cs⟩,x,h=>by
  simp only[cv] at h
  split at h
  ·rename_i l hl; cases h; exact⟨_,rfl,qkp hl⟩
  ·cases h
 | .float _ _,x,h=>by simp[cv] at h
 | .complex _ _ _,x,h=>by simp[cv] at h
 | .chan _,x,h=>by simp[cv] at h
 | .func _ _ _,x,h=>by simp[cv] at h
 | .iface _ _,x,h=>by simp[cv] at h
theorem qkp {ρ:Rn}:∀ {v:List Value} {x:List AV},cvs v=some x->VRs ρ x v
 | [],x,h=>by simp only[cvs,Option.some.injEq] at h; subst h; rfl
 | v :: r,x,h=>by
  simp only[cvs] at h
  split at h
  ·rename_i y hy
   split at h
   ·rename_i ys hys; cases h; exact⟨v,r,rfl,qko hy,qkp hys⟩
   ·cases h
  ·cases h
end
def AgA (ρ:Rn)(σ:Sg)(a:Act):Prop:=∀ t x,sget σ t=some x->∃ v,a.tmps[t]?=some v/\VR ρ x v
section
variable {ρ ρ':Rn}{σ:Sg}{a:Act}
theorem AgA.mono (h:AgA ρ σ a)(hp:ρ <+: ρ'):AgA ρ' σ a:=fun t x hx=>let ⟨v,h1,h2⟩:=h t x hx; ⟨v,h1,h2.mono hp⟩
theorem AgA.ev (h:AgA ρ σ a){o:Operand}{x:AV}(hx:ev σ o=some x):VR ρ x (a.eval o):=by
 cases o with
 | tmp t =>
  obtain⟨v,h1,h2⟩:=h t x hx
  have:a.eval (.tmp t)=v:=by simp[Act.eval,h1]
  rw[this]; exact h2
 | const v=>exact qko hx
 | func f =>
  have hx:some (AV.f f [] [])=some x:=hx
  cases hx
  exact⟨#[],#[],rfl,rfl,rfl⟩
 | global g=>cases hx
theorem AgA.evs (h:AgA ρ σ a):∀ {l:List Operand} {xs:List AV},evs σ l=some xs->VRs ρ xs (l.map a.eval)
 | [],xs,hx=>by cases hx; rfl
 | o :: l,xs,hx=>by
  unfold Xe.evs at hx
  split at hx
  ·cases hx
  ·rename_i x ho
   split at hx
   ·cases hx
   ·rename_i ys hys
    cases hx
    exact⟨_,_,rfl,h.ev ho,h.evs hys⟩
theorem AgA.put (h:AgA ρ σ a){d:Option Nat}{x:AV}{v:Value}(hd:∀ t,d=some t->t<a.tmps.size)(hv:VR ρ x v):AgA ρ (put d x σ) (a.put d v):=by
 intro t y hy
 cases d with
 | none=>exact h t y hy
 | some d =>
  have hy:Tr.get (Tr.set d x 8 σ d) t t=some y:=hy
  rcases Tr.get_set hy with⟨rfl,rfl⟩ | ⟨h1,h2⟩
  ·exact⟨v,by simp[Act.put,hd t rfl],hv⟩
  ·obtain⟨u,h3,h4⟩:=h t y h2
   exact⟨u,by simp only[Act.put]; rw[Array.getElem?_setIfInBounds_ne (Ne.symm h1)]; exact h3,h4⟩
end
section
variable {α:Type}
theorem qkq:∀ {n:Nat} {l r:List α},tk n l=some r->n<=l.length/\r=l.take n
 | 0,l,r,h=>by simp[tk] at h; simp[h]
 | n+1,[],r,h=>by simp[tk] at h
 | n+1,x :: l,r,h=>by
  simp only[tk] at h
  split at h
  ·rename_i s hs
   cases h
   obtain⟨h1,h2⟩:=qkq hs
   exact⟨by simpa using h1,by simp[h2]⟩
  ·cases h
theorem qgm:∀ (n:Nat) (l:List α),drp n l=l.drop n
 | 0,l=>by simp[drp]
 | n+1,[]=>by simp[drp]
 | n+1,x :: l=>by simp[drp,qgm n l]
theorem qa2:∀ (l:List α) (n:Nat),nth l n=l[n]?
 | [],_=>by simp[nth]
 | x :: l,0=>by simp[nth]
 | x :: l,n+1=>by simp[nth,qa2 l n]
theorem q13:∀ (l:List α),len l=l.length
 | []=>rfl
 | x :: l=>by simp[len,q13 l]
theorem q4o:∀ (l m:List α),app l m=l++m
 | [],m=>rfl
 | x :: l,m=>by simp[app,q4o l m]
theorem qba:∀ {l:List α} {k:Nat} {vs r:List α},putl l k vs=some r->k+vs.length<=l.length/\r=l.take k++vs++l.drop (k+vs.length)
 | l,0,[],r,h=>by simp[putl] at h; simp[h]
 | [],0,v :: vs,r,h=>by simp[putl] at h
 | x :: l,0,v :: vs,r,h=>by
  simp only[putl] at h
  split at h
  ·rename_i s hs
   cases h
   obtain⟨h1,h2⟩:=qba hs
   simp only[Jz,Je] at h1 ⊢
   exact⟨by omega,by simp[h2]⟩
  ·cases h
 | [],k+1,vs,r,h=>by simp[putl] at h
 | x :: l,k+1,vs,r,h=>by
  simp only[putl] at h
  split at h
  ·rename_i s hs
   cases h
   obtain⟨h1,h2⟩:=qba hs
   refine⟨by simp only[Je]; omega,?_⟩
   rw[h2,show k+1+vs.length=(k+vs.length)+1 by omega]
   simp
  ·cases h
end
section
variable {P:Program}{ρ:Rn}{σ:Sg}{a:Act}
theorem qa3 {k:IntKind}{n:Int}{x:AV}(h:inr k n=some x):k.wrap n=n/\x=.i k n:=by
 unfold inr at h
 split at h
 ·rename_i hd; cases h; exact⟨of_decide_eq_true hd,rfl⟩
 ·cases h
def Pu (P:Program)(a:Act)(o:Oper)(v:Value):Prop:=∀ w,(execOp a.eval o).run P w=.ok (.value v) w
theorem VR.int {k:IntKind}{n:Int}{v:Value}(h:VR ρ (.i k n) v):v=.int k n:=h
theorem VR.bool {b:Bool}{v:Value}(h:VR ρ (.b b) v):v=.bool b:=h
theorem qod {t:TypeId}{cs:List AV}{x:AV}{vs:List Value}(h:mkA P t cs=some x)(hv:VRs ρ cs vs):∃ v,VR ρ x v/\((aggT P t=true/\v=.agg vs.toArray)\/(aggT P t=false/\vs=[v])):=by
 unfold mkA at h
 split at h
 ·rename_i ht
  cases h
  exact⟨_,⟨vs.toArray,rfl,by simpa using hv⟩,.inl ⟨ht,rfl⟩⟩
 ·rename_i ht
  split at h
  ·split at h
   ·cases h
    obtain⟨v,s,rfl,h1,h2⟩:=hv
    have h2:s=[]:=h2
    subst h2
    exact⟨v,h1,.inr ⟨ht,rfl⟩⟩
   ·cases h
  ·cases h
theorem qnm {x:AV}(h:okA x=true):flat x=[x]:=by cases x<;>first | rfl | cases h
theorem VRs.take {x:List AV}{v:List Value}(h:VRs ρ x v)(n:Nat):VRs ρ (x.take n) (v.take n) :=
 .of (by simp[h.length]) fun i b hb=>by
  rw[J6] at hb ⊢
  split at hb
  ·rename_i hi; rw[if_pos hi]; exact h.at hb
  ·cases hb
theorem VRs.drop {x:List AV}{v:List Value}(h:VRs ρ x v)(n:Nat):VRs ρ (x.drop n) (v.drop n) :=
 .of (by simp[h.length]) fun i b hb=>by
  rw[Ja] at hb ⊢
  exact h.at hb
theorem q20 {t:TypeId}{n:Nat}(h:siz P t=some n):∃ ti,P.info? t=some ti/\ti.size=n:=by
 unfold siz at h
 split at h
 ·rename_i i hi; cases h; exact⟨i,hi,rfl⟩
 ·cases h
theorem zer_eq {t:TypeId}{l:List AV}(h:zer P t=some l):∃ ti z v,P.info? t=some ti/\ti.zero=some z/\cv z=some v/\l=flat v:=by
 unfold zer at h
 split at h
 ·rename_i i hi
  split at h
  ·rename_i z hz
   split at h
   ·rename_i v hv; cases h; exact⟨i,z,v,hi,hz,hv,rfl⟩
   ·cases h
  ·cases h
 ·cases h
theorem qkr {t:TypeId}{fs:Array Field}(h:flds P t=some fs):P.underlying t=some (.struct fs):=by
 unfold flds at h
 split at h
 ·rename_i g hg; cases h; exact hg
 ·cases h
theorem qbb {x:AV}{v:Value}(h:VR ρ x v):VRs ρ (flat x) v.cells.toList:=by
 cases x with
 | ag cs=>obtain⟨vs,rfl,h⟩:=h; exact h
 | p q=>cases q with
  | none=>cases h; exact⟨_,[],rfl,rfl,rfl⟩
  | some q=>obtain⟨n,h1,rfl⟩:=h; exact⟨_,[],rfl,⟨n,h1,rfl⟩,rfl⟩
 | sl q l c z=>cases q with
  | none=>obtain⟨rfl,h⟩:=h; exact⟨_,[],rfl,⟨rfl,h⟩,rfl⟩
  | some q=>obtain⟨n,c',h1,rfl,h⟩:=h; exact⟨_,[],rfl,⟨n,c',h1,rfl,h⟩,rfl⟩
 | m q=>cases q with
  | none=>cases h; exact⟨_,[],rfl,rfl,rfl⟩
  | some q=>obtain⟨n,h1,rfl⟩:=h; exact⟨_,[],rfl,⟨n,h1,rfl⟩,rfl⟩
 | s l=>obtain⟨n,rfl,h1⟩:=h; exact⟨_,[],rfl,⟨n,rfl,h1⟩,rfl⟩
 | f i fs cs=>obtain⟨p,q,rfl,h1⟩:=h; exact⟨_,[],rfl,⟨p,q,rfl,h1⟩,rfl⟩
 | y l=>obtain⟨p,h1,rfl⟩:=h; exact⟨_,[],rfl,⟨p,h1,rfl⟩,rfl⟩
 | tu cs=>obtain⟨vs,rfl,h⟩:=h; exact⟨_,[],rfl,⟨vs,rfl,h⟩,rfl⟩
 | _=>cases h; exact⟨_,[],rfl,rfl,rfl⟩
theorem qnn {o:Oper}{x:Operand}{y:AV}(ho:o.op=.move x)(h:qpx x P σ=some y)(ha:AgA ρ σ a):∃ v,VR ρ y v/\Pu P a o v :=
 ⟨_,ha.ev h,fun w=>by simp[execOp,ho]⟩
theorem qhs {o:Oper}{x:Operand}{y:AV}(ho:o.op=.assign x)(h:qf1 x P σ=some y)(ha:AgA ρ σ a):∃ v,VR ρ y v/\Pu P a o v :=
 ⟨_,ha.ev h,fun w=>by simp[execOp,ho]⟩
theorem qno {o:Oper}{c x z:Operand}{y:AV}(ho:o.op=.pick c x z)(h:qni c x z P σ=some y)(ha:AgA ρ σ a):∃ v,VR ρ y v/\Pu P a o v:=by
 unfold qni at h
 split at h
 ·rename_i hc
  exact⟨_,ha.ev h,fun w=>by simp[execOp,ho,(ha.ev hc).bool,asBool]⟩
 ·rename_i hc
  exact⟨_,ha.ev h,fun w=>by simp[execOp,ho,(ha.ev hc).bool,asBool]⟩
 ·cases h
theorem q3i (b o k:Nat):(⟨b,o,none⟩:Addr).add k=⟨b,o+k,none⟩:=by
 unfold Addr.add
 split
 ·rename_i h; subst h; rfl
 ·rfl
theorem qbc {o:Oper}{t:TypeId}{x:Operand}{i:Nat}{y:AV}(ho:o.op=.fieldAddr t x i)(h:q4h t x i P σ=some y)(ha:AgA ρ σ a):∃ v,VR ρ y v/\Pu P a o v:=by
 unfold q4h at h
 split at h
 ·rename_i b k hx
  split at h
  ·rename_i fs hfs
   split at h
   ·rename_i f hf
    split at h
    ·rename_i n hn
     cases h
     obtain⟨q,hq,hv⟩:=ha.ev hx
     obtain⟨ti,hti,hsz⟩:=q20 hn
     refine⟨_,⟨q,hq,rfl⟩,fun w=>?_⟩
     simp[execOp,ho,Instr.fieldAt,run_underlying (qkr hfs),hv,hf,Instr.sureAddr,fieldPlace,q06 hti,hsz,q3i,JE]
    ·cases h
   ·cases h
  ·cases h
 ·cases h
theorem qks {t:TypeId}{n k:Nat}{cs l:List AV}{x:AV}{vs:List Value}(hv:VRs ρ cs vs)(hs:siz P t=some n)(hl:tk n (drp k cs)=some l)(hx:mkA P t l=some x)(hu:∃ d,P.underlying t=some d) :
  ∃ v,VR ρ x v/\∀ w,(part t vs.toArray k).run P w=.ok v w:=by
 obtain⟨ti,hti,hsz⟩:=q20 hs
 obtain⟨d,hd⟩:=hu
 rw[qgm] at hl
 obtain⟨hlen,rfl⟩:=qkq hl
 obtain⟨v,hr,hc⟩:=qod hx ((hv.drop k).take n)
 refine⟨v,hr,fun w=>?_⟩
 rcases hc with⟨ht,rfl⟩ | ⟨ht,hc⟩
 ·simp[part,q27 hd,ht,q06 hti,hsz,Jg]
 ·have hat:vs[k]?=some v:=by
   have:((vs.drop k).take n)[0]?=some v:=by rw[hc]; rfl
   rw[J6] at this
   split at this
   ·simpa using this
   ·cases this
  simp[part,q27 hd,ht,hat]
theorem qkt {o:Oper}{t:TypeId}{x:Operand}{i:Nat}{y:AV}(ho:o.op=.field t x i)(h:qgh t x i P σ=some y)(ha:AgA ρ σ a):∃ v,VR ρ y v/\Pu P a o v:=by
 unfold qgh at h
 split at h
 ·rename_i cs hx
  split at h
  ·rename_i fs hfs
   split at h
   ·rename_i f hf
    split at h
    ·rename_i d hd
     split at h
     ·rename_i n hn
      split at h
      ·rename_i l hl
       obtain⟨vs,hv,hr⟩:=ha.ev hx
       obtain⟨v,h1,h2⟩:=qks hr hn hl h ⟨d,hd⟩
       refine⟨v,h1,fun w=>?_⟩
       have:=h2 w
       simp only[JV] at this
       simp[execOp,ho,Instr.field,run_underlying (qkr hfs),hv,hf,asAgg,this]
      ·cases h
     ·cases h
    ·cases h
   ·cases h
  ·cases h
 ·cases h
theorem qdc {o:Oper}{x:Operand}{y:AV}(ho:o.op=.nilCheck x)(h:q5z x P σ=some y)(ha:AgA ρ σ a):∃ v,VR ρ y v/\Pu P a o v:=by
 unfold q5z at h
 split at h
 ·rename_i q hx
  cases h
  obtain⟨n,hn,hv⟩:=ha.ev hx
  exact⟨_,⟨n,hn,rfl⟩,fun w=>by simp[execOp,ho,hv]⟩
 ·rename_i g fs cs hx
  cases h
  obtain⟨p,q,hv,hr⟩:=ha.ev hx
  exact⟨_,⟨p,q,rfl,hr⟩,fun w=>by simp[execOp,ho,hv]⟩
 ·rename_i l hx
  cases h
  obtain⟨n,hn,hv⟩:=ha.ev hx
  exact⟨_,⟨n,hn,rfl⟩,fun w=>by simp[execOp,ho,hv]⟩
 ·cases h
theorem qf5 {o:Oper}{x:Operand}{i:Nat}{y:AV}(ho:o.op=.extract x i)(h:q7b x i P σ=some y)(ha:AgA ρ σ a):∃ v,VR ρ y v/\Pu P a o v:=by
 unfold q7b at h
 split at h
 ·rename_i vs hx
  rw[qa2] at h
  obtain⟨us,hv,hr⟩:=ha.ev hx
  obtain⟨v,h1,h2⟩:=hr.at h
  have h1:us[i]?=some v:=by simpa using h1
  exact⟨v,h2,fun w=>by simp[execOp,ho,hv,Instr.extract,h1]⟩
 ·cases h
theorem qnp {o:Oper}{op:UnOp}{t:TypeId}{x:Operand}{y:AV}(ho:o.op=.unOp op t x)(h:qnj op t x P σ=some y)(ha:AgA ρ σ a):∃ v,VR ρ y v/\Pu P a o v:=by
 unfold qnj at h
 split at h
 ·rename_i k n hx
  split at h
  ·obtain⟨hw,rfl⟩:=qa3 h
   refine⟨_,rfl,fun w=>?_⟩
   simp[execOp,ho,(ha.ev hx).int,Op.unary,Op.intArith,hw]
  ·cases h
 ·rename_i b hx
  split at h
  ·cases h
   exact⟨_,rfl,fun w=>by simp[execOp,ho,(ha.ev hx).bool,Op.unary]⟩
  ·cases h
 ·cases h
theorem qdd {o:Oper}{g:Fn}{f c:Array Operand}{y:AV}(ho:o.op=.makeFunc g f c)(h:q60 g f c P σ=some y)(ha:AgA ρ σ a):∃ v,VR ρ y v/\Pu P a o v:=by
 unfold q60 at h
 split at h
 ·rename_i id
  split at h
  ·rename_i fs hfs
   split at h
   ·rename_i cs hcs
    cases h
    refine⟨_,⟨f.map a.eval,c.map a.eval,rfl,?_,?_⟩,fun w=>by simp[execOp,ho,Instr.makeFunc]⟩
    ·simpa using ha.evs hfs
    ·simpa using ha.evs hcs
   ·cases h
  ·cases h
 ·cases h
end
section
variable {P:Program}{ρ:Rn}{σ:Sg}{a:Act}
mutual
theorem qde:∀ {x:AV} {u v:Value},toV x=some u->VR ρ x v->v=u
 | .i _ _,u,v,h,hv=>by simp only[toV,Option.some.injEq] at h; subst h; exact hv
 | .b _,u,v,h,hv=>by simp only[toV,Option.some.injEq] at h; subst h; exact hv
 | .ni,u,v,h,hv=>by simp only[toV,Option.some.injEq] at h; subst h; exact hv
 | .p none,u,v,h,hv=>by simp only[toV,Option.some.injEq] at h; subst h; exact hv
 | .p (some _),u,v,h,hv=>by simp[toV] at h
 | .sl none _ _ _,u,v,h,hv=>by simp only[toV,Option.some.injEq] at h; subst h; exact hv.1
 | .sl (some _) _ _ _,u,v,h,hv=>by simp[toV] at h
 | .m none,u,v,h,hv=>by simp only[toV,Option.some.injEq] at h; subst h; exact hv
 | .m (some _),u,v,h,hv=>by simp[toV] at h
 | .ag cs,u,v,h,hv=>by
  simp only[toV] at h
  split at h
  ·rename_i l hl
   cases h
   obtain⟨vs,rfl,hv⟩:=hv
   rw[← qku hl hv]
  ·cases h
 | .s _,u,v,h,hv=>by simp[toV] at h
 | .f _ _ _,u,v,h,hv=>by simp[toV] at h
 | .y _,u,v,h,hv=>by simp[toV] at h
 | .nf,u,v,h,hv=>by simp[toV] at h
 | .tu _,u,v,h,hv=>by simp[toV] at h
theorem qku:∀ {x:List AV} {u v:List Value},toVs x=some u->VRs ρ x v->v=u
 | [],u,v,h,hv=>by simp only[toVs,Option.some.injEq] at h; subst h; exact hv
 | x :: r,u,v,h,hv=>by
  simp only[toVs] at h
  split at h
  ·rename_i y hy
   split at h
   ·rename_i l hl
    cases h
    obtain⟨w,s,rfl,h1,h2⟩:=hv
    rw[qde hy h1,qku hl h2]
   ·cases h
  ·cases h
end
def Bi (P:Program)(op:BinOp)(t:TypeId)(X Y:Operand)(u v r:Value):Prop:=∀ w,(do eqGuard op t X Y u v; binOp op t u v:Sem Value).run P w=.ok r w
theorem bi_int {op:BinOp}{t:TypeId}{X Y:Operand}{k:IntKind}{m n:Int}{y:AV}(h:binI op k m n=some y)(hs:op≠.shl/\op≠.shr):∃ r,VR ρ y r/\Bi P op t X Y (.int k m) (.int k n) r:=by
 have hg:∀ w,(eqGuard op t X Y (.int k m) (.int k n)).run P w=.ok () w:=fun w=>q0p op t X Y _ _ (by simp) (by simp)
 unfold binI at h
 split at h
 case h_1=>obtain⟨hw,rfl⟩:=qa3 h; exact⟨_,rfl,fun w=>by simp[hg,binOp,Op.intArith,hw]⟩
 case h_2=>obtain⟨hw,rfl⟩:=qa3 h; exact⟨_,rfl,fun w=>by simp[hg,binOp,Op.intArith,hw]⟩
 case h_3=>obtain⟨hw,rfl⟩:=qa3 h; exact⟨_,rfl,fun w=>by simp[hg,binOp,Op.intArith,hw]⟩
 case h_4 =>
  split at h
  ·cases h
  ·rename_i hb
   obtain⟨hw,rfl⟩:=qa3 h
   exact⟨_,rfl,fun w=>by simp[hg,binOp,Op.intDiv,hw,of_decide_eq_false hb]⟩
 case h_5 =>
  split at h
  ·cases h
  ·rename_i hb
   cases h
   exact⟨_,rfl,fun w=>by simp[hg,binOp,Op.intDiv,of_decide_eq_false hb]⟩
 case h_12=>exact absurd rfl hs.1
 case h_13=>exact absurd rfl hs.2
 case h_14=>cases h
 all_goals (cases h; exact⟨_,rfl,fun w=>by simp[hg,binOp,Op.intCmp]⟩)
theorem qgn {op:BinOp}{t:TypeId}{X Y:Operand}{k k':IntKind}{m n:Int}{y:AV}(h:binI op k m n=some y)(hs:op=.shl\/op=.shr):∃ r,VR ρ y r/\Bi P op t X Y (.int k m) (.int k' n) r:=by
 have hg:∀ w,(eqGuard op t X Y (.int k m) (.int k' n)).run P w=.ok () w:=fun w=>q0p op t X Y _ _ (by simp) (by simp)
 rcases hs with rfl | rfl<;>simp only[binI] at h<;>split at h
 ·rename_i hb
  cases h
  have:¬n<0:=by have:=of_decide_eq_true hb; omega
  exact⟨_,rfl,fun w=>by simp[hg,binOp,Op.shift,this]⟩
 ·cases h
 ·rename_i hb
  cases h
  have:¬n<0:=by have:=of_decide_eq_true hb; omega
  exact⟨_,rfl,fun w=>by simp[hg,binOp,Op.shift,this]⟩
 ·cases h
theorem qbd {s u:ByteArray}:s.data.toList.map UInt8.toNat=u.data.toList.map UInt8.toNat ↔ s=u:=by
 constructor
 ·intro h
  have h2:s.data.toList=u.data.toList:=by
   generalize s.data.toList=a at h
   generalize u.data.toList=b at h
   induction a generalizing b with
   | nil=>cases b with
    | nil=>rfl
    | cons y b=>simp at h
   | cons x a ih=>cases b with
    | nil=>simp at h
    | cons y b =>
     simp only[Jj,List.cons.injEq] at h
     rw[UInt8.toNat_inj.1 h.1,ih b h.2]
  cases s; cases u
  simp only[ByteArray.mk.injEq]
  exact JR.1 h2
 ·intro h; rw[h]
theorem bi_str {op:BinOp}{t:TypeId}{X Y:Operand}{l m:List Nat}{s u:ByteArray}{y:AV}(hs:s.data.toList.map UInt8.toNat=l)(hu:u.data.toList.map UInt8.toNat=m)
  (h:(match op with
   | .add=>match JH (len l+len m) 4294967296 with
    | true=>some (.s (app l m))
    | false=>none
   | .eql=>some (.b (l == m))
   | .neq=>some (.b (!(l == m)))
   | _=>none)=some y):∃ r,VR ρ y r/\Bi P op t X Y (.string s) (.string u) r:=by
 have hg:∀ w,(eqGuard op t X Y (.string s) (.string u)).run P w=.ok () w:=fun w=>q0p op t X Y _ _ (by simp) (by simp)
 have he:(s.toList == u.toList)=(l == m):=by
  rw[q96,JN]
  simp only[decide_eq_true_eq,beq_iff_eq]
  rw[← hs,← hu]
  exact qbd.symm
 have hl:s.size=l.length:=by show s.data.size=_; rw[← hs,J4,JQ]
 have hm:u.size=m.length:=by show u.data.size=_; rw[← hu,J4,JQ]
 split at h
 ·split at h
  ·rename_i hb
   cases h
   have hb:len l+len m<4294967296:=by simpa [Nat.blt_eq] using hb
   rw[q13,q13] at hb
   refine⟨_,⟨s++u,rfl,?_⟩,fun w=>?_⟩
   ·rw[q4o,← hs,← hu,← List.map_append]; simp
   ·simp[hg,binOp,Op.stringOp]
    omega
  ·cases h
 ·cases h
  exact⟨_,rfl,fun w=>by simp[hg,binOp,Op.stringOp,he]⟩
 ·cases h
  exact⟨_,rfl,fun w=>by simp[hg,binOp,Op.stringOp,he]⟩
 ·cases h
theorem qq5 {op:BinOp}{t:TypeId}{X Y:Operand}{u v:Value}{b:Bool}{y:AV}(hd:∀ d w,(Op.equalIn (d+1) t u v).run P w=.ok b w)(hu:(∃ p l c,u=.slice p l c)\/∃ p,u=.pointer p)(hv:(∃ p l c,v=.slice p l c)\/∃ p,v=.pointer p)
  (h:(match op with
   | .eql=>some (.b b)
   | .neq=>some (.b (!b))
   | _=>none)=some y):∃ r,VR ρ y r/\Bi P op t X Y u v r:=by
 have hg:∀ w,(eqGuard op t X Y u v).run P w=.ok () w:=fun w=>by
  rcases hu with⟨p,l,c,rfl⟩ | ⟨p,rfl⟩<;>exact q0p op t X Y _ _ (by simp) (by simp)
 have hq:∀ w,(Op.equal t u v).run P w=.ok b w:=hd 9999
 split at h
 ·cases h
  refine⟨_,rfl,fun w=>?_⟩
  rcases hu with⟨p,l,c,rfl⟩ | ⟨p,rfl⟩<;>rcases hv with⟨p',l',c',rfl⟩ | ⟨p',rfl⟩<;>simp[hg,binOp,hq]
 ·cases h
  refine⟨_,rfl,fun w=>?_⟩
  rcases hu with⟨p,l,c,rfl⟩ | ⟨p,rfl⟩<;>rcases hv with⟨p',l',c',rfl⟩ | ⟨p',rfl⟩<;>simp[hg,binOp,hq]
 ·cases h
theorem q7c:∀ {fs:List Field} {i:Nat} {xs ys:List AV} {us vs:List Value} {r:Bool},q8k P fs i xs ys=some r->VRs ρ xs us->VRs ρ ys vs->eqFs P fs i us vs=some r
 | [],i,[],[],us,vs,r,h,hu,hv=>by cases hu; cases hv; simp only[q8k,Option.some.injEq] at h; simp[eqFs,h]
 | f :: fs,i,x :: xs,y :: ys,us,vs,r,h,hu,hv=>by
  obtain⟨u,us',rfl,hu1,hu2⟩:=hu
  obtain⟨v,vs',rfl,hv1,hv2⟩:=hv
  unfold q8k at h
  unfold eqFs
  split at h
  case h_2=>cases h
  rename_i hf
  simp only[hf]
  split at h
  ·rename_i hT
   split at h
   case h_2=>cases h
   split at h
   case h_2=>cases h
   rename_i hk
   split at h
   case h_2=>cases h
   rename_i r' hr'
   rw[hu1.int,hv1.int,hT]
   simp only[hk,q7c hr' hu2 hv2]
   exact h
  ·rename_i hT
   split at h
   case h_2=>cases h
   split at h
   case h_2=>cases h
   rename_i r' hr'
   rw[hu1.bool,hv1.bool,hT]
   simp only[q7c hr' hu2 hv2]
   exact h
  ·rename_i hT
   split at h
   case h_2=>cases h
   split at h
   case h_2=>cases h
   rename_i a b r' hr'
   obtain⟨s,rfl,hs⟩:=hu1
   obtain⟨t,rfl,ht⟩:=hv1
   rw[hT]
   simp only[q7c hr' hu2 hv2]
   rw[← h,← hs,← ht]
   congr 2
   by_cases he:s=t
   ·subst he; simp
   ·have:¬(s.data.toList.map UInt8.toNat=t.data.toList.map UInt8.toNat):=fun e=>he (qbd.1 e)
    simp[he,this]
  ·cases h
 | [],_,_ :: _,_,_,_,_,h,_,_=>by simp[q8k] at h
 | [],_,[],_ :: _,_,_,_,h,_,_=>by simp[q8k] at h
 | _ :: _,_,[],_,_,_,_,h,_,_=>by simp[q8k] at h
 | _ :: _,_,_ :: _,[],_,_,_,h,_,_=>by simp[q8k] at h
theorem qkv {o:Oper}{op:BinOp}{t yt:TypeId}{X Y:Operand}{y:AV}(ho:o.op=.binOp op t X Y yt)(h:qgj op t X Y yt P σ=some y)(ha:AgA ρ σ a):∃ v,VR ρ y v/\Pu P a o v:=by
 have key:∀ r,Bi P op t X Y (a.eval X) (a.eval Y) r->Pu P a o r:=fun r hr w=>by
  have:=hr w
  simp only[execOp,ho]
  simp only[Sem.run_bind] at this ⊢
  generalize (eqGuard op t X Y (a.eval X) (a.eval Y)).run P w=q at this ⊢
  cases q with
  | ok u w' =>
   simp only[Result.andThen_ok] at this ⊢
   rw[this]
   rfl
  | halt c w'=>cases this
 unfold qgj at h
 split at h
 case h_2=>cases h
 rename_i x hx
 split at h
 case h_2=>cases h
 rename_i z hz
 have rx:=ha.ev hx
 have rz:=ha.ev hz
 unfold bin at h
 split at h
 ·rename_i v hv
  cases h
  split at hv
  ·rename_i k m k' n
   rw[rx.int,rz.int] at key
   split at hv
   ·obtain⟨r,h1,h2⟩:=qgn (k':=k') hv (.inl rfl); exact⟨r,h1,key r h2⟩
   ·obtain⟨r,h1,h2⟩:=qgn (k':=k') hv (.inr rfl); exact⟨r,h1,key r h2⟩
   ·rename_i h1 h2
    split at hv
    ·rename_i hk
     have hk:=of_decide_eq_true hk
     subst hk
     obtain⟨r,h1,h2⟩:=bi_int hv ⟨h1,h2⟩; exact⟨r,h1,key r h2⟩
    ·cases hv
  ·obtain⟨s,es,hs⟩:=rx
   obtain⟨u,eu,hu⟩:=rz
   rw[es,eu] at key
   obtain⟨r,h1,h2⟩:=bi_str hs hu hv
   exact⟨r,h1,key r h2⟩
  ·obtain⟨n,c1,hn,ex,-⟩:=rx
   obtain⟨ez,-⟩:=rz
   rw[ex,ez] at key
   split at hv
   ·rename_i e hu
    have hd:∀ (q:Addr) (l c d:Nat) w,(Op.equalIn (d+1) t (.slice (some q) l c) (.slice none 0 0)).run P w=.ok false w:=fun q l c d w=>by simp[Op.equalIn,run_underlying hu]
    obtain⟨r,h1,h2⟩:=qq5 (ρ:=ρ) (X:=X) (Y:=Y) (hd _ _ _) (.inl ⟨_,_,_,rfl⟩) (.inl ⟨_,_,_,rfl⟩) hv
    exact⟨r,h1,key r h2⟩
   ·cases hv
  ·obtain⟨n,hn,ex⟩:=rx
   have ez:a.eval Y=.map none:=rz
   rw[ex,ez] at key
   split at hv
   ·rename_i kt et hu
    have hg:∀ w,(eqGuard op t X Y (.map (some n.b)) (.map none)).run P w=.ok () w:=fun w=>q0p op t X Y _ _ (by simp) (by simp)
    have hd:∀ (d:Nat) w,(Op.equalIn (d+1) t (.map (some n.b)) (.map none)).run P w=.ok false w:=fun d w=>by simp[Op.equalIn,run_underlying hu]
    have hq:∀ w,(Op.equal t (.map (some n.b)) (.map none)).run P w=.ok false w:=hd 9999
    split at hv
    ·cases hv; exact⟨_,rfl,key _ fun w=>by simp[hg,binOp,hq]⟩
    ·cases hv; exact⟨_,rfl,key _ fun w=>by simp[hg,binOp,hq]⟩
    ·cases hv
   ·cases hv
  ·obtain⟨n,hn,ex⟩:=rx
   have ez:a.eval Y=.pointer none:=rz
   rw[ex,ez] at key
   split at hv
   ·rename_i e hu
    have hd:∀ (q:Addr) (d:Nat) w,(Op.equalIn (d+1) t (.pointer (some q)) (.pointer none)).run P w=.ok false w:=fun q d w=>by simp[Op.equalIn,run_underlying hu]
    obtain⟨r,h1,h2⟩:=qq5 (ρ:=ρ) (X:=X) (Y:=Y) (hd _) (.inr ⟨_,rfl⟩) (.inr ⟨_,rfl⟩) hv
    exact⟨r,h1,key r h2⟩
   ·cases hv
  ·obtain⟨n,hn,ex⟩:=rx
   obtain⟨n',hn',ez⟩:=rz
   split at hv
   ·rename_i e hu
    split at hv
    ·rename_i m hm
     obtain⟨ti,hti,hsz⟩:=q20 hm
     split at hv
     ·rename_i hb
      have hb:=eq_of_beq hb
      cases hb
      rw[hn] at hn'
      cases hn'
      rw[ex,ez] at key
      have hd:∀ (q:Addr) (d:Nat) w,(Op.equalIn (d+1) t (.pointer (some q)) (.pointer (some q))).run P w=.ok true w:=fun q d w=>by simp[Op.equalIn,run_underlying hu,q06 hti,hsz,sameAddr]
      obtain⟨r,h1,h2⟩:=qq5 (ρ:=ρ) (X:=X) (Y:=Y) (hd _) (.inr ⟨_,rfl⟩) (.inr ⟨_,rfl⟩) hv
      exact⟨r,h1,key r h2⟩
     ·cases hv
    ·cases hv
   ·cases hv
  ·obtain⟨us,ex,hus⟩:=rx
   obtain⟨vs,ez,hvs⟩:=rz
   rw[ex,ez] at key
   split at hv
   ·rename_i r hr
    unfold eqAgA at hr
    split at hr
    case h_2=>cases hr
    rename_i fs hfs
    split at hr
    case h_2=>cases hr
    rename_i hcd
    have hr':eqAg P t us.toList vs.toList=some r:=by
     unfold eqAg
     rw[hfs]
     simp only[hcd]
     show(match eqFs P _ _ _ _ with | some r=>some r | none=>eqFd P _ _ _ _)=_
     rw[q7c hr hus hvs]
    split at hv
    ·cases hv
     exact⟨_,rfl,key _ fun w=>by
      obtain⟨h1,h2⟩:=q64 hr' .eql X Y w
      simp[h1,binOp,h2]⟩
    ·cases hv
     exact⟨_,rfl,key _ fun w=>by
      obtain⟨h1,h2⟩:=q64 hr' .neq X Y w
      simp[h1,binOp,h2]⟩
    ·cases hv
   ·cases hv
  ·cases hv
 ·split at h
  ·rename_i u hu
   split at h
   ·rename_i v hv
    rw[qde hu rx,qde hv rz] at key
    split at h
    ·rename_i r hr
     refine⟨r,qko h,fun w=>?_⟩
     have:=q4r _ hr w
     simp only[execOp,ho,qde hu rx,qde hv rz]
     simpa using this
    ·cases h
   ·cases h
  ·cases h
end
section
variable {P:Program}{ρ:Rn}{σ:Sg}{a:Act}
theorem blt_eq {m n:Nat}(h:JH m n=true):m<n:=by simpa [Nat.blt_eq] using h
theorem qbe {o:Oper}{t:TypeId}{x i:Operand}{y:AV}(ho:o.op=.indexAddr t x i)(h:q4i t x i P σ=some y)(ha:AgA ρ σ a):∃ v,VR ρ y v/\Pu P a o v:=by
 unfold q4i at h
 split at h
 ·rename_i b k l c z hx
  split at h
  ·rename_i kk j hj
   split at h
   ·rename_i e hu
    split at h
    ·rename_i sz hs
     split at h
     ·rename_i hb
      cases h
      simp only[JM,decide_eq_true_eq] at hb
      obtain⟨q,c',hq,hv,-⟩:=ha.ev hx
      obtain⟨ti,hti,hsz⟩:=q20 hs
      have h2:=blt_eq hb.2
      have:0<=j/\j<l:=⟨hb.1,by omega⟩
      refine⟨_,⟨q,hq,rfl⟩,fun w=>?_⟩
      simp[execOp,ho,Instr.indexAt,hv,(ha.ev hj).int,asIntOf,run_underlying hu,this,q06 hti,hsz,q3i,JE]
     ·cases h
    ·cases h
   ·cases h
  ·cases h
 ·rename_i b k hx
  split at h
  ·rename_i kk j hj
   split at h
   ·rename_i n e hu
    split at h
    ·rename_i sz hs
     split at h
     ·rename_i hb
      cases h
      simp only[JM,decide_eq_true_eq] at hb
      obtain⟨q,hq,hv⟩:=ha.ev hx
      obtain⟨ti,hti,hsz⟩:=q20 hs
      have h2:=blt_eq hb.2
      have:0<=j/\j<n:=⟨hb.1,by omega⟩
      refine⟨_,⟨q,hq,rfl⟩,fun w=>?_⟩
      simp[execOp,ho,Instr.indexAt,hv,(ha.ev hj).int,asIntOf,run_underlying hu,this,q06 hti,hsz,q3i,JE,Instr.sureAddr]
     ·cases h
    ·cases h
   ·cases h
  ·cases h
 ·cases h
theorem str_at {s:ByteArray}{l:List Nat}(hs:s.data.toList.map UInt8.toNat=l){j n:Nat}(h:l[j]?=some n):∃ b:UInt8,s[j]?=some b/\b.toNat=n:=by
 rw[← hs,Jh] at h
 cases hb:s.data.toList[j]? with
 | none=>rw[hb] at h; cases h
 | some b =>
  rw[hb] at h
  cases h
  refine⟨b,?_,rfl⟩
  rw[JS] at hb
  obtain⟨hlt,e⟩:=JW.1 hb
  have hlt':j<s.size:=hlt
  rw[getElem?_pos s j hlt']
  exact congrArg some e
theorem qkw {o:Oper}{t:TypeId}{x i:Operand}{y:AV}(ho:o.op=.index t x i)(h:qgi t x i P σ=some y)(ha:AgA ρ σ a):∃ v,VR ρ y v/\Pu P a o v:=by
 unfold qgi at h
 split at h
 ·rename_i l hx
  split at h
  ·rename_i kk j hj
   split at h
   ·rename_i hu
    split at h
    ·rename_i hb
     have hb:=of_decide_eq_true hb
     split at h
     ·rename_i n hn
      cases h
      rw[qa2] at hn
      obtain⟨s,hv,hs⟩:=ha.ev hx
      obtain⟨b,h1,h2⟩:=str_at hs hn
      refine⟨_,rfl,fun w=>?_⟩
      simp[execOp,ho,Instr.index,hv,(ha.ev hj).int,asIntOf,run_underlying hu,hb,h1,h2]
     ·cases h
    ·cases h
   ·cases h
  ·cases h
 ·rename_i cs hx
  split at h
  ·rename_i kk j hj
   split at h
   ·rename_i n e hu
    split at h
    ·rename_i d hd
     split at h
     ·rename_i sz hs
      split at h
      ·rename_i hb
       simp only[JM,decide_eq_true_eq] at hb
       split at h
       ·rename_i l hl
        obtain⟨vs,hv,hr⟩:=ha.ev hx
        obtain⟨ti,hti,hsz⟩:=q20 hs
        obtain⟨v,h1,h2⟩:=qks hr hs hl h ⟨d,hd⟩
        have h3:=blt_eq hb.2
        have:0<=j/\j<n:=⟨hb.1,by omega⟩
        refine⟨v,h1,fun w=>?_⟩
        have:=h2 w
        simp only[JV] at this
        simp[execOp,ho,Instr.index,hv,(ha.ev hj).int,asIntOf,run_underlying hu, *,q06 hti]
       ·cases h
      ·cases h
     ·cases h
    ·cases h
   ·cases h
  ·cases h
 ·cases h
theorem qq6 {o:Oper}{c:Call}{y:AV}(ho:o.op=.call c)(hc:c.callee=.builtin .len)(h:pLen c.args c.argTypes P σ=some y)(ha:AgA ρ σ a):∃ v,VR ρ y v/\Pu P a o v:=by
 unfold pLen at h
 split at h
 ·rename_i l hx
  split at h
  ·rename_i hu
   cases h
   obtain⟨v,s,hl,⟨u,hv,hs⟩,hr⟩:=ha.evs hx
   have hr:s=[]:=hr
   subst hr
   unfold und0 at hu
   split at hu
   ·rename_i t ht
    refine⟨_,rfl,fun w=>?_⟩
    have hargs:c.args.map a.eval=#[.string u]:=by
     apply JR.1
     rw[JT,hl,hv]
    have:(u.size:Int)=len l:=by rw[q13,← hs,J4,JQ]; rfl
    simp[execOp,ho,resolve,hc,hargs,invoke,builtin,Builtin.len_,ht,run_underlying hu,goInt,this]
   ·cases hu
  ·cases h
 ·rename_i p l cc z hx
  split at h
  ·rename_i e hu
   cases h
   obtain⟨v,s,hl,hv,hr⟩:=ha.evs hx
   have hr:s=[]:=hr
   subst hr
   unfold und0 at hu
   split at hu
   ·rename_i t ht
    obtain⟨q,c',hv⟩:∃ q c',v=.slice q l c':=by
     cases p with
     | none=>exact⟨none,0,by rw[hv.1,hv.2.1]⟩
     | some p=>obtain⟨q,c',-,hv,-⟩:=hv; exact⟨_,_,hv⟩
    refine⟨_,rfl,fun w=>?_⟩
    have hargs:c.args.map a.eval=#[.slice q l c']:=by
     apply JR.1
     rw[JT,hl,hv]
    simp[execOp,ho,resolve,hc,hargs,invoke,builtin,Builtin.len_,ht,run_underlying hu,goInt]
   ·cases hu
  ·cases h
 ·cases h
end
section
variable {P:Program}{ρ:Rn}{σ:Sg}{a:Act}
theorem qnq (vs:List Value):∀ (k:Nat) (off:Nat) (cs:Array Value),off+k+vs.length<=cs.size ->
  ((vs.zipIdx k).foldl (fun cs (x:Value × Nat)=>cs.setIfInBounds (off+x.2) x.1) cs).toList=cs.toList.take (off+k)++vs++cs.toList.drop (off+k+vs.length):=by
 induction vs with
 | nil=>intro k off cs _; simp
 | cons v vs ih =>
  intro k off cs h
  simp only[Je] at h
  simp only[List.zipIdx_cons,Jr]
  rw[ih (k+1) off _ (by simp; omega)]
  have hs:(cs.setIfInBounds (off+k) v).toList=cs.toList.set (off+k) v:=by simp
  rw[hs]
  have hlt:off+k<cs.toList.length:=by simp; omega
  rw[List.set_eq_take_append_cons_drop,if_pos hlt]
  have e1:(cs.toList.take (off+k)++v :: cs.toList.drop (off+k+1)).take (off+(k+1))=cs.toList.take (off+k)++[v]:=by
   rw[List.take_append,Jo,JG (JJ hlt),show off+(k+1)-(off+k)=1 by omega,List.take_of_length_le (by simp; omega)]
   simp
  have e2:(cs.toList.take (off+k)++v :: cs.toList.drop (off+k+1)).drop (off+(k+1)+vs.length)=cs.toList.drop (off+k+(vs.length+1)):=by
   rw[List.drop_append,Jo,JG (JJ hlt),List.drop_of_length_le (by simp; omega),show off+(k+1)+vs.length-(off+k)=vs.length+1 by omega]
   simp only[Js,List.drop_succ_cons,List.drop_drop]
   congr 1
   omega
  rw[e1,e2]
  simp
theorem VRs.put {x y r:List AV}{u v:List Value}{k:Nat}(hx:VRs ρ x u)(hy:VRs ρ y v)(h:putl x k y=some r):k+v.length<=u.length/\VRs ρ r (u.take k++v++u.drop (k+v.length)):=by
 obtain⟨h1,rfl⟩:=qba h
 have e1:=hx.length
 have e2:=hy.length
 exact⟨by omega,by rw[e2]; exact((hx.take k).append hy).append (hx.drop _)⟩
theorem qgo (ha:AgA ρ σ a){off:Nat->Option (Nat × Nat)}:∀ {ps:List (Nat × Operand)} {cs r:List AV} {cells:Array Value},lay off σ ps cs=some r->VRs ρ cs cells.toList ->
  ∃ cells',Instr.fill off cells (ps.map fun x=>(x.1,a.eval x.2))=some cells'/\VRs ρ r cells'.toList
 | [],cs,r,cells,h,hv=>by simp only[lay,Option.some.injEq] at h; subst h; exact⟨cells,by simp[Instr.fill],hv⟩
 | (i,o) :: ps,cs,r,cells,h,hv=>by
  simp only[lay] at h
  split at h
  case h_2=>cases h
  rename_i v ho
  split at h
  case h_2=>cases h
  rename_i k n hk
  split at h
  case h_2=>cases h
  rename_i hb
  split at h
  case h_2=>cases h
  rename_i cs' hc
  have hn:=Jw hb
  have hf:=qbb (ha.ev ho)
  obtain⟨h1,h2⟩:=hv.put hf hc
  have hsz:(a.eval o).cells.size=n:=by rw[hn,q13,← hf.length,JQ]
  simp only[JQ] at h1
  have e:=qnq (a.eval o).cells.toList 0 k cells (by simp only[JQ]; omega)
  simp only[JD,JQ] at e
  rw[JQ] at h2
  obtain⟨c',h3,h4⟩:=qgo ha (cells:=((a.eval o).cells.zipIdx.foldl (fun cs (x:Value × Nat)=>cs.setIfInBounds (k+x.2) x.1) cells)) h (by
   rw[← JX,Array.toList_zipIdx,e]
   exact h2)
  refine⟨c',?_,h4⟩
  simp only[Jj,Instr.fill,hk]
  rw[if_neg (by simp[hsz]; omega)]
  exact h3
theorem zer_ok {t:TypeId}{l:List AV}(h:zer P t=some l):∃ ti z,P.info? t=some ti/\ti.zero=some z/\VRs ρ l z.cells.toList:=by
 obtain⟨ti,z,v,h1,h2,h3,rfl⟩:=zer_eq h
 exact⟨ti,z,h1,h2,qbb (qko h3)⟩
theorem qkx {o:Oper}{t:TypeId}{ps:Array (Nat × Operand)}{y:AV}(ho:o.op=.build t ps)(h:qgk t ps P σ=some y)(ha:AgA ρ σ a):∃ v,VR ρ y v/\Pu P a o v:=by
 have key:∀ cells,P.built t (ps.map fun x=>(x.1,a.eval x.2)).toList=some cells->Pu P a o (.agg cells):=fun cells hc w=>by
  have:=run_build w t _ cells hc
  simp[execOp,ho,this]
 unfold qgk at h
 split at h
 case h_2=>cases h
 rename_i z hz
 obtain⟨ti,zv,h1,h2,h3⟩:=zer_ok (ρ:=ρ) hz
 split at h
 ·rename_i l hl
  split at h
  ·rename_i cs hcs
   cases h
   obtain⟨c',h4,h5⟩:=qgo ha hcs h3
   refine⟨_,⟨c',rfl,h5⟩,key c' ?_⟩
   unfold plc at hl
   split at hl
   ·rename_i fs hu
    unfold Program.built
    simp only[h1,hu,h2,hl,JT]
    rw[← h4]
    congr 1
    funext i
    simp[qa2]
   ·cases hl
  ·cases h
 ·split at h
  ·rename_i n e hu
   split at h
   ·rename_i sz hs
    split at h
    ·rename_i cs hcs
     cases h
     obtain⟨tj,hj,hsz⟩:=q20 hs
     obtain⟨c',h4,h5⟩:=qgo ha hcs h3
     refine⟨_,⟨c',rfl,h5⟩,key c' ?_⟩
     unfold Program.built
     simp only[h1,hu,h2,hj,hsz,JT]
     exact h4
    ·cases h
   ·cases h
  ·cases h
theorem qf6 {o:Oper}{s d:TypeId}{x:Operand}{y:AV}(ho:o.op=.convert s d x)(h:q7a s d x P σ=some y)(ha:AgA ρ σ a):∃ v,VR ρ y v/\Pu P a o v:=by
 unfold q7a at h
 split at h
 case h_2=>cases h
 rename_i k n hx
 split at h
 case h_2=>cases h
 rename_i ds hs
 split at h
 ·rename_i k' hd
  obtain⟨hw,rfl⟩:=qa3 h
  exact⟨_,rfl,fun w=>by simp[execOp,ho,(ha.ev hx).int,convert,run_underlying hs,run_underlying hd,Conv.intToInt,hw]⟩
 ·rename_i hd
  split at h
  ·rename_i hb
   cases h
   simp only[JM,decide_eq_true_eq] at hb
   have h2:=blt_eq hb.2
   have hv:Utf8.valid n=true:=by unfold Utf8.valid; simp; omega
   refine⟨.string (Utf8.encode n),⟨_,rfl,?_⟩,fun w=>by simp[execOp,ho,(ha.ev hx).int,convert,run_underlying hs,run_underlying hd,Conv.intToString]⟩
   unfold Utf8.encode
   simp only[hv,if_true]
   rw[if_pos h2]
   simp
   omega
  ·cases h
 ·cases h
theorem q46 {c:Call}{vs:List Value}(h:c.args.toList.map a.eval=vs):c.args.map a.eval=vs.toArray:=by
 apply JR.1
 rw[JT,h]
theorem qgp {p:Option (Nat × Nat)}{l:Nat}{c:Option Nat}{z:Nat}{v:Value}(h:VR ρ (.sl p l c z) v):∃ q c',v=.slice q l c'/\l<=c'/\(∀ k,c=some k->k=c')/\VR ρ (.p p) (.pointer q):=by
 cases p with
 | none =>
  obtain⟨rfl,rfl,rfl⟩:=h
  exact⟨none,0,rfl,JA _,fun k hk=>by cases hk; rfl,rfl⟩
 | some p =>
  obtain⟨n,c',hn,rfl,h1,h2,-⟩:=h
  exact⟨_,c',rfl,h1,h2,⟨n,hn,rfl⟩⟩
theorem qq7 {o:Oper}{c:Call}{y:AV}(ho:o.op=.call c)(hc:c.callee=.builtin .cap)(h:pCap c.args c.argTypes P σ=some y)(ha:AgA ρ σ a):∃ v,VR ρ y v/\Pu P a o v:=by
 unfold pCap at h
 split at h
 ·rename_i p l cc z hx
  split at h
  ·rename_i e hu
   cases h
   obtain⟨v,s,hl,hv,hr⟩:=ha.evs hx
   have hr:s=[]:=hr
   subst hr
   unfold und0 at hu
   split at hu
   ·rename_i t ht
    obtain⟨q,c',rfl,-,hcc,-⟩:=qgp hv
    have:=hcc _ rfl
    subst this
    exact⟨_,rfl,fun w=>by simp[execOp,ho,resolve,hc,q46 hl,invoke,builtin,Builtin.cap_,ht,run_underlying hu,goInt]⟩
   ·cases hu
  ·cases h
 ·cases h
theorem qq8 {o:Oper}{c:Call}{y:AV}(ho:o.op=.call c)(hc:c.callee=.builtin .min)(h:pMin c.args c.argTypes P σ=some y)(ha:AgA ρ σ a):∃ v,VR ρ y v/\Pu P a o v:=by
 unfold pMin at h
 split at h
 ·rename_i k m k' n hx
  split at h
  ·rename_i hk
   have hk:=of_decide_eq_true hk
   subst hk
   cases h
   obtain⟨v,s,hl,rfl,u,s',rfl,rfl,rfl⟩:=ha.evs hx
   refine⟨.int k (min m n),rfl,fun w=>?_⟩
   have:(if n<m then n else m)=min m n:=by rw[Int.min_def]; split<;>split<;>omega
   simp[execOp,ho,resolve,hc,q46 hl,invoke,builtin,Builtin.min_,Builtin.min2,this]
  ·cases h
 ·cases h
theorem qq9 {o:Oper}{c:Call}{y:AV}(ho:o.op=.call c)(hc:c.callee=.builtin .max)(h:pMax c.args c.argTypes P σ=some y)(ha:AgA ρ σ a):∃ v,VR ρ y v/\Pu P a o v:=by
 unfold pMax at h
 split at h
 ·rename_i k m k' n hx
  split at h
  ·rename_i hk
   have hk:=of_decide_eq_true hk
   subst hk
   cases h
   obtain⟨v,s,hl,rfl,u,s',rfl,rfl,rfl⟩:=ha.evs hx
   refine⟨.int k (max m n),rfl,fun w=>?_⟩
   have:(if n>m then n else m)=max m n:=by rw[Int.max_def]; split<;>split<;>omega
   simp[execOp,ho,resolve,hc,q46 hl,invoke,builtin,Builtin.max_,Builtin.max2,this]
  ·cases h
 ·cases h
theorem q53 {o:Oper}{c:Call}{y:AV}(ho:o.op=.call c)(hc:c.callee=.builtin .unsafeSliceData)(h:q1z c.args c.argTypes P σ=some y)(ha:AgA ρ σ a):∃ v,VR ρ y v/\Pu P a o v:=by
 unfold q1z at h
 split at h
 ·rename_i p l cc z hx
  split at h
  ·cases h
  ·rename_i n
   cases h
   obtain⟨v,s,hl,hv,rfl⟩:=ha.evs hx
   obtain⟨q,c',rfl,h1,-,h2⟩:=qgp hv
   refine⟨.pointer q,h2,fun w=>?_⟩
   have:c'≠0:=by omega
   have hr:∀ ts ty,(Builtin.unsafeSliceData_ ts ty #[.slice q (n+1) c']).run P w=.ok (.pointer q) w:=fun ts ty=>by
    cases q with
    | none=>rfl
    | some q =>
     show(if c'≠0 then (pure (.pointer (some q)):Sem Value) else _).run P w=_
     rw[if_pos this]
     rfl
   simp[execOp,ho,resolve,hc,q46 hl,invoke,builtin,hr]
 ·cases h
theorem qnr {o:Oper}{c:Call}{y:AV}(ho:o.op=.call c)(h:qnk c P σ=some y)(ha:AgA ρ σ a):∃ v,VR ρ y v/\Pu P a o v:=by
 unfold qnk at h
 cases hc:c.callee with
 | builtin b =>
  rw[hc] at h
  cases b
  all_goals first
   | exact qq6 ho hc h ha
   | exact qq7 ho hc h ha
   | exact qq8 ho hc h ha
   | exact qq9 ho hc h ha
   | exact q53 ho hc h ha
   | cases h
 | value f=>rw[hc] at h; cases h
 | invoke r m=>rw[hc] at h; cases h
theorem qoe (ha:AgA ρ σ a){x:Option Operand}{d n:Nat}(h:low σ x d=some n):(x=none/\n=d)\/∃ o k,x=some o/\a.eval o=.int k (n:Int):=by
 unfold low at h
 split at h
 ·cases h; exact .inl ⟨rfl,rfl⟩
 ·rename_i o
  split at h
  ·rename_i k m hm
   split at h
   ·rename_i hb
    cases h
    have hb:=of_decide_eq_true hb
    exact .inr ⟨o,k,rfl,by rw[(ha.ev hm).int,Int.toNat_of_nonneg hb]⟩
   ·cases h
  ·cases h
theorem q8m (ha:AgA ρ σ a){isS:Bool}{lo hi:Option Operand}{len cap l h:Nat}(h1:low σ lo 0=some l)(h2:low σ hi len=some h)(hlh:l<=h)(hc:h<=cap)(hlen:len<=cap)(w:World) :
  (Instr.sliceBounds isS len cap (lo.map a.eval) (hi.map a.eval) none).run P w=.ok (l,h,cap) w:=by
 rcases qoe ha h1 with⟨rfl,rfl⟩ | ⟨o,k,rfl,e1⟩<;>rcases qoe ha h2 with⟨rfl,rfl⟩ | ⟨o',k',rfl,e2⟩
 ·simp[Instr.sliceBounds]
 ·have:¬cap<h:=by omega
  simp[Instr.sliceBounds,Instr.sliceBound,asIntOf,e2,this]
 ·have:¬h<l:=by omega
  simp[Instr.sliceBounds,Instr.sliceBound,asIntOf,e1,this]
 ·have q1:¬cap<h:=by omega
  have q2:¬h<l:=by omega
  simp[Instr.sliceBounds,Instr.sliceBound,asIntOf,e1,e2,hc,hlh,q1,q2]
theorem qky {o:Oper}{t:TypeId}{x:Operand}{lo hi mx:Option Operand}{y:AV}(ho:o.op=.slice t x lo hi mx)(h:qgl t x lo hi mx P σ=some y)(ha:AgA ρ σ a):∃ v,VR ρ y v/\Pu P a o v:=by
 unfold qgl at h
 split at h
 ·cases h
 split at h
 ·rename_i l hx
  split at h
  case h_2=>cases h
  rename_i hu
  split at h
  case h_2=>cases h
  rename_i m hm
  split at h
  case h_2=>cases h
  rename_i n hn
  split at h
  case h_2=>cases h
  rename_i hb
  split at h
  case h_2=>cases h
  rename_i r hr
  cases h
  obtain⟨s,hv,hs⟩:=ha.ev hx
  have hsz:s.size=l.length:=by show s.data.size=_; rw[← hs,J4,JQ]
  simp only[JM] at hb
  have hmn:m<=n:=Jx hb.1
  have hle:n<=s.size:=by have:=Jx hb.2; rw[q13] at this; omega
  rw[qgm] at hr
  obtain⟨h1,rfl⟩:=qkq hr
  refine⟨.string (s.extract m n),⟨_,rfl,?_⟩,fun w=>?_⟩
  ·rw[← hs]
   simp[Jg]
  ·have:=q8m (P:=P) (isS:=false) (cap:=s.size) ha hm (by rw[q13,← hsz] at hn; exact hn) hmn hle (JA _) w
   simp[execOp,ho,hv,Instr.sliceAt,Instr.slice,run_underlying hu,this]
 ·rename_i p n c z hx
  split at h
  case h_2=>cases h
  rename_i e hu
  split at h
  case h_2=>cases h
  rename_i sz hs
  split at h
  case h_2=>cases h
  rename_i lw hm
  split at h
  case h_2=>cases h
  rename_i hg hn
  split at h
  case h_2=>cases h
  rename_i hb
  simp only[JM,JO] at hb
  obtain⟨ti,hti,hsz⟩:=q20 hs
  have hlh:lw<=hg:=by
   rcases hb.1 with h | h
   ·have:=Jw h; omega
   ·have:=blt_eq h; omega
  cases p with
  | none =>
   cases h
   obtain⟨hv,rfl,rfl⟩:=ha.ev hx
   have hg0:hg=0:=by
    rcases hb.2 with h | h
    ·have:=Jx h; omega
    ·have:=Jx h; omega
   subst hg0
   have hl0:lw=0:=by omega
   subst hl0
   refine⟨_,⟨rfl,rfl,rfl⟩,fun w=>?_⟩
   have:=q8m (P:=P) (isS:=true) (cap:=0) ha hm hn (JA _) (JA _) (JA _) w
   simp[execOp,ho,hv,Instr.sliceAt,Instr.slice,run_underlying hu,this,q06 hti]
  | some p =>
   obtain⟨q,k⟩:=p
   dsimp only at h
   split at h
   case h_2=>cases h
   rename_i hz
   have hz:=Jw hz
   subst hz
   cases h
   obtain⟨nm,c',hq,hv,hnc,hcc,hsp,hnn⟩:=ha.ev hx
   have hgc:hg<=c':=by
    rcases hb.2 with h | h
    ·have:=Jx h; omega
    ·cases c with
     | none=>cases h
     | some c=>have:=hcc c rfl; have:=Jx h; omega
   have hlc:lw<=c':=by omega
   have e1:lw*sz+(c'-lw)*sz=c'*sz:=by rw[← JC]; congr 1; omega
   refine⟨.slice (some ⟨nm.b,nm.o+(k+lw*sz),none⟩) (hg-lw) (c'-lw),⟨nm,c'-lw,hq,rfl,by omega,fun x hxc=>?_,by omega,fun hx=>?_⟩,fun w=>?_⟩
   ·cases c with
    | none=>cases hxc
    | some c=>cases hxc; rw[hcc c rfl]
   ·cases c with
    | none=>have:=hnn rfl; exact⟨this.1,by omega⟩
    | some c=>cases hx
   ·have:=q8m (P:=P) (isS:=true) (cap:=c') ha hm hn hlh hgc hnc w
    have hadr:(if c'=lw then some (⟨nm.b,nm.o+k,none⟩:Addr) else (some (⟨nm.b,nm.o+k,none⟩:Addr)).map (·.add (lw*sz)))=some ⟨nm.b,nm.o+(k+lw*sz),none⟩:=by
     split
     ·rename_i e
      have:lw=0:=by
       rcases hb.1 with h | h
       ·exact Jw h
       ·have:=blt_eq h; omega
      subst this
      simp
     ·simp[q3i,JE]
    simp only[execOp,ho,hv,Instr.sliceAt,run_underlying hu,Sem.run_bind,Result.andThen_ok,Instr.slice,Option.map_none,this,q06 hti,hsz,Sem.run_pure,hadr]
 ·cases h
theorem qkz {o:Oper}{y:AV}(h:pux o.op P σ=some y)(ha:AgA ρ σ a):∃ v,VR ρ y v/\Pu P a o v:=by
 cases ho:o.op<;>rw[ho] at h
 case move=>exact qnn ho h ha
 case assign=>exact qhs ho h ha
 case pick=>exact qno ho h ha
 case fieldAddr=>exact qbc ho h ha
 case field=>exact qkt ho h ha
 case nilCheck=>exact qdc ho h ha
 case indexAddr=>exact qbe ho h ha
 case index=>exact qkw ho h ha
 case binOp=>exact qkv ho h ha
 case unOp=>exact qnp ho h ha
 case convert=>exact qf6 ho h ha
 case extract=>exact qf5 ho h ha
 case build=>exact qkx ho h ha
 case makeFunc=>exact qdd ho h ha
 case slice=>exact qky ho h ha
 case call=>exact qnr ho h ha
 all_goals cases h
end
def lst:Nat->LoopState × Option Code
 | 0=>(.ready,none)
 | 1=>(.busy,none)
 | _=>(.done,some .ret)
def EsR (ρ:Rn):List (AV × AV)->List MapEntry->Prop
 | [],l=>l=[]
 | x :: r,l=>∃ e s,l=e :: s/\VR ρ x.1 e.key/\VR ρ x.2 e.val/\EsR ρ r s
def Shp (w:World)(b e:Nat):Prop:=∃ cs f,w.heap[b]?=some (.cells cs e f)
theorem Shp.congr {w w':World}{b e:Nat}(h:Shp w b e)(he:w'.heap[b]?=w.heap[b]?):Shp w' b e:=by
 obtain⟨cs,f,h⟩:=h
 exact⟨cs,f,by rw[he]; exact h⟩
theorem Shp.wrC {a:Addr}{b e:Nat}:∀ (vs:List Value) (i:Nat) (w:World),Shp w b e->Shp (wrC w a i vs) b e
 | [],_,_,h=>h
 | v :: vs,i,w,⟨cs,f,h⟩=>by
  refine Shp.wrC vs (i+1) _ ?_
  by_cases hb:(a.add i).block=b
  ·exact⟨_,f,by simp only[World.setCell,JU,hb,if_true,h]; rfl⟩
  ·exact⟨cs,f,by simp[World.setCell,JU,hb,h]⟩
class Zc where
 z:Nat->Nat->List Nat->Code->Code->Prop
def ObR [Zc](ρ:Rn)(w:World)(q:Nm):Ob->Prop
 | .c cs f=>(∀ e,f=some e->q.o=0/\Shp w q.b e)/\∃ arr:List Value,Row w q.b arr/\arr.length=q.z/\q.o+cs.length<=q.z/\∀ i x,cs[i]?=some x->∃ v,arr[q.o+i]?=some v/\VR ρ x v
 | .m es=>∃ (ms:Array MapEntry) (c:Nat),w.heap[q.b]?=some (.map ms c)/\EsR ρ es ms.toList
 | .l g σ ps asg bd st d=>∃ (fn:Nat) (tmps:Array Value) (q':Nm),w.heap[q.b]?=some (lrec fn tmps ps.toArray asg bd q'.b (lst st).1 (lst st).2)/\ρ[d]?=some q'/\(∀ t x,sget σ t=some x->∃ v,tmps[t]?=some v/\VR ρ x v)/\Zc.z g tmps.size ps asg bd
 | .d=>w.heap[q.b]?=some (.deferred (some []))
 | .xx=>True
def liv:Ob->Prop
 | .xx=>False
 | _=>True
def Im (ρ:Rn)(h:H)(b:Nat):Prop:=∃ n o q,h.get n=some o/\liv o/\ρ[n]?=some q/\q.b=b
structure Rep [Zc](w0:World)(ρ:Rn)(h:H)(w:World):Prop where
 len:ρ.length=h.n
 fr:Fr F0 w0 w
 lo:∀ q∈ρ,w0.heap.size<=q.b/\q.b<w.heap.size
 ob:∀ b o,h.get b=some o->liv o->∃ q,ρ[b]?=some q/\ObR ρ w q o
 inj:∀ b b' o o' q q',h.get b=some o->liv o->h.get b'=some o'->liv o'->ρ[b]?=some q->ρ[b']?=some q'->q.b=q'.b->b=b'
structure Stp [Zc](w0:World)(ρ:Rn)(h:H)(w:World)(ρ':Rn)(h':H)(w':World):Prop where
 pre:ρ <+: ρ'
 rep:Rep w0 ρ' h' w'
 fr:Fr (Im ρ h) w w'
 im:∀ b,Im ρ' h' b->b<w.heap.size->Im ρ h b
section
variable {w0 w w' w1:World}{ρ ρ' ρ1:Rn}{h h' h1:H}{q:Nm}{o:Ob}
theorem EsR.mono (hp:ρ <+: ρ'):∀ {es:List (AV × AV)} {ms:List MapEntry},EsR ρ es ms->EsR ρ' es ms
 | [],_,h=>h
 | _ :: _,_,⟨e,s,hl,h1,h2,h3⟩=>⟨e,s,hl,h1.mono hp,h2.mono hp,EsR.mono hp h3⟩
theorem ObR.mono [Zc] (hp:ρ <+: ρ')(he:w'.heap[q.b]?=w.heap[q.b]?)(h:ObR ρ w q o):ObR ρ' w' q o:=by
 cases o with
 | c cs f =>
  obtain⟨h0,arr,h1,h2,h3,h4⟩:=h
  exact⟨fun e hf=>⟨(h0 e hf).1,(h0 e hf).2.congr he⟩,arr,h1.congr he,h2,h3,fun i x hx=>let ⟨v,a,b⟩:=h4 i x hx; ⟨v,a,b.mono hp⟩⟩
 | m es=>obtain⟨ms,c,h1,h2⟩:=h; exact⟨ms,c,by rw[he]; exact h1,h2.mono hp⟩
 | l g σ ps asg bd st d =>
  obtain⟨fn,tmps,q',h1,h2,h3,h4⟩:=h
  exact⟨fn,tmps,q',by rw[he]; exact h1,q0b hp h2,fun t x hx=>let ⟨v,a,b⟩:=h3 t x hx; ⟨v,a,b.mono hp⟩,h4⟩
 | d=>exact he.trans h
 | xx=>trivial
theorem Stp.refl [Zc] (hr:Rep w0 ρ h w):Stp w0 ρ h w ρ h w:=⟨J8 _,hr,Fr.refl,fun _ h _=>h⟩
theorem Stp.trans [Zc] (a:Stp w0 ρ h w ρ1 h1 w1)(b:Stp w0 ρ1 h1 w1 ρ' h' w'):Stp w0 ρ h w ρ' h' w' :=
 ⟨a.pre.trans b.pre,b.rep,a.fr.trans b.fr fun x hx hlt=>a.im x hx hlt,fun x hx hlt=>a.im x (b.im x hx (JB hlt a.fr.1)) hlt⟩
theorem q47 {b:Nat}{cs:List AV}(hc:h.cells b=some cs):h.get b=some (.c cs (h.flg b)):=by
 unfold H.cells at hc
 split at hc
 ·rename_i l f hl; cases hc; unfold H.flg; rw[hl]
 ·cases hc
theorem q3j {b:Nat}{y:Ob}(hx:(h.new o).get b=some y):(b=h.n/\y=o)\/(b≠h.n/\h.get b=some y) :=
 Tr.get_set (d:=12) (show Tr.get (Tr.set h.n o 12 h.t h.n) b b=some y from hx)
theorem qf7 {k b:Nat}{y:Ob}(hx:(h.put k o).get b=some y):(b=k/\y=o)\/(b≠k/\h.get b=some y) :=
 Tr.get_set (d:=12) (show Tr.get (Tr.set k o 12 h.t k) b b=some y from hx)
theorem q2f {k b:Nat}{y:Ob}(hx:(h.del k).get b=some y)(hl:liv y):b≠k/\h.get b=some y:=by
 rcases Tr.get_set (d:=12) (show Tr.get (Tr.set k .xx 12 h.t k) b b=some y from hx) with⟨_,rfl⟩ | h
 ·exact hl.elim
 ·exact h
theorem Rep.new [Zc] (hr:Rep w0 ρ h w){ob:Obj}{z:Nat}(hob:ObR (ρ++[⟨w.heap.size,0,z⟩]) (w.alloc ob) ⟨w.heap.size,0,z⟩ o) :
  Stp w0 ρ h w (ρ++[⟨w.heap.size,0,z⟩]) (h.new o) (w.alloc ob):=by
 have hp:ρ <+: ρ++[(⟨w.heap.size,0,z⟩:Nm)]:=J7 _ _
 have hn:(ρ++[(⟨w.heap.size,0,z⟩:Nm)])[h.n]?=some ⟨w.heap.size,0,z⟩:=by rw[← hr.len]; simp
 have hold:∀ {b:Nat} {x:Ob},h.get b=some x->liv x->∃ q,ρ[b]?=some q/\q.b<w.heap.size:=fun hx hl=>let ⟨q,a,_⟩:=hr.ob _ _ hx hl; ⟨q,a,(hr.lo q (J5 a)).2⟩
 refine⟨hp,⟨by simp[hr.len,H.new],hr.fr.trans Fr.alloc fun _ h _=>h,fun q hq=>?_,fun b x hx hl=>?_,fun b b' x x' q q' hx hl hx' hl' hq hq' he=>?_⟩,Fr.alloc,fun b hb hlt=>?_⟩
 ·rcases Jt.1 hq with hq | hq
  ·have:=hr.lo q hq; exact⟨this.1,by simp; omega⟩
  ·rw[Jl] at hq; subst hq; exact⟨hr.fr.1,by simp⟩
 ·rcases q3j hx with⟨rfl,rfl⟩ | ⟨hb,hx2⟩
  ·exact⟨_,hn,hob⟩
  ·obtain⟨q,h1,h2⟩:=hr.ob b x hx2 hl
   exact⟨q,q0b hp h1,h2.mono hp (q33 (hr.lo q (J5 h1)).2)⟩
 ·rcases q3j hx with⟨rfl,rfl⟩ | ⟨hb,hx2⟩<;>rcases q3j hx' with⟨rfl,rfl⟩ | ⟨hb',hx2'⟩
  ·rfl
  ·obtain⟨p,h1,h2⟩:=hold hx2' hl'
   rw[q0b hp h1] at hq'
   cases hq'
   rw[hn] at hq
   cases hq
   simp at he
   omega
  ·obtain⟨p,h1,h2⟩:=hold hx2 hl
   rw[q0b hp h1] at hq
   cases hq
   rw[hn] at hq'
   cases hq'
   simp at he
   omega
  ·obtain⟨p,h1,_⟩:=hold hx2 hl
   obtain⟨p',h1',_⟩:=hold hx2' hl'
   rw[q0b hp h1] at hq
   rw[q0b hp h1'] at hq'
   cases hq
   cases hq'
   exact hr.inj b b' x x' _ _ hx2 hl hx2' hl' h1 h1' he
 ·obtain⟨n,x,q,hx,hl,hq,rfl⟩:=hb
  rcases q3j hx with⟨rfl,rfl⟩ | ⟨hb,hx2⟩
  ·rw[hn] at hq; cases hq; simp at hlt
  ·obtain⟨p,h1,_⟩:=hold hx2 hl
   rw[q0b hp h1] at hq
   cases hq
   exact⟨n,x,_,hx2,hl,h1,rfl⟩
theorem Rep.put [Zc] (hr:Rep w0 ρ h w){k:Nat}{x:Ob}(hk:h.get k=some x)(hl:liv x)(hq:ρ[k]?=some q)(hob:ObR ρ w' q o)(hf:Fr (fun b=>b=q.b) w w') :
  Stp w0 ρ h w ρ (h.put k o) w':=by
 have hqb:=hr.lo q (J5 hq)
 have him:Im ρ h q.b:=⟨k,x,q,hk,hl,hq,rfl⟩
 refine⟨J8 _,⟨hr.len,hr.fr.trans hf fun b hb hlt=>?_,fun p hp=>?_,fun b y hy hly=>?_,fun b b' y y' p p' hy hly hy' hly' hp hp' he=>?_⟩,hf.mono fun b hb=>by subst hb; exact him,fun b hb _=>?_⟩
 ·subst hb; omega
 ·have:=hr.lo p hp; exact⟨this.1,JB this.2 hf.1⟩
 ·rcases qf7 hy with⟨rfl,rfl⟩ | ⟨hb,hy⟩
  ·exact⟨q,hq,hob⟩
  ·obtain⟨p,h1,h2⟩:=hr.ob b y hy hly
   have hlo:=hr.lo p (J5 h1)
   exact⟨p,h1,h2.mono (J8 _) (hf.2.1 _ hlo.2 fun e=>hb (hr.inj b k y x p q hy hly hk hl h1 hq e))⟩
 ·have key:∀ {c:Nat} {z:Ob},(h.put k o).get c=some z->liv z->∃ z',h.get c=some z'/\liv z':=fun {c z} hz hlz=>by
   rcases qf7 hz with⟨rfl,rfl⟩ | ⟨_,hz⟩
   ·exact⟨x,hk,hl⟩
   ·exact⟨z,hz,hlz⟩
  obtain⟨z,h1,h2⟩:=key hy hly
  obtain⟨z',h1',h2'⟩:=key hy' hly'
  exact hr.inj b b' z z' p p' h1 h2 h1' h2' hp hp' he
 ·obtain⟨n,y,p,hy,hly,hp,rfl⟩:=hb
  rcases qf7 hy with⟨rfl,rfl⟩ | ⟨_,hy⟩
  ·exact⟨n,x,p,hk,hl,hp,rfl⟩
  ·exact⟨n,y,p,hy,hly,hp,rfl⟩
theorem Rep.del [Zc] (hr:Rep w0 ρ h w){k:Nat}{x:Ob}(hk:h.get k=some x)(hl:liv x)(hq:ρ[k]?=some q)(hf:Fr (fun b=>b=q.b) w w'):Stp w0 ρ h w ρ (h.del k) w':=by
 have hqb:=hr.lo q (J5 hq)
 have him:Im ρ h q.b:=⟨k,x,q,hk,hl,hq,rfl⟩
 refine⟨J8 _,⟨hr.len,hr.fr.trans hf fun b hb hlt=>?_,fun p hp=>?_,fun b y hy hly=>?_,fun b b' y y' p p' hy hly hy' hly' hp hp' he=>?_⟩,hf.mono fun b hb=>by subst hb; exact him,fun b hb _=>?_⟩
 ·subst hb; omega
 ·have:=hr.lo p hp; exact⟨this.1,JB this.2 hf.1⟩
 ·obtain⟨hb,hy⟩:=q2f hy hly
  obtain⟨p,h1,h2⟩:=hr.ob b y hy hly
  have hlo:=hr.lo p (J5 h1)
  exact⟨p,h1,h2.mono (J8 _) (hf.2.1 _ hlo.2 fun e=>hb (hr.inj b k y x p q hy hly hk hl h1 hq e))⟩
 ·exact hr.inj b b' y y' p p' (q2f hy hly).2 hly (q2f hy' hly').2 hly' hp hp' he
 ·obtain⟨n,y,p,hy,hly,hp,rfl⟩:=hb
  exact⟨n,y,p,(q2f hy hly).2,hly,hp,rfl⟩
theorem Rep.frm [Zc] (hr:Rep w0 ρ h w)(hf:Fr F0 w w'):Stp w0 ρ h w ρ h w' :=
 ⟨J8 _,⟨hr.len,hr.fr.trans hf fun _ h _=>h,fun p hp=>⟨(hr.lo p hp).1,JB (hr.lo p hp).2 hf.1⟩,fun b y hy hly=>let ⟨p,h1,h2⟩:=hr.ob b y hy hly; ⟨p,h1,h2.mono (J8 _) (hf.2.1 _ (hr.lo p (J5 h1)).2 fun h=>h)⟩,hr.inj⟩,hf.mono fun _ h=>h.elim,fun _ h _=>h⟩
end
def Ot (P:Program)(a:Act)(o:Oper)(w:World)(v:Value)(w':World):Prop :=
 (execOp a.eval o).run P w=.ok (.value v) w'\/((execOp a.eval o).run P w=.ok .skip w'/\v=undef)
def Cel (w:World)(b o:Nat)(vs:List Value):Prop:=∀ i v,vs[i]?=some v->w.cell? ⟨b,o+i,none⟩=some v
section
variable {P:Program}{w0 w w':World}{ρ ρ':Rn}{h h':H}{σ:Sg}{a:Act}{o:Oper}{y:AV}
theorem Rep.cs [Zc] (hr:Rep w0 ρ h w){b:Nat}{cs:List AV}(hc:h.cells b=some cs):∃ (q:Nm) (arr:List Value),ρ[b]?=some q/\Row w q.b arr/\arr.length=q.z/\q.o+cs.length<=q.z/\(∀ i x,cs[i]?=some x->∃ v,arr[q.o+i]?=some v/\VR ρ x v)/\(∀ e,h.flg b=some e->q.o=0/\Shp w q.b e):=by
 obtain⟨q,hq,h0,arr,h1,h2,h3,h4⟩:=hr.ob b _ (q47 hc) trivial
 exact⟨q,arr,hq,h1,h2,h3,h4,h0⟩
theorem Rep.part [Zc] (hr:Rep w0 ρ h w){b k n:Nat}{cs l:List AV}(hc:h.cells b=some cs)(hl:tk n (drp k cs)=some l):∃ (q:Nm) (vs:List Value),ρ[b]?=some q/\VRs ρ l vs/\vs.length=n/\Cel w q.b (q.o+k) vs:=by
 obtain⟨q,arr,hq,hrow,hz,hle,hat,-⟩:=hr.cs hc
 rw[qgm] at hl
 obtain⟨h1,rfl⟩:=qkq hl
 rw[List.length_drop] at h1
 refine⟨q,(arr.drop (q.o+k)).take n,hq,VRs.of ?_ fun i x hx=>?_,?_,fun i v hv=>?_⟩
 ·simp; omega
 ·rw[J6] at hx ⊢
  split at hx
  ·rename_i hi
   rw[if_pos hi]
   rw[Ja] at hx ⊢
   obtain⟨v,h2,h3⟩:=hat _ _ hx
   exact⟨v,by rw[← h2]; congr 1; omega,h3⟩
  ·cases hx
 ·simp; omega
 ·rw[J6] at hv
  split at hv
  ·rw[Ja] at hv
   exact hrow.at hv
  ·cases hv
theorem ql0 [Zc] (hr:Rep w0 ρ h w){t:TypeId}{b k:Nat}(hl:ldA P h t b k=some y):∃ (q:Nm) (vs:List Value) (v:Value),ρ[b]?=some q/\VR ρ y v/\VRs ρ (flat y) vs/\Cel w q.b (q.o+k) vs/\∀ u,Cel u q.b (q.o+k) vs->(loadVar t ⟨q.b,q.o+k,none⟩).run P u=.ok v u:=by
 unfold ldA at hl
 split at hl
 case h_2=>cases hl
 rename_i cs hc
 split at hl
 case h_2=>cases hl
 rename_i d hd
 split at hl
 case h_2=>cases hl
 rename_i n hn
 split at hl
 case h_2=>cases hl
 rename_i l hl'
 obtain⟨q,vs,hq,hv,hlen,hcel⟩:=hr.part hc hl'
 obtain⟨ti,hti,hsz⟩:=q20 hn
 have hfl:flat y=l:=by
  unfold mkA at hl
  split at hl
  ·cases hl; rfl
  ·split at hl
   ·split at hl
    ·rename_i ho
     cases hl
     exact qnm ho
    ·cases hl
   ·cases hl
 obtain⟨v,h1,h2⟩:=qod hl hv
 refine⟨q,vs,v,hq,h1,by rw[hfl]; exact hv,hcel,fun u hu=>?_⟩
 rcases h2 with⟨ht,rfl⟩ | ⟨ht,rfl⟩
 ·have:=q21 (P:=P) (a:=⟨q.b,q.o+k,none⟩) (w:=u) vs 0 #[] (fun j hj=>by
   rw[q3i,Jz]
   exact hu j _ (J1 hj))
  unfold loadVar
  simp only[Sem.run_bind,q27 hd,Result.andThen_ok,ht,if_true,q06 hti,loadCells]
  rw[hsz,← hlen,this]
  simp
 ·have:=hu 0 v rfl
  rw[JD] at this
  unfold loadVar
  simp only[Sem.run_bind,q27 hd,Result.andThen_ok,ht,JL,if_false,qfi this]
theorem qns [Zc] {t:TypeId}{x:Operand}(ho:o.op=.load t x)(h1:qpy t x P σ h=some (y,h'))(ha:AgA ρ σ a)(hr:Rep w0 ρ h w):∃ (ρ':Rn) (v:Value) (w':World),Ot P a o w v w'/\VR ρ' y v/\Stp w0 ρ h w ρ' h' w':=by
 unfold qpy at h1
 split at h1
 ·rename_i b k hx
  split at h1
  ·rename_i v hl
   cases h1
   obtain⟨q,hq,hv⟩:=ha.ev hx
   obtain⟨q',vs,v,hq',h2,_,h3,h4⟩:=ql0 hr hl
   rw[hq] at hq'
   cases hq'
   exact⟨ρ,v,w,.inl (by simp[execOp,ho,Instr.loadAt,hv,Instr.sureAddr,h4 w h3]),h2,.refl hr⟩
  ·cases h1
 ·cases h1
theorem qbf:∀ {l:List AV} {vs:List Value},okAs l=true->VRs ρ l vs->∀ v∈vs,okC v=true
 | [],_,_,hv,v,hm=>by cases hv; cases hm
 | x :: l,_,hk,⟨u,s,rfl,h1,h2⟩,v,hm=>by
  simp only[okAs] at hk
  split at hk
  ·rename_i hx
   rcases Jv.1 hm with rfl | hm
   ·cases x with
    | ag cs=>cases hx
    | tu cs=>cases hx
    | p q=>cases q with
     | none=>cases h1; rfl
     | some q=>obtain⟨_,_,rfl⟩:=h1; rfl
    | sl q l c z=>cases q with
     | none=>obtain⟨rfl,_⟩:=h1; rfl
     | some q=>obtain⟨_,_,_,rfl,_⟩:=h1; rfl
    | m q=>cases q with
     | none=>cases h1; rfl
     | some q=>obtain⟨_,_,rfl⟩:=h1; rfl
    | s l=>obtain⟨_,rfl,_⟩:=h1; rfl
    | f i fs cs=>obtain⟨_,_,rfl,_⟩:=h1; rfl
    | y l=>obtain⟨_,_,rfl⟩:=h1; rfl
    | _=>cases h1; rfl
   ·exact qbf hk h2 v hm
  ·cases hk
theorem Rep.wr [Zc] (hr:Rep w0 ρ h w){b k:Nat}{cs l cs':List AV}{vs:List Value}{q:Nm}(hc:h.cells b=some cs)(hq:ρ[b]?=some q)(hp:putl cs k l=some cs')(hv:VRs ρ l vs) :
  qi3 w ⟨q.b,q.o+k,none⟩ vs.length/\Stp w0 ρ h w ρ (h.upd b cs') (wrC w ⟨q.b,q.o+k,none⟩ 0 vs):=by
 obtain⟨q',arr,hq',hrow,hz,hle,hat,h0⟩:=hr.cs hc
 rw[hq] at hq'
 cases hq'
 obtain⟨h1,rfl⟩:=qba hp
 have hlen:=hv.length
 refine⟨fun i hi=>by rw[q3i]; exact hrow.wr (by omega),hr.put (q47 hc) trivial hq ?_ ⟨by rw[q4c]; exact JA _,fun b' _ hne=>q9g (fun e=>hne e.symm) vs 0 w,q9f vs 0 w,q6d vs 0 w,q4d vs 0 w⟩⟩
 have hrow':=q6e (b:=q.b) (o:=q.o+k) vs 0 w arr hrow (by omega)
 rw[JD] at hrow'
 refine⟨fun e hf=>⟨(h0 e hf).1,(h0 e hf).2.wrC _ _ _⟩,_,hrow',by rw[q1o _ _ _ (by omega)]; exact hz,by simp; omega,fun i x hx=>?_⟩
 unfold q1r
 by_cases hi:i<k
 ·rw[J9,J0 (by simp; omega),J6,if_pos hi] at hx
  rw[J9,J0 (by simp; omega),J6,if_pos (by omega)]
  exact hat i x hx
 ·by_cases hi2:i<k+l.length
  ·rw[J9,J3 (by simp; omega),J0 (by simp; omega)] at hx
   rw[J9,J3 (by simp; omega),J0 (by simp; omega)]
   obtain⟨v,h2,h3⟩:=hv.at hx
   refine⟨v,?_,h3⟩
   rw[← h2]
   congr 1
   simp
   omega
  ·rw[J3 (by simp; omega),Ja] at hx
   rw[J3 (by simp; omega),Ja]
   obtain⟨v,h2,h3⟩:=hat _ _ hx
   refine⟨v,?_,h3⟩
   rw[← h2]
   congr 1
   simp at hx ⊢
   omega
theorem ql1 [Zc] {t:TypeId}{x z:Operand}(ho:o.op=.store t x z)(h1:qkl t x z P σ h=some (y,h'))(ha:AgA ρ σ a)(hr:Rep w0 ρ h w):∃ (ρ':Rn) (v:Value) (w':World),Ot P a o w v w'/\VR ρ' y v/\Stp w0 ρ h w ρ' h' w':=by
 unfold qkl at h1
 split at h1
 case h_2=>cases h1
 rename_i b k hx
 split at h1
 case h_2=>cases h1
 rename_i v hz
 split at h1
 case h_2=>cases h1
 rename_i cs hc
 split at h1
 case h_2=>cases h1
 rename_i n hn
 split at h1
 case h_2=>cases h1
 rename_i hb
 split at h1
 case h_2=>cases h1
 rename_i cs' hp
 cases h1
 simp only[JM] at hb
 obtain⟨q,hq,hv⟩:=ha.ev hx
 obtain⟨ti,hti,hsz⟩:=q20 hn
 have hf:=qbb (ha.ev hz)
 have hl:(a.eval z).cells.size=ti.size:=by rw[hsz,Jw hb.1,q13,← hf.length,JQ]
 obtain⟨h2,h3⟩:=hr.wr hc hq hp hf
 refine⟨ρ,undef,_,.inr ⟨?_,rfl⟩,⟨#[],rfl,rfl⟩,h3⟩
 have:=q65 (P:=P) (a:=⟨q.b,q.o+k,none⟩) (a.eval z).cells.toList 0 w (qbf hb.2 hf) (fun j hj=>by rw[Jz]; exact h2 j hj)
 simp[execOp,ho,Instr.storeAt,hv,Instr.sureAddr,storeVar,q06 hti,hl,this]
theorem q8n {cs:Array Value}{e:TypeId}{f:Nat × Nat}:Shp (w.alloc (.cells cs e f)) w.heap.size e:=⟨cs,f,by show(w.heap.push _)[w.heap.size]?=_; simp⟩
theorem q8o [Zc] {e:TypeId}{cs:List AV}{vs:List Value}(hv:VRs ρ cs vs)(f:Nat × Nat:=(0,0))(hf:f=(0,0)\/∃ n,f=(n,n+1)/\vs.length<=n:=by exact .inl rfl) :
  ObR (ρ++[⟨w.heap.size,0,vs.length⟩]) (w.alloc (.cells vs.toArray e f)) ⟨w.heap.size,0,vs.length⟩ (.c cs (some e)):=by
 have hl:=hv.length
 refine⟨fun d hd=>⟨rfl,by cases hd; exact q8n⟩,vs,?_,rfl,by simp; omega,fun i x hx=>?_⟩
 ·rcases hf with rfl | ⟨n,rfl,hn⟩
  ·exact Row.new
  ·exact Row.newF hn
 ·obtain⟨v,h1,h2⟩:=hv.at hx
  exact⟨v,by simpa using h1,h2.mono (J7 _ _)⟩
theorem Rep.last [Zc] (hr:Rep w0 ρ h w)(q:Nm):(ρ++[q])[h.n]?=some q:=by rw[← hr.len]; simp
theorem ql2 [Zc] (hr:Rep w0 ρ h w)(z:Nat):VR (ρ++[⟨w.heap.size,0,z⟩]) (.p (some (h.n,0))) (.pointer (some ⟨w.heap.size,0,none⟩)) :=
 ⟨_,hr.last _,rfl⟩
theorem ql3 [Zc] {t:TypeId}(ho:o.op=.alloc t)(h1:qkm t P σ h=some (y,h'))(hr:Rep w0 ρ h w):∃ (ρ':Rn) (v:Value) (w':World),Ot P a o w v w'/\VR ρ' y v/\Stp w0 ρ h w ρ' h' w':=by
 unfold qkm at h1
 split at h1
 case h_2=>cases h1
 rename_i z hz
 cases h1
 obtain⟨ti,zv,h2,h3,h4⟩:=zer_ok (ρ:=ρ) hz
 refine⟨_,_,_,.inl ?_,ql2 hr _,hr.new (q8o (e:=t) h4)⟩
 simp[execOp,ho,Instr.alloc,zeroValue,typeInfo,h2,h3,newVar,newRow]
theorem qqa [Zc] {t:TypeId}{x:Operand}(ho:o.op=.box t x)(h1:hBox t x P σ h=some (y,h'))(ha:AgA ρ σ a)(hr:Rep w0 ρ h w):∃ (ρ':Rn) (v:Value) (w':World),Ot P a o w v w'/\VR ρ' y v/\Stp w0 ρ h w ρ' h' w':=by
 unfold hBox at h1
 split at h1
 case h_2=>cases h1
 rename_i v hx
 split at h1
 case h_2=>cases h1
 cases h1
 refine⟨_,_,_,.inl ?_,ql2 hr _,hr.new (q8o (e:=t) (qbb (ha.ev hx)))⟩
 simp[execOp,ho,Instr.box,newVar,newRow]
theorem qf8 [Zc] {t:TypeId}{r:Option Operand}(ho:o.op=.makeMap t r)(h1:qb9 t r P σ h=some (y,h'))(hr:Rep w0 ρ h w):∃ (ρ':Rn) (v:Value) (w':World),Ot P a o w v w'/\VR ρ' y v/\Stp w0 ρ h w ρ' h' w':=by
 unfold qb9 at h1
 split at h1
 ·cases h1
 ·cases h1
  have hob:ObR (ρ++[⟨w.heap.size,0,0⟩]) (w.alloc (.map #[] 0)) ⟨w.heap.size,0,0⟩ (.m []):=⟨#[],0,by show(w.heap.push _)[w.heap.size]?=_; simp,rfl⟩
  refine⟨ρ++[⟨w.heap.size,0,0⟩],.map (some w.heap.size),w.alloc (.map #[] 0),.inl ?_,⟨_,hr.last _,rfl⟩,hr.new hob⟩
  simp[execOp,ho,Instr.makeMap]
end
section
variable {P:Program}{w0 w w':World}{ρ ρ':Rn}{h h':H}{σ:Sg}{a:Act}{o:Oper}{y:AV}{q q':Nm}
theorem Rep.re [Zc] (hr:Rep w0 ρ h w){k:Nat}{x ob:Ob}(hk:h.get k=some x)(hl:liv x)(hq:ρ[k]?=some q)(hb:q'.b=q.b)(hf:Fr (fun b=>b=q.b) w w')(hob:ObR (ρ++[q']) w' q' ob) :
  Stp w0 ρ h w (ρ++[q']) ((h.del k).new ob) w':=by
 have hd:=hr.del hk hl hq hf
 have hr2:=hd.rep
 have hp:ρ <+: ρ++[q']:=J7 _ _
 have hn:(ρ++[q'])[(h.del k).n]?=some q':=hr2.last q'
 have hqb:=hr.lo q (J5 hq)
 have hne:∀ {b:Nat} {y:Ob} {p:Nm},(h.del k).get b=some y->liv y->ρ[b]?=some p->p.b≠q.b:=fun hy hly hp' e=>by
  obtain⟨h1,h2⟩:=q2f hy hly
  exact h1 (hr.inj _ _ _ _ _ _ h2 hly hk hl hp' hq e)
 have hold:∀ {b:Nat} {y:Ob},(h.del k).get b=some y->liv y->∃ p,ρ[b]?=some p:=fun hy hly=>let ⟨p,h1,_⟩:=hr2.ob _ _ hy hly; ⟨p,h1⟩
 refine⟨hp,⟨by simp[hr2.len,H.new],hr2.fr,fun p hp=>?_,fun b y hy hly=>?_,fun b b' y y' p p' hy hly hy' hly' hpp hpp' he=>?_⟩,hd.fr,fun b hb hlt=>?_⟩
 ·rcases Jt.1 hp with hp | hp
  ·exact hr2.lo p hp
  ·rw[Jl] at hp; subst hp; rw[hb]; exact⟨hqb.1,JB hqb.2 hf.1⟩
 ·rcases q3j hy with⟨rfl,rfl⟩ | ⟨_,hy2⟩
  ·exact⟨_,hn,hob⟩
  ·obtain⟨p,h1,h2⟩:=hr2.ob b y hy2 hly
   exact⟨p,q0b hp h1,h2.mono hp rfl⟩
 ·rcases q3j hy with⟨rfl,rfl⟩ | ⟨_,hy2⟩<;>rcases q3j hy' with⟨rfl,rfl⟩ | ⟨_,hy2'⟩
  ·rfl
  ·obtain⟨r,h1⟩:=hold hy2' hly'
   rw[q0b hp h1] at hpp'
   cases hpp'
   rw[hn] at hpp
   cases hpp
   exact absurd (he.symm.trans hb) (hne hy2' hly' h1)
  ·obtain⟨r,h1⟩:=hold hy2 hly
   rw[q0b hp h1] at hpp
   cases hpp
   rw[hn] at hpp'
   cases hpp'
   exact absurd (he.trans hb) (hne hy2 hly h1)
  ·obtain⟨r,h1⟩:=hold hy2 hly
   obtain⟨r',h1'⟩:=hold hy2' hly'
   rw[q0b hp h1] at hpp
   rw[q0b hp h1'] at hpp'
   cases hpp
   cases hpp'
   exact hr2.inj b b' y y' _ _ hy2 hly hy2' hly' h1 h1' he
 ·obtain⟨n,y,p,hy,hly,hpp,rfl⟩:=hb
  rcases q3j hy with⟨rfl,rfl⟩ | ⟨_,hy2⟩
  ·rw[hn] at hpp
   cases hpp
   exact⟨k,x,q,hk,hl,hq,hb.symm⟩
  ·obtain⟨r,h1⟩:=hold hy2 hly
   rw[q0b hp h1] at hpp
   cases hpp
   exact hd.im _ ⟨n,y,_,hy2,hly,h1,rfl⟩ hlt
theorem ql4 {b k n:Nat}{vs:List Value}(hc:Cel w b k vs)(hl:vs.length=n):rdC w (some ⟨b,k,none⟩) n vs :=
 ⟨hl,fun i hi=>by rw[q3i]; exact hc i _ (J1 hi)⟩
theorem qof [Zc] (hr:Rep w0 ρ h w){sz n:Nat}{x:AV}{new:List AV}{v:Value}(hv:VR ρ x v)(hs:src h sz x=some (new,n)) :
  (∃ (s:ByteArray),v=.string s/\s.size=n/\VRs ρ new (s.data.toList.map bv))\/(∃ (p:Option Addr) (c:Nat) (vs:List Value),v=.slice p n c/\n<=c/\VRs ρ new vs/\rdC w p (n*sz) vs):=by
 unfold src at hs
 split at hs
 ·rename_i l
  cases hs
  obtain⟨s,rfl,hl⟩:=hv
  refine .inl ⟨s,rfl,by rw[q13,← hl,J4,JQ]; rfl,?_⟩
  rw[← hl]
  generalize s.data.toList=m
  induction m with
  | nil=>rfl
  | cons b m ih=>exact⟨_,_,rfl,rfl,ih⟩
 ·cases hs
  obtain⟨rfl,rfl,-⟩:=hv
  exact .inr ⟨none,0,[],rfl,JA _,rfl,by simp[rdC]⟩
 ·split at hs
  ·rename_i cs hc
   split at hs
   ·rename_i l hl
    cases hs
    obtain⟨q,c',hq,rfl,h1,-,-⟩:=hv
    obtain⟨q',vs,hq',h2,h3,h4⟩:=hr.part hc hl
    rw[hq] at hq'
    cases hq'
    exact .inr ⟨_,c',vs,rfl,h1,h2,ql4 h4 h3⟩
   ·cases hs
  ·cases hs
 ·cases hs
theorem qog {c:Option Nat}{m k:Nat}(h:apc c m=some k):c=some k/\m<=k:=by
 unfold apc at h
 split at h
 ·cases h
 ·split at h
  ·rename_i hb; cases h; exact⟨rfl,Jx hb⟩
  ·cases h
theorem apc_no {c:Option Nat}{m:Nat}(h:apc c m=none):c=none\/∃ k,c=some k/\k<m:=by
 unfold apc at h
 split at h
 ·exact .inl rfl
 ·rename_i k
  split at h
  ·cases h
  ·rename_i hb
   refine .inr ⟨k,rfl,?_⟩
   apply Nat.lt_of_not_le
   intro hle
   rw[Nat.ble_eq_true_of_le hle] at hb
   cases hb
theorem qoh {f:Option Nat}{e k d:Nat}(h:apf f e k=some d):f=some e/\d=e/\k=0:=by
 unfold apf at h
 split at h
 ·cases h
 ·split at h
  ·rename_i hb
   cases h
   simp only[JM] at hb
   rw[Jw hb.1]
   exact⟨rfl,rfl,Jw hb.2⟩
  ·cases h
theorem qoi [Zc] (hr:Rep w0 ρ h w){e:TypeId}{ti:TypeInfo}{zl:List Value}{p:Option (Nat × Nat)}{l n z:Nat}{c:Option Nat}{new:List AV}{vs:List Value}{sp:Option Addr}{sc:Nat}(hv:VR ρ (.sl p l c z) (.slice sp l sc))(hzl:zl.length=ti.size)
  (hn:VRs ρ new vs) (hnl:vs.length=n*ti.size) (h1:apx e ti p l c z new n h=some (y,h')) :
  apG ti.size ti.bytes zl e ⟨sp,l,sc⟩ n vs w fun r w'=>∃ ρ',VR ρ' y (.slice r.p r.l r.c)/\Stp w0 ρ h w ρ' h' w':=by
 unfold apx at h1
 split at h1
 ·have:vs=[]:=Jc (by rw[hnl]; simp)
  subst this
  split at h1
  ·cases h1
   obtain⟨e1,rfl,rfl⟩:=hv
   cases e1
   exact⟨fun _=>⟨ρ,⟨rfl,rfl,rfl⟩,.refl hr⟩,fun hc=>absurd hc (by simp)⟩
  ·rename_i b
   cases h1
   obtain⟨q,c',hq,e1,hlc,hcc,hsp,hnn⟩:=hv
   cases e1
   exact⟨fun _=>⟨fun i hi=>absurd hi (by simp),ρ,⟨q,_,hq,rfl,hlc,hcc,hsp,hnn⟩,.refl hr⟩,fun hc=>absurd hc (by simp; exact hlc)⟩
 ·rename_i n
  split at h1
  ·cases h1
  rename_i hok
  simp only[JM] at hok
  obtain⟨⟨⟨hok,hby⟩,h63⟩,hts⟩:=hok
  have hts:=blt_eq hts
  have hby:=Jx hby
  have h63:=blt_eq h63
  split at h1
  ·cases h1
   obtain⟨e1,rfl,-⟩:=hv
   cases e1
   refine⟨fun hc=>absurd hc (by simp),fun _=>⟨by simpa using hby,by simpa using h63,[],by simp[rdC],fun cap hcap=>?_⟩⟩
   simp only[Jz,Js] at hcap ⊢
   have hlen:(vs++rowZ zl ((cap-(n+1))*zl.length)).length=cap*ti.size:=by
    simp only[Jb,hnl,rowZ,J4,Jm,hzl]
    rw[← JC]
    congr 1
    omega
   have hrd:=hr.frm (w':=w.drew) Fr.drew
   have hob:ObR (ρ++[⟨w.drew.heap.size,0,cap*ti.size⟩]) (w.drew.alloc (.cells (vs++rowZ zl ((cap-(n+1))*zl.length)).toArray e)) ⟨w.drew.heap.size,0,cap*ti.size⟩ (.c new (some e)):=by
    refine⟨fun d hd=>⟨rfl,by cases hd; exact q8n⟩,_,Row.new,hlen,?_,fun i x hx=>?_⟩
    ·have:=hn.length
     simp only[Jz]
     rw[← this,hnl]
     exact JF _ hcap
    ·obtain⟨v,h2,h3⟩:=hn.at hx
     exact⟨v,by rw[Jz,J0 (J2.1 h2).1]; exact h2,h3.mono (J7 _ _)⟩
   have hs:=hrd.trans (hrd.rep.new hob)
   refine⟨_,⟨⟨w.drew.heap.size,0,cap*ti.size⟩,cap,hr.last _,rfl,hcap,fun k hk=>(by cases hk),by simp,fun _=>⟨hts,by simp⟩⟩,hs⟩
  ·rename_i b k
   split at h1
   ·cases h1
   rename_i cs hc
   split at h1
   ·cases h1
   rename_i old hold
   split at h1
   case h_2=>cases h1
   rename_i hz
   have hz:=Jw hz
   subst hz
   cases h1
   obtain⟨q,c',hq,e1,hlc,hcc,hsp,hnn⟩:=hv
   cases e1
   obtain⟨q',ov,hq',ho1,ho2,ho3⟩:=hr.part hc hold
   rw[hq] at hq'
   cases hq'
   obtain⟨q',arr,hq',hrow,hqz,hle,hat,h0⟩:=hr.cs hc
   rw[hq] at hq'
   cases hq'
   have hnew:=ho1.append hn
   rw[q4o]
   constructor
   ·intro hcap
    simp only at hcap ⊢
    have hfit:q.o+k+(l+(n+1))*ti.size<=q.z:=Nat.le_trans (Nat.add_le_add_left (JF _ hcap) _) hsp
    have e2:(l+(n+1))*ti.size=l*ti.size+vs.length:=by rw[hnl,JC]
    rw[q3i]
    refine⟨fun i hi=>by rw[q3i]; exact hrow.wr (by omega),ρ++[⟨q.b,q.o+k,q.z⟩],⟨⟨q.b,q.o+k,q.z⟩,_,hr.last _,rfl,hcap,fun k hk=>hcc k (qog hk).1,by omega,fun he=>?_⟩,?_⟩
    ·rcases apc_no he with rfl | ⟨k',rfl,hk'⟩
     ·have:=hnn rfl; exact⟨this.1,by simp; omega⟩
     ·have:=hcc k' rfl; omega
    refine hr.re (q47 hc) trivial hq rfl ⟨by rw[q4c]; exact JA _,fun b' _ hne=>q9g (fun e=>hne e.symm) vs 0 w,q9f vs 0 w,q6d vs 0 w,q4d vs 0 w⟩ ?_
    have hrow':=q6e (b:=q.b) (o:=q.o+k+l*ti.size) vs 0 w arr hrow (by omega)
    rw[JD] at hrow'
    refine⟨fun d hf=>?_,_,hrow',by rw[q1o _ _ _ (by omega)]; exact hqz,by rw[← hnew.length,Jb,ho2]; show q.o+k+_<=q.z; omega,fun i x hx=>?_⟩
    ·obtain⟨hf1,rfl,rfl⟩:=qoh hf
     have:=h0 _ hf1
     exact⟨this.1,this.2.wrC _ _ _⟩
    obtain⟨v,h2,h3⟩:=hnew.at hx
    refine⟨v,?_,h3.mono (J7 _ _)⟩
    show(q1r arr (q.o+k+l*ti.size) vs)[q.o+k+i]?=some v
    unfold q1r
    by_cases hi:i<l*ti.size
    ·rw[J0 (by omega)] at h2
     rw[J9,J0 (by simp; omega),J6,if_pos (by omega)]
     have:=ho3 i v h2
     rw[hrow.cell] at this
     rw[← this]
    ·rw[J3 (by omega)] at h2
     have hlt:=(J2.1 h2).1
     rw[J9,J3 (by simp; omega),J0 (by simp; omega),← h2]
     congr 1
     simp
     omega
   ·intro hgrow
    have hgrow:sc<l+(n+1):=hgrow
    refine⟨hby,h63,ov,ql4 ho3 ho2,fun cap hcap=>?_⟩
    simp only at hcap ⊢
    have hlen:(ov++vs++rowZ zl ((cap-(l+(n+1)))*zl.length)).length=cap*ti.size:=by
     simp only[Jb,hnl,ho2,rowZ,J4,Jm,hzl]
     rw[← JC,← JC]
     congr 1
     omega
    have hd:=hr.del (w':=w.drew) (q47 hc) trivial hq Fr.drew
    have hob:ObR (ρ++[⟨w.drew.heap.size,0,cap*ti.size⟩]) (w.drew.alloc (.cells (ov++vs++rowZ zl ((cap-(l+(n+1)))*zl.length)).toArray e)) ⟨w.drew.heap.size,0,cap*ti.size⟩ (.c (old++new) (apf (h.flg b) e k)):=by
     refine⟨fun d hd=>⟨rfl,by cases (qoh hd).2.1; exact q8n⟩,_,Row.new,hlen,?_,fun i x hx=>?_⟩
     ·rw[← hnew.length,Jb,hnl,ho2,← JC,Jz]
      exact JF _ hcap
     ·obtain⟨v,h2,h3⟩:=hnew.at hx
      exact⟨v,by rw[Jz,J0 (J2.1 h2).1]; exact h2,h3.mono (J7 _ _)⟩
    refine⟨_,⟨⟨w.drew.heap.size,0,cap*ti.size⟩,cap,hd.rep.last _,rfl,hcap,fun k hk=>(by obtain⟨e1,e2⟩:=qog hk; have:=hcc k e1; omega),by simp,fun _=>⟨hts,by simp⟩⟩,hd.trans (hd.rep.new hob)⟩
theorem qht [Zc] {c:Call}(ho:o.op=.call c)(hc:c.callee=.builtin .append)(h1:qf3 c.args c.argTypes P σ h=some (y,h'))(ha:AgA ρ σ a)(hr:Rep w0 ρ h w):∃ (ρ':Rn) (v:Value) (w':World),Ot P a o w v w'/\VR ρ' y v/\Stp w0 ρ h w ρ' h' w':=by
 unfold qf3 at h1
 split at h1
 case h_2=>cases h1
 rename_i p l cc z x hx
 split at h1
 case h_2=>cases h1
 rename_i st xt hts
 split at h1
 case h_2=>cases h1
 rename_i e hst
 split at h1
 case h_2=>cases h1
 rename_i ti hti
 split at h1
 case h_2=>cases h1
 rename_i zl hzl
 split at h1
 case h_2=>cases h1
 rename_i hb
 split at h1
 case h_2=>cases h1
 rename_i new n hsrc
 simp only[JM] at hb
 obtain⟨v1,s1,hargs,hv1,v2,s2,rfl,hv2,hs2⟩:=ha.evs hx
 have hs2:s2=[]:=hs2
 subst hs2
 obtain⟨sp,sc,rfl,-⟩:=qgp hv1
 obtain⟨tj,zv,hj,hz,hzv⟩:=zer_ok (ρ:=ρ) hzl
 rw[hti] at hj
 cases hj
 have hzlen:zv.cells.toList.length=ti.size:=by rw[hzv.length,← q13]; exact Jw hb.1
 have fin:∀ (r:Sl) (w':World),(∃ ρ',VR ρ' y (.slice r.p r.l r.c)/\Stp w0 ρ h w ρ' h' w')->(Builtin.append_ #[st,xt] o.type #[.slice sp l sc,v2]).run P w=.ok (.slice r.p r.l r.c) w' ->
   ∃ (ρ':Rn) (v:Value) (w':World),Ot P a o w v w'/\VR ρ' y v/\Stp w0 ρ h w ρ' h' w':=fun r w' ⟨ρ',h2,h3⟩ hrun=>by
  refine⟨ρ',_,w',.inl ?_,h2,h3⟩
  have hts':c.argTypes=#[st,xt]:=JR.1 hts
  simp[execOp,ho,resolve,hc,q46 hargs,invoke,builtin,hts',hrun]
 rcases qof hr hv2 hsrc with⟨s,rfl,hsz,hn⟩ | ⟨q,c',vs,rfl,hle,hn,hrd⟩
 ·unfold aTy at hb
  cases x with
  | s m =>
   have hb2:=hb.2
   simp only at hb2
   split at hb2
   ·rename_i hxt
    split at hb2
    ·rename_i hz'
     rw[hz] at hz'
     cases hz'
     simp only[JM] at hb2
     have e1:=Jw hb2.1
     have e2:=Jw hb2.2
     have hap:=qoi (e:=e) hr hv1 hzlen hn (by rw[J4,JQ,e1,Nat.mul_one]; exact hsz) h1
     rw[e1,e2] at hap
     obtain⟨r,w',hk,hrun⟩:=qbx (P:=P) (ty:=o.type) hst hxt hti hz e1 e2 (s:=⟨sp,l,sc⟩) (x:=s) (w:=w) (K:=fun r w'=>∃ ρ',VR ρ' y (.slice r.p r.l r.c)/\Stp w0 ρ h w ρ' h' w') (by
      unfold apT
      rw[hsz]
      exact hap)
     exact fin r w' hk hrun
    ·cases hb2
   ·cases hb2
  | sl p' l' c'' z'=>obtain⟨_,_,e,_⟩:=qgp hv2; cases e
  | _=>exact absurd hb.2 (by simp)
 ·cases x with
  | sl p' l' c'' z' =>
   have hb2:=hb.2
   unfold aTy at hb2
   simp only at hb2
   split at hb2
   ·rename_i e' hxt
    have hnl:vs.length=n*ti.size:=hrd.1
    have hap:=qoi (e:=e) hr hv1 hzlen hn hnl h1
    have hok:∀ v∈vs,okC v=true:=by
     unfold apx at h1
     split at h1
     ·have:vs=[]:=Jc (by rw[hnl]; simp)
      subst this
      intro v hv; cases hv
     ·split at h1
      ·cases h1
      ·rename_i hk
       simp only[JM] at hk
       exact qbf hk.1.1.1 hn
    obtain⟨r,w',hk,hrun⟩:=qbw (P:=P) (ty:=o.type) hst hxt hti hz (s:=⟨sp,l,sc⟩) (x:=⟨q,n,c'⟩) (w:=w) (K:=fun r w'=>∃ ρ',VR ρ' y (.slice r.p r.l r.c)/\Stp w0 ρ h w ρ' h' w') ⟨vs,hrd,hok,hap⟩
    exact fin r w' hk hrun
   ·cases hb2
  | s m=>obtain⟨u,hu,-⟩:=hv2; cases hu
  | _=>exact absurd hb.2 (by simp[aTy])
end
section
variable {P:Program}{w0 w w':World}{ρ ρ':Rn}{h h':H}{σ:Sg}{a:Act}{o:Oper}{y:AV}{q q':Nm}
theorem ql5 (zv:List Value)(n:Nat):rowZ zv ((n+1)*zv.length)=zv++rowZ zv (n*zv.length):=by
 apply Ji
 intro i
 unfold rowZ
 by_cases hi:i<zv.length
 ·have h1:i<(n+1)*zv.length:=by rw[JC]; omega
  rw[J0 hi]
  simp[h1,Nat.mod_eq_of_lt hi,Jf,J1 hi]
 ·rw[J3 (by omega)]
  by_cases h1:i<(n+1)*zv.length
  ·have h2:i-zv.length<n*zv.length:=by rw[JC] at h1; omega
   have e:(i-zv.length) % zv.length=i % zv.length:=by
    have:i=(i-zv.length)+zv.length:=by omega
    rw[this,Nat.add_mod_right,Nat.add_sub_cancel]
   simp[h1,h2,e]
  ·have h2:¬i-zv.length<n*zv.length:=by rw[JC] at h1; omega
   simp[h1,h2]
theorem ql6 [Zc] {z:List AV}{zv:List Value}(hz:VRs ρ z zv):∀ n,VRs ρ (rep z n) (rowZ zv (n*zv.length))
 | 0=>by simp[rep,rowZ]; rfl
 | n+1=>by
  rw[ql5]
  simp only[rep,q4o]
  exact hz.append (ql6 hz n)
theorem qhu (z:Array Value)(n:Nat):((JY (n*z.size)).map (z[· % z.size]!)).toList=rowZ z.toList (n*z.toList.length):=by
 apply Ji
 intro i
 unfold rowZ
 rw[JQ]
 by_cases hi:i<n*z.size
 ·have hp:0<z.size:=by
   rcases Nat.eq_zero_or_pos z.size with e | e
   ·rw[e] at hi; omega
   ·exact e
  have hm:=Nat.mod_lt i hp
  simp[hi,Jf,hm]
 ·simp[hi]
theorem q94 [Zc] {t:TypeId}{n:Nat}{ps:Array (Nat × Operand)}(ho:o.op=.buildSlice t n ps)(h1:q52 t n ps P σ h=some (y,h'))(ha:AgA ρ σ a)(hr:Rep w0 ρ h w):∃ (ρ':Rn) (v:Value) (w':World),Ot P a o w v w'/\VR ρ' y v/\Stp w0 ρ h w ρ' h' w':=by
 unfold q52 at h1
 split at h1
 case h_2=>cases h1
 rename_i e hu
 split at h1
 case h_2=>cases h1
 rename_i sz hs
 split at h1
 ·rename_i hps
  cases h1
  obtain⟨ti,hti,hsz⟩:=q20 hs
  have hps':ps=#[]:=JR.1 hps
  subst hps'
  have hob:ObR (ρ++[⟨w.heap.size,0,([]:List Value).length⟩]) (w.alloc (.cells ([]:List Value).toArray e)) ⟨w.heap.size,0,([]:List Value).length⟩ (.c [] (some e)):=q8o (ρ:=ρ) (vs:=[]) (cs:=[]) rfl
  have hrun:(Instr.buildSlice t 0 #[]).run P w=.ok (.slice (some ⟨w.heap.size,0,none⟩) 0 0) (w.alloc (.cells #[] e)):=by
   have hso:(Go.sizeOf e).run P w=.ok ti.size w:=q06 hti w
   have hr0:(JY 0:Array Nat)=#[]:=rfl
   simp[Instr.buildSlice,run_underlying hu,hso,Instr.fill,newRow,hr0]
  exact⟨_,_,_,.inl (by simp[execOp,ho,hrun]),⟨_,0,hr.last _,rfl,JA _,fun k hk=>by cases hk; rfl,by simp,fun h=>by cases h⟩,hr.new hob⟩
 rename_i n _ _ _
 split at h1
 case h_2=>cases h1
 rename_i z hz
 split at h1
 case h_2=>cases h1
 rename_i hb
 split at h1
 case h_2=>cases h1
 rename_i cs hcs
 cases h1
 simp only[JM] at hb
 obtain⟨hb1,hb2,hb3⟩:=hb
 have hb2:=blt_eq hb2
 have hb3:=Jx hb3
 obtain⟨ti,hti,hsz⟩:=q20 hs
 obtain⟨tj,zv,hj,hzz,hzv⟩:=zer_ok (ρ:=ρ) hz
 rw[hti] at hj
 cases hj
 have hzl:zv.cells.size=sz:=by rw[← JQ,hzv.length,← q13]; exact Jw hb1
 have hrep:=ql6 hzv n
 have e0:=qhu zv.cells n
 rw[← e0,hzl] at hrep
 obtain⟨c',h4,h5⟩:=qgo ha hcs hrep
 have hlen:c'.size=n*sz:=by
  have hf:∀ (ps:List (Nat × Value)) (cells r:Array Value),Instr.fill (fun i=>some (i*sz,sz)) cells ps=some r->r.size=cells.size:=by
   intro ps
   induction ps with
   | nil=>intro cells r hr; simp only[Instr.fill,Option.some.injEq] at hr; rw[hr]
   | cons p ps ih =>
    intro cells r hr
    simp only[Instr.fill] at hr
    split at hr
    ·cases hr
    ·rw[ih _ _ hr]
     have:∀ (l:List (Value × Nat)) (k:Nat) (cs:Array Value),(l.foldl (fun cs (x:Value × Nat)=>cs.setIfInBounds (k+x.2) x.1) cs).size=cs.size:=by
      intro l
      induction l with
      | nil=>intro k cs; rfl
      | cons x l ih=>intro k cs; rw[Jr,ih]; simp
     rw[← JX]
     exact this _ _ _
  rw[hf _ _ _ h4]
  simp[hzl]
 have hob:ObR (ρ++[⟨w.heap.size,0,c'.toList.length⟩]) (w.alloc (.cells c'.toList.toArray e)) ⟨w.heap.size,0,c'.toList.length⟩ (.c cs (some e)):=q8o h5
 have hrun:(Instr.buildSlice t n (ps.map fun x=>(x.1,a.eval x.2))).run P w=.ok (.slice (some ⟨w.heap.size,0,none⟩) n n) (w.alloc (.cells c' e)):=by
  have q1:¬n*ti.size>2^24:=by rw[hsz]; omega
  have q2:¬n*ti.size=0:=by rw[hsz]; omega
  have q3:Instr.fill (fun i=>some (i*ti.size,ti.size)) ((JY (n*ti.size)).map (zv.cells[· % zv.cells.size]!)) (ps.map fun x=>(x.1,a.eval x.2)).toList=some c':=by rw[hsz,JT,hzl]; exact h4
  exact run_buildSlice w t e n _ c' ti zv hu hti hzz q1 q2 q3
 refine⟨_,_,_,.inl ?_,⟨_,n,hr.last _,rfl,JA _,fun k hk=>by cases hk; rfl,?_,fun h=>by cases h⟩,by have:=hr.new hob; rw[JV] at this; exact this⟩
 ·simp[execOp,ho,hrun]
 ·simp[hlen]
theorem qbg [Zc] {t:TypeId}{l c:Operand}(ho:o.op=.makeSlice t l c)(h1:q6o t l c P σ h=some (y,h'))(ha:AgA ρ σ a)(hr:Rep w0 ρ h w):∃ (ρ':Rn) (v:Value) (w':World),Ot P a o w v w'/\VR ρ' y v/\Stp w0 ρ h w ρ' h' w':=by
 unfold q6o at h1
 split at h1
 case h_2=>cases h1
 rename_i kl ln hl
 split at h1
 case h_2=>cases h1
 rename_i kc cp hcp
 split at h1
 case h_2=>cases h1
 rename_i e hu
 split at h1
 case h_2=>cases h1
 rename_i ti hti
 split at h1
 case h_2=>cases h1
 rename_i z hz
 split at h1
 case h_2=>cases h1
 rename_i hb
 cases h1
 simp only[JM,decide_eq_true_eq] at hb
 obtain⟨hb0,⟨hb1,hb2⟩,hb3,hb4⟩:=hb
 obtain⟨tj,zv,hj,hzz,hzv⟩:=zer_ok (ρ:=ρ) hz
 rw[hti] at hj
 cases hj
 have hzl:zv.cells.size=ti.size:=by rw[← JQ,hzv.length,← q13]; exact Jw hb0
 have hrep:=ql6 hzv cp.toNat
 have hlen:(rowZ zv.cells.toList (cp.toNat*zv.cells.toList.length)).length=cp.toNat*ti.size:=by simp[rowZ,hzl]
 obtain⟨r,w',⟨ρ',hk1,hk2⟩,hrun⟩:=qc1 (P:=P) (k:=kl) (k':=kc) (K:=fun r w'=>∃ ρ',VR ρ' (.sl (some (h.n,0)) ln.toNat (some cp.toNat) ti.size) (.slice r.p r.l r.c)/\Stp w0 ρ h w ρ' (h.new (.c (rep z cp.toNat) (some e))) w') hu hti hzz hzl
  ⟨hb1,hb2,hb3,by omega,ρ++[⟨w.heap.size,0,_⟩],⟨_,cp.toNat,hr.last _,rfl,by omega,fun k hk=>by cases hk; rfl,by rw[hlen]; simp,fun h=>by cases h⟩,hr.new (q8o (e:=e) hrep)⟩
 exact⟨ρ',_,w',.inl (by simp[execOp,ho,(ha.ev hl).int,(ha.ev hcp).int,hrun]),hk1,hk2⟩
theorem ql7:∀ {l:List AV} {m:List Nat} {vs:List Value},byt l=some m->VRs ρ l vs->vs=(m.map UInt8.ofNat).map bv/\(m.map UInt8.ofNat).map UInt8.toNat=m
 | [],m,vs,h,hv=>by simp only[byt,Option.some.injEq] at h; subst h; exact⟨hv,rfl⟩
 | x :: r,m,vs,h,hv=>by
  unfold byt at h
  split at h
  ·rename_i heq; cases heq
  ·rename_i n r' heq
   cases heq
   split at h
   ·rename_i hb
    split at h
    ·rename_i l hl
     cases h
     obtain⟨v,s,rfl,rfl,h2⟩:=hv
     obtain⟨rfl,h4⟩:=ql7 hl h2
     simp only[JM,decide_eq_true_eq] at hb
     have hn:(UInt8.ofNat n.toNat).toNat=n.toNat:=by simp; omega
     refine⟨?_,by simp only[Jj,hn,h4]⟩
     simp only[Jj,bv,hn,Int.toNat_of_nonneg hb.1]
    ·cases h
   ·cases h
  ·cases h
theorem qoj {t e:TypeId}(h:byE P t=some e):P.underlying t=some (.slice e)/\P.underlying e=some (.int .u8):=by
 unfold byE at h
 split at h
 ·rename_i e' hu
  split at h
  ·rename_i he; cases h; exact⟨hu,he⟩
  ·cases h
 ·cases h
theorem avs_ok (l:List UInt8):VRs ρ (avs (l.map UInt8.toNat)) (l.map bv):=by
 induction l with
 | nil=>rfl
 | cons b l ih=>exact⟨_,_,rfl,rfl,ih⟩
theorem qf9 {e:TypeId}{count:Nat}(hc:0<P.cellsOf e)(hn:1<=count):liesAt P P.depth e count 0 e 1=true:=by
 have hd:P.depth=(2*(P.types.size+Made.depth)+1)+1:=rfl
 rw[hd]
 simp only[liesAt,JO]
 left
 rw[hd]
 have h0:P.cellsOf e≠0:=by omega
 simp[rowAt,h0,hn,sameLayout]
theorem qqb [Zc] {s d:TypeId}{x:Operand}(ho:o.op=.convert s d x)(h1:hUns s d x P σ h=some (y,h'))(ha:AgA ρ σ a)(hr:Rep w0 ρ h w):∃ (ρ':Rn) (v:Value) (w':World),Ot P a o w v w'/\VR ρ' y v/\Stp w0 ρ h w ρ' h' w':=by
 unfold hUns at h1
 split at h1
 case h_2=>cases h1
 rename_i b k hx
 split at h1
 case h_2=>cases h1
 rename_i cs hc
 obtain⟨q,hq,hv⟩:=ha.ev hx
 obtain⟨q',arr,hq',hrow,hz,hle,hat,hflg⟩:=hr.cs hc
 rw[hq] at hq'
 cases hq'
 have hshp:∀ e,Shp w q.b e->w.shape? q.b=some (e,arr.length):=fun e ⟨cs',f',hs⟩=>by
  obtain⟨e2,f2,h2,_⟩:=hrow
  rw[hs] at h2
  cases h2
  simp[World.shape?,hs]
 split at h1
 ·rename_i t hs
  split at h1
  case h_2=>cases h1
  rename_i hd
  split at h1
  case h_2=>cases h1
  rename_i n hn
  split at h1
  case h_2=>cases h1
  rename_i hlt
  cases h1
  obtain⟨ti,hti,hsz⟩:=q20 hn
  have hlt:=blt_eq hlt
  rw[q13] at hlt
  obtain⟨e2,f2,h2,_⟩:=hrow
  have hsh:w.shape? q.b=some (e2,arr.length):=by simp[World.shape?,h2]
  have:=Lib.run_to_unsafe (P:=P) w ⟨q.b,q.o+k,none⟩ hs hd hti (by omega) hsh (by show q.o+k<_; omega)
  exact⟨ρ,_,w,.inl (by simp[execOp,ho,hv,this]),⟨q,hq,rfl⟩,.refl hr⟩
 ·rename_i hs
  split at h1
  case h_2=>cases h1
  rename_i u hd
  split at h1
  case h_2=>cases h1
  rename_i n hn
  split at h1
  case h_2=>cases h1
  rename_i e he
  split at h1
  case h_2=>cases h1
  rename_i hb
  cases h1
  simp only[JM] at hb
  obtain⟨b1,b2,b3,b4⟩:=hb
  have b1:=Jw b1
  have b2:=Jw b2
  subst b1 b2
  have b3:=Jx b3
  have b4:=blt_eq b4
  rw[q13] at b3
  obtain⟨hq0,hsp⟩:=hflg _ he
  obtain⟨ti,hti,hsz⟩:=q20 hn
  have:=Lib.run_from_unsafe (P:=P) w ⟨q.b,q.o+0,none⟩ hs hd hti (hshp _ hsp) (by
   show liesAt P P.depth e (arr.length / P.cellsOf e) (q.o+0) e 1=true
   rw[hq0]
   exact qf9 b4 ((Nat.one_le_div_iff b4).2 (by omega)))
  rw[JD] at this hv
  exact⟨ρ,.pointer (some ⟨q.b,q.o,none⟩),w,.inl (by simp[execOp,ho,hv,this]),⟨q,hq,by rw[JD]⟩,.refl hr⟩
 ·cases h1
theorem qfa [Zc] {s d:TypeId}{x:Operand}(ho:o.op=.convert s d x)(h1:qb8 s d x P σ h=some (y,h'))(ha:AgA ρ σ a)(hr:Rep w0 ρ h w):∃ (ρ':Rn) (v:Value) (w':World),Ot P a o w v w'/\VR ρ' y v/\Stp w0 ρ h w ρ' h' w':=by
 unfold qb8 at h1
 split at h1
 ·rename_i p n c z hx
  split at h1
  case h_2=>cases h1
  rename_i e he
  obtain⟨hs,he⟩:=qoj he
  split at h1
  case h_2=>cases h1
  rename_i hd
  have key:∀ (m:List Nat) (q:Option Addr) (c':Nat),a.eval x=.slice q n c'->(m.map UInt8.ofNat).map UInt8.toNat=m->rdC w q n ((m.map UInt8.ofNat).map bv)->∃ (ρ':Rn) (v:Value) (w':World),Ot P a o w v w'/\VR ρ' (.s m) v/\Stp w0 ρ h w ρ' h w':=fun m q c' hv hm hrd=>by
   obtain⟨r,hr1,hrun⟩:=q98 (P:=P) (K:=fun r=>r=ofL (m.map UInt8.ofNat)) hs hd he (s:=⟨q,n,c'⟩) (w:=w) ⟨m.map UInt8.ofNat,hrd,rfl⟩
   subst hr1
   refine⟨ρ,.string (ofL (m.map UInt8.ofNat)),w,.inl (by simp[execOp,ho,hv,hrun]),⟨_,rfl,?_⟩,.refl hr⟩
   show((m.map UInt8.ofNat).toArray.toList).map UInt8.toNat=m
   simpa using hm
  split at h1
  ·cases h1
   obtain⟨hv,rfl,-⟩:=ha.ev hx
   exact key [] none 0 hv rfl (by simp[rdC])
  ·rename_i b k
   split at h1
   case h_2=>cases h1
   rename_i cs hc
   split at h1
   case h_2=>cases h1
   rename_i l hl
   split at h1
   case h_2=>cases h1
   rename_i m hm
   cases h1
   obtain⟨q,c',hq,hv,-⟩:=ha.ev hx
   obtain⟨q',vs,hq',h2,h3,h4⟩:=hr.part hc hl
   rw[hq] at hq'
   cases hq'
   obtain⟨rfl,h5⟩:=ql7 hm h2
   exact key m _ c' hv h5 (ql4 h4 h3)
 ·rename_i l hx
  split at h1
  case h_2=>cases h1
  rename_i hs
  split at h1
  case h_2=>cases h1
  rename_i e he
  obtain⟨hd,he⟩:=qoj he
  cases h1
  obtain⟨u,hv,hl⟩:=ha.ev hx
  have hul:u.size=l.length:=by show u.data.size=_; rw[← hl,J4,JQ]
  obtain⟨r,w',⟨ρ',k1,k2⟩,hrun⟩:=q97 (P:=P) hs hd he (s:=u) (w:=w) (K:=fun r w'=>∃ ρ',VR ρ' (.sl (some (h.n,0)) (len l) none 1) (.slice r.p r.l r.c)/\Stp w0 ρ h w ρ' (h.new (.c (avs l) (some e))) w') (fun cap hcap=>by
   have hrd:=hr.frm (w':=w.drew) Fr.drew
   have hlen:(u.data.toList.map bv++Ju (cap-u.size) (Value.int .u8 0)).length=cap:=by
    rw[Jb,J4,List.length_replicate,JQ]
    show u.size+(cap-u.size)=cap
    omega
   have hav:VRs ρ (avs l) (u.data.toList.map bv):=by rw[← hl]; exact avs_ok _
   have hob:ObR (ρ++[⟨w.drew.heap.size,0,cap⟩]) (w.drew.alloc (.cells (u.data.toList.map bv++Ju (cap-u.size) (Value.int .u8 0)).toArray e (cap,cap+1))) ⟨w.drew.heap.size,0,cap⟩ (.c (avs l) (some e)):=by
    refine⟨fun d hd=>⟨rfl,by cases hd; exact q8n⟩,_,Row.newF (by rw[hlen]; exact JA _),hlen,?_,fun i x hx=>?_⟩
    ·rw[← hav.length,J4,JQ,Jz]; exact hcap
    ·obtain⟨v,h2,h3⟩:=hav.at hx
     exact⟨v,by rw[Jz,J0 (J2.1 h2).1]; exact h2,h3.mono (J7 _ _)⟩
   exact⟨_,⟨⟨w.drew.heap.size,0,cap⟩,cap,hr.last _,by rw[q13,← hul]; rfl,by rw[q13,← hul]; exact hcap,fun k hk=>(by cases hk),by simp,fun _=>⟨by omega,by simp⟩⟩,hrd.trans (hrd.rep.new hob)⟩)
  exact⟨ρ',_,w',.inl (by simp[execOp,ho,hv,hrun]),k1,k2⟩
 ·cases h1
theorem qnt [Zc] {c:Call}(ho:o.op=.call c)(hc:c.callee=.builtin .copy)(h1:qpz c.args c.argTypes P σ h=some (y,h'))(ha:AgA ρ σ a)(hr:Rep w0 ρ h w):∃ (ρ':Rn) (v:Value) (w':World),Ot P a o w v w'/\VR ρ' y v/\Stp w0 ρ h w ρ' h' w':=by
 unfold qpz at h1
 split at h1
 case h_2=>cases h1
 rename_i p l cc z x hx
 split at h1
 case h_2=>cases h1
 rename_i t t2 ts hts
 split at h1
 case h_2=>cases h1
 rename_i e hst
 split at h1
 case h_2=>cases h1
 rename_i sz hs
 split at h1
 ·cases h1
 rename_i new n hsrc
 split at h1
 ·cases h1
 rename_i b k
 split at h1
 ·cases h1
 rename_i cs hcs
 split at h1
 ·cases h1
 rename_i hb
 split at h1
 case h_2=>cases h1
 rename_i cs' hp
 cases h1
 simp only[JM] at hb
 have hnl:=Jx hb.1
 obtain⟨ti,hti,hsz⟩:=q20 hs
 obtain⟨v1,s1,hargs,hv1,v2,s2,rfl,hv2,hs2⟩:=ha.evs hx
 have hs2:s2=[]:=hs2
 subst hs2
 obtain⟨q,c',hq,rfl,hlc,-,-⟩:=hv1
 have hts':c.argTypes=(t :: t2 :: ts).toArray:=JR.1 (by simpa using hts)
 have fin:∀ (r:Int) (w':World),(r=n/\Stp w0 ρ h w ρ (h.upd b cs') w')->(Builtin.copy_ (t :: t2 :: ts).toArray o.type #[.slice (some ⟨q.b,q.o+k,none⟩) l c',v2]).run P w=.ok (.int .i64 r) w' ->
   ∃ (ρ':Rn) (v:Value) (w':World),Ot P a o w v w'/\VR ρ' (.i .i64 n) v/\Stp w0 ρ h w ρ' (h.upd b cs') w':=fun r w' ⟨e1,h3⟩ hrun=>by
  subst e1
  refine⟨ρ,_,w',.inl ?_,rfl,h3⟩
  simp[execOp,ho,resolve,hc,q46 hargs,invoke,builtin,hts',hrun]
 rcases qof hr hv2 hsrc with⟨s,rfl,hsn,hn⟩ | ⟨q',c2,vs,rfl,hle,hn,hrd⟩
 ·obtain⟨g1,g2⟩:=hr.wr hcs hq hp hn
  have hm:min s.size l=s.data.toList.length:=by rw[JG (by omega),JQ]; rfl
  obtain⟨r,w',hk,hrun⟩:=qbz (P:=P) (dt:=t) (xt:=t2) (ty:=o.type) (rest:=ts) hst hti (d:=⟨some ⟨q.b,q.o+k,none⟩,l,c'⟩) (x:=s) (w:=w) (K:=fun r w'=>r=n/\Stp w0 ρ h w ρ (h.upd b cs') w') (by
   unfold cpT
   simp only[hm,List.take_length]
   rw[J4] at g1
   refine⟨g1,?_,g2⟩
   rw[JQ]
   show((s.size:Nat):Int)=n
   rw[hsn])
  exact fin r w' hk hrun
 ·obtain⟨g1,g2⟩:=hr.wr hcs hq hp hn
  obtain⟨r,w',hk,hrun⟩:=qby (P:=P) (dt:=t) (xt:=t2) (ty:=o.type) (rest:=ts) hst hti (d:=⟨some ⟨q.b,q.o+k,none⟩,l,c'⟩) (x:=⟨q',n,c2⟩) (w:=w) (K:=fun r w'=>r=n/\Stp w0 ρ h w ρ (h.upd b cs') w') (by
   unfold cpS
   simp only[JG hnl]
   exact⟨vs,by rw[hsz]; exact hrd,qbf hb.2 hn,g1,trivial,g2⟩)
  exact fin r w' hk hrun
end
open Go Pw Go.MapKept
noncomputable def loc:List (AV × AV)->AV->Option (Option Nat)
 | [],_=>some none
 | p :: r,x=>match eqv p.1 x with
  | some true=>some (some 0)
  | some false=>(loc r x).map (Option.map (·+1))
  | none=>none
theorem qbh:∀ {es:List (AV × AV)} {x:AV} {r:Option AV},mget es x=some r->∃ p,loc es x=some p/\(p=none->r=none)/\∀ j,p=some j->∃ e,es[j]?=some e/\r=some e.2
 | [],x,r,h=>by cases h; exact⟨none,rfl,fun _=>rfl,fun _ h=>by cases h⟩
 | (k,v) :: es,x,r,h=>by
  unfold mget at h
  unfold loc
  split at h
  ·rename_i he
   cases h
   rw[he]
   exact⟨some 0,rfl,fun h=>(by cases h),fun j hj=>by cases hj; exact⟨_,rfl,rfl⟩⟩
  ·rename_i he
   obtain⟨p,h1,h2,h3⟩:=qbh h
   rw[he]
   refine⟨p.map (·+1),by simp[h1],fun h=>h2 (by simpa using h),fun j hj=>?_⟩
   cases p with
   | none=>cases hj
   | some i=>cases hj; simpa using h3 i rfl
  ·cases h
theorem qgq:∀ {es es':List (AV × AV)} {x v:AV},mput es x v=some es'->∃ p,loc es x=some p/\(p=none->es'=es++[(x,v)])/\∀ j,p=some j->∃ e,es[j]?=some e/\es'=es.set j (e.1,v)
 | [],es',x,v,h=>by cases h; exact⟨none,rfl,fun _=>rfl,fun _ h=>by cases h⟩
 | (k,u) :: es,es',x,v,h=>by
  unfold mput at h
  unfold loc
  split at h
  ·rename_i he
   cases h
   rw[he]
   exact⟨some 0,rfl,fun h=>(by cases h),fun j hj=>by cases hj; exact⟨_,rfl,rfl⟩⟩
  ·rename_i he
   split at h
   case h_2=>cases h
   rename_i r hr
   cases h
   obtain⟨p,h1,h2,h3⟩:=qgq hr
   rw[he]
   refine⟨p.map (·+1),by simp[h1],fun h=>by rw[h2 (by simpa using h)]; rfl,fun j hj=>?_⟩
   cases p with
   | none=>cases hj
   | some i =>
    cases hj
    obtain⟨e,h4,h5⟩:=h3 i rfl
    exact⟨e,by simpa using h4,by rw[h5]; rfl⟩
  ·cases h
section
variable {P:Program}{w0 w w':World}{ρ ρ':Rn}{h h':H}{σ:Sg}{a:Act}{o:Oper}{y:AV}{q q':Nm}
theorem EsR.at:∀ {es:List (AV × AV)} {ms:List MapEntry},EsR ρ es ms->∀ {j:Nat} {e:AV × AV},es[j]?=some e->∃ m,ms[j]?=some m/\VR ρ e.1 m.key/\VR ρ e.2 m.val
 | [],_,_,j,e,h=>by simp at h
 | x :: es,_,⟨m,s,hl,h1,h2,h3⟩,0,e,h=>by subst hl; simp at h; subst h; exact⟨m,rfl,h1,h2⟩
 | x :: es,_,⟨m,s,hl,h1,h2,h3⟩,j+1,e,h=>by subst hl; simpa using EsR.at h3 (by simpa using h)
theorem EsR.length:∀ {es:List (AV × AV)} {ms:List MapEntry},EsR ρ es ms->ms.length=es.length
 | [],_,h=>by cases h; rfl
 | _ :: _,_,⟨m,s,hl,_,_,h3⟩=>by subst hl; simp[EsR.length h3]
theorem EsR.snoc:∀ {es:List (AV × AV)} {ms:List MapEntry},EsR ρ es ms->∀ {x:AV × AV} {m:MapEntry},VR ρ x.1 m.key->VR ρ x.2 m.val->EsR ρ (es++[x]) (ms++[m])
 | [],_,h,x,m,h1,h2=>by cases h; exact⟨m,[],rfl,h1,h2,rfl⟩
 | _ :: _,_,⟨n,s,hl,h1,h2,h3⟩,x,m,h4,h5=>by subst hl; exact⟨n,_,rfl,h1,h2,EsR.snoc h3 h4 h5⟩
theorem EsR.set:∀ {es:List (AV × AV)} {ms:List MapEntry},EsR ρ es ms->∀ {j:Nat} {x:AV × AV} {m:MapEntry},VR ρ x.1 m.key->VR ρ x.2 m.val->EsR ρ (es.set j x) (ms.set j m)
 | [],_,h,j,x,m,h1,h2=>by cases h; rfl
 | _ :: _,_,⟨n,s,hl,h1,h2,h3⟩,0,x,m,h4,h5=>by subst hl; exact⟨m,_,rfl,h4,h5,h3⟩
 | _ :: _,_,⟨n,s,hl,h1,h2,h3⟩,j+1,x,m,h4,h5=>by subst hl; exact⟨n,_,rfl,h1,h2,EsR.set h3 h4 h5⟩
def Fnd (ms:List MapEntry)(v:Value)(i:Nat)(p:Option Nat)(r:Option (Nat × Value)):Prop :=
 (p=none->r=none)/\∀ j,p=some j->∃ e,ms[j]?=some e/\e.key=v/\r=some (i+j,e.val)
theorem ql8 {d:TypeDesc}{k:AV}{v:Value}(hs:∀ x u b,VR ρ x u->eqv x k=some b->Instr.sameNow d v u=some b/\(b=true->u=v)):∀ {es:List (AV × AV)} {ms:List MapEntry} {p:Option Nat} (i:Nat),EsR ρ es ms->loc es k=some p->∃ r,Instr.findNow d v ms i=some r/\Fnd ms v i p r
 | [],_,p,i,h,hp=>by cases h; cases hp; exact⟨none,rfl,fun _=>rfl,fun _ h=>by cases h⟩
 | x :: es,_,p,i,⟨m,s,hl,h1,h2,h3⟩,hp=>by
  subst hl
  unfold loc at hp
  unfold Instr.findNow
  split at hp
  ·rename_i he
   cases hp
   obtain⟨h4,h5⟩:=hs _ _ _ h1 he
   rw[h4]
   exact⟨_,rfl,fun h=>(by cases h),fun j hj=>by cases hj; exact⟨m,rfl,h5 rfl,rfl⟩⟩
  ·rename_i he
   rw[(hs _ _ _ h1 he).1]
   obtain⟨p',hp',rfl⟩:=JP.1 hp
   obtain⟨r,h4,h5,h6⟩:=ql8 hs (i+1) h3 hp'
   refine⟨r,h4,fun h=>h5 (by simpa using h),fun j hj=>?_⟩
   cases p' with
   | none=>cases hj
   | some n =>
    cases hj
    obtain⟨e,h7,h8,h9⟩:=h6 n rfl
    exact⟨e,by simpa using h7,h8,by rw[h9,JE,JK 1]⟩
  ·cases hp
theorem ql9 {kt:TypeId}{k:AV}{v:Value}(hs:∀ x u b,VR ρ x u->eqv x k=some b->(∀ w,(Op.equal kt v u).run P w=.ok b w)/\(b=true->u=v)):∀ {es:List (AV × AV)} {ms:List MapEntry} {p:Option Nat} (i:Nat),EsR ρ es ms->loc es k=some p->∃ r,(∀ w,(Instr.findAsking kt v ms i).run P w=.ok r w)/\Fnd ms v i p r
 | [],_,p,i,h,hp=>by cases h; cases hp; exact⟨none,fun _=>rfl,fun _=>rfl,fun _ h=>by cases h⟩
 | x :: es,_,p,i,⟨m,s,hl,h1,h2,h3⟩,hp=>by
  subst hl
  unfold loc at hp
  unfold Instr.findAsking
  split at hp
  ·rename_i he
   cases hp
   obtain⟨h4,h5⟩:=hs _ _ _ h1 he
   exact⟨some (i,m.val),fun w=>by simp[h4],fun h=>(by cases h),fun j hj=>by cases hj; exact⟨m,rfl,h5 rfl,rfl⟩⟩
  ·rename_i he
   have h0:=(hs _ _ _ h1 he).1
   obtain⟨p',hp',rfl⟩:=JP.1 hp
   obtain⟨r,h4,h5,h6⟩:=ql9 hs (i+1) h3 hp'
   refine⟨r,fun w=>by simp[h0,h4],fun h=>h5 (by simpa using h),fun j hj=>?_⟩
   cases p' with
   | none=>cases hj
   | some n =>
    cases hj
    obtain⟨e,h7,h8,h9⟩:=h6 n rfl
    exact⟨e,by simpa using h7,h8,by rw[h9,JE,JK 1]⟩
  ·cases hp
structure Ky (P:Program)(ρ:Rn)(kt:TypeId)(k:AV)(v:Value):Prop where
 check:∀ em w,(Instr.checkKey em 10000 kt v).run P w=.ok () w
 stays:∀ w,(Instr.keyThatStays v v).run P w=.ok v w
 find:∀ (es:List (AV × AV)) (ms:List MapEntry) (p:Option Nat),EsR ρ es ms->loc es k=some p->∃ r,(∀ w,(Instr.findKey kt v ms).run P w=.ok r w)/\Fnd ms v 0 p r
theorem qok [Zc] {kt:TypeId}{d:TypeDesc}{k:AV}{v:Value}(hd:P.underlying kt=some d)(hk:∀ em w,(Instr.checkKey em 10000 kt v).run P w=.ok () w)(hb:Instr.sameBits 10000 v v=true)(hs:∀ x u b,VR ρ x u->eqv x k=some b->Instr.sameNow d v u=some b/\(b=true->u=v)):Ky P ρ kt k v where
 check:=hk
 stays w:=by simp[Instr.keyThatStays,hb]
 find es ms p he hp:=by
  obtain⟨r,h1,h2⟩:=ql8 hs 0 he hp
  exact⟨r,fun w=>run_findKey hd h1,h2⟩
theorem qol {kt:TypeId}{q' q:IntKind}{m:Int}(hd:P.underlying kt=some (.int q'))(em:Bool)(n:Nat)(w:World):(Instr.checkKey em (n+1) kt (.int q m)).run P w=.ok () w:=by
 unfold Instr.checkKey
 simp[run_underlying hd]
theorem eq_int {kt:TypeId}{q' q:IntKind}{m m':Int}(hd:P.underlying kt=some (.int q'))(n:Nat)(w:World):(Op.equalIn (n+1) kt (.int q m) (.int q m')).run P w=.ok (m == m') w:=by
 unfold Op.equalIn
 simp[run_underlying hd]
theorem qqc {x:AV}{k:IntKind}{n:Int}{b:Bool}(h:eqv x (.i k n)=some b):∃ m,x=.i k m/\b=decide (m=n):=by
 cases x with
 | i k' m =>
  simp only[eqv] at h
  split at h
  ·rename_i hk
   cases h
   exact⟨m,by rw[of_decide_eq_true hk],rfl⟩
  ·cases h
 | _=>simp[eqv] at h
theorem qom [Zc] {kt:TypeId}{k:AV}{v:Value}(hk:kOk P kt k=true)(hv:VR ρ k v):Ky P ρ kt k v:=by
 unfold kOk at hk
 split at hk
 ·rename_i q n
  cases hv
  split at hk
  ·rename_i q' hd
   refine qok hd (fun em w=>qol hd em 9999 w) (by simp[Instr.sameBits]) fun x u b hx he=>?_
   obtain⟨m,rfl,rfl⟩:=qqc he
   cases hx
   refine⟨?_,fun h=>by rw[of_decide_eq_true h]⟩
   simp only[Instr.sameNow,if_true,Option.some.injEq]
   rw[JN]
   simp
   exact eq_comm
  ·cases hk
 ·rename_i l
  obtain⟨s,rfl,hs⟩:=hv
  split at hk
  ·rename_i hd
   refine qok hd (fun em w=>run_checkKey hd (by simp[IsKey]) em 9999) (by simp[Instr.sameBits,beq_toListBytes]) fun x u b hx he=>?_
   cases x with
   | s m =>
    obtain⟨t,rfl,ht⟩:=hx
    simp only[eqv,Option.some.injEq] at he
    subst he
    have hiff:(m == l)=true ↔ s=t:=by
     rw[beq_iff_eq,← hs,← ht]
     exact eq_comm.trans qbd
    refine⟨?_,fun h=>by rw[hiff.1 h]⟩
    simp only[Instr.sameNow,Option.some.injEq]
    rw[JN,hiff,beq_toListBytes,q96]
    simp
   | _=>simp[eqv] at he
  ·cases hk
 ·rename_i q1 n1 q2 n2
  obtain⟨vs,rfl,v1,s1,h1,hv1,v2,s2,h2,hv2,h3⟩:=hv
  have h3:s2=[]:=h3
  subst h3
  subst h2
  cases hv1
  cases hv2
  have hvs:vs=#[.int q1 n1,.int q2 n2]:=JR.1 h1
  subst hvs
  split at hk
  case h_2=>cases hk
  rename_i n e hd
  split at hk
  case h_2=>cases hk
  rename_i ek hek
  split at hk
  case h_2=>cases hk
  rename_i sz hsz
  simp only[JM] at hk
  have hn:=Jw hk.1
  have hz:=Jw hk.2
  subst hn hz
  obtain⟨ti,hti,htz⟩:=q20 hsz
  have hagg:∀ w,(isAgg e).run P w=.ok false w:=fun w=>by rw[q27 hek]; simp[aggT,hek]
  have hpt:∀ (a b:Value) w,(part e #[a,b] 0).run P w=.ok a w:=fun a b w=>by simp[part,hagg]
  have hpt1:∀ (a b:Value) w,(part e #[a,b] 1).run P w=.ok b w:=fun a b w=>by simp[part,hagg]
  have hsz':∀ w,(Go.sizeOf e).run P w=.ok 1 w:=fun w=>by rw[q06 hti,htz]
  refine⟨fun em w=>?_,fun w=>?_,fun es ms p he hp=>?_⟩
  ·have hc:∀ (q:IntKind) (n:Int) w,(Instr.checkKey em 9999 e (.int q n)).run P w=.ok () w:=fun q n w=>qol hek em 9998 w
   unfold Instr.checkKey
   simp[run_underlying hd,hsz',hpt,hpt1,hc,Std.Legacy.Range.forIn_eq_forIn_range',Std.Legacy.Range.size,Jn]
  ·simp[Instr.keyThatStays,Instr.sameBits]
  ·have hs:∀ x u b,VR ρ x u->eqv x (.ag [.i q1 n1,.i q2 n2])=some b->(∀ w,(Op.equal kt (.agg #[.int q1 n1,.int q2 n2]) u).run P w=.ok b w)/\(b=true->u=.agg #[.int q1 n1,.int q2 n2]):=fun x u b hx hb=>by
    cases x with
    | ag cs =>
     simp only[eqv] at hb
     cases cs with
     | nil=>simp[eqvs] at hb
     | cons c1 cs =>
     simp only[eqvs] at hb
     split at hb
     case h_2=>cases hb
     rename_i b1 hb1
     split at hb
     case h_2=>cases hb
     rename_i b2 hb2
     cases hb
     cases cs with
     | nil=>simp[eqvs] at hb2
     | cons c2 cs =>
     simp only[eqvs] at hb2
     split at hb2
     case h_2=>cases hb2
     rename_i b3 hb3
     split at hb2
     case h_2=>cases hb2
     rename_i b4 hb4
     cases hb2
     cases cs with
     | cons=>simp[eqvs] at hb4
     | nil =>
     simp only[eqvs,Option.some.injEq] at hb4
     subst hb4
     obtain⟨m1,rfl,rfl⟩:=qqc hb1
     obtain⟨m2,rfl,rfl⟩:=qqc hb3
     obtain⟨us,rfl,u1,t1,e1,hu1,u2,t2,e2,hu2,e3⟩:=hx
     have e3:t2=[]:=e3
     subst e3
     subst e2
     cases hu1
     cases hu2
     have hus:us=#[.int q1 m1,.int q2 m2]:=JR.1 e1
     subst hus
     have hq:∀ (q:IntKind) (n m:Int) w,(Op.equalIn 9999 e (.int q n) (.int q m)).run P w=.ok (n == m) w:=fun q n m w=>eq_int hek 9998 w
     refine⟨fun w=>?_,fun hb=>?_⟩
     ·unfold Op.equal Op.maxDepth Op.equalIn
      simp[run_underlying hd,hsz',hpt,hpt1,hq,Std.Legacy.Range.forIn_eq_forIn_range',Std.Legacy.Range.size,Jn]
      simp only[eq_comm (a:=m1),eq_comm (a:=m2)]
      by_cases h1:n1=m1<;>by_cases h2:n2=m2<;>simp[h1,h2]
     ·simp at hb
      rw[hb.1,hb.2]
    | _=>simp[eqv] at hb
   cases es with
   | nil =>
    cases he
    cases hp
    exact⟨none,fun w=>by simp[Instr.findKey,run_underlying hd,Instr.findNow],fun _=>rfl,fun _ h=>by cases h⟩
   | cons x es =>
    obtain⟨r,h1,h2⟩:=ql9 hs 0 he hp
    refine⟨r,fun w=>?_,h2⟩
    obtain⟨m,s,rfl,-⟩:=he
    have:Instr.findNow (.array 2 e) (.agg #[.int q1 n1,.int q2 n2]) (m :: s) 0=none:=by simp[Instr.findNow,Instr.sameNow]
    simp[Instr.findKey,run_underlying hd,this,h1]
 ·cases hk
theorem Fr_set {b:Nat}{ob ob':Obj}(_hb:w.heap[b]?=some ob):Fr (fun x=>x=b) w { w with heap:=w.heap.setIfInBounds b ob' } :=
 ⟨by simp,fun x _ hne=>by simp[Ne.symm hne],rfl,rfl,rfl⟩
theorem q61 [Zc] {t:TypeId}{m k v:Operand}(ho:o.op=.mapUpdate t m k v\/o.op=.insert t m k v)(h1:q4j t m k v P σ h=some (y,h'))(ha:AgA ρ σ a)(hr:Rep w0 ρ h w):∃ (ρ':Rn) (v:Value) (w':World),Ot P a o w v w'/\VR ρ' y v/\Stp w0 ρ h w ρ' h' w':=by
 unfold q4j at h1
 split at h1
 case h_2=>cases h1
 rename_i r hm
 split at h1
 case h_2=>cases h1
 rename_i kx hk
 split at h1
 case h_2=>cases h1
 rename_i vx hv
 split at h1
 case h_2=>cases h1
 rename_i kt et ht
 split at h1
 case h_2=>cases h1
 rename_i hok
 split at h1
 case h_2=>cases h1
 rename_i es hes
 split at h1
 case h_2=>cases h1
 rename_i es' hput
 cases h1
 obtain⟨q,hq,em⟩:=ha.ev hm
 have hkv:=ha.ev hk
 have hvv:=ha.ev hv
 have ky:=qom hok hkv
 obtain⟨q',hq',ms,c,hb,hE⟩:=hr.ob r _ hes trivial
 rw[hq] at hq'
 cases hq'
 obtain⟨p,h2,h3,h4⟩:=qgq hput
 obtain⟨res,h5,h6,h7⟩:=ky.find es ms.toList p hE h2
 have key:∀ (ms':Array MapEntry) (c':Nat),EsR ρ es' ms'.toList->(Instr.mapUpdate t (.map (some q.b)) (a.eval k) (a.eval v)).run P w=.ok () { w with heap:=w.heap.setIfInBounds q.b (.map ms' c') } ->
   ∃ (ρ':Rn) (v:Value) (w':World),Ot P a o w v w'/\VR ρ' un0 v/\Stp w0 ρ h w ρ' (h.put r (.m es')) w':=fun ms' c' hE' hrun=>by
  refine⟨ρ,undef,_,.inr ⟨?_,rfl⟩,⟨#[],rfl,rfl⟩,hr.put hes trivial hq ⟨ms',c',(heap_set hb).1,hE'⟩ (Fr_set hb)⟩
  rcases ho with ho | ho<;>simp[execOp,ho,em,hrun]
 cases p with
 | none =>
  refine key (ms.push { key:=a.eval k,val:=a.eval v,born:=c }) (c+1) ?_ ?_
  ·rw[h3 rfl,Array.toList_push]
   exact hE.snoc hkv hvv
  ·unfold Instr.mapUpdate
   simp[run_underlying ht,run_getObj_map hb,ky.check,h5,h6 rfl,run_setObj_map _ hb]
 | some j =>
  obtain⟨e,h8,h9⟩:=h4 j rfl
  obtain⟨m',h10,h11,h12⟩:=h7 j rfl
  rw[Jz] at h12
  obtain⟨m2,h13,h14,-⟩:=hE.at h8
  rw[h10] at h13
  cases h13
  refine key (ms.modify j fun e=>{ e with key:=a.eval k,val:=a.eval v }) c ?_ ?_
  ·rw[h9]
   have:(ms.modify j fun e=>{ e with key:=a.eval k,val:=a.eval v }).toList=ms.toList.set j { m' with key:=a.eval k,val:=a.eval v }:=by
    apply Ji
    intro i
    rw[JS,JU,List.getElem?_set]
    rw[JS] at h10
    by_cases hij:j=i
    ·subst hij
     obtain⟨hlt,he'⟩:=JW.1 h10
     simp[h10,hlt,he']
    ·simp[hij]
   rw[this]
   refine hE.set ?_ hvv
   rw[← h11]
   exact h14
  ·unfold Instr.mapUpdate
   rw[JS] at h10
   simp[run_underlying ht,run_getObj_map hb,ky.check,h5,h12,h10,h11,ky.stays,run_setObj_map _ hb]
theorem qhv [Zc] {t:TypeId}{x k:Operand}{ok:Bool}(ho:o.op=.lookup t x k ok)(h1:qf2 t x k ok P σ h=some (y,h'))(ha:AgA ρ σ a)(hr:Rep w0 ρ h w):∃ (ρ':Rn) (v:Value) (w':World),Ot P a o w v w'/\VR ρ' y v/\Stp w0 ρ h w ρ' h' w':=by
 unfold qf2 at h1
 split at h1
 case h_2=>cases h1
 rename_i r hm
 split at h1
 case h_2=>cases h1
 rename_i kx hk
 split at h1
 case h_2=>cases h1
 rename_i kt et ht
 split at h1
 case h_2=>cases h1
 rename_i hok
 split at h1
 ·cases h1
 rename_i es hes
 have hkv:=ha.ev hk
 have ky:=qom hok hkv
 have hmap:∃ (ms:Array MapEntry),EsR ρ es ms.toList/\((a.eval x=.map none/\ms=#[])\/∃ b c,a.eval x=.map (some b)/\w.heap[b]?=some (.map ms c)):=by
  unfold mes at hes
  cases r with
  | none=>cases hes; exact⟨#[],rfl,.inl ⟨ha.ev hm,rfl⟩⟩
  | some r =>
   simp only at hes
   split at hes
   case h_2=>cases hes
   rename_i es2 hg
   cases hes
   obtain⟨q,hq,em⟩:=ha.ev hm
   obtain⟨q',hq',ms,c,hb,hE⟩:=hr.ob r _ hg trivial
   rw[hq] at hq'
   cases hq'
   exact⟨ms,hE,.inr ⟨_,c,em,hb⟩⟩
 obtain⟨ms,hE,hx⟩:=hmap
 have run:∀ (res:Option (Nat × Value)) (z:Value) (f:Bool),(∀ w,(Instr.findKey kt (a.eval k) ms.toList).run P w=.ok res w)->((res=none/\f=false/\(zeroValue et).run P w=.ok z w)\/∃ i,res=some (i,z)/\f=true) ->
   (Instr.lookup t (a.eval x) (a.eval k) ok).run P w=.ok (if ok then .tuple #[z,.bool f] else z) w:=fun res z f hf hz=>by
  unfold Instr.lookup
  rcases hx with⟨e1,rfl⟩ | ⟨b,c,e1,hb⟩<;>rcases hz with⟨rfl,rfl,hz⟩ | ⟨i,rfl,rfl⟩<;>rw[e1]
  ·simp only[Jk] at hf
   simp[run_underlying ht,ky.check,hf,hz]
  ·simp only[Jk] at hf
   simp[run_underlying ht,ky.check,hf]
  ·simp[run_underlying ht,run_getObj_map hb,ky.check,hf,hz]
  ·simp[run_underlying ht,run_getObj_map hb,ky.check,hf]
 have out:∀ (z:AV) (v:Value) (f:Bool),VR ρ z v->(Instr.lookup t (a.eval x) (a.eval k) ok).run P w=.ok (if ok then .tuple #[v,.bool f] else v) w->(match (generalizing:=false) ok with | true=>some (AV.tu [z,.b f],h) | false=>some (z,h))=some (y,h') ->
   ∃ (ρ':Rn) (v:Value) (w':World),Ot P a o w v w'/\VR ρ' y v/\Stp w0 ρ h w ρ' h' w':=fun z v f hz hrun he=>by
  refine⟨ρ,(if ok then .tuple #[v,.bool f] else v),w,.inl (by simp[execOp,ho,hrun]),?_,?_⟩
  ·split at he
   ·cases he; exact⟨_,rfl,_,_,rfl,hz,_,_,rfl,rfl,rfl⟩
   ·cases he; exact hz
  ·split at he<;>cases he<;>exact .refl hr
 split at h1
 ·cases h1
 ·rename_i hg
  obtain⟨p,h2,h3,h4⟩:=qbh hg
  obtain⟨res,h5,h6,h7⟩:=ky.find es ms.toList p hE h2
  have hp:p=none:=by
   cases p with
   | none=>rfl
   | some j=>obtain⟨e,-,h8⟩:=h4 j rfl; cases h8
  split at h1
  ·cases h1
  rename_i z hz
  unfold zval at hz
  split at hz
  case h_2=>cases hz
  rename_i ti hti
  split at hz
  case h_2=>cases hz
  rename_i zv hzv
  exact out z zv false (qko hz) (run res zv false h5 (.inl ⟨h6 hp,rfl,by simp[zeroValue,typeInfo,hti,hzv]⟩)) h1
 ·rename_i v hg
  obtain⟨p,h2,h3,h4⟩:=qbh hg
  obtain⟨res,h5,h6,h7⟩:=ky.find es ms.toList p hE h2
  cases p with
  | none=>cases h3 rfl
  | some j =>
   obtain⟨e,h8,h9⟩:=h4 j rfl
   cases h9
   obtain⟨m',h10,h11,h12⟩:=h7 j rfl
   obtain⟨m2,h13,-,h14⟩:=hE.at h8
   rw[h10] at h13
   cases h13
   exact out e.2 m'.val true h14 (run res _ true h5 (.inr ⟨_,h12,rfl⟩)) h1
theorem qqd [Zc] {c:Call}(ho:o.op=.call c)(hc:c.callee=.builtin .len)(h1:hLen c.args c.argTypes P σ h=some (y,h'))(ha:AgA ρ σ a)(hr:Rep w0 ρ h w):∃ (ρ':Rn) (v:Value) (w':World),Ot P a o w v w'/\VR ρ' y v/\Stp w0 ρ h w ρ' h' w':=by
 unfold hLen at h1
 split at h1
 case h_2=>cases h1
 rename_i r hx
 split at h1
 case h_2=>cases h1
 rename_i kt et ht
 split at h1
 case h_2=>cases h1
 rename_i es hes
 cases h1
 obtain⟨v1,s1,hargs,⟨q,hq,rfl⟩,hs1⟩:=ha.evs hx
 have hs1:s1=[]:=hs1
 subst hs1
 obtain⟨q',hq',ms,cl,hb,hE⟩:=hr.ob r _ hes trivial
 rw[hq] at hq'
 cases hq'
 have hl:ms.size=len es:=by rw[q13,← hE.length,JQ]
 unfold und0 at ht
 split at ht
 case h_2=>cases ht
 rename_i t hts
 refine⟨ρ,.int .i64 (len es),w,.inl ?_,rfl,.refl hr⟩
 have:(Builtin.len_ c.argTypes o.type #[.map (some q.b)]).run P w=.ok (.int .i64 (len es)) w:=by
  rw[← hl]
  simp[Builtin.len_,hts,run_underlying ht,run_getObj_map hb,goInt]
 simp[execOp,ho,resolve,hc,q46 hargs,invoke,builtin,this]
theorem qla {a:Addr}{n:Nat}:Fr (fun x=>x=a.block) w (w.freeze a n):=by
 unfold World.freeze
 split
 ·exact Fr.refl
 ·exact⟨by simp,fun x _ hne=>by simp[JU,Ne.symm hne],rfl,rfl,rfl⟩
theorem q73 [Zc] {c:Call}(ho:o.op=.call c)(hc:c.callee=.builtin .unsafeString)(h1:q3g c.args c.argTypes P σ h=some (y,h'))(ha:AgA ρ σ a)(hr:Rep w0 ρ h w):∃ (ρ':Rn) (v:Value) (w':World),Ot P a o w v w'/\VR ρ' y v/\Stp w0 ρ h w ρ' h' w':=by
 unfold q3g at h1
 split at h1
 case h_2=>cases h1
 rename_i b k n hx
 split at h1
 case h_2=>cases h1
 rename_i pt it hts
 split at h1
 case h_2=>cases h1
 rename_i e hpt
 split at h1
 case h_2=>cases h1
 rename_i hcel
 split at h1
 case h_2=>cases h1
 rename_i cs hcs
 split at h1
 ·cases h1
 rename_i d hfl
 split at h1
 case h_2=>cases h1
 rename_i hb
 split at h1
 case h_2=>cases h1
 rename_i l hl
 split at h1
 case h_2=>cases h1
 rename_i m hm
 cases h1
 simp only[JM,decide_eq_true_eq] at hb
 obtain⟨hd,hk,hn,hn2⟩:=hb
 have hd:=Jw hd
 have hk:=Jw hk
 have hcel:=Jw hcel
 subst hd hk
 obtain⟨v1,s1,hargs,⟨q,hq,rfl⟩,v2,s2,rfl,hv2,hs2⟩:=ha.evs hx
 have hs2:s2=[]:=hs2
 subst hs2
 cases hv2
 obtain⟨q',arr,hq',hrow,hqz,hle,hat,h0⟩:=hr.cs hcs
 rw[hq] at hq'
 cases hq'
 obtain⟨hqo,cells,fz,hsh⟩:=h0 _ hfl
 obtain⟨q',vs,hq',h2,h3,h4⟩:=hr.part (k:=0) hcs (by simpa [drp] using hl)
 rw[hq] at hq'
 cases hq'
 obtain⟨rfl,h5⟩:=ql7 hm h2
 rw[hqo] at h4
 have hml:m.length=n.toNat:=by simpa using h3
 obtain⟨e',f',hrow',-⟩:=hrow
 rw[hsh] at hrow'
 cases hrow'
 have hsz:(m.map UInt8.ofNat).length<=arr.toArray.size:=by
  have:=(qkq hl).1
  simp
  omega
 have hmax:((m.map UInt8.ofNat).length:Int)<=maxI:=by unfold maxI; simp; omega
 obtain⟨r,w',⟨rfl,rfl⟩,hrun⟩:=qc2 (P:=P) (pt:=pt) (it:=it) (ty:=o.type) (n:=n) (w:=w) (K:=fun r w'=>r=ofL (m.map UInt8.ofNat)/\w'=w.freeze ⟨q.b,0,none⟩ (m.map UInt8.ofNat).length) hpt hcel
  ⟨q.b,m.map UInt8.ofNat,_,rfl,by simp; omega,(by intro e; have:=congrArg List.length e; simp at this; subst this; simp at hml; omega),by simp[World.shape?,hsh],hsz,hmax,fun j x hj=>by
   have:=h4 j (bv x) (by rw[Jh,hj]; rfl)
   simpa [bv] using this,rfl,rfl⟩
 have hts':c.argTypes=#[pt,it]:=JR.1 hts
 refine⟨ρ,.string (ofL (m.map UInt8.ofNat)),w.freeze ⟨q.b,0,none⟩ (m.map UInt8.ofNat).length,.inl ?_,⟨_,rfl,?_⟩,hr.del (q47 hcs) trivial hq (qla (a:=⟨q.b,0,none⟩))⟩
 ·rw[JD,hqo] at hargs
  simp[execOp,ho,resolve,hc,q46 hargs,invoke,builtin,hts',hrun]
 ·show((m.map UInt8.ofNat).toArray.toList).map UInt8.toNat=m
  simpa using h5
end
def CW (P:Program)(v:Value)(vs:List Value)(w:World)(K:VW):Prop :=
 q14 P v vs w K\/∃ g first cap u w',v=.func (.func g) first cap/\(callFunc g (first++vs.toArray++cap)).run P w=.ok (.value u) w'/\K u w'
def CB (P:Program)(v:Value)(vs:List Value)(w:World)(K:VW):Prop :=
 ∃ g first cap,v=.func (.func g) first cap/\(∀ args w,(callFunc g args).run P w=.ok (.enter g args) w)/\Calls P g (first++vs.toArray++cap) w fun e w'=>∃ u,e=.returned u/\K u w'
def Cok [Zc](X:Cx)(w0:World)(cf:q3h):Prop :=
 ∀ f xs h y h',cf f xs h=some (y,h')->∀ ρ w u us,Rep w0 ρ h w->VR ρ f u->VRs ρ xs us->CW X.P u us w (fun v w'=>∃ ρ',VR ρ' y v/\Stp w0 ρ h w ρ' h' w') /\
  ∀ id fs cs,f=.f id fs cs->bod X id=true->CB X.P u us w fun v w'=>∃ ρ',VR ρ' y v/\Stp w0 ρ h w ρ' h' w'
section
variable {X:Cx}{cf:q3h}{w0 w w':World}{ρ ρ':Rn}{h h':H}{σ σ':Sg}{a:Act}{o:Oper}{y:AV}{r:Option Nat}{m:Nat}
theorem cw_wp {P:Program}{f:Operand}{args:Array Operand}{ats:Array TypeId}(ho:o.op=.call ⟨.value f,args,ats⟩){K:VW}{vs:List Value}
  (hvs:args.toList.map a.eval=vs) (h:CW P (a.eval f) vs w K) {next:Act->World->Prop} {Q:Exit->Act->World->Prop} (hnext:∀ v w',K v w'->next (a.put o.dst v) w') :
  o.wpIn (fen r) m P a w next Q:=by
 have hm:args.map a.eval=vs.toArray:=by
  apply JR.1
  simp[hvs]
 refine⟨fun _ _=>trivial,?_⟩
 rw[Oper.semAt_eq _ a.eval _ (by intro c hc; rw[ho] at hc; cases hc)]
 rcases h with h | ⟨g,first,cap,u,w',hv,hrun,hK⟩
 ·unfold q14 at h
  split at h
  ·rename_i g first cap hv
   obtain⟨hcall,h⟩:=h
   simp only[execOp,ho,resolve,hm,hv,q5b,Sem.run_bind,Result.andThen_ok,invoke,hcall,Oper.uponIn]
   refine⟨q1n,q9a (h.mono fun e w' he=>?_)⟩
   obtain⟨u,rfl,hk⟩:=he
   exact hnext _ _ hk
  ·rename_i l first cap hv
   obtain⟨fn,tmps,asg,bd,h1,h2⟩:=h
   have hof:(Deferred.ofValue (.func (.yield l) first cap) vs.toArray:Sem Deferred).run P w=.ok { target:=.fn (.yield l) cap,args:=first++vs.toArray } w:=by
    simp[Deferred.ofValue]
   simp only[execOp,ho,resolve,hm,hv,hof,Sem.run_bind,Result.andThen_ok,invoke,h1,Oper.uponIn]
   refine⟨q1n,trivial,fun c cs _=>?_⟩
   obtain⟨e,w',he,hs⟩:=h2.2 c cs (room_wide _)
   obtain⟨u,rfl,hk⟩:=he
   exact⟨.returned u,w',hnext _ _ hk,hs⟩
  ·exact h.elim
 ·simp only[execOp,ho,resolve,hm,hv,q5b,Sem.run_bind,Result.andThen_ok,invoke,hrun,Oper.uponIn]
  exact hnext _ _ hK
theorem q62 {f:Program->Sg->Option AV}(h1:pr f X cf σ h=some (y,h')):f X.P σ=some y/\h'=h:=by
 unfold pr at h1
 split at h1
 ·rename_i v hv; cases h1; exact⟨hv,rfl⟩
 ·cases h1
theorem qlb [Zc] (hc:Cok X w0 cf)(h1:opx o.op X cf σ h=some (y,h'))(ha:AgA ρ σ a)(hr:Rep w0 ρ h w){next:Act->World->Prop}{Q:Exit->Act->World->Prop}
  (hnext:∀ ρ' v w',VR ρ' y v->Stp w0 ρ h w ρ' h' w'->next (a.put o.dst v) w'):o.wpIn (fen r) m X.P a w next Q:=by
 have mm:q3o o.op=false->(∃ (ρ':Rn) (v:Value) (w':World),Ot X.P a o w v w'/\VR ρ' y v/\Stp w0 ρ h w ρ' h' w')->o.wpIn (fen r) m X.P a w next Q:=fun hs ⟨ρ',v,w',h2,h3,h4⟩ =>
  q66 hs (by
   unfold Oper.wp
   rcases h2 with h2 | ⟨h2,rfl⟩<;>rw[h2]
   ·exact hnext _ _ _ h3 h4
   ·exact hnext _ _ _ h3 h4)
 have pu:q3o o.op=false->pux o.op X.P σ=some y/\h'=h->o.wpIn (fen r) m X.P a w next Q:=fun hs ⟨h2,e⟩=>by
  subst e
  obtain⟨v,h3,h4⟩:=qkz h2 ha
  exact mm hs ⟨ρ,v,w,.inl (h4 w),h3,.refl hr⟩
 obtain⟨dst,op,type,pos,after,guard⟩:=o
 cases op
 case move=>exact pu rfl (q62 (cf:=cf) h1)
 case assign=>exact pu rfl (q62 (cf:=cf) h1)
 case pick=>exact pu rfl (q62 (cf:=cf) h1)
 case build=>exact pu rfl (q62 (cf:=cf) h1)
 case nilCheck=>exact pu rfl (q62 (cf:=cf) h1)
 case binOp=>exact pu rfl (q62 (cf:=cf) h1)
 case unOp=>exact pu rfl (q62 (cf:=cf) h1)
 case makeFunc=>exact pu rfl (q62 (cf:=cf) h1)
 case slice=>exact pu rfl (q62 (cf:=cf) h1)
 case fieldAddr=>exact pu rfl (q62 (cf:=cf) h1)
 case field=>exact pu rfl (q62 (cf:=cf) h1)
 case indexAddr=>exact pu rfl (q62 (cf:=cf) h1)
 case index=>exact pu rfl (q62 (cf:=cf) h1)
 case extract=>exact pu rfl (q62 (cf:=cf) h1)
 case alloc=>exact mm rfl (ql3 (σ:=σ) rfl h1 hr)
 case box=>exact mm rfl (qqa rfl h1 ha hr)
 case buildSlice=>exact mm rfl (q94 rfl h1 ha hr)
 case insert=>exact mm rfl (q61 (.inr rfl) h1 ha hr)
 case load=>exact mm rfl (qns rfl h1 ha hr)
 case store=>exact mm rfl (ql1 rfl h1 ha hr)
 case makeMap=>exact mm rfl (qf8 (σ:=σ) rfl h1 hr)
 case makeSlice=>exact mm rfl (qbg rfl h1 ha hr)
 case lookup=>exact mm rfl (qhv rfl h1 ha hr)
 case mapUpdate=>exact mm rfl (q61 (.inl rfl) h1 ha hr)
 case convert s d x =>
  replace h1:qq1 s d x X cf σ h=some (y,h'):=h1
  unfold qq1 at h1
  split at h1
  ·rename_i v hv
   cases h1
   exact pu rfl ⟨hv,rfl⟩
  ·split at h1
   ·rename_i r hr1
    cases h1
    exact mm rfl (qfa rfl hr1 ha hr)
   ·exact mm rfl (qqb rfl h1 ha hr)
 case call c =>
  obtain⟨callee,args,ats⟩:=c
  replace h1:qq0 ⟨callee,args,ats⟩ X cf σ h=some (y,h'):=h1
  cases callee with
  | value f =>
   replace h1:cFn f args cf σ h=some (y,h'):=h1
   unfold cFn at h1
   split at h1
   case h_2=>cases h1
   rename_i fv hf
   split at h1
   case h_2=>cases h1
   rename_i xs hxs
   exact cw_wp rfl rfl (hc _ _ _ _ _ h1 ρ w _ _ hr (ha.ev hf) (ha.evs hxs)).1 fun v w' ⟨ρ',h2,h3⟩=>hnext ρ' v w' h2 h3
  | builtin b =>
   simp only[qq0] at h1
   split at h1
   ·rename_i v hv
    cases h1
    exact pu rfl ⟨hv,rfl⟩
   ·unfold hCall at h1
    simp only at h1
    split at h1
    ·exact mm rfl (qqd rfl rfl h1 ha hr)
    ·exact mm rfl (qht rfl rfl h1 ha hr)
    ·exact mm rfl (qnt rfl rfl h1 ha hr)
    ·exact mm rfl (q73 rfl rfl h1 ha hr)
    ·cases h1
  | invoke=>cases h1
 all_goals cases h1
theorem q54 {ops:Array Oper}(ha:AgA ρ σ a){b:Bool}(h1:want ops σ o=some b):Region.wanted o (yielded ops a.tmps)=b:=by
 unfold want at h1
 unfold Region.wanted
 split at h1
 ·rename_i hg; rw[hg]; simpa using h1
 ·rename_i j wn hg
  rw[hg]
  split at h1
  ·cases h1
  ·rename_i q hq
   split at h1
   ·cases h1
   ·rename_i t ht
    split at h1
    ·rename_i v hv
     obtain⟨u,hu,e⟩:=ha _ _ hv
     cases e
     have hy:yielded ops a.tmps j=some v:=by
      unfold yielded
      simp[hq,ht,hu]
     simp only[hy]
     simpa using h1
    ·rename_i l hv
     obtain⟨u,hu,us,e,-⟩:=ha _ _ hv
     cases e
     have hy:yielded ops a.tmps j=none:=by
      unfold yielded
      simp[hq,ht,hu]
     simp only[hy]
     simpa using h1
    ·cases h1
def dOk (n:Nat)(o:Oper):Bool:=match o.dst with
 | none=>true
 | some t=>JH t n
theorem AgA.putd {n:Nat}{x:AV}{v:Value}(h:AgA ρ σ a)(hn:a.tmps.size=n)(hd:dOk n o=true)(hv:VR ρ x v):AgA ρ (Xe.put o.dst x σ) (a.put o.dst v)/\(a.put o.dst v).tmps.size=n/\(a.put o.dst v).defers=a.defers:=by
 refine⟨h.put (fun t ht=>?_) hv,?_,?_⟩
 ·unfold dOk at hd
  rw[ht] at hd
  rw[hn]
  exact blt_eq hd
 ·cases o.dst<;>simp[Act.put,hn]
 ·cases o.dst<;>rfl
theorem q7d:VR ρ un0 undef:=⟨#[],rfl,rfl⟩
theorem qbi [Zc] (hc:Cok X w0 cf){n:Nat}{ops:Array Oper}{tl:List Nat}{Q:Exit->Act->World->Prop}:∀ (os:List Oper) (i:Nat) (ρ:Rn) (h:H) (w:World) (σ:Sg) (a:Act),(∀ j,j<os.length->os[j]?=ops[i+j]?)->(∀ o∈os,dOk n o=true) ->
  a.tmps.size=n->AgA ρ σ a->Rep w0 ρ h w->runO X cf ops os σ h=some (σ',h') ->
  (∀ ρ' a' w',a'.tmps.size=n->a'.defers=a.defers->AgA ρ' σ' a'->Stp w0 ρ h w ρ' h' w'->wpOpsIn (fen r) m X.P ops Q tl a' w')->wpOpsIn (fen r) m X.P ops Q (Jn i os.length++tl) a w
 | [],i,ρ,h,w,σ,a,_,_,hn,ha,hr,h1,hk=>by
  cases h1
  exact hk ρ a w hn rfl ha (.refl hr)
 | o :: os,i,ρ,h,w,σ,a,hos,hd,hn,ha,hr,h1,hk=>by
  have hi:ops[i]?=some o:=by have:=hos 0 (by simp); simpa using this.symm
  have hos':∀ j,j<os.length->os[j]?=ops[i+1+j]?:=fun j hj=>by
   have:=hos (j+1) (by simpa using hj)
   simp only[List.getElem?_cons_succ] at this
   rw[this,show i+1+j=i+(j+1) by omega]
  have hd':∀ o∈os,dOk n o=true:=fun o ho=>hd o (by simp[ho])
  have hdo:=hd o (by simp)
  unfold runO at h1
  simp only[Je,Jp,List.cons_append,wpOpsIn,hi]
  split at h1
  ·rename_i hw
   rw[q54 ha hw]
   simp only[JL,if_false]
   obtain⟨h2,h3,h4⟩:=ha.putd hn hdo q7d
   exact⟨fun _ _=>trivial,qbi hc os (i+1) ρ h w _ _ hos' hd' h3 h2 hr h1 fun ρ' a' w' g1 g2 g3 g4=>hk ρ' a' w' g1 (g2.trans h4) g3 g4⟩
  ·rename_i hw
   rw[q54 ha hw]
   simp only[if_true]
   split at h1
   case h_2=>cases h1
   rename_i v h2 hop
   refine qlb hc hop ha hr fun ρ' u w' hv hs=>?_
   obtain⟨h2,h3,h4⟩:=(ha.mono hs.pre).putd hn hdo hv
   exact qbi hc os (i+1) ρ' _ w' _ _ hos' hd' h3 h2 hs.rep h1 fun ρ'' a' w'' g1 g2 g3 g4=>hk ρ'' a' w'' g1 (g2.trans h4) g3 (hs.trans g4)
  ·cases h1
end
mutual
theorem VR.one {ρ:Rn}:∀ {x:AV} {u v:Value},VR ρ x u->VR ρ x v->u=v
 | .i _ _,_,_,hu,hv=>hu.trans (Eq.symm hv)
 | .b _,_,_,hu,hv=>hu.trans (Eq.symm hv)
 | .s _,_,_,⟨s,hs,h1⟩,⟨t,ht,h2⟩=>by rw[hs,ht,qbd.1 (h1.trans h2.symm)]
 | .p none,_,_,hu,hv=>hu.trans (Eq.symm hv)
 | .p (some _),_,_,⟨q,hq,hu⟩,⟨p,hp,hv⟩=>by rw[hq] at hp; cases hp; rw[hu,hv]
 | .sl none _ _ _,_,_,hu,hv=>hu.1.trans hv.1.symm
 | .sl (some _) _ c z,_,_,⟨q,c1,hq,hu,_,h1,_,h2⟩,⟨p,c2,hp,hv,_,h3,_,h4⟩=>by
  rw[hq] at hp
  cases hp
  have:c1=c2:=by
   cases c with
   | some k=>exact(h1 k rfl).symm.trans (h3 k rfl)
   | none =>
    obtain⟨h5,h6⟩:=h2 rfl
    have h7:=(h4 rfl).2
    exact Nat.eq_of_mul_eq_mul_right h5 (by omega)
  rw[hu,hv,this]
 | .m none,_,_,hu,hv=>hu.trans (Eq.symm hv)
 | .m (some _),_,_,⟨q,hq,hu⟩,⟨p,hp,hv⟩=>by rw[hq] at hp; cases hp; rw[hu,hv]
 | .f _ _ _,_,_,⟨a,b,hu,h1,h2⟩,⟨c,d,hv,h3,h4⟩=>by rw[hu,hv,JR.1 (VRs.one h1 h3),JR.1 (VRs.one h2 h4)]
 | .y _,_,_,⟨q,hq,hu⟩,⟨p,hp,hv⟩=>by rw[hq] at hp; cases hp; rw[hu,hv]
 | .nf,_,_,hu,hv=>hu.trans (Eq.symm hv)
 | .ni,_,_,hu,hv=>hu.trans (Eq.symm hv)
 | .ag _,_,_,⟨a,hu,h1⟩,⟨c,hv,h3⟩=>by rw[hu,hv,JR.1 (VRs.one h1 h3)]
 | .tu _,_,_,⟨a,hu,h1⟩,⟨c,hv,h3⟩=>by rw[hu,hv,JR.1 (VRs.one h1 h3)]
theorem VRs.one {ρ:Rn}:∀ {x:List AV} {u v:List Value},VRs ρ x u->VRs ρ x v->u=v
 | [],_,_,hu,hv=>hu.trans (Eq.symm hv)
 | _ :: _,_,_,⟨a,s,hu,h1,h2⟩,⟨b,t,hv,h3,h4⟩=>by rw[hu,hv,VR.one h1 h3,VRs.one h2 h4]
end
mutual
theorem qdf:∀ {x y:AV},eqA x y=true->x=y
 | .i k a,y,h=>by
  cases y<;>simp only[eqA,JL] at h
  split at h
  ·rename_i hk; rw[of_decide_eq_true hk,of_decide_eq_true h]
  ·cases h
 | .b a,y,h=>by cases y<;>simp only[eqA,JL] at h; rw[eq_of_beq h]
 | .s a,y,h=>by cases y<;>simp only[eqA,JL] at h; rw[eq_of_beq h]
 | .p a,y,h=>by cases y<;>simp only[eqA,JL] at h; rw[eq_of_beq h]
 | .sl a l c z,y,h=>by
  cases y<;>simp only[eqA,JL] at h
  split at h
  ·rename_i h1
   split at h
   ·rename_i h2
    simp only[JM] at h2
    rw[eq_of_beq h1,Jw h2.1,Jw h2.2,eq_of_beq h]
   ·cases h
  ·cases h
 | .m a,y,h=>by cases y<;>simp only[eqA,JL] at h; rw[eq_of_beq h]
 | .f i a b,y,h=>by
  cases y<;>simp only[eqA,JL] at h
  split at h
  ·rename_i h1
   split at h
   ·rename_i h2
    rw[Jw h1,q48 h2,q48 h]
   ·cases h
  ·cases h
 | .y a,y,h=>by cases y<;>simp only[eqA,JL] at h; rw[Jw h]
 | .nf,y,h=>by cases y<;>simp only[eqA,JL] at h; rfl
 | .ni,y,h=>by cases y<;>simp only[eqA,JL] at h; rfl
 | .ag a,y,h=>by cases y<;>simp only[eqA,JL] at h; rw[q48 h]
 | .tu a,y,h=>by cases y<;>simp only[eqA,JL] at h; rw[q48 h]
theorem q48:∀ {x y:List AV},eqAs x y=true->x=y
 | [],y,h=>by cases y<;>simp only[eqAs,JL] at h; rfl
 | a :: x,y,h=>by
  cases y<;>simp only[eqAs,JL] at h
  split at h
  ·rename_i h1; rw[qdf h1,q48 h]
  ·cases h
end
section
variable {w0 w w':World}{ρ ρ':Rn}{h h':H}{e e':Nat->Nat}
mutual
theorem VR.ren (he:∀ b q,ρ[b]?=some q->ρ'[e b]?=some q):∀ {x:AV} {v:Value},VR ρ x v->VR ρ' (Xe.ren e x) v
 | .i _ _,_,hv=>hv
 | .b _,_,hv=>hv
 | .s _,_,hv=>hv
 | .p none,_,hv=>hv
 | .p (some _),_,⟨q,hq,hv⟩=>⟨q,he _ _ hq,hv⟩
 | .sl none _ _ _,_,hv=>hv
 | .sl (some _) _ _ _,_,⟨q,c,hq,hv⟩=>⟨q,c,he _ _ hq,hv⟩
 | .m none,_,hv=>hv
 | .m (some _),_,⟨q,hq,hv⟩=>⟨q,he _ _ hq,hv⟩
 | .f _ _ _,_,⟨vs,bs,hv,h1,h2⟩=>⟨vs,bs,hv,VRs.ren he h1,VRs.ren he h2⟩
 | .y _,_,⟨q,hq,hv⟩=>⟨q,he _ _ hq,hv⟩
 | .nf,_,hv=>hv
 | .ni,_,hv=>hv
 | .ag _,_,⟨vs,hv,h1⟩=>⟨vs,hv,VRs.ren he h1⟩
 | .tu _,_,⟨vs,hv,h1⟩=>⟨vs,hv,VRs.ren he h1⟩
theorem VRs.ren (he:∀ b q,ρ[b]?=some q->ρ'[e b]?=some q):∀ {x:List AV} {v:List Value},VRs ρ x v->VRs ρ' (rens e x) v
 | [],_,hv=>hv
 | _ :: _,_,⟨v,s,hl,h1,h2⟩=>⟨v,s,hl,VR.ren he h1,VRs.ren he h2⟩
end
mutual
theorem VR.unr (he:∀ b q,ρ'[e b]?=some q->ρ[b]?=some q):∀ {x:AV} {v:Value},VR ρ' (Xe.ren e x) v->VR ρ x v
 | .i _ _,_,hv=>hv
 | .b _,_,hv=>hv
 | .s _,_,hv=>hv
 | .p none,_,hv=>hv
 | .p (some _),_,⟨q,hq,hv⟩=>⟨q,he _ _ hq,hv⟩
 | .sl none _ _ _,_,hv=>hv
 | .sl (some _) _ _ _,_,⟨q,c,hq,hv⟩=>⟨q,c,he _ _ hq,hv⟩
 | .m none,_,hv=>hv
 | .m (some _),_,⟨q,hq,hv⟩=>⟨q,he _ _ hq,hv⟩
 | .f _ _ _,_,⟨vs,bs,hv,h1,h2⟩=>⟨vs,bs,hv,VRs.unr he h1,VRs.unr he h2⟩
 | .y _,_,⟨q,hq,hv⟩=>⟨q,he _ _ hq,hv⟩
 | .nf,_,hv=>hv
 | .ni,_,hv=>hv
 | .ag _,_,⟨vs,hv,h1⟩=>⟨vs,hv,VRs.unr he h1⟩
 | .tu _,_,⟨vs,hv,h1⟩=>⟨vs,hv,VRs.unr he h1⟩
theorem VRs.unr (he:∀ b q,ρ'[e b]?=some q->ρ[b]?=some q):∀ {x:List AV} {v:List Value},VRs ρ' (rens e x) v->VRs ρ x v
 | [],_,hv=>hv
 | _ :: _,_,⟨v,s,hl,h1,h2⟩=>⟨v,s,hl,VR.unr he h1,VRs.unr he h2⟩
end
theorem qbj:∀ {cs:List AV} {i:Nat},(rens e cs)[i]?=(cs[i]?).map (ren e)
 | [],_=>rfl
 | x :: cs,0=>rfl
 | x :: cs,i+1=>by show(rens e cs)[i]?=_; rw[qbj]; rfl
theorem q55:∀ {cs:List AV},(rens e cs).length=cs.length
 | []=>rfl
 | x :: cs=>congrArg (·+1) (q55 (cs:=cs))
theorem EsR.ren [Zc] (he:∀ b q,ρ[b]?=some q->ρ'[e b]?=some q):∀ {es:List (AV × AV)} {ms:List MapEntry},EsR ρ es ms->EsR ρ' (renE e es) ms
 | [],_,h=>h
 | (_,_) :: _,_,⟨m,s,hl,h1,h2,h3⟩=>⟨m,s,hl,h1.ren he,h2.ren he,EsR.ren he h3⟩
theorem EsR.unr [Zc] (he:∀ b q,ρ'[e b]?=some q->ρ[b]?=some q):∀ {es:List (AV × AV)} {ms:List MapEntry},EsR ρ' (renE e es) ms->EsR ρ es ms
 | [],_,h=>h
 | (_,_) :: _,_,⟨m,s,hl,h1,h2,h3⟩=>⟨m,s,hl,h1.unr he,h2.unr he,EsR.unr he h3⟩
theorem ObR.ren [Zc] (he:∀ b q,ρ[b]?=some q->ρ'[e b]?=some q){q:Nm}{o:Ob}(h:ObR ρ w q o):ObR ρ' w q (renO e o):=by
 cases o with
 | c cs f =>
  obtain⟨h0,arr,h1,h2,h3,h4⟩:=h
  refine⟨h0,arr,h1,h2,by rw[q55]; exact h3,fun i x hx=>?_⟩
  rw[qbj] at hx
  obtain⟨y,hy,rfl⟩:=JP.1 hx
  obtain⟨v,h5,h6⟩:=h4 i y hy
  exact⟨v,h5,h6.ren he⟩
 | m es=>obtain⟨ms,c,h1,h2⟩:=h; exact⟨ms,c,h1,h2.ren he⟩
 | _=>trivial
theorem ObR.unr [Zc] (he:∀ b q,ρ'[e b]?=some q->ρ[b]?=some q){q:Nm}{o:Ob}(hl:liv (renO e o))(h:ObR ρ' w q (renO e o)):ObR ρ w q o:=by
 cases o with
 | c cs f =>
  obtain⟨h0,arr,h1,h2,h3,h4⟩:=h
  refine⟨h0,arr,h1,h2,by rw[q55] at h3; exact h3,fun i x hx=>?_⟩
  obtain⟨v,h5,h6⟩:=h4 i (Xe.ren e x) (by rw[qbj,hx]; rfl)
  exact⟨v,h5,h6.unr he⟩
 | m es=>obtain⟨ms,c,h1,h2⟩:=h; exact⟨ms,c,h1,h2.unr he⟩
 | _=>exact hl.elim
structure RepL [Zc] (w0:World)(ρ:Rn)(B:List Ob)(w:World):Prop where
 len:ρ.length=B.length
 fr:Fr F0 w0 w
 lo:∀ q∈ρ,w0.heap.size<=q.b/\q.b<w.heap.size
 ob:∀ (b:Nat) (o:Ob),B[b]?=some o->liv o->∃ q,ρ[b]?=some q/\ObR ρ w q o
 inj:∀ (b b':Nat) (o o':Ob) (q q':Nm),B[b]?=some o->liv o->B[b']?=some o'->liv o'->ρ[b]?=some q->ρ[b']?=some q'->q.b=q'.b->b=b'
def ImL (ρ:Rn)(B:List Ob)(b:Nat):Prop:=∃ (n:Nat) (o:Ob) (q:Nm),B[n]?=some o/\liv o/\ρ[n]?=some q/\q.b=b
theorem qgr:∀ {B:List Ob} {h:H},(adds h B).n=h.n+B.length
 | [],h=>rfl
 | o :: B,h=>by rw[adds,qgr]; simp[H.new]; omega
theorem q7e [Zc]:∀ {B:List Ob} {h:H} {b:Nat} {y:Ob},(adds h B).get b=some y->(∃ j,b=h.n+j/\B[j]?=some y)\/((∀ j,j<B.length->b≠h.n+j)/\h.get b=some y)
 | [],h,b,y,hx=>.inr ⟨fun j hj=>by simp at hj,hx⟩
 | o :: B,h,b,y,hx=>by
  rcases q7e (B:=B) hx with⟨j,rfl,hj⟩ | ⟨h1,h2⟩
  ·exact .inl ⟨j+1,by simp[H.new]; omega,by simpa using hj⟩
  ·rcases q3j h2 with⟨rfl,rfl⟩ | ⟨h3,h4⟩
   ·exact .inl ⟨0,rfl,rfl⟩
   ·refine .inr ⟨fun j hj=>?_,h4⟩
    cases j with
    | zero=>exact h3
    | succ j=>have:=h1 j (by simpa using hj); simp[H.new] at this; omega
theorem qbk [Zc] {B:List Ob}{b:Nat}{y:Ob}(hx:(mkH B).get b=some y):B[b]?=some y:=by
 rcases q7e (B:=B) hx with⟨j,rfl,hj⟩ | ⟨_,h2⟩
 ·simpa using hj
 ·exact absurd h2 (by show Tr.get .lf _ _≠_; rw[Tr.get_lf]; simp)
theorem mkH_n [Zc] {B:List Ob}:(mkH B).n=B.length:=by unfold mkH; rw[qgr]; simp
theorem RepL.rep [Zc] {B:List Ob}(hr:RepL w0 ρ B w):Rep w0 ρ (mkH B) w :=
 ⟨hr.len.trans mkH_n.symm,hr.fr,hr.lo,fun b o h hl=>hr.ob b o (qbk h) hl,fun b b' o o' q q' h hl h' hl'=>hr.inj b b' o o' q q' (qbk h) hl (qbk h') hl'⟩
theorem Im.toL [Zc] {B:List Ob}{b:Nat}(h:Im ρ (mkH B) b):ImL ρ B b:=let ⟨n,o,q,h1,h2⟩:=h; ⟨n,o,q,qbk h1,h2⟩
theorem q4p {l:List Nat}{n b x:Nat}(h:l[b]?=some x):emb l n b=x:=by unfold emb; rw[qa2,h]
theorem qon {l:List Nat}{n b:Nat}(h:l.length<=b):emb l n b=n:=by unfold emb; rw[qa2,Jd h]
theorem qdg:∀ (n d:Nat),rng d n=Jn d n
 | 0,_=>rfl
 | n+1,d=>by rw[rng,qdg n,Jp]
theorem qgs {x:Nat}:∀ {l:List Nat},qnl x l=true->x ∉ l
 | [],_=>by simp
 | y :: r,h=>by
  unfold qnl at h
  split at h
  ·cases h
  ·rename_i hb
   rw[Jv,not_or]
   exact⟨Nat.ne_of_beq_eq_false hb,qgs h⟩
theorem q8p [Zc]:∀ {l:List Nat},qa1 l=true->l.Nodup
 | [],_=>List.nodup_nil
 | x :: r,h=>by
  unfold qa1 at h
  split at h
  ·rename_i hb; exact List.nodup_cons.2 ⟨qgs hb,q8p h⟩
  ·cases h
theorem qoo:∀ {a b:List (AV × AV)},eqE a b=true->a=b
 | [],b,h=>by cases b<;>simp only[eqE,JL] at h; rfl
 | (x,y) :: a,b,h=>by
  cases b<;>simp only[eqE,JL] at h
  split at h
  ·rename_i h1
   split at h
   ·rename_i h2
    rw[qdf h1,qdf h2,qoo h]
   ·cases h
  ·cases h
theorem eqO_eq [Zc] {a:Option Ob}{b:Ob}(h:eqO a b=true):a=some b/\liv b:=by
 unfold eqO at h
 split at h
 ·split at h
  ·rename_i h1; rw[q48 h1,eq_of_beq h]; exact⟨rfl,trivial⟩
  ·cases h
 ·rw[qoo h]; exact⟨rfl,trivial⟩
 ·cases h
theorem qfb [Zc]:∀ {l:List Nat} {B:List Ob},chkB h e l B=true->l.length=B.length/\∀ (i n:Nat) (o:Ob),l[i]?=some n->B[i]?=some o->h.get n=some (renO e o)/\liv (renO e o)
 | [],[],_=>⟨rfl,fun i n o h _=>by simp at h⟩
 | [],_ :: _,h=>by cases h
 | _ :: _,[],h=>by cases h
 | n :: l,o :: B,h=>by
  unfold chkB at h
  split at h
  ·rename_i h1
   obtain⟨h2,h3⟩:=qfb h
   refine⟨by simp[h2],fun i m p hm hp=>?_⟩
   cases i with
   | zero=>simp at hm hp; subst hm hp; exact eqO_eq h1
   | succ i=>exact h3 i m p (by simpa using hm) (by simpa using hp)
  ·cases h
theorem qfc [Zc] (hr:Rep w0 ρ h w){l:List Nat}{B:List Ob}(hc:chkB h (emb l h.n) l B=true)(hn:l.Nodup):∃ ρe:Rn,(∀ b,ρe[b]?=ρ[emb l h.n b]?)/\RepL w0 ρe B w/\∀ b,ImL ρe B b->Im ρ h b:=by
 obtain⟨hlen,hc⟩:=qfb hc
 have hall:∀ x∈l,x<ρ.length:=by
  intro x hx
  obtain⟨i,hi,rfl⟩:=List.getElem_of_mem hx
  obtain⟨h1,h2⟩:=hc i _ B[i] (J1 hi) (J1 (hlen ▸ hi))
  obtain⟨q,hq,-⟩:=hr.ob _ _ h1 h2
  exact(J2.1 hq).1
 have hρe:∀ b,((l.map fun x=>ρ.getD x ⟨0,0,0⟩))[b]?=ρ[emb l h.n b]?:=by
  intro b
  rw[Jh]
  by_cases hb:b<l.length
  ·rw[J1 hb,q4p (J1 hb)]
   have:=hall _ (Jq hb)
   simp[List.getD,J1 this]
  ·rw[Jd (by omega),qon (by omega),Jd (by rw[hr.len]; exact JA _)]
   rfl
 have hbl:∀ {b:Nat} {o:Ob},B[b]?=some o->∃ x,l[b]?=some x/\emb l h.n b=x/\h.get x=some (renO (emb l h.n) o)/\liv (renO (emb l h.n) o):=fun {b o} hb=>by
  have hlt:b<l.length:=hlen ▸ (J2.1 hb).1
  have hx:=J1 hlt
  obtain⟨h1,h2⟩:=hc b _ o hx hb
  exact⟨_,hx,q4p hx,h1,h2⟩
 refine⟨_,hρe,⟨by simp[hlen],hr.fr,fun q hq=>?_,fun b o hb hl=>?_,fun b b' o o' q q' hb hl hb' hl' hq hq' he=>?_⟩,fun b ⟨n,o,q,hb,hl,hq,he⟩=>?_⟩
 ·obtain⟨x,hx,rfl⟩:=List.mem_map.1 hq
  have hlt:=hall x hx
  refine hr.lo _ ?_
  simp only[List.getD,J1 hlt,Option.getD_some]
  exact Jq hlt
 ·obtain⟨x,hx,ex,h1,h2⟩:=hbl hb
  obtain⟨q,hq,ho⟩:=hr.ob _ _ h1 h2
  exact⟨q,by rw[hρe,ex]; exact hq,ho.unr (fun b q hq=>by rw[hρe]; exact hq) h2⟩
 ·obtain⟨x,hx,ex,h1,h2⟩:=hbl hb
  obtain⟨x',hx',ex',h1',h2'⟩:=hbl hb'
  rw[hρe,ex] at hq
  rw[hρe,ex'] at hq'
  have:=hr.inj _ _ _ _ _ _ h1 h2 h1' h2' hq hq' he
  subst this
  obtain⟨g1,g2⟩:=J2.1 hx
  obtain⟨g3,g4⟩:=J2.1 hx'
  exact(List.getElem_inj hn).1 (g2.trans g4.symm)
 ·obtain⟨x,hx,ex,h1,h2⟩:=hbl hb
  rw[hρe,ex] at hq
  exact⟨x,_,q,h1,h2,hq,he⟩
theorem qbl:∀ {B:List Ob} {j:Nat},(obsR e B)[j]?=(B[j]?).map (renO e)
 | [],_=>rfl
 | _ :: _,0=>rfl
 | _ :: B,j+1=>by show(obsR e B)[j]?=_; rw[qbl]; rfl
theorem q56:∀ {B:List Ob},(obsR e B).length=B.length
 | []=>rfl
 | _ :: B=>congrArg (·+1) (q56 (B:=B))
mutual
theorem VR.cong (he:∀ b q,ρ[b]?=some q->e b=e' b):∀ {x:AV} {v:Value},VR ρ x v->Xe.ren e x=Xe.ren e' x
 | .i _ _,_,_=>rfl
 | .b _,_,_=>rfl
 | .s _,_,_=>rfl
 | .p none,_,_=>rfl
 | .p (some _),_,⟨q,hq,_⟩=>by simp only[Xe.ren,he _ _ hq]
 | .sl none _ _ _,_,_=>rfl
 | .sl (some _) _ _ _,_,⟨q,c,hq,_⟩=>by simp only[Xe.ren,he _ _ hq]
 | .m none,_,_=>rfl
 | .m (some _),_,⟨q,hq,_⟩=>by simp only[Xe.ren,he _ _ hq]
 | .f _ _ _,_,⟨vs,bs,_,h1,h2⟩=>by simp only[Xe.ren,VRs.cong he h1,VRs.cong he h2]
 | .y _,_,⟨q,hq,_⟩=>by simp only[Xe.ren,he _ _ hq]
 | .nf,_,_=>rfl
 | .ni,_,_=>rfl
 | .ag _,_,⟨vs,_,h1⟩=>by simp only[Xe.ren,VRs.cong he h1]
 | .tu _,_,⟨vs,_,h1⟩=>by simp only[Xe.ren,VRs.cong he h1]
theorem VRs.cong (he:∀ b q,ρ[b]?=some q->e b=e' b):∀ {x:List AV} {v:List Value},VRs ρ x v->rens e x=rens e' x
 | [],_,_=>rfl
 | _ :: _,_,⟨v,s,_,h1,h2⟩=>by simp only[rens,VR.cong he h1,VRs.cong he h2]
end
theorem EsR.cong [Zc] (he:∀ b q,ρ[b]?=some q->e b=e' b):∀ {es:List (AV × AV)} {ms:List MapEntry},EsR ρ es ms->renE e es=renE e' es
 | [],_,_=>rfl
 | (_,_) :: _,_,⟨m,s,_,h1,h2,h3⟩=>by simp only[renE,h1.cong he,h2.cong he,EsR.cong he h3]
theorem ObR.cong [Zc] (he:∀ b q,ρ[b]?=some q->e b=e' b){q:Nm}{o:Ob}(h:ObR ρ w q o):renO e o=renO e' o:=by
 cases o with
 | c cs f =>
  obtain⟨h0,arr,h1,h2,h3,h4⟩:=h
  have:∀ {l:List AV},(∀ (i:Nat) (x:AV),l[i]?=some x->∃ v,VR ρ x v)->rens e l=rens e' l:=by
   intro l
   induction l with
   | nil=>intro _; rfl
   | cons x l ih =>
    intro h
    obtain⟨v,hv⟩:=h 0 x rfl
    simp only[rens,hv.cong he,ih fun i y hy=>h (i+1) y (by simpa using hy)]
  simp only[renO,this fun i x hx=>let ⟨v,_,h⟩:=h4 i x hx; ⟨v,h⟩]
 | m es=>obtain⟨ms,c,h1,h2⟩:=h; simp only[renO,h2.cong he]
 | _=>rfl
end
