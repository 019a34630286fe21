/- A body's formula, reckoned while the text is read: what V gives is brought into the shape in which it is read. Nothing here is leant on: each formula is shown to be the body's where its contract is shown. Conditions: none. -/
import Derived.Test.YtmfkimnmklnppaaGreatDoorEQC
set_option maxRecDepth 20000
namespace Pw
open Go
def Lt(v:World)(K:World->Prop):Prop:=K v
abbrev lW(w:World):Addr->Value->Prop:=fun b v=>w.cell? b=some v
abbrev lS(S:World->Prop):Addr->Value->Prop:=fun b v=>∀w',S w'->w'.cell? b=some v
def neZ(b:Int):Prop:=b≠0
def nthL{α:Type}:List α->Nat->Option α
 | x::_,0=>some x
 | _::l,k+1=>nthL l k
 | [],_=>none
def drpL{α:Type}:Nat->List α->List α
 | 0,l=>l
 | k+1,_::l=>drpL k l
 | _+1,[]=>[]
def tkL{α:Type}:Nat->List α->List α
 | 0,_=>[]
 | k+1,x::l=>x::tkL k l
 | _+1,[]=>[]
def setL{α:Type}:List α->Nat->List α->List α
 | _::l,0,v::vs=>v::setL l 0 vs
 | x::l,k+1,vs=>x::setL l k vs
 | l,_,_=>l
def apL{α:Type}:List α->List α->List α
 | x::l,m=>x::apL l m
 | [],m=>m
def frc{α:Type}:List α->(List α->Prop)->Prop
 | [],K=>K []
 | x::l,K=>frc l fun m=>K (x::m)
def clV:Value->List Value
 | .agg xs=>xs.toList
 | v=>[v]
def rowL(z:List Value):Nat->List Value
 | 0=>[]
 | n+1=>apL z (rowL z n)
def isS:Value->Bool
 | .string _=>true
 | _=>false
def isR:Value->Bool
 | .tuple _=>true
 | _=>false
def fdV(P:Program)(t i:Nat):Option (Nat×Nat):=match P.underlying t with
 | some (.struct fs)=>match nthL fs.toList i with
  | some f=>match f with
   | ⟨_,ft,off,_,_,_,_⟩=>some (off,ft)
  | none=>none
 | _=>none
def szV(P:Program)(t:Nat):Nat:=match P.info? t with
 | some ti=>ti.size
 | none=>0
def szK(P:Program)(t:Nat)(K:Nat->Prop):Prop:=match P.info? t with
 | some ⟨_,_,sz,_,_,_,_,_,_,_⟩=>K sz
 | none=>False
def byK(P:Program)(t:Nat)(K:Nat->Prop):Prop:=match P.info? t with
 | some ⟨_,_,_,bs,_,_,_,_,_,_⟩=>K bs
 | none=>False
def zV(P:Program)(t:Nat):List Value:=match P.info? t with
 | some ti=>match ti.zero with
  | some z=>clV z
  | none=>[]
 | none=>[]
def natK(x:Option Operand)(i:Int)(K:Nat->Prop):Prop:=match x with
 | none=>K 0
 | some (.const (.int _ (.ofNat m)))=>K m
 | _=>K i.toNat
def aggV(P:Program)(t:Nat):Bool:=match P.underlying t with
 | some (.struct _)=>true
 | some (.array _ _)=>true
 | _=>false
def rec43(vs:List Value)(K:T43->Prop):Prop:=match d43 vs with
 | some x=>K x
 | none=>False
theorem T43.eta{x:T43}:T43.mk x.f0 x.f1 x.f2 x.f3 x.f4 x.f5 x.f6 x.f7 x.f8 x.f9 x.f10 x.f11 x.f12 x.f13 x.f14 x.f15 x.f16 x.f17 x.f18 x.f19=x:=rfl
section
variable(P:Program)(rc:Nat)(Γ:Env)(n:Nat)
def eqsK:List Value->List Value->(Bool->Prop)->Prop
 | .int _ a::xs,.int _ b::ys,K=>eqsK xs ys fun r=>K (a==b&&r)
 | .bool a::xs,.bool b::ys,K=>eqsK xs ys fun r=>K (a==b&&r)
 | .string a::xs,.string b::ys,K=>eqsK xs ys fun r=>K (decide (a=b)&&r)
 | _,_,K=>K true
def eqK(P:Program):List Field->List Value->List Value->(Bool->Prop)->Prop
 | f::fs,xs,ys,K=>match P.underlying f.type with
  | some (.struct _)=>eqsK (tkL (szV P f.type) xs) (tkL (szV P f.type) ys) fun q=>eqK P fs (drpL (szV P f.type) xs) (drpL (szV P f.type) ys) fun r=>K (q&&r)
  | _=>match xs,ys with
   | .int _ a::xs,.int _ b::ys=>eqK P fs xs ys fun r=>K (a==b&&r)
   | .bool a::xs,.bool b::ys=>eqK P fs xs ys fun r=>K (a==b&&r)
   | .string a::xs,.string b::ys=>eqK P fs xs ys fun r=>K (decide (a=b)&&r)
   | _,_=>False
 | [],_,_,K=>K true
def binV(op:BinOp)(raw:Bool)(yo:Operand)(x y:Value)(K:Value->Prop)(F:Prop):Prop:=
 match y with
 | .nilIface=>match op with
  | .eql=>nif x fun b=>K (.bool b)
  | .neq=>nif x fun b=>K (.bool (!b))
  | _=>F
 | .int _ b=>match x with
  | .int k a=>match op with
   | .add=>match raw with
    | true=>K (.int k (k.wrap (a+b)))
    | false=>inR k (a+b)/\K (.int k (a+b))
   | .sub=>match raw with
    | true=>K (.int k (k.wrap (a-b)))
    | false=>inR k (a-b)/\K (.int k (a-b))
   | .mul=>match raw with
    | true=>K (.int k (k.wrap (a*b)))
    | false=>inR k (a*b)/\K (.int k (a*b))
   | .quo=>neZ b/\inR k (a.tdiv b)/\K (.int k (a.tdiv b))
   | .rem=>neZ b/\K (.int k (a.tmod b))
   | .shl=>natK (some yo) b fun m=>0<=b/\K (.int k (k.wrap (a*2^(min m k.bits))))
   | .shr=>natK (some yo) b fun m=>0<=b/\K (.int k (a.fdiv (2^(min m k.bits))))
   | .eql=>K (.bool (a==b))
   | .neq=>K (.bool (a != b))
   | .lss=>K (.bool (decide (a<b)))
   | .leq=>K (.bool (decide (a<=b)))
   | .gtr=>K (.bool (decide (a>b)))
   | .geq=>K (.bool (decide (a>=b)))
   | .and=>K (.int k (k.wrap (((BitVec.ofInt k.bits a) &&& (BitVec.ofInt k.bits b)).toNat:Int)))
   | .or=>K (.int k (k.wrap (((BitVec.ofInt k.bits a) ||| (BitVec.ofInt k.bits b)).toNat:Int)))
   | _=>F
  | _=>F
 | .bool b=>match x with
  | .bool a=>match op with
   | .eql=>K (.bool (a==b))
   | .neq=>K (.bool (!(a==b)))
   | _=>F
  | _=>F
 | .string b=>match x with
  | .string a=>match op with
   | .add=>((a.size+b.size:Nat):Int)<=maxI/\K (.string (a++b))
   | .eql=>K (.bool (decide (a=b)))
   | .neq=>K (.bool (!decide (a=b)))
   | .lss=>K (.bool (Op.bytesLess a.toList b.toList))
   | .leq=>K (.bool (Op.bytesLess a.toList b.toList||a.toList==b.toList))
   | .gtr=>K (.bool (!(Op.bytesLess a.toList b.toList||a.toList==b.toList)))
   | .geq=>K (.bool (!(Op.bytesLess a.toList b.toList)))
   | _=>F
  | _=>F
 | .slice _ _ _=>match x with
  | .slice p _ _=>match op with
   | .eql=>K (.bool p.isNone)
   | .neq=>K (.bool (!p.isNone))
   | _=>F
  | _=>F
 | .map _=>match x with
  | .map p=>match op with
   | .eql=>K (.bool p.isNone)
   | .neq=>K (.bool (!p.isNone))
   | _=>F
  | _=>F
 | .pointer q=>match q with
  | none=>match x with
   | .pointer p=>match op with
    | .eql=>K (.bool p.isNone)
    | .neq=>K (.bool (!p.isNone))
    | _=>F
   | _=>F
  | _=>F
 | _=>F
def pV(ld:Addr->Value->Prop)(rd:Addr->(T43->Prop)->Prop)(raw:Bool)(σ:St)(o:Oper)(K:Value->Prop)(F:Prop):Prop:=
 match o.op with
 | .move x=>match ev σ x with
  | some v=>K v
  | none=>False
 | .assign x=>match ev σ x with
  | some v=>K v
  | none=>False
 | .pick c x y=>match ev σ c with
  | some (.bool b)=>match b with
   | true=>match ev σ x with
    | some v=>K v
    | none=>False
   | false=>match ev σ y with
    | some v=>K v
    | none=>False
  | _=>False
 | .nilCheck x=>match ev σ x with
  | some (.pointer p)=>nz p fun a=>K (.pointer (some a))
  | _=>False
 | .fieldAddr t x i=>match ev σ x,fdV P t i with
  | some (.pointer (some a)),some (k,_)=>K (.pointer (some (a.add k)))
  | _,_=>False
 | .field t x i=>match ev σ x,fdV P t i with
  | some (.agg xs),some (k,ft)=>match aggV P ft with
   | true=>frc (tkL (szV P ft) (drpL k xs.toList)) fun l=>K (.agg l.toArray)
   | false=>match nthL xs.toList k with
    | some v=>K v
    | none=>False
  | _,_=>False
 | .load t x=>match ev σ x with
  | some (.pointer (some a))=>match Nat.beq t rc with
   | true=>rd a fun x=>K (.agg x.cs.toArray)
   | false=>ldW P ld t a K
  | _=>False
 | .binOp op t x y _=>match ev σ x,ev σ y with
  | some v,some u=>match u with
   | .agg ys=>match v with
    | .agg xs=>match P.underlying t with
     | some (.struct fs)=>eqK P fs.toList xs.toList ys.toList fun r=>match op with
      | .eql=>K (.bool r)
      | .neq=>K (.bool (!r))
      | _=>F
     | _=>F
    | _=>F
   | u=>binV op raw y v u K F
  | _,_=>False
 | .unOp op _ x=>match ev σ x with
  | some (.bool b)=>match op with
   | .not=>K (.bool (!b))
   | _=>F
  | some (.int k a)=>match op with
   | .neg=>match raw with
    | true=>K (.int k (k.wrap (0-a)))
    | false=>inR k (-a)/\K (.int k (-a))
   | _=>F
  | _=>F
 | .convert s d x=>match P.underlying d with
  | some (.int k)=>match ev σ x with
   | some (.int _ a)=>match raw with
    | true=>K (.int k (k.wrap a))
    | false=>inR k a/\K (.int k a)
   | _=>F
  | some .string=>match P.underlying s with
   | some .string=>match ev σ x with
    | some v=>K v
    | none=>False
   | _=>F
  | _=>F
 | .indexAddr t x i=>match ev σ x,ev σ i,P.underlying t with
  | some (.slice p l _),some (.int _ j),some (.slice e)=>szK P e fun sz=>nz p fun a=>(0<=j/\j<l)/\K (.pointer (some (a.add (j.toNat*sz))))
  | some (.pointer (some a)),some (.int _ j),some (.array l e)=>szK P e fun sz=>(0<=j/\j<l)/\K (.pointer (some (a.add (j.toNat*sz))))
  | _,_,_=>F
 | .index t x i=>match ev σ x,ev σ i,P.underlying t with
  | some (.string s),some (.int _ j),some .string=>(0<=j/\j<s.size)/\K (.int .u8 (s.data.toList.getD j.toNat 0).toNat)
  | some (.agg xs),some (.int _ j),some (.array _ e)=>match j with
   | .ofNat j=>match aggV P e with
    | true=>frc (tkL (szV P e) (drpL (j*szV P e) xs.toList)) fun l=>K (.agg l.toArray)
    | false=>match nthL xs.toList j with
     | some v=>K v
     | none=>False
   | _=>F
  | _,_,_=>F
 | .slice t x lo hi mx=>match ev σ x,P.underlying t,qcz σ lo with
  | some (.slice p m c),some (.slice e),some l=>szK P e fun sz=>natK lo l fun ln=>match mx,hi with
   | some mx,some hi=>match ev σ hi,ev σ mx with
    | some (.int _ h),some (.int _ q)=>natK (some hi) h fun hn=>natK (some mx) q fun qn=>(0<=l/\l<=h/\h<=q/\q<=c)/\K (.slice (subP p ln qn sz) (hn-ln) (qn-ln))
    | _,_=>F
   | none,some hi=>match ev σ hi with
    | some (.int _ h)=>natK (some hi) h fun hn=>(0<=l/\l<=h/\h<=c)/\K (.slice (subP p ln c sz) (hn-ln) (c-ln))
    | _=>F
   | none,none=>(0<=l/\l<=m)/\K (.slice (subP p ln c sz) (m-ln) (c-ln))
   | _,_=>F
  | some (.string s),some .string,some l=>natK lo l fun ln=>match hi with
   | some hi=>match ev σ hi with
    | some (.int _ h)=>natK (some hi) h fun hn=>(0<=l/\l<=h/\h<=s.size)/\K (.string (s.extract ln hn))
    | _=>F
   | none=>(0<=l/\l<=s.size)/\K (.string (s.extract ln s.size))
  | _,_,_=>F
 | .build t ps=>frc (bldV P t σ ps.toList (zV P t)) fun l=>K (.agg l.toArray)
 | .extract x i=>match ev σ x with
  | some (.tuple xs)=>match nthL xs.toList i with
   | some v=>K v
   | none=>False
  | _=>False
 | .makeInterface t x=>match ev σ x with
  | some v=>K (.iface t v)
  | none=>False
 | .typeAssert x _ _ _=>match ev σ x with
  | some (.iface _ v)=>K (.tuple #[v,.bool true])
  | _=>F
 | .makeFunc f a c=>match evs σ a.toList,evs σ c.toList with
  | some a,some c=>K (.func f a.toArray c.toArray)
  | _,_=>False
 | .call c=>match c.callee with
  | .builtin b=>match b with
   | .len=>match evs σ c.args.toList with
    | some [.string s]=>K (.int .i64 (s.size:Int))
    | some [.slice _ l _]=>K (.int .i64 (l:Int))
    | some [.map _]=>F
    | _=>match c.argTypes.toList with
     | [t]=>match P.underlying t with
      | some (.array l _)=>K (.int .i64 (l:Int))
      | _=>F
     | _=>F
   | .cap=>match evs σ c.args.toList with
    | some [.slice _ _ c]=>K (.int .i64 (c:Int))
    | _=>F
   | .min=>match evs σ c.args.toList with
    | some [.int k a,.int _ b]=>K (.int k (min a b))
    | _=>F
   | .max=>match evs σ c.args.toList with
    | some [.int k a,.int _ b]=>K (.int k (max a b))
    | _=>F
   | _=>F
  | _=>F
 | _=>F
where
 bldV (P:Program) (t:Nat) (σ:St):List (Nat×Operand)->List Value->List Value
  | [],l=>l
  | (i,x)::ps,l=>match ev σ x with
   | some v=>match P.underlying t with
    | some (.array _ e)=>bldV P t σ ps (setL l (i*szV P e) (clV v))
    | _=>match fdV P t i with
     | some (k,_)=>bldV P t σ ps (setL l k (clV v))
     | none=>[]
   | none=>[]
def lstV(e:Nat)(σ:St):List (Nat×Operand)->List Value->List Value
 | [],l=>l
 | (i,x)::ps,l=>match ev σ x with
  | some v=>lstV e σ ps (setL l (i*szV P e) (clV v))
  | none=>[]
def qsa(t:Nat)(l:List Value)(K:Obj->Prop):Prop:=match Nat.beq t rc with
 | true=>rec43 l fun x=>K (.cells x.cs.toArray t)
 | false=>frc l fun l=>K (.cells l.toArray t)
def rowV(σ:St)(o:Oper)(K:Obj->(Nat->Value)->Prop)(F:Prop):Prop:=
 match o.op with
 | .alloc t=>qsa rc t (zV P t) fun ob=>K ob fun b=>.pointer (some ⟨b,0,none⟩)
 | .box t x=>match ev σ x with
  | some v=>match aggV P t with
   | true=>qsa rc t (clV v) fun ob=>K ob fun b=>.pointer (some ⟨b,0,none⟩)
   | false=>K (.cells v.cells t) fun b=>.pointer (some ⟨b,0,none⟩)
  | none=>False
 | .buildSlice t l ps=>match P.underlying t with
  | some (.slice e)=>frc (lstV P e σ ps.toList (rowL (zV P e) l)) fun cs=>K (.cells cs.toArray e) fun b=>.slice (some ⟨b,0,none⟩) l l
  | _=>False
 | _=>F
def chV(a:Addr):List Value->Nat->World->(World->Prop)->Prop
 | [],_,w,K=>K w
 | v::l,i,w,K=>okk v (wrOk w (a.add i)/\Lt (w.setCell (a.add i) v) fun w1=>chV a l (i+1) w1 K)
def stQ(w:World)(a:Addr)(vs:List Value)(K:World->Prop):Prop:=stN w a vs K
def allC:List Value->Bool
 | v::l=>match okC v with
  | true=>allC l
  | false=>false
 | []=>true
def oV(raw:Bool)(σ:St)(o:Oper)(w:World)(K:VW):Prop:=
 pV P rc (lW w) (T43.ld w) raw σ o (fun v=>K v w) <|
 rowV P rc σ o (fun ob v=>Lt (w.alloc ob) fun w1=>K (v w.heap.size) w1) <|
 match o.op with
 | .makeMap _ none=>Lt (w.alloc (.map #[] 0)) fun w1=>K (.map (some w.heap.size)) w1
 | .store t x y=>match ev σ x,ev σ y with
  | some (.pointer (some a)),some v=>match v with
   | .agg xs=>match Nat.beq t rc with
    | true=>rec43 xs.toList fun x=>stN w a x.cs fun w1=>K undef w1
    | false=>match xs.toList with
     | []=>K undef w
     | [v]=>okk v (wrOk w a/\Lt (w.setCell a v) fun w1=>K undef w1)
     | [v,u]=>okk v (wrOk w a/\Lt (w.setCell a v) fun w1=>okk u (wrOk w1 (a.add 1)/\Lt (w1.setCell (a.add 1) u) fun w2=>K undef w2))
     | l=>match Nat.beq rc 0 with
      | true=>chV a l 0 w fun w1=>K undef w1
      | false=>frc l fun l=>stQ w a l fun w1=>K undef w1
   | v=>okk v (wrOk w a/\Lt (w.setCell a v) fun w1=>K undef w1)
  | _,_=>False
 | .mapUpdate t m x y | .insert t m x y=>match ev σ m,ev σ x,ev σ y with
  | some (.map q),some (.int k i),some v=>nzm q fun r=>(∃l:List (Int×Value),Mp w r k l)/\Lt (w.mset r k i v) fun w1=>K undef w1
  | some (.map q),some (.string i),some v=>nzm q fun r=>(∃l:List (ByteArray×Value),Ms w r l)/\Lt (w.sset r i v) fun w1=>K undef w1
  | _,_,_=>opW P Γ σ o w K
 | .call c=>match c.callee with
  | .value f=>match ev σ f with
   | some (.func (.func f) a b)=>match q3j Γ f,evs σ c.args.toList with
    | some S,some vs=>S (apL a.toList (apL vs b.toList)) w K
    | _,_=>False
   | _=>False
  | .builtin b=>match b,c.argTypes.toList,evs σ c.args.toList with
   | .append,t::_,some [.slice p l c,x]=>match P.underlying t with
    | some (.slice e)=>frc (zV P e) fun z=>szK P e fun sz=>byK P e fun bs=>match x with
     | .slice q m d=>apS sz bs z e ⟨p,l,c⟩ ⟨q,m,d⟩ w (slV K)
     | .int _ m=>apZ sz bs z e ⟨p,l,c⟩ m w (slV K)
     | .string s=>apT e ⟨p,l,c⟩ s w (slV K)
     | _=>False
    | _=>False
   | .copy,t::_,some [.slice p l c,x]=>match P.underlying t with
    | some (.slice e)=>szK P e fun sz=>match x with
     | .slice q m d=>cpS sz ⟨p,l,c⟩ ⟨q,m,d⟩ w fun n w'=>K (.int .i64 n) w'
     | .string s=>cpT ⟨p,l,c⟩ s w fun n w'=>K (.int .i64 n) w'
     | _=>False
    | _=>False
   | .clear,t::_,some [.slice p l c]=>match P.underlying t with
    | some (.slice e)=>frc (zV P e) fun z=>clS z ⟨p,l,c⟩ w fun w'=>K undef w'
    | _=>False
   | _,_,_=>opW P Γ σ o w K
  | _=>opW P Γ σ o w K
 | .makeSlice t l c=>match ev σ l,ev σ c,P.underlying t with
  | some (.int _ l),some (.int _ c),some (.slice e)=>frc (zV P e) fun z=>byK P e fun bs=>mkS bs z e l c w (slV K)
  | _,_,_=>False
 | _=>opW P Γ σ o w K
def rV:RA->List Oper->(St->World->Prop)->St->World->Prop
 | .done,_,K,σ,w=>K σ w
 | .run r,o::os,K,σ,w=>oV P rc Γ false σ o w fun v w'=>putK n o.dst v σ fun σ'=>rV r os K σ' w'
 | .raw r,o::os,K,σ,w=>oV P rc Γ true σ o w fun v w'=>putK n o.dst v σ fun σ'=>rV r os K σ' w'
 | .dyn z r,o::os,K,σ,w=>opV P σ o z w fun v w'=>putK n o.dst v σ fun σ'=>rV r os K σ' w'
 | .skp r,o::os,K,σ,w=>putK n o.dst undef σ fun σ'=>rV r os K σ' w
 | .spl t r1 r2,os,K,σ,w=>match get σ t with
  | some (.bool b)=>cnd b (rV r1 os K ((t,.bool true)::σ) w) (rV r2 os K ((t,.bool false)::σ) w)
  | _=>False
 | _,_,_,_,_=>False
def vnA:List Edge->Nat->Bool
 | e::es,u=>(match Region.binds .any e with
  | true=>match Nat.beq e.on u with
   | true=>true
   | false=>vnA es u
  | false=>vnA es u)
 | [],_=>false
def vnL(af:List Edge)(j:Nat):List Oper->Nat->Bool
 | ou::os,u=>(match Nat.beq u j with
  | true=>vnL af j os (u+1)
  | false=>match qa2 ou.op with
   | true=>match vnA af u with
    | true=>vnL af j os (u+1)
    | false=>true
   | false=>vnL af j os (u+1))
 | [],_=>false
def nedV(ops:List Oper)(j:Nat):Bool:=match nthL ops j with
 | some o=>vnL o.after.toList j ops 0
 | none=>true
def floV(ops:List Oper)(σ0:St)(w0 u:World):List Nat->List Nat->(St->Prop)->St->Prop
 | [],_,K,σ=>K σ
 | i::fs,bs,K,σ=>match nthL ops i with
  | some o=>rowV P rc σ0 o (fun ob v=>∀u0,Ext w0 u0->ninL u0.heap.size bs->Ext (u0.alloc ob) u->putK n o.dst (v u0.heap.size) σ fun σ'=>floV ops σ0 w0 u fs (u0.heap.size::bs) K σ') False
  | none=>False
def fljV(ops:List Oper)(σ0:St)(w0:World)(fs:List Nat)(K:St->World->Prop):List Nat->St->World->Prop
 | [],σ,w=>∀u,Ext w u->floV P rc n ops σ0 w0 u fs [] (fun σ'=>K σ' u) σ
 | j::js,σ,w=>match nthL ops j with
  | some o=>∀u,Ext w u->oV P rc Γ false σ o u fun v u'=>Ext u u'/\putK n o.dst v σ fun σ'=>fljV ops σ0 w0 fs K js σ' u'
  | none=>False
def flxV(ops:List Oper)(σ:St):List Nat->Prop
 | []=>True
 | i::fs=>match nthL ops i with
  | some o=>rowV P rc σ o (fun ob _=>(∀u,ExtL u (u.alloc ob))/\flxV ops σ fs) False
  | none=>False
def dV(ops:List Oper):DA->(World->Prop)->(St->World->Prop)->St->World->Prop
 | .done,_,K,σ,w=>K σ w
 | .pur i r,S,K,σ,w=>match nthL ops i with
  | some o=>pV P rc (lS S) (T43.lds S) false σ o (fun v=>putK n o.dst v σ fun σ'=>dV ops r S K σ' w) (opP P (lS S) σ o fun v=>putK n o.dst v σ fun σ'=>dV ops r S K σ' w)
  | none=>False
 | .prw i r,S,K,σ,w=>match nthL ops i with
  | some o=>pV P rc (lS S) (T43.lds S) true σ o (fun v=>putK n o.dst v σ fun σ'=>dV ops r S K σ' w) False
  | none=>False
 | .skp i r,S,K,σ,w=>match nthL ops i with
  | some o=>putK n o.dst undef σ fun σ'=>dV ops r S K σ' w
  | none=>False
 | .eff i r,S,K,σ,w=>match nthL ops i with
  | some o=>oV P rc Γ false σ o w fun v w'=>match nedV ops i with
   | true=>S w'/\putK n o.dst v σ fun σ'=>dV ops r S K σ' w'
   | false=>putK n o.dst v σ fun σ'=>dV ops r S K σ' w'
  | none=>False
 | .dyn i z r,S,K,σ,w=>match nthL ops i with
  | some o=>opV P σ o z w fun v w'=>match nedV ops i with
   | true=>S w'/\putK n o.dst v σ fun σ'=>dV ops r S K σ' w'
   | false=>putK n o.dst v σ fun σ'=>dV ops r S K σ' w'
  | none=>False
 | .str i r,S,K,σ,w=>strV i (fun S' σ' w'=>dV ops r S' K σ' w') S σ w
 | .two i r j r',S,K,σ,w=>effV i (fun σ' w'=>dV ops r S K σ' w') S σ w/\effV j (fun σ' w'=>dV ops r' S K σ' w') S σ w
 | .thr i r j r' k r'',S,K,σ,w=>effV i (fun σ' w'=>dV ops r S K σ' w') S σ w/\effV j (fun σ' w'=>dV ops r' S K σ' w') S σ w/\effV k (fun σ' w'=>dV ops r'' S K σ' w') S σ w
 | .tws i r j r',S,K,σ,w=>strV i (fun S' σ' w'=>dV ops r S' K σ' w') S σ w/\strV j (fun S' σ' w'=>dV ops r' S' K σ' w') S σ w
 | .ths i r j r' k r'',S,K,σ,w=>strV i (fun S' σ' w'=>dV ops r S' K σ' w') S σ w/\strV j (fun S' σ' w'=>dV ops r' S' K σ' w') S σ w/\strV k (fun S' σ' w'=>dV ops r'' S' K σ' w') S σ w
 | .flo fs js r,S,K,σ,w=>(∀u u',Ext u u'->S u->S u')/\flxV P rc ops σ fs/\fljV P rc Γ n ops σ w fs (fun σ' u=>dV ops r S K σ' u) js σ w
 | .spl t r1 r2,S,K,σ,w=>match get σ t with
  | some (.bool b)=>cnd b (dV ops r1 S K ((t,.bool true)::σ) w) (dV ops r2 S K ((t,.bool false)::σ) w)
  | _=>False
where
 strV (i:Nat) (K:(World->Prop)->St->World->Prop) (S:World->Prop) (σ:St) (w:World):Prop:=match nthL ops i with
  | some o=>oV P rc Γ false σ o w fun v w'=>∃S':World->Prop,S' w'/\(∀u,S' u->S u)/\putK n o.dst v σ fun σ'=>K S' σ' w'
  | none=>False
 effV (i:Nat) (K:St->World->Prop) (S:World->Prop) (σ:St) (w:World):Prop:=match nthL ops i with
  | some o=>oV P rc Γ false σ o w fun v w'=>S w'/\putK n o.dst v σ fun σ'=>K σ' w'
  | none=>False
def dpV(ops:List Oper):DA->(St->World->Prop)->St->World->Prop
 | .done,K,σ,w=>K σ w
 | .pur i r,K,σ,w=>match nthL ops i with
  | some o=>pV P rc (lW w) (T43.ld w) false σ o (fun v=>putK n o.dst v σ fun σ'=>dpV ops r K σ' w) (opP P (lW w) σ o fun v=>putK n o.dst v σ fun σ'=>dpV ops r K σ' w)
  | none=>False
 | .prw i r,K,σ,w=>match nthL ops i with
  | some o=>pV P rc (lW w) (T43.ld w) true σ o (fun v=>putK n o.dst v σ fun σ'=>dpV ops r K σ' w) False
  | none=>False
 | .skp i r,K,σ,w=>match nthL ops i with
  | some o=>putK n o.dst undef σ fun σ'=>dpV ops r K σ' w
  | none=>False
 | .spl t r1 r2,K,σ,w=>match get σ t with
  | some (.bool b)=>cnd b (dpV ops r1 K ((t,.bool true)::σ) w) (dpV ops r2 K ((t,.bool false)::σ) w)
  | _=>False
 | _,_,_,_=>False
def V:A->Code->Rho->Qt->List Nat->St->World->Prop
 | .leaf,c,_,Q,D,σ,w=>match c with
  | .skip=>Q .normal D σ w
  | .label _=>Q .normal D σ w
  | .exit id=>Q (.exit id) D σ w
  | .ret=>Q .ret D σ w
  | _=>False
 | .reg r,c,_,Q,D,σ,w=>match c with
  | .region _ ops _=>rV P rc Γ n r ops.toList (fun σ w=>Q .normal D σ w) σ w
  | _=>False
 | .drw d,c,_,Q,D,σ,w=>match c with
  | .region _ ops _=>Lt w.drew fun w1=>∃S:World->Prop,S w1/\dV P rc Γ n ops.toList d S (fun σ w=>Q .normal D σ w) σ w1
  | _=>False
 | .drp d,c,_,Q,D,σ,w=>match c with
  | .region _ ops _=>Lt w.drew fun w1=>dpV P rc n ops.toList d (fun σ w=>Q .normal D σ w) σ w1
  | _=>False
 | .seq a b,c,ρ,Q,D,σ,w=>match c with
  | .seq x y=>V a x ρ (seqQ (fun D σ w=>V b y ρ Q D σ w) Q) D σ w
  | _=>False
 | .cond a b,c,ρ,Q,D,σ,w=>match c with
  | .cond x p q=>match ev σ x with
   | some (.bool t)=>cnd t (V a p ρ Q D σ w) (V b q ρ Q D σ w)
   | _=>False
  | _=>False
 | .cndL a b,c,ρ,Q,D,σ,w=>match c with
  | .cond x p q=>match ev σ x with
   | some (.bool true)=>V a p ρ Q D σ w
   | some (.bool false)=>V b q ρ Q D σ w
   | _=>False
  | _=>False
 | .blk a,c,ρ,Q,D,σ,w=>match c with
  | .block id x=>V a x ρ (blkQ id Q) D σ w
  | .scope x=>V a x ρ (scQ Q) D σ w
  | _=>False
 | .loop slots L _,_,ρ,_,_,σ,w=>match getAll σ slots with
  | some vs=>L ρ vs w
  | none=>False
 | .cut slots L _,_,ρ,_,_,σ,w=>match getAll σ slots with
  | some vs=>L ρ vs w
  | none=>False
 | .fnc slots rs L _,_,ρ,Q,D,σ,w=>match getAll σ slots with
  | some vs=>L ((fun us w=>Q .ret D (zipS rs us) w)::ρ) vs w
  | none=>False
 | .rf slots L _,_,ρ,_,_,σ,w=>match getAll σ slots with
  | some vs=>L ρ vs w
  | none=>False
end
def reV(P:Program)(rc:Nat)(σ:St)(w:World):List ResultVar->(List Value->Prop)->Prop
 | [],K=>K []
 | .tmp t::r,K=>match get σ t with
  | some v=>reV P rc σ w r fun vs=>K (v::vs)
  | none=>False
 | .cell a t::r,K=>match get σ a with
  | some (.pointer (some b))=>match Nat.beq t rc with
   | true=>T43.ld w b fun x=>reV P rc σ w r fun vs=>K (.agg x.cs.toArray::vs)
   | false=>ldW P (lW w) t b fun v=>reV P rc σ w r fun vs=>K (v::vs)
  | _=>False
def retV:List Nat->World->(World->Prop)->Prop
 | [],w,K=>K w
 | d::D,w,K=>w.heap[d]?=some (Obj.deferred (some []))/\Lt (w.putObj d (Obj.deferred none)) fun w1=>retV D w1 K
def rqV(P:Program)(rc:Nat)(res:Array ResultVar)(K:VW):Qt
 | .normal,D,σ,w=>retV D w fun w=>reV P rc σ w res.toList fun vs=>K (oneV vs) w
 | .ret,D,σ,w=>retV D w fun w=>reV P rc σ w res.toList fun vs=>K (oneV vs) w
 | _,_,_,_=>False
def pcs(P:Program)(rc:Nat)(Γ:Env)(n:Nat):A->Code->(Rho->Qt)->List (Rho->List Value->World->Prop)
 | .seq a b,c,Q=>match c with
  | .seq x y=>apL (pcs P rc Γ n a x (fun ρ=>seqQ (fun D σ w=>V P rc Γ n b y ρ (Q ρ) D σ w) (Q ρ))) (pcs P rc Γ n b y Q)
  | _=>[]
 | .cond a b,c,Q=>match c with
  | .cond _ p q=>apL (pcs P rc Γ n a p Q) (pcs P rc Γ n b q Q)
  | _=>[]
 | .cndL a b,c,Q=>match c with
  | .cond _ p q=>apL (pcs P rc Γ n a p Q) (pcs P rc Γ n b q Q)
  | _=>[]
 | .blk a,c,Q=>match c with
  | .block id x=>pcs P rc Γ n a x (fun ρ=>blkQ id (Q ρ))
  | .scope x=>pcs P rc Γ n a x (fun ρ=>scQ (Q ρ))
  | _=>[]
 | .loop slots _ a,c,Q=>match c with
  | .loop x=>(fun ρ vs w=>V P rc Γ n a x ρ (qja slots (q9p ρ) (Q ρ.tail)) [] (zipS slots vs) w)::pcs P rc Γ n a x (fun ρ=>qja slots (q9p ρ) (Q ρ.tail))
  | _=>[]
 | .cut slots _ a,c,Q=>(fun ρ vs w=>V P rc Γ n a c ρ (Q ρ) [] (zipS slots vs) w)::pcs P rc Γ n a c Q
 | .fnc slots rs _ a,c,_=>(fun ρ vs w=>V P rc Γ n a c ρ (fncQ rs ρ) [] (zipS slots vs) w)::pcs P rc Γ n a c (fncQ rs)
 | .rf _ _ a,c,_=>match c with
  | .rangeFunc _ _ _ bd=>(fun _ _ _=>False)::pcs P rc Γ n a bd rq
  | _=>[]
 | _,_,_=>[]
def pcV(P:Program)(rc:Nat)(Γ:Env)(n:Nat)(a:A)(c:Code)(Q:Qt)(k:Nat)(ρ:Rho)(vs:List Value)(w:World):Prop:=match nthL (pcs P rc Γ n a c fun _=>Q) k with
 | some g=>g ρ vs w
 | none=>False
def rfL(P:Program)(rc:Nat)(Γ:Env)(n:Nat):A->Code->(Rho->Qt)->List ((Rho->Qt)×Code×List Nat×A)
 | .seq a b,c,Q=>match c with
  | .seq x y=>apL (rfL P rc Γ n a x (fun ρ=>seqQ (fun D σ w=>V P rc Γ n b y ρ (Q ρ) D σ w) (Q ρ))) (rfL P rc Γ n b y Q)
  | _=>[]
 | .cond a b,c,Q=>match c with
  | .cond _ p q=>apL (rfL P rc Γ n a p Q) (rfL P rc Γ n b q Q)
  | _=>[]
 | .blk a,c,Q=>match c with
  | .block id x=>rfL P rc Γ n a x (fun ρ=>blkQ id (Q ρ))
  | .scope x=>rfL P rc Γ n a x (fun ρ=>scQ (Q ρ))
  | _=>[]
 | .cut _ _ a,c,Q=>rfL P rc Γ n a c Q
 | .fnc _ rs _ a,c,_=>rfL P rc Γ n a c (fncQ rs)
 | .rf slots _ a,c,Q=>[(Q,c,slots,a)]
 | _,_,_=>[]
def rfB:A->Option A
 | .seq a b=>match rfB a with
  | some x=>some x
  | none=>rfB b
 | .cond a b=>match rfB a with
  | some x=>some x
  | none=>rfB b
 | .blk a=>rfB a
 | .cut _ _ a=>rfB a
 | .fnc _ _ _ a=>rfB a
 | .rf _ _ a=>some a
 | _=>none
def rfX(a:A):A:=match rfB a with
 | some x=>x
 | none=>.leaf
structure Eq'{α:Type}(a b:α):Prop where
structure Le{α:Type}(a b:α):Prop where
structure Le2{α:Type}(a b:α):Prop where
theorem leI{α:Type}{a b:α}(h:Le2 a b):Le a b:=⟨⟩
theorem leJ{a b:Prop}(h:Le2 a b):Eq' a b:=⟨⟩
structure Tq(q p:Prop):Prop where
abbrev TT(q p:Prop):Prop:=Eq' q p->Tq q p
theorem eRf{a:Prop}:Eq' a a:=⟨⟩
theorem eRu{α:Type}{a:α}:Le2 a a:=⟨⟩
theorem eAnd{a b a' b':Prop}(h:Eq' a' a)(k:Eq' b' b):Eq' (a'/\b') (a/\b):=⟨⟩
theorem eImp{a b a' b':Prop}(h:Eq' a' a)(k:Eq' b' b):Eq' (a'->b') (a->b):=⟨⟩
theorem eAll{α:Type}{p p':α->Prop}(h:∀x,Eq' (p' x) (p x)):Eq' (∀x,p' x) (∀x,p x):=⟨⟩
theorem eLt{v v':World}{p q:World->Prop}(k:Le v' v)(h:∀x,Eq' (p x) (q x)):Eq' (let w1:=v';p w1) (Lt v q):=⟨⟩
theorem eCnd{b b':Bool}{p q p' q':Prop}(i:Le b' b)(h:Eq' p' p)(k:Eq' q' q):Eq' (cnd b' p' q') (cnd b p q):=⟨⟩
theorem eCt{p q r:Prop}(h:Eq' r p):Eq' r (cnd true p q):=⟨⟩
theorem eCf{p q r:Prop}(h:Eq' r q):Eq' r (cnd false p q):=⟨⟩
theorem eNz{a:Addr}{p:Addr->Prop}{q:Prop}(h:Eq' q (p a)):Eq' q (nz (some a) p):=⟨⟩
theorem eNm{a:Nat}{p:Nat->Prop}{q:Prop}(h:Eq' q (p a)):Eq' q (nzm (some a) p):=⟨⟩
theorem eOk{v:Value}{q q':Prop}(h:Eq' q' q)(k:okC v=true):Eq' q' (okk v q):=⟨⟩
theorem eOv{v:Value}{q q':Prop}(h:Eq' q' q):Eq' (okk v q') (okk v q):=⟨⟩
theorem eSm{w:World}{a a':Addr}{vs vs':List Value}{p p':World->Prop}(i:Le a' a)(j:Le vs' vs)(h:∀x,Eq' (p' x) (p x))(k:allC vs=true):Eq' (stN w a' vs' p') (stQ w a vs p):=⟨⟩
theorem eSc{w:World}{a:Addr}{vs:List Value}{p:World->Prop}{q:Prop}(h:Eq' q (chV a vs 0 w p)):Eq' q (stQ w a vs p):=⟨⟩
theorem eFn{α β:Type}{f f':(α->β)->Prop}{p p':α->β}{q:Prop}(k:Le f' f)(h:∀x,Eq' (p' x) (p x))(e:q=f' p'):Eq' q (f p):=⟨⟩
theorem eKw{α β:Type}{f f':(α->β)->World->Prop}{p p':α->β}{w w':World}{q:Prop}(k:Le f' f)(h:∀x,Eq' (p' x) (p x))(i:Le w' w)(e:q=f' p' w'):Eq' q (f p w):=⟨⟩
theorem eRF{P:Program}{n:Nat}{σ σ':St}{v v':Value}{ps:Array Tmp}{ag bd:Code}{w:World}{k k' r r':World->Prop}(i:Le σ' σ)(j:Le v' v)(h:∀x,Eq' (k' x) (k x))(g:∀x,Eq' (r' x) (r x)):Eq' (rfF P n σ' v' ps ag bd w k' r') (rfF P n σ v ps ag bd w k r):=⟨⟩
theorem eMd{M:World->(World->Prop)->Prop}{w w':World}{p p':World->Prop}(i:Le w' w)(h:∀x,Eq' (p' x) (p x)):Eq' (M w' p') (M w p):=⟨⟩
theorem eCu{γ:Type}{ts:List Tk}{g:List Value->WP}{f:Cur ts WP->γ->World->Prop}{p':Cur ts WP}{k:γ}{w w':World}(h:Eq' p' (cu ts g))(i:Le w' w):Eq' (f p' k w') (f (cu ts g) k w):=⟨⟩
theorem eNe{b b':Int}(k:Le b' b):Eq' (b'≠0) (neZ b):=⟨⟩
theorem eFI{β:Type}{p p':Int->β}(h:∀x,Eq' (p' x) (p x)):Eq' p' p:=⟨⟩
theorem eFB{β:Type}{p p':Bool->β}(h:∀x,Eq' (p' x) (p x)):Eq' p' p:=⟨⟩
theorem eFS{β:Type}{p p':ByteArray->β}(h:∀x,Eq' (p' x) (p x)):Eq' p' p:=⟨⟩
theorem eFL{β:Type}{p p':Sl->β}(h:∀x,Eq' (p' x) (p x)):Eq' p' p:=⟨⟩
theorem eFP{β:Type}{p p':Option Addr->β}(h:∀x,Eq' (p' x) (p x)):Eq' p' p:=⟨⟩
theorem eFQ{β:Type}{p p':Addr->β}(h:∀x,Eq' (p' x) (p x)):Eq' p' p:=⟨⟩
theorem eFV{β:Type}{p p':Value->β}(h:∀x,Eq' (p' x) (p x)):Eq' p' p:=⟨⟩
theorem eFu{α β:Type}{p p':α->β}(h:∀x,Eq' (p' x) (p x)):Eq' p' p:=⟨⟩
theorem qsb{a:Array UInt8}:(⟨a⟩:ByteArray)=str (a.toList.map UInt8.toNat):=by
 unfold str
 rw[List.map_map]
 have:UInt8.ofNat∘UInt8.toNat=id:=by funext x;simp
 rw[this];simp
theorem ci{k:IntKind}{n:Int}:(Value.int k n).cells=#[.int k n]:=rfl
theorem cb{n:Bool}:(Value.bool n).cells=#[.bool n]:=rfl
theorem cs{n:ByteArray}:(Value.string n).cells=#[.string n]:=rfl
theorem cp{n:Option Addr}:(Value.pointer n).cells=#[.pointer n]:=rfl
theorem cl{p:Option Addr}{l c:Nat}:(Value.slice p l c).cells=#[.slice p l c]:=rfl
theorem cm{n:Option Nat}:(Value.map n).cells=#[.map n]:=rfl
theorem cf{f:Fn}{a b:Array Value}:(Value.func f a b).cells=#[.func f a b]:=rfl
theorem on1{v:Value}:oneV [v]=v:=rfl
theorem cas{n:Nat}:(((no_index (OfNat.ofNat n)):Nat):Int)=OfNat.ofNat n:=rfl
theorem Sl.eta{x:Sl}:(⟨x.p,x.l,x.c⟩:Sl)=x:=rfl
theorem add0{a:Addr}:a.add 0=a:=rfl
theorem add2{a:Addr}{i j:Nat}:(a.add (no_index (OfNat.ofNat i))).add (no_index (OfNat.ofNat j))=a.add (OfNat.ofNat i+OfNat.ofNat j):=by
 generalize(OfNat.ofNat i:Nat)=i
 generalize(OfNat.ofNat j:Nat)=j
 unfold Addr.add
 by_cases hi:i=0<;>by_cases hj:j=0<;>simp[hi,hj,Nat.add_assoc]
theorem add1{b i j:Nat}:(Addr.mk b (no_index (OfNat.ofNat i)) none).add (no_index (OfNat.ofNat j))=⟨b,OfNat.ofNat i+OfNat.ofNat j,none⟩:=q04 _ _ _
def fq(p:Prop){q:Prop}(h:Tq q p:=by
 refine(?f:TT _ _) ?h
 rotate_left
 ·repeat'
   first
   | with_reducible apply leI;(try conv=>arg 2;simp only[add0,add1,add2,Nat.reduceAdd,qsb,List.map_cons,List.map_nil,List.append,List.take_succ_cons,List.take_zero,List.drop_succ_cons,List.drop_zero,List.headD_cons,ci,cb,cs,cp,cl,cm,cf,on1,UInt8.reduceToNat,Sl.eta,T43.eta,Lf.enc,cas,Bool.not_true,Bool.not_false]);with_reducible exact eRu
   | intro x
   | with_reducible exact rfl
   | first|apply eFI|apply eFB|apply eFS|apply eFL|apply eFP|apply eFQ|apply eFV|apply eFu
   | (try conv=>arg 2;whnf)
     first
    | with_reducible apply eAnd
    | with_reducible apply eCt
    | with_reducible apply eCf
    | with_reducible apply eCnd
    | with_reducible apply eNz
    | with_reducible apply eNm
    | (with_reducible apply eOk);case k=>exact rfl
    | with_reducible apply eOv
    | (with_reducible apply eSm);case k=>exact rfl
    | with_reducible apply eSc
    | with_reducible apply eRF
    | with_reducible apply eLt
    | with_reducible apply eNe
    | with_reducible apply eFn
    | with_reducible apply eCu
    | apply eKw
    | with_reducible apply eMd
    | with_reducible apply eImp
    | with_reducible apply eAll
    | with_reducible apply leJ;(try conv=>arg 2;simp only[add0,add1,add2,Nat.reduceAdd,qsb,List.map_cons,List.map_nil,List.append,List.take_succ_cons,List.take_zero,List.drop_succ_cons,List.drop_zero,List.headD_cons,ci,cb,cs,cp,cl,cm,cf,on1,UInt8.reduceToNat,Sl.eta,T43.eta,Lf.enc,cas,Bool.not_true,Bool.not_false]);with_reducible exact eRu
 exact fun _=>⟨⟩):Prop:=q
theorem fi{p q:Prop}{h:Tq q p}(x:q):@fq p q h:=x
abbrev Lb:=Rho->List Value->World->Prop
structure Kn(P:Program) where
 f:Nat
 S:Spec
 h:q1v P f S\/q5v P f S
def kn{P:Program}{f:Nat}{S:Spec}(h:q1v P f S):Kn P:=⟨f,S,.inl h⟩
def kx{P:Program}{f:Nat}{S:Spec}(h:q5v P f S):Kn P:=⟨f,S,.inr h⟩
def envK{P:Program}:List (Kn P)->Env
 | []=>[]
 | k::r=>(k.f,k.S)::envK r
theorem qi0{P:Program}:∀l:List (Kn P),q3u P (envK l)
 | []=>trivial
 | k::r=>⟨k.h,qi0 r⟩
structure FD(P:Program) where
 f:Func
 g:List (Kn P)
 a:(Nat->Lb)->A
 ts:List Tk
 rs:List Tk
 ls:List (List Tk)
class PM (P:Program):Prop where
 h:P.follows .mixedOrders=true
def mapC{R S:Type}(g:R->S):(ts:List Tk)->Cur ts R->Cur ts S
 | [],f=>g f
 | .f _::ts,f=>fun x=>mapC g ts (f x)
 | .g _::ts,f=>mapC g ts f
 | .u _::ts,f=>mapC g ts f
 | .c _ _ _::ts,f=>mapC g ts f
def curA{R:Type}:(ts:List Tk)->(Ar ts->R)->Cur ts R
 | [],k=>k ()
 | .f _::ts,k=>fun x=>curA ts fun r=>k (x,r)
 | .g _::ts,k=>curA ts k
 | .u _::ts,k=>curA ts k
 | .c _ _ _::ts,k=>curA ts k
theorem q30{R:Type}:∀(ts:List Tk) (k:Ar ts->R) (a:Ar ts),ap ts (curA ts k) a=k a
 | [],_,_=>rfl
 | .f _::ts,k,(x,r)=>q30 ts (fun r=>k (x,r)) r
 | .g _::ts,k,r=>q30 ts k r
 | .u _::ts,k,r=>q30 ts k r
 | .c _ _ _::ts,k,r=>q30 ts k r
def kv(rs:List Tk)(K:Cur rs WP):VW:=fun v w=>un rs K (fun _=>False) [v] w
def nxL(l:List (List Tk))(j:Nat):List Tk:=match nthL l j with
 | some t=>t
 | none=>[]
def lbA:List (Nat×Lb)->Nat->Lb
 | (i,g)::l,k=>match Nat.beq i k with
  | true=>g
  | false=>lbA l k
 | [],_=>fun _ _ _=>False
def qdd(f:Func):Code:=f.body.getD .skip
def nuD(n:Nat)(k:Nat->Nat->A):A:=match Nat.ble (n%16) 10 with
 | true=>k (n%16) (n/16)
 | false=>match Nat.beq (n%16) 15 with
  | true=>k (n/16%256+75) (n/4096)
  | false=>k ((n%16-11)*16+n/16%16+11) (n/256)
def liD:Nat->Nat->(List Nat->Nat->A)->A
 | 0,n,k=>k [] n
 | c+1,n,k=>nuD n fun i n=>liD c n fun l n=>k (i::l) n
def skL:List Nat->DA->DA
 | [],x=>x
 | i::l,x=>DA.skp i (skL l x)
def efL:List Nat->DA->DA
 | [],x=>x
 | i::l,x=>DA.eff i (efL l x)
def vaD(vs:List Value)(i:Nat):Value:=match nthL vs i with
 | some v=>v
 | none=>.nilIface
def raD(vs:List Value):Nat->Nat->(RA->Nat->A)->A
 | 0,n,k=>k .done n
 | f+1,n,k=>match n%16 with
  | 0=>k .done (n/16)
  | 10=>raD vs f (n/16) fun x n=>k (.raw x) n
  | 11=>nuD (n/16) fun i n=>raD vs f n fun x n=>raD vs f n fun y n=>k (.spl i x y) n
  | 12=>nuD (n/16) fun i n=>raD vs f n fun x n=>k (qk i x) n
  | 13=>nuD (n/16) fun i n=>raD vs f n fun x n=>k (.dyn (vaD vs i) x) n
  | 14=>nuD (n/16) fun i n=>raD vs f n fun x n=>k (qn i x) n
  | i=>raD vs f (n/16) fun x n=>k (qn i x) n
def daD(vs:List Value):Nat->Nat->(DA->Nat->A)->A
 | 0,n,k=>k .done n
 | f+1,n,k=>match n%16 with
  | 1=>nuD (n/16) fun i n=>daD vs f n fun x n=>k (.eff i x) n
  | 2=>nuD (n/16) fun i n=>daD vs f n fun x n=>k (.pur i x) n
  | 3=>nuD (n/16) fun c n=>liD c n fun l n=>daD vs f n fun x n=>k (dp l x) n
  | 4=>nuD (n/16) fun c n=>liD c n fun l n=>daD vs f n fun x n=>k (skL l x) n
  | 5=>nuD (n/16) fun i n=>daD vs f n fun x n=>nuD n fun j n=>daD vs f n fun y n=>k (.two i x j y) n
  | 6=>nuD (n/16) fun i n=>daD vs f n fun x n=>nuD n fun j n=>daD vs f n fun y n=>nuD n fun m n=>daD vs f n fun z n=>k (.thr i x j y m z) n
  | 7=>nuD (n/16) fun i n=>daD vs f n fun x n=>k (.str i x) n
  | 8=>nuD (n/16) fun i n=>daD vs f n fun x n=>daD vs f n fun y n=>k (.spl i x y) n
  | 9=>nuD (n/16) fun i n=>nuD n fun j n=>daD vs f n fun x n=>k (.dyn i (vaD vs j) x) n
  | 10=>nuD (n/16) fun i n=>daD vs f n fun x n=>nuD n fun j n=>daD vs f n fun y n=>k (.tws i x j y) n
  | 11=>nuD (n/16) fun i n=>daD vs f n fun x n=>nuD n fun j n=>daD vs f n fun y n=>nuD n fun m n=>daD vs f n fun z n=>k (.ths i x j y m z) n
  | 12=>nuD (n/16) fun i n=>daD vs f n fun x n=>k (.prw i x) n
  | 13=>nuD (n/16) fun c n=>liD c n fun l n=>nuD n fun c n=>liD c n fun m n=>daD vs f n fun x n=>k (.flo l m x) n
  | 14=>nuD (n/16) fun c n=>liD c n fun l n=>daD vs f n fun x n=>k (efL l x) n
  | _=>k .done (n/16)
def aD(l:Nat->Lb)(vs:List Value):Nat->Nat->(A->Nat->A)->A
 | 0,n,k=>k .leaf n
 | f+1,n,k=>match n%16 with
  | 1=>nuD (n/16) fun i n=>aD l vs f n fun x n=>k (qr i x) n
  | 2=>aD l vs f (n/16) fun x n=>aD l vs f n fun y n=>k (qs x y) n
  | 3=>aD l vs f (n/16) fun x n=>aD l vs f n fun y n=>k (qc x y) n
  | 4=>aD l vs f (n/16) fun x n=>k (qb x) n
  | 5=>nuD (n/16) fun i n=>k (qe i) n
  | 6=>raD vs f (n/16) fun x n=>k (.reg x) n
  | 7=>daD vs f (n/16) fun x n=>k (.drw x) n
  | 8=>daD vs f (n/16) fun x n=>k (.drp x) n
  | 9=>nuD (n/16) fun c n=>liD c n fun s n=>nuD n fun i n=>aD l vs f n fun x n=>k (.loop s (l i) x) n
  | 10=>nuD (n/16) fun c n=>liD c n fun s n=>nuD n fun i n=>aD l vs f n fun x n=>k (.cut s (l i) x) n
  | 11=>raD vs f (n/16) fun x n=>aD l vs f n fun y n=>k (qs (.reg x) y) n
  | 12=>k (qc ql ql) (n/16)
  | 13=>aD l vs f (n/16) fun x n=>k (qr 2 x) n
  | 14=>aD l vs f (n/16) fun x n=>k (qr 3 x) n
  | 15=>aD l vs f (n/16) fun x n=>k (qc x ql) n
  | _=>k ql (n/16)
def aV(vs:List Value)(n:Nat)(l:Nat->Lb):A:=aD l vs 300 n fun x _=>x
def aN(n:Nat)(l:Nat->Lb):A:=aD l [] 300 n fun x _=>x
section
variable{P:Program}(F:FD P)
def FD.bd:Code:=F.f.body.getD .skip
def FD.env:Env:=envK F.g
def LbX(F:FD P):Type:=Cur F.rs WP->Nat×Lb
def LbC(_:FD P):Type:=Lb
def RhX(_:FD P):Type:=List Value->WP
def apK{F:FD P}(K:Cur F.rs WP):List (LbX F)->List (Nat×Lb)
 | []=>[]
 | g::l=>g K::apK K l
def apR{F:FD P}:List (RhX F)->Rho
 | []=>[]
 | g::l=>g::apR l
def lbT{F:FD P}(l:List (LbC F))(k:Nat):Lb:=match nthL l k with
 | some g=>g
 | none=>fun _ _ _=>False
def fV(l:List (LbX F))(K:Cur F.rs WP):Cur F.ts WP:=cu F.ts fun vs w=>V P 37 F.env F.f.ntmps (F.a (lbA (apK K l))) F.bd [] (rqV P 37 F.f.results (kv F.rs K)) [] (q25 vs) w
def fW(l:List (LbX F))(K:Cur F.rs WP):Cur F.ts WP:=cu F.ts fun vs w=>V P 0 F.env F.f.ntmps (F.a (lbA (apK K l))) F.bd [] (rqV P 0 F.f.results (kv F.rs K)) [] (q25 vs) w
def gV(j:Nat)(l:List (LbX F))(ρ:List (RhX F))(K:Cur F.rs WP):Cur (nxL F.ls j) WP:=cu (nxL F.ls j) fun vs w=>pcV P 37 F.env F.f.ntmps (F.a (lbA (apK K l))) F.bd (rqV P 37 F.f.results (kv F.rs K)) j (apR ρ) vs w
def gW(j:Nat)(l:List (LbX F))(ρ:List (RhX F))(K:Cur F.rs WP):Cur (nxL F.ls j) WP:=cu (nxL F.ls j) fun vs w=>pcV P 0 F.env F.f.ntmps (F.a (lbA (apK K l))) F.bd (rqV P 0 F.f.results (kv F.rs K)) j (apR ρ) vs w
def gF(n j:Nat)(ps:Array Tmp)(ag bd:Code)(l:List (LbX F))(K:Cur F.rs WP):Cur (nxL F.ls j) WP:=cu (nxL F.ls j) fun vs w=>match rfL P 37 F.env F.f.ntmps (F.a (lbA (apK K l))) F.bd (fun _=>rqV P 37 F.f.results (kv F.rs K))with
 | (Q,c,slots,_)::_=>match c with
  | .rangeFunc g _ _ _=>match ev (zipS slots vs) g with
   | some v=>frc (zipS slots vs) fun σ=>rfF P n σ v ps ag bd w (fun w'=>Q [] .normal [w.heap.size] (zipS slots vs) w') (fun w'=>Q [] .ret [w.heap.size] (zipS slots vs) w')
   | none=>False
  | _=>False
 | []=>False
def lenL{α:Type}:List α->Nat
 | []=>0
 | _::l=>lenL l+1
def gR(j:Nat)(ta:List Tk)(ps:Array Tmp)(ag bd:Code)(xa:A)(l:List (LbX F))(M:World->(World->Prop)->Prop)(N R:World->Prop)(K:Cur F.rs WP):Cur (apL (nxL F.ls j) ta) WP:=cu (apL (nxL F.ls j) ta) fun vs w=>match rfL P 37 F.env F.f.ntmps (F.a (lbA (apK K l))) F.bd (fun _=>rqV P 37 F.f.results (kv F.rs K))with
 | (_,_,slots,xb)::_=>V P 37 F.env F.f.ntmps xa ag [] (asgQ M (fun D σ w=>V P 37 F.env F.f.ntmps xb bd [fun _=>N,fun _=>R] (rq [fun _=>N,fun _=>R]) D σ w)) [] (qa3 ps.toList (drpL (lenL slots) vs) (zipS slots (tkL (lenL slots) vs))) w
 | []=>False
variable{F}
def nN(j:Nat)(N:Cur (nxL F.ls j) WP):RhX F:=un (nxL F.ls j) N nF
def v0(j:Nat)(X:Cur (nxL F.ls j) (Cur F.rs WP->WP)):LbX F:=fun K=>(j,fun _=>un (nxL F.ls j) (mapC (fun f=>f K) _ X) nF)
def v1{A:Type}(j:Nat)(X:Cur (nxL F.ls j) (A->Cur F.rs WP->WP))(N:A):LbX F:=fun K=>(j,fun _=>un (nxL F.ls j) (mapC (fun f=>f N K) _ X) nF)
def v2{A B:Type}(j:Nat)(X:Cur (nxL F.ls j) (A->B->Cur F.rs WP->WP))(N:A)(M:B):LbX F:=fun K=>(j,fun _=>un (nxL F.ls j) (mapC (fun f=>f N M K) _ X) nF)
def v3{A B C:Type}(j:Nat)(X:Cur (nxL F.ls j) (A->B->C->Cur F.rs WP->WP))(N:A)(M:B)(O:C):LbX F:=fun K=>(j,fun _=>un (nxL F.ls j) (mapC (fun f=>f N M O K) _ X) nF)
def vf(i j:Nat)(X:Cur (nxL F.ls j) (Cur (nxL F.ls i) WP->Cur F.rs WP->WP)):LbX F:=fun K=>(j,fun ρ=>un (nxL F.ls j) (mapC (fun f=>f (cu (nxL F.ls i) (q9p ρ)) K) _ X) nF)
def c0(j:Nat)(X:Cur (nxL F.ls j) (Cur F.rs WP->WP))(Kv:VW):LbC F:=uR0 (nxL F.ls j) (mapC (fun f=>f (kk F.rs Kv)) _ X)
def c1(i j:Nat)(X:Cur (nxL F.ls j) (Cur (nxL F.ls i) WP->Cur F.rs WP->WP))(Kv:VW):LbC F:=uR1 (nxL F.ls i) (nxL F.ls j) fun N=>mapC (fun f=>f N (kk F.rs Kv)) _ X
def c2(h i j:Nat)(X:Cur (nxL F.ls j) (Cur (nxL F.ls h) WP->Cur (nxL F.ls i) WP->Cur F.rs WP->WP))(Kv:VW):LbC F:=uR2 (nxL F.ls h) (nxL F.ls i) (nxL F.ls j) fun N M=>mapC (fun f=>f N M (kk F.rs Kv)) _ X
variable(F)
def sp(X:Cur F.ts (Cur F.rs WP->WP)):Spec:=fun vs w Kv=>un F.ts (mapC (fun f=>f (kk F.rs Kv)) _ X) nF vs w
abbrev okP(n:Nat)(X:Cur F.ts (Cur F.rs WP->WP)):Prop:=q1v P n (sp F X)
end
def VT:List Tk->List Nat->Type->Type
 | [],_,R=>R
 | .f a::ts,c::cs,R=>match c with
  | 0=>a.ty->VT ts cs R
  | _+1=>VT ts cs R
 | .f a::ts,[],R=>a.ty->VT ts [] R
 | .g _::ts,cs,R=>VT ts cs R
 | .u _::ts,cs,R=>VT ts cs R
 | .c _ _ _::ts,cs,R=>VT ts cs R
def pkV{R:Type}:(ts:List Tk)->(cs:List Nat)->VT ts cs R->Ar ts->R
 | [],_,I,_=>I
 | .f _::ts,0::cs,I,(x,r)=>pkV ts cs (I x) r
 | .f _::ts,(_+1)::cs,I,(_,r)=>pkV ts cs I r
 | .f _::ts,[],I,(x,r)=>pkV ts [] (I x) r
 | .g _::ts,cs,I,r=>pkV ts cs I r
 | .u _::ts,cs,I,r=>pkV ts cs I r
 | .c _ _ _::ts,cs,I,r=>pkV ts cs I r
def alV:(ts:List Tk)->(cs:List Nat)->Ar ts->(Ar ts->Prop)->Prop
 | [],_,_,k=>k ()
 | .f _::ts,0::cs,(_,r),k=>∀x,alV ts cs r fun b=>k (x,b)
 | .f _::ts,(_+1)::cs,(x,r),k=>alV ts cs r fun b=>k (x,b)
 | .f _::ts,[],(_,r),k=>∀x,alV ts [] r fun b=>k (x,b)
 | .g _::ts,cs,r,k=>alV ts cs r k
 | .u _::ts,cs,r,k=>alV ts cs r k
 | .c _ _ _::ts,cs,r,k=>alV ts cs r k
def eqV:(ts:List Tk)->(cs:List Nat)->Ar ts->Ar ts->Prop
 | [],_,_,_=>True
 | .f _::ts,0::cs,(_,r),(_,q)=>eqV ts cs r q
 | .f _::ts,(_+1)::cs,(x,r),(y,q)=>x=y/\eqV ts cs r q
 | .f _::ts,[],(_,r),(_,q)=>eqV ts [] r q
 | .g _::ts,cs,r,q=>eqV ts cs r q
 | .u _::ts,cs,r,q=>eqV ts cs r q
 | .c _ _ _::ts,cs,r,q=>eqV ts cs r q
theorem qfk:∀(ts:List Tk) (cs:List Nat) (a:Ar ts),eqV ts cs a a
 | [],_,_=>trivial
 | .f _::ts,0::cs,(_,r)=>qfk ts cs r
 | .f _::ts,(_+1)::cs,(_,r)=>⟨rfl,qfk ts cs r⟩
 | .f _::ts,[],(_,r)=>qfk ts [] r
 | .g _::ts,cs,r=>qfk ts cs r
 | .u _::ts,cs,r=>qfk ts cs r
 | .c _ _ _::ts,cs,r=>qfk ts cs r
theorem qfl:∀(ts:List Tk) (cs:List Nat) (a b:Ar ts) (k:Ar ts->Prop),alV ts cs a k->eqV ts cs b a->k b
 | [],_,_,_,_,h,_=>h
 | .f _::ts,0::cs,(_,r),(y,q),k,h,e=>qfl ts cs r q (fun b=>k (y,b)) (h y) e
 | .f _::ts,(_+1)::cs,(x,r),(y,q),k,h,e=>by
  obtain⟨e0,e⟩:=e
  have e0:y=x:=e0
  subst e0
  exact qfl ts cs r q (fun b=>k (y,b)) h e
 | .f _::ts,[],(_,r),(y,q),k,h,e=>qfl ts [] r q (fun b=>k (y,b)) (h y) e
 | .g _::ts,cs,r,q,k,h,e=>qfl ts cs r q k h e
 | .u _::ts,cs,r,q,k,h,e=>qfl ts cs r q k h e
 | .c _ _ _::ts,cs,r,q,k,h,e=>qfl ts cs r q k h e
def lpG(ts:List Tk)(cs:List Nat)(B:Cur ts WP->Cur ts WP):Cur ts WP:=
 curA ts fun a w=>∃(I:VT ts cs WP) (μ:VT ts cs (World->Nat)),pkV ts cs I a w/\alV ts cs a fun b=>∀w1,pkV ts cs I b w1->ap ts (B (curA ts fun c w'=>(eqV ts cs c a/\pkV ts cs I c w')/\pkV ts cs μ c w'<pkV ts cs μ b w1)) b w1
theorem qt8{ts:List Tk}{cs:List Nat}{L:Cur ts WP}{B:Cur ts WP->Cur ts WP}(h:∀a w,ap ts L a w->ap ts (lpG ts cs B) a w):LI ts L B:=by
 intro a w hL
 have h1:=h a w hL
 unfold lpG at h1
 rw[q30]at h1
 obtain⟨I,μ,h0,hr⟩:=h1
 refine⟨curA ts fun c w'=>eqV ts cs c a/\pkV ts cs I c w',curA ts fun c=>pkV ts cs μ c,?_,fun a' w' hJ=>?_⟩
 ·rw[q30]
  exact⟨qfk ts cs a,h0⟩
 ·rw[q30]at hJ
  have h2:=qfl ts cs a a' _ hr hJ.1 w' hJ.2
  have e:nT ts (curA ts fun c w'=>eqV ts cs c a/\pkV ts cs I c w') (curA ts fun c=>pkV ts cs μ c) (ap ts (curA ts fun c=>pkV ts cs μ c) a' w')=curA ts fun c w''=>(eqV ts cs c a/\pkV ts cs I c w'')/\pkV ts cs μ c w''<pkV ts cs μ a' w':=by
   apply qa8
   intro b
   funext u
   rw[qjc,q30,q30,q30,q30]
  rw[e]
  exact h2
def lp0{R:Type}(ts:List Tk)(cs:List Nat)(X:Cur ts (Cur ts WP->R->WP))(K:R):Cur ts WP:=lpG ts cs fun N=>mapC (fun f=>f N K) ts X
def lp1{R A:Type}(ts:List Tk)(cs:List Nat)(X:Cur ts (Cur ts WP->A->R->WP))(M:A)(K:R):Cur ts WP:=lpG ts cs fun N=>mapC (fun f=>f N M K) ts X
def lp2{R A B:Type}(ts:List Tk)(cs:List Nat)(X:Cur ts (Cur ts WP->A->B->R->WP))(M:A)(O:B)(K:R):Cur ts WP:=lpG ts cs fun N=>mapC (fun f=>f N M O K) ts X
def fl(p:Prop){q:Prop}(h:Tq q p:=by
 refine(?f:TT _ _) ?h
 rotate_left
 ·conv=>arg 2;dsimp only[lp0,lp1,lp2,lpG,curA,VT,pkV,alV,eqV,ap,mapC,Lf.ty]
  exact eRf
 exact fun _=>⟨⟩):Prop:=q
section
variable{P:Program}{F:FD P}{n k:Nat}{l:List (LbC F)}{Kv:VW}
theorem okN[PM P]{X:Cur F.ts (Cur F.rs WP->WP)}(l:VW->List (LbC F))(hc:∀args w,(callFunc n args).run P w=.ok (.enter n args) w)
  (hf:P.funcs[n]?=some F.f) (ho:∀K k,0<=k->q12 P F.env F.f.ntmps (obF P F.env F.f (F.a (lbT (l K))) K) k)
  (hb:F.f.body.isSome=true:=by kernel_rfl) (hn:qpd F.ts F.f.ntmps=true:=by kernel_rfl)
  (hi:∀K a w,ap F.ts (mapC (fun f=>f (kk F.rs K)) _ X) a w->W P F.env F.f.ntmps (F.a (lbT (l K))) F.bd [] (retQ P F.f.results K) [] (q25 (enl F.ts a)) w:=by intros;rename_i h;exact cast (by kernel_rfl) h.out)
  (hp:q3j F.env pk=none:=by rfl):okP F n X:=by
 refine⟨hc,fun vs w K h=>?_⟩
 obtain⟨a,rfl,h'⟩:=qbi h
 have h:=hi K a w h'
 obtain⟨code,hcode⟩:=Option.isSome_iff_exists.1 hb
 have e:F.f.body.getD .skip=code:=by rw[hcode];rfl
 unfold qpd at hn
 split at hn
 ·rename_i c hcn
  have hlen:(enl F.ts a).length<=F.f.ntmps:=by rw[q3y F.ts c a hcn];exact Nat.le_of_ble_eq_true hn
  have hob:=q4f (fun k=>ho K k (Nat.zero_le k))
  unfold obF at hob
  unfold FD.bd at h
  rw[e]at h hob
  exact q8e PM.h (qi0 F.g) hf hcode _ K hob hlen h hp
 ·cases hn
theorem hC0{j:Nat}{X:Cur (nxL F.ls j) (Cur F.rs WP->WP)}(e:nthL l k=some (c0 j X Kv):=by exact rfl)(hk:q2y (obF P F.env F.f (F.a (lbT l)) Kv) k=some .cut:=by kernel_rfl)(hq:∀ρ,q5g (obF P F.env F.f (F.a (lbT l)) Kv) k ρ=c0 j X Kv ρ:=by intros;kernel_rfl)
  (hi:∀ρ a w,ap (nxL F.ls j) (mapC (fun f=>f (kk F.rs Kv)) _ X) a w->q2x P F.env F.f.ntmps (obF P F.env F.f (F.a (lbT l)) Kv) k ρ (enl (nxL F.ls j) a) w:=by intros;rename_i h;exact cast (by kernel_rfl) h.out):q12 P F.env F.f.ntmps (obF P F.env F.f (F.a (lbT l)) Kv) k:=
 q2z (.inl hk) fun ρ vs w h=>by
  rw[hq]at h
  obtain⟨a,rfl,h'⟩:=qbi h
  exact hi ρ a w h'
theorem hF0{j:Nat}{X:Cur (nxL F.ls j) (Cur F.rs WP->WP)}(e:nthL l k=some (c0 j X Kv):=by exact rfl)(hk:q2y (obF P F.env F.f (F.a (lbT l)) Kv) k=some .rf:=by kernel_rfl)(hq:∀ρ,q5g (obF P F.env F.f (F.a (lbT l)) Kv) k ρ=c0 j X Kv ρ:=by intros;kernel_rfl)
  (hi:∀ρ a w,ap (nxL F.ls j) (mapC (fun f=>f (kk F.rs Kv)) _ X) a w->q2x P F.env F.f.ntmps (obF P F.env F.f (F.a (lbT l)) Kv) k ρ (enl (nxL F.ls j) a) w:=by intros;rename_i h;exact cast (by kernel_rfl) h.out):q12 P F.env F.f.ntmps (obF P F.env F.f (F.a (lbT l)) Kv) k:=
 q2z (.inr hk) fun ρ vs w h=>by
  rw[hq]at h
  obtain⟨a,rfl,h'⟩:=qbi h
  exact hi ρ a w h'
theorem hC1{i j:Nat}{X:Cur (nxL F.ls j) (Cur (nxL F.ls i) WP->Cur F.rs WP->WP)}(e:nthL l k=some (c1 i j X Kv):=by exact rfl)(hk:q2y (obF P F.env F.f (F.a (lbT l)) Kv) k=some .cut:=by kernel_rfl)(hq:∀ρ,q5g (obF P F.env F.f (F.a (lbT l)) Kv) k ρ=c1 i j X Kv ρ:=by intros;kernel_rfl)
  (hi:∀N ρ a w,ap (nxL F.ls j) (mapC (fun f=>f (cu (nxL F.ls i) N) (kk F.rs Kv)) _ X) a w->q2x P F.env F.f.ntmps (obF P F.env F.f (F.a (lbT l)) Kv) k (N::ρ) (enl (nxL F.ls j) a) w:=by intros;rename_i h;exact cast (by kernel_rfl) h.out):q12 P F.env F.f.ntmps (obF P F.env F.f (F.a (lbT l)) Kv) k:=
 q2z (.inl hk) fun ρ vs w h=>by
  rw[hq]at h
  match ρ with
  | []=>exact h.elim
  | N::ρ =>
   obtain⟨a,rfl,h'⟩:=qbi h
   exact hi N ρ a w h'
theorem hC2{g i j:Nat}{X:Cur (nxL F.ls j) (Cur (nxL F.ls g) WP->Cur (nxL F.ls i) WP->Cur F.rs WP->WP)}(e:nthL l k=some (c2 g i j X Kv):=by exact rfl)(hk:q2y (obF P F.env F.f (F.a (lbT l)) Kv) k=some .cut:=by kernel_rfl)(hq:∀ρ,q5g (obF P F.env F.f (F.a (lbT l)) Kv) k ρ=c2 g i j X Kv ρ:=by intros;kernel_rfl)
  (hi:∀N M ρ a w,ap (nxL F.ls j) (mapC (fun f=>f (cu (nxL F.ls g) N) (cu (nxL F.ls i) M) (kk F.rs Kv)) _ X) a w->q2x P F.env F.f.ntmps (obF P F.env F.f (F.a (lbT l)) Kv) k (N::M::ρ) (enl (nxL F.ls j) a) w:=by intros;rename_i h;exact cast (by kernel_rfl) h.out):q12 P F.env F.f.ntmps (obF P F.env F.f (F.a (lbT l)) Kv) k:=
 q2z (.inl hk) fun ρ vs w h=>by
  rw[hq]at h
  match ρ with
  | []=>exact h.elim
  | [_]=>exact h.elim
  | N::M::ρ =>
   obtain⟨a,rfl,h'⟩:=qbi h
   exact hi N M ρ a w h'
theorem hL0{j:Nat}{X:Cur (nxL F.ls j) (Cur F.rs WP->WP)}(cs:List Nat)(B:Cur (nxL F.ls j) (Cur (nxL F.ls j) WP->Cur F.rs WP->WP))(e:nthL l k=some (c0 j X Kv):=by exact rfl)(hw:(cnt (nxL F.ls j)).isSome=true:=by kernel_rfl)(hk:q2y (obF P F.env F.f (F.a (lbT l)) Kv) k=some .loop:=by kernel_rfl)(hq:∀ρ,q5g (obF P F.env F.f (F.a (lbT l)) Kv) k ρ=c0 j X Kv ρ:=by intros;kernel_rfl)
  (hi:∀a w,ap (nxL F.ls j) (mapC (fun f=>f (kk F.rs Kv)) _ X) a w->ap (nxL F.ls j) (lp0 (nxL F.ls j) cs B (kk F.rs Kv)) a w:=by intros;rename_i h;exact cast (by kernel_rfl) h.out)
  (he:∀N ρ,mapC (fun f=>f (cu (nxL F.ls j) N) (kk F.rs Kv)) _ B=cu (nxL F.ls j) (q2x P F.env F.f.ntmps (obF P F.env F.f (F.a (lbT l)) Kv) k (N::ρ)):=by intros;kernel_rfl):q12 P F.env F.f.ntmps (obF P F.env F.f (F.a (lbT l)) Kv) k:=
 hLoop0 (fun N=>mapC (fun f=>f N (kk F.rs Kv)) _ B) (qt8 hi) hw hk hq he
theorem hL1{i j:Nat}{X:Cur (nxL F.ls j) (Cur (nxL F.ls i) WP->Cur F.rs WP->WP)}(cs:List Nat)(B:Cur (nxL F.ls j) (Cur (nxL F.ls j) WP->Cur (nxL F.ls i) WP->Cur F.rs WP->WP))(e:nthL l k=some (c1 i j X Kv):=by exact rfl)(hw:(cnt (nxL F.ls j)).isSome=true:=by kernel_rfl)(hk:q2y (obF P F.env F.f (F.a (lbT l)) Kv) k=some .loop:=by kernel_rfl)(hq:∀ρ,q5g (obF P F.env F.f (F.a (lbT l)) Kv) k ρ=c1 i j X Kv ρ:=by intros;kernel_rfl)
  (hi:∀M a w,ap (nxL F.ls j) (mapC (fun f=>f M (kk F.rs Kv)) _ X) a w->ap (nxL F.ls j) (lp1 (nxL F.ls j) cs B M (kk F.rs Kv)) a w:=by intros;rename_i h;exact cast (by kernel_rfl) h.out)
  (he:∀M N ρ,mapC (fun f=>f (cu (nxL F.ls j) N) (cu (nxL F.ls i) M) (kk F.rs Kv)) _ B=cu (nxL F.ls j) (q2x P F.env F.f.ntmps (obF P F.env F.f (F.a (lbT l)) Kv) k (N::M::ρ)):=by intros;kernel_rfl):q12 P F.env F.f.ntmps (obF P F.env F.f (F.a (lbT l)) Kv) k:=
 hLoop1 (fun M N=>mapC (fun f=>f N M (kk F.rs Kv)) _ B) (fun M=>qt8 (hi M)) hw hk hq he
theorem hL2{h i j:Nat}{X:Cur (nxL F.ls j) (Cur (nxL F.ls h) WP->Cur (nxL F.ls i) WP->Cur F.rs WP->WP)}(cs:List Nat)(B:Cur (nxL F.ls j) (Cur (nxL F.ls j) WP->Cur (nxL F.ls h) WP->Cur (nxL F.ls i) WP->Cur F.rs WP->WP))(e:nthL l k=some (c2 h i j X Kv):=by exact rfl)(hw:(cnt (nxL F.ls j)).isSome=true:=by kernel_rfl)(hk:q2y (obF P F.env F.f (F.a (lbT l)) Kv) k=some .loop:=by kernel_rfl)(hq:∀ρ,q5g (obF P F.env F.f (F.a (lbT l)) Kv) k ρ=c2 h i j X Kv ρ:=by intros;kernel_rfl)
  (hi:∀M Y a w,ap (nxL F.ls j) (mapC (fun f=>f M Y (kk F.rs Kv)) _ X) a w->ap (nxL F.ls j) (lp2 (nxL F.ls j) cs B M Y (kk F.rs Kv)) a w:=by intros;rename_i h;exact cast (by kernel_rfl) h.out)
  (he:∀M Y N ρ,mapC (fun f=>f (cu (nxL F.ls j) N) (cu (nxL F.ls h) M) (cu (nxL F.ls i) Y) (kk F.rs Kv)) _ B=cu (nxL F.ls j) (q2x P F.env F.f.ntmps (obF P F.env F.f (F.a (lbT l)) Kv) k (N::M::Y::ρ)):=by intros;kernel_rfl):q12 P F.env F.f.ntmps (obF P F.env F.f (F.a (lbT l)) Kv) k:=
 hLoop2 (fun M Y N=>mapC (fun f=>f N M Y (kk F.rs Kv)) _ B) (fun M Y=>qt8 (hi M Y)) hw hk hq he
end
theorem yN{P:Program}[PM P](F:FD P)(m:Nat)(xa:A)(l:List (LbC F)){Kv:VW}{ps:Array Tmp}{ag bd:Code}{fn:Nat}{tmps:Array Value}{d r:Nat}{σ:St}{w:World}{args:List Value}{K:VW}
  (ho:∀k,0<=k->q12 P F.env F.f.ntmps (obF P F.env F.f (F.a (lbT l)) Kv) k) (hag:agrT F.f.ntmps σ tmps) (hl:w.heap[r]?=some (lrec fn tmps ps ag bd d .ready none))
  (h:rdW P F.env F.f.ntmps xa (rfX (F.a (lbT l))) ps ag bd σ args (rMid r fn tmps ps ag bd d) (rN r fn tmps ps ag bd d K) (rR r fn tmps ps ag bd d K) w)
  (hd:obs P F.env F.f.ntmps (rfX (F.a (lbT l))) bd rq=((obF P F.env F.f (F.a (lbT l)) Kv).drop 1).take m:=by kernel_rfl) (hoa:∀Q,obs P F.env F.f.ntmps xa ag Q=[]:=by intros;kernel_rfl)
  (hra:noRf xa=true:=by kernel_rfl) (hrb:noRf (rfX (F.a (lbT l)))=true:=by kernel_rfl) (hps:qlk F.f.ntmps ps.toList=true:=by kernel_rfl) (hlen:args.length=ps.size:=by kernel_rfl) (hp:q3j F.env pk=none:=by rfl):Yl P r args.toArray w K:=
 qff PM.h (qi0 F.g) hoa (by rw[show envK F.g=F.env from rfl,hd];exact fun o h=>q4f (fun k=>ho k (Nat.zero_le k)) o (List.mem_of_mem_drop (List.mem_of_mem_take h))) hra hrb hps hag hl hlen h hp
def clF(P:Program)(n:Nat)(ts rs:List Tk)(K:Cur rs WP):Cur ts WP:=cu ts fun vs w=>Calls P n vs.toArray w fun e w'=>∃v,e=.returned v/\kv rs K v w'
def sr(ts rs:List Tk)(X:Cur ts (Cur rs WP->WP)):Spec:=fun vs w Kv=>un ts (mapC (fun f=>f (kk rs Kv)) _ X) nF vs w
theorem okR{P:Program}{n:Nat}{ts rs:List Tk}{X:Cur ts (Cur rs WP->WP)}(hc:∀args w,(callFunc n args).run P w=.ok (.enter n args) w)
  (h:∀K a w,ap ts (mapC (fun f=>f K) _ X) a w->ap ts (clF P n ts rs K) a w:=by intros;rename_i h;exact cast (by kernel_rfl) h.out):q1v P n (sr ts rs X):=
 ⟨hc,fun vs w Kv hs=>by
  obtain⟨a,rfl,h'⟩:=qbi hs
  have:=h _ a w h'
  unfold clF at this
  rw[qbh]at this
  refine this.mono fun e w' ⟨v,he,hv⟩=>⟨v,he,?_⟩
  obtain⟨b,hb,h2⟩:=qbi hv
  unfold kk at h2
  rw[qbh,hb]at h2
  exact h2⟩
theorem mkY{P:Program}[PM P](F:FD P)(X:Cur F.ts (Cur F.rs WP->WP)){n:Nat}(l:VW->List (LbC F))(hf:P.funcs[n]?=some F.f)(ho:∀K k,0<=k->q12 P F.env F.f.ntmps (obF P F.env F.f (F.a (lbT (l K))) K) k)
  (a:Ar F.ts) {K:Cur F.rs WP} {w:World} (h:ap F.ts (mapC (fun f=>f K) _ X) a w)
  (hb:F.f.body.isSome=true:=by kernel_rfl) (hn:qpd F.ts F.f.ntmps=true:=by kernel_rfl)
  (hi:∀K a w,ap F.ts (mapC (fun f=>f (kk F.rs K)) _ X) a w->W P F.env F.f.ntmps (F.a (lbT (l K))) F.bd [] (retQ P F.f.results K) [] (q25 (enl F.ts a)) w:=by intros;rename_i h;exact cast (by kernel_rfl) h)
  (hk:∀K,kk F.rs (kv F.rs K)=K:=by intros;kernel_rfl) (hp:q3j F.env pk=none:=by rfl):ap F.ts (clF P n F.ts F.rs K) a w:=by
 unfold clF
 rw[qbh]
 have h:=hi (kv F.rs K) a w (by rw[hk];exact h)
 obtain⟨code,hcode⟩:=Option.isSome_iff_exists.1 hb
 have e:F.f.body.getD .skip=code:=by rw[hcode];rfl
 unfold qpd at hn
 split at hn
 ·rename_i c hcn
  have hlen:(enl F.ts a).length<=F.f.ntmps:=by rw[q3y F.ts c a hcn];exact Nat.le_of_ble_eq_true hn
  have hob:=q4f (fun k=>ho (kv F.rs K) k (Nat.zero_le k))
  unfold obF at hob
  unfold FD.bd at h
  rw[e]at h hob
  exact q8e PM.h (qi0 F.g) hf hcode _ _ hob hlen h hp
 ·cases hn
