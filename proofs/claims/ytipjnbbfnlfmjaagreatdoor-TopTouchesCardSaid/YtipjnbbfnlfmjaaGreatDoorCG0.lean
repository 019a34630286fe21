/- The bodies' formulas, by program. -/
import Derived.Test.YtipjnbbfnlfmjaaGreatDoorDT
import Derived.Test.YtipjnbbfnlfmjaaGreatDoorProg
set_option maxRecDepth 20000
namespace Pw
open Go
abbrev hA (w:World)(i:Nat):Addr:=⟨w.heap.size,i,none⟩
abbrev vS (x:Sl):Value:=.slice x.p x.l x.c
abbrev vI (x:Int):Value:=.int .i64 x
abbrev vU (x:Int):Value:=.int .u64 x
abbrev vN:Value:=.slice none 0 0
abbrev lS (w:World)(a:Addr)(K:Sl->Prop):Prop:=∃ x:Sl,w.cell? a=some (vS x)/\K x
abbrev lI (w:World)(a:Addr)(K:Int->Prop):Prop:=∃ x:Int,w.cell? a=some (vI x)/\K x
abbrev mS (S:World->Prop)(a:Addr)(K:Sl->Prop):Prop:=∃ x:Sl,(∀ w':World,S w'->w'.cell? a=some (vS x))/\K x
abbrev mI (S:World->Prop)(a:Addr)(K:Int->Prop):Prop:=∃ x:Int,(∀ w':World,S w'->w'.cell? a=some (vI x))/\K x
abbrev vT (x:ByteArray):Value:=.string x
abbrev lT (w:World)(a:Addr)(K:ByteArray->Prop):Prop:=∃ x:ByteArray,w.cell? a=some (vT x)/\K x
abbrev mT (S:World->Prop)(a:Addr)(K:ByteArray->Prop):Prop:=∃ x:ByteArray,(∀ w':World,S w'->w'.cell? a=some (vT x))/\K x
abbrev lB (w:World)(a:Addr)(K:Bool->Prop):Prop:=∃ x:Bool,w.cell? a=some (.bool x)/\K x
abbrev mB (S:World->Prop)(a:Addr)(K:Bool->Prop):Prop:=∃ x:Bool,(∀ w':World,S w'->w'.cell? a=some (.bool x))/\K x
abbrev lX (w:World)(a:Addr)(K:ByteArray->Int->Int->ByteArray->Sl->Prop):Prop:=lT w a fun x=>lI w (a.add 1) fun y=>lI w (a.add 2) fun z=>lT w (a.add 3) fun m=>lS w (a.add 4) fun b=>K x y z m b
abbrev mX (S:World->Prop)(a:Addr)(K:ByteArray->Int->Int->ByteArray->Sl->Prop):Prop:=mT S a fun x=>mI S (a.add 1) fun y=>mI S (a.add 2) fun z=>mT S (a.add 3) fun m=>mS S (a.add 4) fun b=>K x y z m b
abbrev lP (w:World)(a:Addr)(K:Sl->Sl->Sl->Int->Int->Prop):Prop:=lS w a fun x=>lS w (a.add 1) fun y=>lS w (a.add 2) fun z=>lI w (a.add 3) fun m=>lI w (a.add 4) fun b=>K x y z m b
abbrev mP (S:World->Prop)(a:Addr)(K:Sl->Sl->Sl->Int->Int->Prop):Prop:=mS S a fun x=>mS S (a.add 1) fun y=>mS S (a.add 2) fun z=>mI S (a.add 3) fun m=>mI S (a.add 4) fun b=>K x y z m b
class PM (P:Program):Prop where
 h:P.follows .mixedOrders=true
theorem okR {P:Program}[PM P]{Γ:Env}{f:FuncId}{fn:Func}{ts:List Tk}{F:VW->Cur ts WP}{x:VW->A}(hΓ:q4t P Γ)(hc:∀ args w,(callFunc f args).run P w=.ok (.enter f args) w)
 (hf:P.funcs[f]?=some fn)(ho:∀ K k,0<=k->q0e P Γ fn.ntmps (obF P Γ fn (x K) K) k)
 (hb:fn.body.isSome=true:=by kernel_rfl)(hn:qml ts fn.ntmps=true:=by kernel_rfl)(hi:∀ K a w,ap ts (F K) a w->W P Γ fn.ntmps (x K) (fn.body.getD .skip) [] (retQ P fn.results K) [] (q1d (enl ts a)) w:=by intros; rename_i h; exact cast (by kernel_rfl) h.out)(hp:q3n Γ pk=none:=by rfl):q22 P f (fun vs w K=>un ts (F K) nF vs w):=by
 refine⟨hc,fun vs w K h=>?_⟩
 obtain⟨a,rfl,h'⟩:=qe4 h
 have h:=hi K a w h'
 obtain⟨code,hcode⟩:=Option.isSome_iff_exists.1 hb
 have e:fn.body.getD .skip=code:=by rw[hcode]; rfl
 unfold qml at hn
 split at hn
 . rename_i c hcn
   have hlen:(enl ts a).length<=fn.ntmps:=by rw[q3a ts c a hcn]; exact Nat.le_of_ble_eq_true hn
   have hob:=q15 (fun k=>ho K k (Nat.zero_le k))
   unfold obF at hob
   rw[e] at h hob
   exact q0z PM.h hΓ hf hcode (x K) K hob hlen h hp
 . cases hn
section
variable {P:Program}{Γ:Env}{n:Nat}{O:List Ob}{k:Nat}{t1 t2 t3 t4 ts:List Tk}
theorem hK0 {F:Cur ts WP}(hk:q3l O k=some .cut:=by kernel_rfl)(hq:∀ ρ,q2s O k ρ=uR0 ts F ρ:=by intros; kernel_rfl)(hi:∀  ρ a w,ap ts F a w->q1l P Γ n O k (ρ) (enl ts a) w:=by intros; rename_i h; exact cast (by kernel_rfl) h.out):q0e P Γ n O k:=
 q0q (.inl hk) fun ρ vs w h=>by
 rw[hq] at h
 obtain⟨a,rfl,h'⟩:=qe4 h
 exact hi ρ a w h'
theorem hK1 {F:Cur t1 WP->Cur ts WP}(hk:q3l O k=some .cut:=by kernel_rfl)(hq:∀ ρ,q2s O k ρ=uR1 t1 ts F ρ:=by intros; kernel_rfl)(hi:∀ N ρ a w,ap ts (F (cu t1 N)) a w->q1l P Γ n O k (N::ρ) (enl ts a) w:=by intros; rename_i h; exact cast (by kernel_rfl) h.out):q0e P Γ n O k:=
 q0q (.inl hk) fun ρ vs w h=>by
 rw[hq] at h
 match ρ with
 |[]=>exact h.elim
 |N::ρ=>
  obtain⟨a,rfl,h'⟩:=qe4 h
  exact hi N ρ a w h'
end
abbrev Y0:=Bool->World->Prop
abbrev Y1:=Int->World->Prop
abbrev Y2:=Int->Int->Bool->World->Prop
abbrev Y3:=Int->Int->World->Prop
abbrev Y4:=ByteArray->Int->Int->ByteArray->Sl->World->Prop
abbrev Y5:=Sl->World->Prop
abbrev Y6:=ByteArray->World->Prop
abbrev Y7:=T43->World->Prop
abbrev Y8:=Sl->Int->World->Prop
abbrev Y9:=Int->Int->Int->Int->Int->Int->Int->Int->Int->World->Prop
abbrev Y10:=Sl->Addr->Sl->Sl->Int->World->Prop
abbrev Y11:=Addr->Addr->Sl->Addr->Int->Int->World->Prop
abbrev Y12:=Sl->Value->Int->Int->World->Prop
abbrev Y13:=Int->Int->Int->World->Prop
abbrev Y14:=Addr->Addr->Sl->Addr->Int->Int->Sl->Int->Int->World->Prop
abbrev Y15:=World->Prop
abbrev Y16:=Sl->Bool->Addr->Addr->Int->Sl->Int->World->Prop
abbrev Y17:=Addr->Addr->Addr->Sl->Int->Int->World->Prop
abbrev Y18:=Addr->Addr->Addr->Int->World->Prop
abbrev Y19:=Int->Bool->World->Prop
abbrev Y20:=Sl->Int->Int->Value->Int->World->Prop
abbrev Y21:=Addr->Sl->Int->Bool->Sl->Int->Int->World->Prop
abbrev Y22:=Addr->Int->Sl->Sl->Sl->Int->Int->World->Prop
abbrev Y23:=ByteArray->Bool->World->Prop
abbrev Y24:=Value->World->Prop
abbrev Y25:=ByteArray->Int->Int->Int->Bool->Bool->World->Prop
abbrev Y26:=Addr->Sl->Int->Int->World->Prop
abbrev Y27:=Sl->Sl->Int->Int->World->Prop
abbrev Y28:=ByteArray->ByteArray->Int->World->Prop
abbrev Y29:=Addr->Addr->Sl->Int->Int->World->Prop
abbrev Y30:=Sl->Value->Sl->Int->Int->World->Prop
abbrev Y31:=ByteArray->Value->Bool->World->Prop
def mapC {R S:Type}(g:R->S):(ts:List Tk)->Cur ts R->Cur ts S
 |[],f=>g f
 |.f _::ts,f=>fun x=>mapC g ts (f x)
 |.g _::ts,f=>mapC g ts f
 |.u _::ts,f=>mapC g ts f
 |.c _ _ _::ts,f=>mapC g ts f
def sp (ts rs:List Tk)(F:Cur ts (Cur rs WP->WP)):Spec:=fun vs w Kv=>un ts (mapC (fun f=>f (kk rs Kv)) ts F) nF vs w
abbrev g43 (r:List Tk):List Tk:=.g 20 :: tS :: tL :: tL :: tL :: tI :: tI :: tS :: tI :: tI :: tS :: tL :: tL :: tI :: tL :: tI :: tI :: tI :: tI :: tI :: tI :: r
abbrev T43.c {r:List Tk}{R:Type}(F:T43->Cur r R):Cur (g43 r) R:=fun a b c d e f g h i j k l m n o p q r s t=>F ⟨a,b,c,d,e,f,g,h,i,j,k,l,m,n,o,p,q,r,s,t⟩
def kk43 (Kv:VW):=T43.un (kk (g43 []) Kv)
end Pw
namespace Go.Proofs.YtipjnbbfnlfmjaaGreatDoor
open Go Pw
theorem progMixed:Tryz.prog.follows .mixedOrders=true:=by kernel_rfl
abbrev okP:=q22 Tryz.prog
instance:PM Tryz.prog:=⟨progMixed⟩
structure z39_k2 (p0 p2:Int)(K:Pw.Y1)(w:World):Prop where
 out:inR .u8 p0/\(0<=p0/\p0<((str [0,1,2,2,3,3,3,3,4,4,4,4,4,4,4,4,5,5,5,5,5,5,5,5,5,5,5,5,5,5,5,5,6,6,6,6,6,6,6,6,6,6,6,6,6,6,6,6,6,6,6,6,6,6,6,6,6,6,6,6,6,6,6,6,7,7,7,7,7,7,7,7,7,7,7,7,7,7,7,7,7,7,7,7,7,7,7,7,7,7,7,7,7,7,7,7,7,7,7,7,7,7,7,7,7,7,7,7,7,7,7,7,7,7,7,7,7,7,7,7,7,7,7,7,7,7,7,7,8,8,8,8,8,8,8,8,8,8,8,8,8,8,8,8,8,8,8,8,8,8,8,8,8,8,8,8,8,8,8,8,8,8,8,8,8,8,8,8,8,8,8,8,8,8,8,8,8,8,8,8,8,8,8,8,8,8,8,8,8,8,8,8,8,8,8,8,8,8,8,8,8,8,8,8,8,8,8,8,8,8,8,8,8,8,8,8,8,8,8,8,8,8,8,8,8,8,8,8,8,8,8,8,8,8,8,8,8,8,8,8,8,8,8,8,8,8,8,8,8,8,8,8,8,8,8,8]).size:Nat))/\inR .i64 (((str [0,1,2,2,3,3,3,3,4,4,4,4,4,4,4,4,5,5,5,5,5,5,5,5,5,5,5,5,5,5,5,5,6,6,6,6,6,6,6,6,6,6,6,6,6,6,6,6,6,6,6,6,6,6,6,6,6,6,6,6,6,6,6,6,7,7,7,7,7,7,7,7,7,7,7,7,7,7,7,7,7,7,7,7,7,7,7,7,7,7,7,7,7,7,7,7,7,7,7,7,7,7,7,7,7,7,7,7,7,7,7,7,7,7,7,7,7,7,7,7,7,7,7,7,7,7,7,7,8,8,8,8,8,8,8,8,8,8,8,8,8,8,8,8,8,8,8,8,8,8,8,8,8,8,8,8,8,8,8,8,8,8,8,8,8,8,8,8,8,8,8,8,8,8,8,8,8,8,8,8,8,8,8,8,8,8,8,8,8,8,8,8,8,8,8,8,8,8,8,8,8,8,8,8,8,8,8,8,8,8,8,8,8,8,8,8,8,8,8,8,8,8,8,8,8,8,8,8,8,8,8,8,8,8,8,8,8,8,8,8,8,8,8,8,8,8,8,8,8,8,8,8,8,8,8,8]).data.toList.getD p0.toNat 0).toNat:Int)/\inR .i64 (p2+(((str [0,1,2,2,3,3,3,3,4,4,4,4,4,4,4,4,5,5,5,5,5,5,5,5,5,5,5,5,5,5,5,5,6,6,6,6,6,6,6,6,6,6,6,6,6,6,6,6,6,6,6,6,6,6,6,6,6,6,6,6,6,6,6,6,7,7,7,7,7,7,7,7,7,7,7,7,7,7,7,7,7,7,7,7,7,7,7,7,7,7,7,7,7,7,7,7,7,7,7,7,7,7,7,7,7,7,7,7,7,7,7,7,7,7,7,7,7,7,7,7,7,7,7,7,7,7,7,7,8,8,8,8,8,8,8,8,8,8,8,8,8,8,8,8,8,8,8,8,8,8,8,8,8,8,8,8,8,8,8,8,8,8,8,8,8,8,8,8,8,8,8,8,8,8,8,8,8,8,8,8,8,8,8,8,8,8,8,8,8,8,8,8,8,8,8,8,8,8,8,8,8,8,8,8,8,8,8,8,8,8,8,8,8,8,8,8,8,8,8,8,8,8,8,8,8,8,8,8,8,8,8,8,8,8,8,8,8,8,8,8,8,8,8,8,8,8,8,8,8,8,8,8,8,8,8,8]).data.toList.getD p0.toNat 0).toNat:Int))/\K (p2+(((str [0,1,2,2,3,3,3,3,4,4,4,4,4,4,4,4,5,5,5,5,5,5,5,5,5,5,5,5,5,5,5,5,6,6,6,6,6,6,6,6,6,6,6,6,6,6,6,6,6,6,6,6,6,6,6,6,6,6,6,6,6,6,6,6,7,7,7,7,7,7,7,7,7,7,7,7,7,7,7,7,7,7,7,7,7,7,7,7,7,7,7,7,7,7,7,7,7,7,7,7,7,7,7,7,7,7,7,7,7,7,7,7,7,7,7,7,7,7,7,7,7,7,7,7,7,7,7,7,8,8,8,8,8,8,8,8,8,8,8,8,8,8,8,8,8,8,8,8,8,8,8,8,8,8,8,8,8,8,8,8,8,8,8,8,8,8,8,8,8,8,8,8,8,8,8,8,8,8,8,8,8,8,8,8,8,8,8,8,8,8,8,8,8,8,8,8,8,8,8,8,8,8,8,8,8,8,8,8,8,8,8,8,8,8,8,8,8,8,8,8,8,8,8,8,8,8,8,8,8,8,8,8,8,8,8,8,8,8,8,8,8,8,8,8,8,8,8,8,8,8,8,8,8,8,8,8]).data.toList.getD p0.toNat 0).toNat:Int)) w
structure z39_k1 (p0 p2:Int)(K:Pw.Y1)(w:World):Prop where
 out:cnd (decide (p0>=256))
  (0<=(8:Int)/\inR .i64 (p2+8)/\z39_k2 (Int.fdiv p0 (2^(min 8 (IntKind.bits .u64)))) (p2+8) K w)
  (z39_k2 p0 p2 K w)
structure z39_k0 (p0 p2:Int)(K:Pw.Y1)(w:World):Prop where
 out:cnd (decide (p0>=65536))
  (0<=(16:Int)/\inR .i64 (p2+16)/\z39_k1 (Int.fdiv p0 (2^(min 16 (IntKind.bits .u64)))) (p2+16) K w)
  (z39_k1 p0 p2 K w)
structure z39_sh (p0:Int)(K:Pw.Y1)(w:World):Prop where
 out:cnd (decide (p0>=4294967296))
  (0<=(32:Int)/\z39_k0 (Int.fdiv p0 (2^(min 32 (IntKind.bits .u64)))) 32 K w)
  (z39_k0 p0 0 K w)
def z39_L0 (Kv:VW):Cur [tU,tI] WP:=fun p0 p2=>z39_k0 p0 p2 (kk [tI] Kv)
def z39_L1 (Kv:VW):Cur [tU,tI] WP:=fun p0 p2=>z39_k1 p0 p2 (kk [tI] Kv)
def z39_L2 (Kv:VW):Cur [tU,tI] WP:=fun p0 p2=>z39_k2 p0 p2 (kk [tI] Kv)
def z39_S:=sp [tU] [tI] z39_sh
theorem z39_ok:okP 98 z39_S:=okR (x:=fun Kv=>qr 1 (qs (qr 2 (qc (qr 3 (qe 1)) ql)) (A.cut [0,2] (uR0 [tU,tI] (z39_L0 Kv)) (qs (qr 2 (qc (qr 3 (qe 3)) ql)) (A.cut [0,2] (uR0 [tU,tI] (z39_L1 Kv)) (qs (qr 2 (qc (qr 3 (qe 3)) ql)) (A.cut [0,2] (uR0 [tU,tI] (z39_L2 Kv)) (qr 7 ql)))))))) (Γ:=[]) trivial Tryz.call98 Tryz.func98 (fun Kv=>q08 (hK0 (F:=z39_L0 Kv)) <| q08 (hK0 (F:=z39_L1 Kv)) <| q08 (hK0 (F:=z39_L2 Kv)) <| hEnd)
structure z3i_sh (p0:Int)(K:Pw.Y1)(w:World):Prop where
 out:cnd (decide (p0<0))
  (K (IntKind.wrap .u64 ((0:Int)-(IntKind.wrap .u64 p0))) w)
  (K (IntKind.wrap .u64 p0) w)
def z3i_S:=sp [tI] [tU] z3i_sh
theorem z3i_ok:okP 226 z3i_S:=okR (x:=fun _=>qr 1 (qs (qr 2 (qc (qs (A.reg (qn 1 (RA.raw (RA.raw (qn 1 RA.done))))) ql) ql)) (qs (A.reg (qn 1 (RA.raw (qn 1 RA.done)))) ql))) (Γ:=[]) trivial Tryz.call226 Tryz.func226 (fun _=>hEnd)
def z3w_b0 (p0 p1:Int)(N0:Pw.Y3)(K:Pw.Y1)(w:World):Prop :=
 cnd (decide (p1>0))
 (let w1:=w.drew
 p1≠0/\N0 p1 (Int.tmod p0 p1) w1)
 (K p0 w)
structure z3w_l0 (p0 p1:Int)(K:Pw.Y1)(w:World):Prop where
 out:∃ (I:Int->Int->World->Prop) (μ:Int->Int->World->Nat),I p0 p1 w/\∀ (p01 p11:Int) (w1:World),I p01 p11 w1 ->
  z3w_b0 p01 p11 (fun p0' p1' w'=>((True)/\I p0' p1' w')/\μ p0' p1' w'<μ p01 p11 w1) K w1
structure z3w_sh (p0 p1:Int)(K:Pw.Y1)(w:World):Prop where
 out:z3w_l0 p0 p1 K w
def z3w_L0 (Kv:VW):Cur [tU,tU] WP:=fun p0 p1=>z3w_l0 p0 p1 (kk [tU] Kv)
def z3w_S:=sp [tU,tU] [tU] z3w_sh
theorem z3w_ok:okP 283 z3w_S:=okR (x:=fun Kv=>qr 1 (qs (qb (A.loop [0,1] (uR0 [tU,tU] (z3w_L0 Kv)) (qs (qr 2 (qc ql ql)) (qb (A.drp (dp [0,1,2,3,4,5] DA.done)))))) (qr 2 ql))) (Γ:=[]) trivial Tryz.call283 Tryz.func283 (fun Kv=>q08 (q0c (L:=z3w_L0 Kv) (fun N0 p0 p1=>z3w_b0 p0 p1 N0 (kk [tU] Kv)) (fun⟨_,_,_⟩ _ h=>let ⟨I,μ,h0,hr⟩:=h.out; ⟨fun b0 b1 w=>(True)/\I b0 b1 w,fun b0 b1 w=>μ b0 b1 w,⟨trivial,h0⟩,fun⟨_,_,_⟩ _ ⟨_,hI⟩=>by exact hr _ _ _ hI⟩)) <| hEnd)
structure z2t_sh (p0_0 p0_1:Int)(K:Pw.Y0)(w:World):Prop where
 out:let w1:=w.alloc (.cells #[(vI p0_0),(vI p0_1)] 35)
  let w2:=w1.drew
  ∃ S3:World->Prop,S3 w2/\mI S3 (hA w 1) fun x4=>cnd (decide (x4>0))
  (mI S3 (hA w 0) fun x5=>mI S3 (hA w 1) fun x6=>inR .u64 x6/\z3i_sh x5 (fun r8 w7=>S3 w7/\z3w_sh r8 x6 (fun r10 w9=>S3 w9/\K (r10 == 1) w9) w7) w2)
  (K false w2)
def z2t_S:=sp [.g 2,tI,tI] [tB] z2t_sh
theorem z2t_ok:okP 215 z2t_S:=okR (x:=fun _=>qr 2 (qs (A.drw (dp [0,1,2,3] (DA.spl 6 (dp [4,5,7,8,9] (DA.eff 6 (DA.eff 10 (dp [11,12,13] DA.done)))) (DA.skp 4 (DA.skp 5 (DA.skp 7 (DA.skp 8 (DA.skp 9 (DA.skp 6 (DA.skp 10 (DA.skp 11 (dp [12,13] DA.done)))))))))))) ql)) (Γ:=[(226,z3i_S),(283,z3w_S)]) ⟨.inl z3i_ok,.inl z3w_ok,trivial⟩ Tryz.call215 Tryz.func215 (fun _=>hEnd)
structure z3h_sh (p0_0 p0_1:Int)(p1_0 p1_1:Int)(K:Pw.Y0)(w:World):Prop where
 out:let w1:=w.alloc (.cells #[(vI p0_0),(vI p0_1)] 35)
  let w2:=w1.alloc (.cells #[(vI p1_0),(vI p1_1)] 35)
  lI w2 (hA w 0) fun x3=>lI w2 (hA w 1) fun x4=>z2t_sh x3 x4 (fun r6 w5=>cnd r6
  (lI w5 (hA w1 0) fun x7=>lI w5 (hA w1 1) fun x8=>z2t_sh x7 x8 (fun r10 w9=>K r10 w9) w5)
  (K false w5)) w2
def z3h_S:=sp [.g 2,tI,tI,.g 2,tI,tI] [tB] z3h_sh
theorem z3h_ok:okP 153 z3h_S:=okR (x:=fun _=>qr 3 (qs (A.reg (qn 3 (RA.spl 7 (qn 4 RA.done) (qk 2 (qn 2 RA.done))))) ql)) (Γ:=[(215,z2t_S)]) ⟨.inl z2t_ok,trivial⟩ Tryz.call153 Tryz.func153 (fun _=>hEnd)
structure z43_sh (p0_0 p0_1:Int)(K:Bool->Int->Int->World->Prop)(w:World):Prop where
 out:let w1:=w.alloc (.cells #[(vI p0_0),(vI p0_1)] 35)
  let w2:=w1.alloc (.cells #[(.bool false),(vU 0),(vU 0)] 249)
  let w3:=w2.drew
  ∃ S4:World->Prop,S4 w3/\mI S4 (hA w 0) fun x5=>mI S4 (hA w 0) fun x6=>mI S4 (hA w 1) fun x7=>z3i_sh x6 (fun r9 w8=>S4 w8/\z3i_sh x7 (fun r11 w10=>S4 w10/\wrOk w10 (hA w1 0)/\
  (let w12:=w10.setCell (hA w1 0) (.bool (decide (x5<0)))
  wrOk w12 (hA w1 1)/\
  (let w13:=w12.setCell (hA w1 1) (vU r9)
  wrOk w13 (hA w1 2)/\
  (let w14:=w13.setCell (hA w1 2) (vU r11)
  lB w14 (hA w1 0) fun x15=>∃ x16:Int,w14.cell? (hA w1 1)=some (vU x16)/\∃ x17:Int,w14.cell? (hA w1 2)=some (vU x17)/\K x15 x16 x17 w14)))) w8) w3
def z43_S:=sp [.g 2,tI,tI] [.g 3,tB,tU,tU] z43_sh
theorem z43_ok:okP 154 z43_S:=okR (x:=fun _=>qr 2 (qs (A.drw (dp [0,1,2,3,4,6,7] (DA.eff 5 (DA.eff 8 (DA.pur 9 (DA.eff 10 DA.done)))))) ql)) (Γ:=[(226,z3i_S)]) ⟨.inl z3i_ok,trivial⟩ Tryz.call154 Tryz.func154 (fun _=>hEnd)
structure z3n_sh (p0:Int)(K:Pw.Y0)(w:World):Prop where
 out:K (p0 != p0) w
def z3n_S:=sp [tI] [tB] z3n_sh
theorem z3n_ok:okP 196 z3n_S:=okR (x:=fun _=>qr 1 (qr 4 ql)) (Γ:=[]) trivial Tryz.call196 Tryz.func196 (fun _=>hEnd)
structure z2g_sh (p0 p1:Int)(K:Pw.Y1)(w:World):Prop where
 out:z3n_sh p0 (fun r2 w1=>z3n_sh p1 (fun r4 w3=>cnd r2
  (cnd r4
  (K 0 w3)
  (K (-1:Int) w3))
  (cnd r4
  (K 1 w3)
  (cnd (decide (p0<p1))
  (K (-1:Int) w3)
  (cnd (decide (p0>p1))
  (K 1 w3)
  (K 0 w3))))) w1) w
def z2g_S:=sp [tI,tI] [tI] z2g_sh
theorem z2g_ok:okP 155 z2g_S:=okR (x:=fun _=>qr 1 (qr 3 (qr 3 (qs (qr 1 (qc (qs (qr 1 (qc (qr 1 ql) ql)) (qr 1 ql)) ql)) (qs (qr 1 (qc (qr 1 ql) ql)) (qs (qr 3 (qc (qr 1 ql) ql)) (qs (qr 3 (qc (qr 1 ql) ql)) (qr 1 ql)))))))) (Γ:=[(196,z3n_S)]) ⟨.inl z3n_ok,trivial⟩ Tryz.call155 Tryz.func155 (fun _=>hEnd)
structure z3a_sh (p0 p1:Int)(K:Pw.Y3)(w:World):Prop where
 out:0<=(32:Int)/\0<=(32:Int)/\0<=(32:Int)/\0<=(32:Int)/\0<=(32:Int)/\K (IntKind.wrap .u64 ((IntKind.wrap .u64 ((IntKind.wrap .u64 ((Int.fdiv p0 (2^(min 32 (IntKind.bits .u64))))*(Int.fdiv p1 (2^(min 32 (IntKind.bits .u64))))))+(Int.fdiv (IntKind.wrap .u64 ((IntKind.wrap .u64 ((Int.fdiv p0 (2^(min 32 (IntKind.bits .u64))))*(IntKind.wrap .u64 (((BitVec.ofInt (IntKind.bits .u64) p1 &&& BitVec.ofInt (IntKind.bits .u64) 4294967295)).toNat:Int))))+(Int.fdiv (IntKind.wrap .u64 ((IntKind.wrap .u64 (((BitVec.ofInt (IntKind.bits .u64) p0 &&& BitVec.ofInt (IntKind.bits .u64) 4294967295)).toNat:Int))*(IntKind.wrap .u64 (((BitVec.ofInt (IntKind.bits .u64) p1 &&& BitVec.ofInt (IntKind.bits .u64) 4294967295)).toNat:Int)))) (2^(min 32 (IntKind.bits .u64)))))) (2^(min 32 (IntKind.bits .u64))))))+(Int.fdiv (IntKind.wrap .u64 ((IntKind.wrap .u64 (((BitVec.ofInt (IntKind.bits .u64) (IntKind.wrap .u64 ((IntKind.wrap .u64 ((Int.fdiv p0 (2^(min 32 (IntKind.bits .u64))))*(IntKind.wrap .u64 (((BitVec.ofInt (IntKind.bits .u64) p1 &&& BitVec.ofInt (IntKind.bits .u64) 4294967295)).toNat:Int))))+(Int.fdiv (IntKind.wrap .u64 ((IntKind.wrap .u64 (((BitVec.ofInt (IntKind.bits .u64) p0 &&& BitVec.ofInt (IntKind.bits .u64) 4294967295)).toNat:Int))*(IntKind.wrap .u64 (((BitVec.ofInt (IntKind.bits .u64) p1 &&& BitVec.ofInt (IntKind.bits .u64) 4294967295)).toNat:Int)))) (2^(min 32 (IntKind.bits .u64)))))) &&& BitVec.ofInt (IntKind.bits .u64) 4294967295)).toNat:Int))+(IntKind.wrap .u64 ((IntKind.wrap .u64 (((BitVec.ofInt (IntKind.bits .u64) p0 &&& BitVec.ofInt (IntKind.bits .u64) 4294967295)).toNat:Int))*(Int.fdiv p1 (2^(min 32 (IntKind.bits .u64)))))))) (2^(min 32 (IntKind.bits .u64)))))) (IntKind.wrap .u64 (p0*p1)) w
def z3a_S:=sp [tU,tU] [.u 2,tU,tU] z3a_sh
theorem z3a_ok:okP 229 z3a_S:=okR (x:=fun _=>qr 2 (qr 3 (qr 3 (qr 3 (qr 3 (qs (A.reg (qn 2 (RA.raw (qn 1 RA.done)))) (qs (A.reg (qn 2 (RA.raw (qn 2 (RA.raw (qn 1 RA.done)))))) (qr 3 (qr 3 (qs (A.reg (qn 3 (RA.raw (RA.raw (qn 1 RA.done))))) (qs (A.reg (qn 2 (RA.raw (qn 1 (RA.raw (qn 2 (RA.raw (qn 1 RA.done)))))))) (qs (A.reg (qn 2 (RA.raw (qn 1 RA.done)))) ql)))))))))))) (Γ:=[]) trivial Tryz.call229 Tryz.func229 (fun _=>hEnd)
structure z21_sh (p0 p1:Int)(K:Pw.Y3)(w:World):Prop where
 out:let w1:=w.alloc (.cells #[(vU 0),(vU 0)] 253)
  z3a_sh p0 p1 (fun r3 r4 w2=>wrOk w2 (hA w 0)/\
  (let w5:=w2.setCell (hA w 0) (vU r3)
  wrOk w5 (hA w 1)/\
  (let w6:=w5.setCell (hA w 1) (vU r4)
  ∃ x7:Int,w6.cell? (hA w 0)=some (vU x7)/\∃ x8:Int,w6.cell? (hA w 1)=some (vU x8)/\K x7 x8 w6))) w1
def z21_S:=sp [tU,tU] [.g 2,tU,tU] z21_sh
theorem z21_ok:okP 157 z21_S:=okR (x:=fun _=>qr 1 (qr 8 (qr 4 ql))) (Γ:=[(229,z3a_S)]) ⟨.inl z3a_ok,trivial⟩ Tryz.call157 Tryz.func157 (fun _=>hEnd)
structure z17_sh (p0:Int)(K:Pw.Y0)(w:World):Prop where
 out:K (p0 != p0) w
def z17_S:=sp [tU] [tB] z17_sh
theorem z17_ok:okP 290 z17_S:=okR (x:=fun _=>qr 1 (qr 4 ql)) (Γ:=[]) trivial Tryz.call290 Tryz.func290 (fun _=>hEnd)
structure z0n_sh (p0 p1:Int)(K:Pw.Y1)(w:World):Prop where
 out:z17_sh p0 (fun r2 w1=>z17_sh p1 (fun r4 w3=>cnd r2
  (cnd r4
  (K 0 w3)
  (K (-1:Int) w3))
  (cnd r4
  (K 1 w3)
  (cnd (decide (p0<p1))
  (K (-1:Int) w3)
  (cnd (decide (p0>p1))
  (K 1 w3)
  (K 0 w3))))) w1) w
def z0n_S:=sp [tU,tU] [tI] z0n_sh
theorem z0n_ok:okP 228 z0n_S:=okR (x:=fun _=>qr 1 (qr 3 (qr 3 (qs (qr 1 (qc (qs (qr 1 (qc (qr 1 ql) ql)) (qr 1 ql)) ql)) (qs (qr 1 (qc (qr 1 ql) ql)) (qs (qr 3 (qc (qr 1 ql) ql)) (qs (qr 3 (qc (qr 1 ql) ql)) (qr 1 ql)))))))) (Γ:=[(290,z17_S)]) ⟨.inl z17_ok,trivial⟩ Tryz.call228 Tryz.func228 (fun _=>hEnd)
def z45_b0 (zero_3:Int)(p6:Sl)(p7 p8:Int)(N0:Int->Sl->Int->Int->World->Prop)(K:Pw.Y1)(w:World):Prop :=
 cnd (decide (p8<p7))
 (nz p6.p fun a1=>(0<=p8/\p8<(p6.l:Nat))/\lI w (a1.add (p8.toNat*1)) fun x2=>cnd (x2 != zero_3)
 (K x2 w)
 (inR .i64 (p8+1)/\N0 zero_3 p6 p7 (p8+1) w))
 (K zero_3 w)
structure z45_l0 (zero_3:Int)(p6:Sl)(p7 p8:Int)(K:Pw.Y1)(w:World):Prop where
 out:∃ (I:Int->World->Prop) (μ:Int->World->Nat),I p8 w/\∀ (p81:Int) (w1:World),I p81 w1 ->
  z45_b0 zero_3 p6 p7 p81 (fun zero_3' p6' p7' p8' w'=>((zero_3'=zero_3/\p6'=p6/\p7'=p7/\True)/\I p8' w')/\μ p8' w'<μ p81 w1) K w1
structure z45_sh (p0:Sl)(K:Pw.Y1)(w:World):Prop where
 out:z45_l0 0 p0 (p0.l:Int) 0 K w
def z45_L0 (Kv:VW):Cur [tI,tL,tI,tI] WP:=fun zero_3 p6 p7 p8=>z45_l0 zero_3 p6 p7 p8 (kk [tI] Kv)
def z45_S:=sp [tL] [tI] z45_sh
theorem z45_ok:okP 227 z45_S:=okR (x:=fun Kv=>qr 1 (qr 1 (qs (qr 3 (qb (A.loop [3,6,7,8] (uR0 [tI,tL,tI,tI] (z45_L0 Kv)) (qr 1 (qs (qc ql ql) (qs (qb (qr 3 (qr 3 (qc (qr 2 ql) ql)))) (qe 2))))))) (qr 2 ql)))) (Γ:=[]) trivial Tryz.call227 Tryz.func227 (fun Kv=>q08 (q0c (L:=z45_L0 Kv) (fun N0 zero_3 p6 p7 p8=>z45_b0 zero_3 p6 p7 p8 N0 (kk [tI] Kv)) (fun⟨a0,a1,a2,_,_⟩ _ h=>let ⟨I,μ,h0,hr⟩:=h.out; ⟨fun b0 b1 b2 b3 w=>(b0=a0/\b1=a1/\b2=a2/\True)/\I b3 w,fun _ _ _ b3 w=>μ b3 w,⟨⟨rfl,rfl,rfl,trivial⟩,h0⟩,fun⟨_,_,_,_,_⟩ _ ⟨⟨e0,e1,e2,_⟩,hI⟩=>by cases e0; cases e1; cases e2; exact hr _ _ hI⟩)) <| hEnd)
structure z20_sh (p0_0 p0_1:Int)(p1_0 p1_1:Int)(K:Pw.Y1)(w:World):Prop where
 out:let w1:=w.alloc (.cells #[(vU p0_0),(vU p0_1)] 253)
  let w2:=w1.alloc (.cells #[(vU p1_0),(vU p1_1)] 253)
  let w3:=w2.drew
  ∃ S4:World->Prop,S4 w3/\∃ x5:Int,(∀ w':World,S4 w'->w'.cell? (hA w 0)=some (vU x5))/\∃ x6:Int,(∀ w':World,S4 w'->w'.cell? (hA w1 0)=some (vU x6))/\∃ x7:Int,(∀ w':World,S4 w'->w'.cell? (hA w 1)=some (vU x7))/\∃ x8:Int,(∀ w':World,S4 w'->w'.cell? (hA w1 1)=some (vU x8))/\z0n_sh x5 x6 (fun r10 w9=>S4 w9/\z0n_sh x7 x8 (fun r12 w11=>S4 w11/\let w13:=w11.alloc (.cells #[(vI r10),(vI r12)] 3)
  S4 w13/\z45_sh (Sl.mk (some (hA w11 0)) 2 2) (fun r15 w14=>S4 w14/\K r15 w14) w13) w9) w3
def z20_S:=sp [.g 2,tU,tU,.g 2,tU,tU] [tI] z20_sh
theorem z20_ok:okP 156 z20_S:=okR (x:=fun _=>qr 3 (qs (A.drw (dp [0,1,2,3,5,6,7,8] (DA.eff 4 (DA.eff 9 (DA.eff 10 (DA.eff 11 (DA.pur 12 DA.done))))))) ql)) (Γ:=[(227,z45_S),(228,z0n_S)]) ⟨.inl z45_ok,.inl z0n_ok,trivial⟩ Tryz.call156 Tryz.func156 (fun _=>hEnd)
structure z3s_k0 (p2 p3:Addr)(p5 p6:Addr)(K:Pw.Y1)(w:World):Prop where
 out:lB w p5 fun x137=>lB w p6 fun x138=>cnd (!(x137 == x138))
  (lI w p2 fun x139=>lI w p3 fun x140=>z2g_sh x139 x140 (fun r142 w141=>K r142 w141) w)
  (let w143:=w.drew
  ∃ S144:World->Prop,S144 w143/\∃ x145:Int,(∀ w':World,S144 w'->w'.cell? (p5.add 1)=some (vU x145))/\∃ x146:Int,(∀ w':World,S144 w'->w'.cell? (p6.add 2)=some (vU x146))/\∃ x147:Int,(∀ w':World,S144 w'->w'.cell? (p6.add 1)=some (vU x147))/\∃ x148:Int,(∀ w':World,S144 w'->w'.cell? (p5.add 2)=some (vU x148))/\z21_sh x145 x146 (fun r150_0 r150_1 w149=>S144 w149/\z21_sh x147 x148 (fun r152_0 r152_1 w151=>S144 w151/\z20_sh r150_0 r150_1 r152_0 r152_1 (fun r154 w153=>S144 w153/\lB w153 p5 fun x155=>cnd x155
  (inR .i64 (-r154)/\K (-r154) w153)
  (K r154 w153)) w151) w149) w143)
def z3s_sd (p0_0 p0_1:Int)(p1_0 p1_1:Int)(K:Pw.Y1)(w:World):Prop :=
 let w1:=w.alloc (.cells #[(vI p0_0),(vI p0_1)] 35)
 let w2:=w1.alloc (.cells #[(vI p1_0),(vI p1_1)] 35)
 lI w2 (hA w 0) fun x3=>lI w2 (hA w 1) fun x4=>lI w2 (hA w1 0) fun x5=>lI w2 (hA w1 1) fun x6=>z3h_sh x3 x4 x5 x6 (fun r8 w7=>cnd (!r8)
 (K 0 w7)
 (let w9:=w7.drew
 ∃ S10:World->Prop,S10 w9/\mI S10 (hA w 0) fun x11=>mI S10 (hA w 1) fun x12=>mI S10 (hA w1 0) fun x13=>mI S10 (hA w1 1) fun x14=>(z43_sh x11 x12 (fun r16_0 r16_1 r16_2 w15=>S10 w15/\(z43_sh x13 x14 (fun r18_0 r18_1 r18_2 w17=>S10 w17/\(let w19:=w17.alloc (.cells #[(.bool false),(vU 0),(vU 0)] 249)
 S10 w19/\let w20:=w19.alloc (.cells #[(.bool false),(vU 0),(vU 0)] 249)
 S10 w20/\wrOk w20 (hA w17 0)/\
 (let w21:=w20.setCell (hA w17 0) (.bool r16_0)
 wrOk w21 (hA w17 1)/\
 (let w22:=w21.setCell (hA w17 1) (vU r16_1)
 wrOk w22 (hA w17 2)/\
 (let w23:=w22.setCell (hA w17 2) (vU r16_2)
 S10 w23/\wrOk w23 (hA w19 0)/\
 (let w24:=w23.setCell (hA w19 0) (.bool r18_0)
 wrOk w24 (hA w19 1)/\
 (let w25:=w24.setCell (hA w19 1) (vU r18_1)
 wrOk w25 (hA w19 2)/\
 (let w26:=w25.setCell (hA w19 2) (vU r18_2)
 z3s_k0 (hA w 0) (hA w1 0) (hA w17 0) (hA w19 0) K w26)))))))
/\(let w27:=w17.alloc (.cells #[(.bool false),(vU 0),(vU 0)] 249)
 S10 w27/\let w28:=w27.alloc (.cells #[(.bool false),(vU 0),(vU 0)] 249)
 S10 w28/\wrOk w28 (hA w27 0)/\
 (let w29:=w28.setCell (hA w27 0) (.bool r16_0)
 wrOk w29 (hA w27 1)/\
 (let w30:=w29.setCell (hA w27 1) (vU r16_1)
 wrOk w30 (hA w27 2)/\
 (let w31:=w30.setCell (hA w27 2) (vU r16_2)
 S10 w31/\wrOk w31 (hA w17 0)/\
 (let w32:=w31.setCell (hA w17 0) (.bool r18_0)
 wrOk w32 (hA w17 1)/\
 (let w33:=w32.setCell (hA w17 1) (vU r18_1)
 wrOk w33 (hA w17 2)/\
 (let w34:=w33.setCell (hA w17 2) (vU r18_2)
 z3s_k0 (hA w 0) (hA w1 0) (hA w27 0) (hA w17 0) K w34)))))))) w15)
/\(let w35:=w15.alloc (.cells #[(.bool false),(vU 0),(vU 0)] 249)
 S10 w35/\(z43_sh x13 x14 (fun r37_0 r37_1 r37_2 w36=>S10 w36/\let w38:=w36.alloc (.cells #[(.bool false),(vU 0),(vU 0)] 249)
 S10 w38/\wrOk w38 (hA w15 0)/\
 (let w39:=w38.setCell (hA w15 0) (.bool r16_0)
 wrOk w39 (hA w15 1)/\
 (let w40:=w39.setCell (hA w15 1) (vU r16_1)
 wrOk w40 (hA w15 2)/\
 (let w41:=w40.setCell (hA w15 2) (vU r16_2)
 S10 w41/\wrOk w41 (hA w36 0)/\
 (let w42:=w41.setCell (hA w36 0) (.bool r37_0)
 wrOk w42 (hA w36 1)/\
 (let w43:=w42.setCell (hA w36 1) (vU r37_1)
 wrOk w43 (hA w36 2)/\
 (let w44:=w43.setCell (hA w36 2) (vU r37_2)
 z3s_k0 (hA w 0) (hA w1 0) (hA w15 0) (hA w36 0) K w44))))))) w35)
/\(let w45:=w35.alloc (.cells #[(.bool false),(vU 0),(vU 0)] 249)
 S10 w45/\z43_sh x13 x14 (fun r47_0 r47_1 r47_2 w46=>S10 w46/\wrOk w46 (hA w15 0)/\
 (let w48:=w46.setCell (hA w15 0) (.bool r16_0)
 wrOk w48 (hA w15 1)/\
 (let w49:=w48.setCell (hA w15 1) (vU r16_1)
 wrOk w49 (hA w15 2)/\
 (let w50:=w49.setCell (hA w15 2) (vU r16_2)
 S10 w50/\wrOk w50 (hA w35 0)/\
 (let w51:=w50.setCell (hA w35 0) (.bool r47_0)
 wrOk w51 (hA w35 1)/\
 (let w52:=w51.setCell (hA w35 1) (vU r47_1)
 wrOk w52 (hA w35 2)/\
 (let w53:=w52.setCell (hA w35 2) (vU r47_2)
 z3s_k0 (hA w 0) (hA w1 0) (hA w15 0) (hA w35 0) K w53))))))) w45))
/\(let w54:=w15.alloc (.cells #[(.bool false),(vU 0),(vU 0)] 249)
 S10 w54/\(z43_sh x13 x14 (fun r56_0 r56_1 r56_2 w55=>S10 w55/\let w57:=w55.alloc (.cells #[(.bool false),(vU 0),(vU 0)] 249)
 S10 w57/\wrOk w57 (hA w55 0)/\
 (let w58:=w57.setCell (hA w55 0) (.bool r16_0)
 wrOk w58 (hA w55 1)/\
 (let w59:=w58.setCell (hA w55 1) (vU r16_1)
 wrOk w59 (hA w55 2)/\
 (let w60:=w59.setCell (hA w55 2) (vU r16_2)
 S10 w60/\wrOk w60 (hA w15 0)/\
 (let w61:=w60.setCell (hA w15 0) (.bool r56_0)
 wrOk w61 (hA w15 1)/\
 (let w62:=w61.setCell (hA w15 1) (vU r56_1)
 wrOk w62 (hA w15 2)/\
 (let w63:=w62.setCell (hA w15 2) (vU r56_2)
 z3s_k0 (hA w 0) (hA w1 0) (hA w55 0) (hA w15 0) K w63))))))) w54)
/\(let w64:=w54.alloc (.cells #[(.bool false),(vU 0),(vU 0)] 249)
 S10 w64/\z43_sh x13 x14 (fun r66_0 r66_1 r66_2 w65=>S10 w65/\wrOk w65 (hA w54 0)/\
 (let w67:=w65.setCell (hA w54 0) (.bool r16_0)
 wrOk w67 (hA w54 1)/\
 (let w68:=w67.setCell (hA w54 1) (vU r16_1)
 wrOk w68 (hA w54 2)/\
 (let w69:=w68.setCell (hA w54 2) (vU r16_2)
 S10 w69/\wrOk w69 (hA w15 0)/\
 (let w70:=w69.setCell (hA w15 0) (.bool r66_0)
 wrOk w70 (hA w15 1)/\
 (let w71:=w70.setCell (hA w15 1) (vU r66_1)
 wrOk w71 (hA w15 2)/\
 (let w72:=w71.setCell (hA w15 2) (vU r66_2)
 z3s_k0 (hA w 0) (hA w1 0) (hA w54 0) (hA w15 0) K w72))))))) w64))) w9)
/\(let w73:=w9.alloc (.cells #[(.bool false),(vU 0),(vU 0)] 249)
 S10 w73/\(z43_sh x11 x12 (fun r75_0 r75_1 r75_2 w74=>S10 w74/\(z43_sh x13 x14 (fun r77_0 r77_1 r77_2 w76=>S10 w76/\let w78:=w76.alloc (.cells #[(.bool false),(vU 0),(vU 0)] 249)
 S10 w78/\wrOk w78 (hA w9 0)/\
 (let w79:=w78.setCell (hA w9 0) (.bool r75_0)
 wrOk w79 (hA w9 1)/\
 (let w80:=w79.setCell (hA w9 1) (vU r75_1)
 wrOk w80 (hA w9 2)/\
 (let w81:=w80.setCell (hA w9 2) (vU r75_2)
 S10 w81/\wrOk w81 (hA w76 0)/\
 (let w82:=w81.setCell (hA w76 0) (.bool r77_0)
 wrOk w82 (hA w76 1)/\
 (let w83:=w82.setCell (hA w76 1) (vU r77_1)
 wrOk w83 (hA w76 2)/\
 (let w84:=w83.setCell (hA w76 2) (vU r77_2)
 z3s_k0 (hA w 0) (hA w1 0) (hA w9 0) (hA w76 0) K w84))))))) w74)
/\(let w85:=w74.alloc (.cells #[(.bool false),(vU 0),(vU 0)] 249)
 S10 w85/\z43_sh x13 x14 (fun r87_0 r87_1 r87_2 w86=>S10 w86/\wrOk w86 (hA w9 0)/\
 (let w88:=w86.setCell (hA w9 0) (.bool r75_0)
 wrOk w88 (hA w9 1)/\
 (let w89:=w88.setCell (hA w9 1) (vU r75_1)
 wrOk w89 (hA w9 2)/\
 (let w90:=w89.setCell (hA w9 2) (vU r75_2)
 S10 w90/\wrOk w90 (hA w74 0)/\
 (let w91:=w90.setCell (hA w74 0) (.bool r87_0)
 wrOk w91 (hA w74 1)/\
 (let w92:=w91.setCell (hA w74 1) (vU r87_1)
 wrOk w92 (hA w74 2)/\
 (let w93:=w92.setCell (hA w74 2) (vU r87_2)
 z3s_k0 (hA w 0) (hA w1 0) (hA w9 0) (hA w74 0) K w93))))))) w85)) w73)
/\(let w94:=w73.alloc (.cells #[(.bool false),(vU 0),(vU 0)] 249)
 S10 w94/\z43_sh x11 x12 (fun r96_0 r96_1 r96_2 w95=>S10 w95/\z43_sh x13 x14 (fun r98_0 r98_1 r98_2 w97=>S10 w97/\wrOk w97 (hA w9 0)/\
 (let w99:=w97.setCell (hA w9 0) (.bool r96_0)
 wrOk w99 (hA w9 1)/\
 (let w100:=w99.setCell (hA w9 1) (vU r96_1)
 wrOk w100 (hA w9 2)/\
 (let w101:=w100.setCell (hA w9 2) (vU r96_2)
 S10 w101/\wrOk w101 (hA w73 0)/\
 (let w102:=w101.setCell (hA w73 0) (.bool r98_0)
 wrOk w102 (hA w73 1)/\
 (let w103:=w102.setCell (hA w73 1) (vU r98_1)
 wrOk w103 (hA w73 2)/\
 (let w104:=w103.setCell (hA w73 2) (vU r98_2)
 z3s_k0 (hA w 0) (hA w1 0) (hA w9 0) (hA w73 0) K w104))))))) w95) w94))
/\(let w105:=w9.alloc (.cells #[(.bool false),(vU 0),(vU 0)] 249)
 S10 w105/\(z43_sh x11 x12 (fun r107_0 r107_1 r107_2 w106=>S10 w106/\(z43_sh x13 x14 (fun r109_0 r109_1 r109_2 w108=>S10 w108/\let w110:=w108.alloc (.cells #[(.bool false),(vU 0),(vU 0)] 249)
 S10 w110/\wrOk w110 (hA w108 0)/\
 (let w111:=w110.setCell (hA w108 0) (.bool r107_0)
 wrOk w111 (hA w108 1)/\
 (let w112:=w111.setCell (hA w108 1) (vU r107_1)
 wrOk w112 (hA w108 2)/\
 (let w113:=w112.setCell (hA w108 2) (vU r107_2)
 S10 w113/\wrOk w113 (hA w9 0)/\
 (let w114:=w113.setCell (hA w9 0) (.bool r109_0)
 wrOk w114 (hA w9 1)/\
 (let w115:=w114.setCell (hA w9 1) (vU r109_1)
 wrOk w115 (hA w9 2)/\
 (let w116:=w115.setCell (hA w9 2) (vU r109_2)
 z3s_k0 (hA w 0) (hA w1 0) (hA w108 0) (hA w9 0) K w116))))))) w106)
/\(let w117:=w106.alloc (.cells #[(.bool false),(vU 0),(vU 0)] 249)
 S10 w117/\z43_sh x13 x14 (fun r119_0 r119_1 r119_2 w118=>S10 w118/\wrOk w118 (hA w106 0)/\
 (let w120:=w118.setCell (hA w106 0) (.bool r107_0)
 wrOk w120 (hA w106 1)/\
 (let w121:=w120.setCell (hA w106 1) (vU r107_1)
 wrOk w121 (hA w106 2)/\
 (let w122:=w121.setCell (hA w106 2) (vU r107_2)
 S10 w122/\wrOk w122 (hA w9 0)/\
 (let w123:=w122.setCell (hA w9 0) (.bool r119_0)
 wrOk w123 (hA w9 1)/\
 (let w124:=w123.setCell (hA w9 1) (vU r119_1)
 wrOk w124 (hA w9 2)/\
 (let w125:=w124.setCell (hA w9 2) (vU r119_2)
 z3s_k0 (hA w 0) (hA w1 0) (hA w106 0) (hA w9 0) K w125))))))) w117)) w105)
/\(let w126:=w105.alloc (.cells #[(.bool false),(vU 0),(vU 0)] 249)
 S10 w126/\z43_sh x11 x12 (fun r128_0 r128_1 r128_2 w127=>S10 w127/\z43_sh x13 x14 (fun r130_0 r130_1 r130_2 w129=>S10 w129/\wrOk w129 (hA w105 0)/\
 (let w131:=w129.setCell (hA w105 0) (.bool r128_0)
 wrOk w131 (hA w105 1)/\
 (let w132:=w131.setCell (hA w105 1) (vU r128_1)
 wrOk w132 (hA w105 2)/\
 (let w133:=w132.setCell (hA w105 2) (vU r128_2)
 S10 w133/\wrOk w133 (hA w9 0)/\
 (let w134:=w133.setCell (hA w9 0) (.bool r130_0)
 wrOk w134 (hA w9 1)/\
 (let w135:=w134.setCell (hA w9 1) (vU r130_1)
 wrOk w135 (hA w9 2)/\
 (let w136:=w135.setCell (hA w9 2) (vU r130_2)
 z3s_k0 (hA w 0) (hA w1 0) (hA w105 0) (hA w9 0) K w136))))))) w127) w126)))) w2
structure z3s_sh (p0_0 p0_1:Int)(p1_0 p1_1:Int)(K:Pw.Y1)(w:World):Prop where
 out:z3s_sd p0_0 p0_1 p1_0 p1_1 K w
def z3s_L0 (Kv:VW):Cur [tQ,tQ,tQ,tQ] WP:=fun p2 p3 p5 p6=>z3s_k0 p2 p3 p5 p6 (kk [tI] Kv)
def z3s_S:=sp [.g 2,tI,tI,.g 2,tI,tI] [tI] z3s_sh
theorem z3s_ok:q22 Tryz.prog 99 z3s_S:=okS (x:=fun Kv=>qr 3 (qs (qr 4 (qc (qr 1 ql) ql)) (qs (A.drw (dp [0,2] (DA.thr 1 (DA.thr 3 (DA.two 4 (DA.eff 5 (DA.eff 6 (DA.eff 7 DA.done))) 5 (DA.eff 4 (DA.eff 6 (DA.eff 7 DA.done)))) 4 (DA.two 3 (DA.eff 5 (DA.eff 6 (DA.eff 7 DA.done))) 5 (DA.eff 3 (DA.eff 6 (DA.eff 7 DA.done)))) 5 (DA.two 3 (DA.eff 4 (DA.eff 6 (DA.eff 7 DA.done))) 4 (DA.eff 3 (DA.eff 6 (DA.eff 7 DA.done))))) 4 (DA.two 1 (DA.two 3 (DA.eff 5 (DA.eff 6 (DA.eff 7 DA.done))) 5 (DA.eff 3 (DA.eff 6 (DA.eff 7 DA.done)))) 5 (DA.eff 1 (DA.eff 3 (DA.eff 6 (DA.eff 7 DA.done))))) 5 (DA.two 1 (DA.two 3 (DA.eff 4 (DA.eff 6 (DA.eff 7 DA.done))) 4 (DA.eff 3 (DA.eff 6 (DA.eff 7 DA.done)))) 4 (DA.eff 1 (DA.eff 3 (DA.eff 6 (DA.eff 7 DA.done)))))))) (A.cut [2,3,5,6] (uR0 [tQ,tQ,tQ,tQ] (z3s_L0 Kv)) (qs (qr 5 (qc (qr 6 ql) ql)) (qs (A.drw (dp [0,1,2,3,5,6,7,8] (DA.eff 4 (DA.eff 9 (DA.eff 10 (DA.pur 11 DA.done)))))) (qs (qr 2 (qc (qr 3 ql) ql)) (qr 2 ql)))))))) (fun Kv p0_0 p0_1 p1_0 p1_1=>z3s_sd p0_0 p0_1 p1_0 p1_1 (kk [tI] Kv)) progMixed (Γ:=[(153,z3h_S),(154,z43_S),(155,z2g_S),(156,z20_S),(157,z21_S)]) ⟨.inl z3h_ok,.inl z43_ok,.inl z2g_ok,.inl z20_ok,.inl z21_ok,trivial⟩ Tryz.call99 Tryz.func99 (fun Kv=>q08 (hK0 (F:=z3s_L0 Kv)) <| hEnd)
structure z3j_sh (K:Pw.Y3)(w:World):Prop where
 out:let w1:=w.alloc (.cells #[(vI 0),(vI 0)] 35)
  wrOk w1 (hA w 0)/\
  (let w2:=w1.setCell (hA w 0) (vI 0)
  wrOk w2 (hA w 1)/\
  (let w3:=w2.setCell (hA w 1) (vI 1)
  lI w3 (hA w 0) fun x4=>lI w3 (hA w 1) fun x5=>K x4 x5 w3))
def z3j_S:=sp [] [.g 2,tI,tI] z3j_sh
theorem z3j_ok:okP 289 z3j_S:=okR (x:=fun _=>qr 1 (qr 2 ql)) (Γ:=[]) trivial Tryz.call289 Tryz.func289 (fun _=>hEnd)
structure z1z_sh (p0_0 p0_1:Int)(p1_0 p1_1:Int)(p2:Value)(K:Pw.Y2)(w:World):Prop where
 out:let w1:=w.alloc (.cells #[(vI p0_0),(vI p0_1)] 35)
  let w2:=w1.alloc (.cells #[(vI p1_0),(vI p1_1)] 35)
  let w3:=w2.alloc (.cells #[(vI 0),(vI 0)] 35)
  lI w3 (hA w 0) fun x4=>lI w3 (hA w 1) fun x5=>lI w3 (hA w1 0) fun x6=>lI w3 (hA w1 1) fun x7=>z3h_sh x4 x5 x6 x7 (fun r9 w8=>cnd (!r9)
  (z3j_sh (fun r11_0 r11_1 w10=>wrOk w10 (hA w2 0)/\
  (let w12:=w10.setCell (hA w2 0) (vI r11_0)
  wrOk w12 (hA w2 1)/\
  (let w13:=w12.setCell (hA w2 1) (vI r11_1)
  lI w13 (hA w2 0) fun x14=>lI w13 (hA w2 1) fun x15=>K x14 x15 false w13))) w8)
  (let w16:=w8.drew
  ∃ S17:World->Prop,S17 w16/\mI S17 (hA w 0) fun x18=>mI S17 (hA w 1) fun x19=>mI S17 (hA w1 0) fun x20=>mI S17 (hA w1 1) fun x21=>z43_sh x18 x19 (fun r23_0 r23_1 r23_2 w22=>S17 w22/\z43_sh x20 x21 (fun r25_0 r25_1 r25_2 w24=>S17 w24/\q14 Tryz.prog p2 [(Value.agg #[(.bool r23_0),(vU r23_1),(vU r23_2)]),(Value.agg #[(.bool r25_0),(vU r25_1),(vU r25_2)])] w24 fun u26 w27=>∃ x29:Int,∃ x30:Int,∃ x31:Bool,u26=(.tuple #[(Value.agg #[(vI x29),(vI x30)]),(.bool x31)])/\S17 w27/\wrOk w27 (hA w2 0)/\
  (let w32:=w27.setCell (hA w2 0) (vI x29)
  wrOk w32 (hA w2 1)/\
  (let w33:=w32.setCell (hA w2 1) (vI x30)
  lI w33 (hA w2 0) fun x34=>lI w33 (hA w2 1) fun x35=>K x34 x35 x31 w33))) w22) w16)) w3
def z1z_S:=sp [.g 2,tI,tI,.g 2,tI,tI,tV] [.u 2,.g 2,tI,tI,tB] z1z_sh
theorem z1z_ok:okP 284 z1z_S:=okR (x:=fun _=>qr 4 (qs (qr 4 (qc (qr 3 ql) ql)) (qs (A.drw (dp [0,1,3] (DA.eff 2 (DA.eff 4 (DA.dyn 5 (Value.tuple #[(Value.agg #[(Value.int .i64 0),(Value.int .i64 0)]),(Value.bool false)]) (dp [6,7] (DA.eff 8 (DA.pur 9 DA.done)))))))) ql))) (Γ:=[(153,z3h_S),(154,z43_S),(289,z3j_S)]) ⟨.inl z3h_ok,.inl z43_ok,.inl z3j_ok,trivial⟩ Tryz.call284 Tryz.func284 (fun _=>hEnd)
structure bits_Add64_sh (a b c:Int)(K:Pw.Y3)(w:World):Prop where
 out:(0<=a/\a<18446744073709551616/\0<=b/\b<18446744073709551616/\0<=c/\c<=1)/\K ((a+b+c) % 18446744073709551616) ((a+b+c) / 18446744073709551616) w
noncomputable def bits_Add64_S:Pw.Spec:=fun vs w Kv =>
 match vs with
 | [.int .u64 a,.int .u64 b,.int .u64 c]=>bits_Add64_sh a b c (fun (r s:Int) (w':World)=>Kv (.tuple #[Value.int .u64 r,Value.int .u64 s]) w') w
 | _=>False
theorem bits_Add64_ok:q7l Tryz.prog 338 bits_Add64_S:=fun vs w Kv h=>by
  unfold bits_Add64_S at h
  split at h
  · rename_i a b c
    obtain⟨⟨ha,ha',hb,hb',hc,hc'⟩,hk⟩:=h.out
    exact q8v Tryz.func338 (by kernel_rfl) (by kernel_rfl) (by kernel_rfl) (by kernel_rfl) ha ha' hb hb' hc hc' hk
  · exact h.elim
structure z1v_sh (p0_0 p0_1:Int)(p1_0 p1_1:Int)(K:Pw.Y3)(w:World):Prop where
 out:let w1:=w.alloc (.cells #[(vU p0_0),(vU p0_1)] 253)
  let w2:=w1.alloc (.cells #[(vU p1_0),(vU p1_1)] 253)
  let w3:=w2.alloc (.cells #[(vU 0),(vU 0)] 253)
  ∃ x4:Int,w3.cell? (hA w 1)=some (vU x4)/\∃ x5:Int,w3.cell? (hA w1 1)=some (vU x5)/\bits_Add64_sh x4 x5 0 (fun r7 r8 w6=>∃ x9:Int,w6.cell? (hA w 0)=some (vU x9)/\∃ x10:Int,w6.cell? (hA w1 0)=some (vU x10)/\bits_Add64_sh x9 x10 r8 (fun r12 r13 w11=>wrOk w11 (hA w2 0)/\
  (let w14:=w11.setCell (hA w2 0) (vU r12)
  wrOk w14 (hA w2 1)/\
  (let w15:=w14.setCell (hA w2 1) (vU r7)
  ∃ x16:Int,w15.cell? (hA w2 0)=some (vU x16)/\∃ x17:Int,w15.cell? (hA w2 1)=some (vU x17)/\K x16 x17 w15))) w6) w3
def z1v_S:=sp [.g 2,tU,tU,.g 2,tU,tU] [.g 2,tU,tU] z1v_sh
theorem z1v_ok:okP 319 z1v_S:=okR (x:=fun _=>qr 3 (qr 10 (qr 11 (qr 4 ql)))) (Γ:=[(338,bits_Add64_S)]) ⟨.inr bits_Add64_ok,trivial⟩ Tryz.call319 Tryz.func319 (fun _=>hEnd)
structure bits_Sub64_sh (a b c:Int)(K:Pw.Y3)(w:World):Prop where
 out:(0<=a/\a<18446744073709551616/\0<=b/\b<18446744073709551616/\0<=c/\c<=1)/\K ((a-b-c) % 18446744073709551616) (if a<b+c then 1 else 0) w
noncomputable def bits_Sub64_S:Pw.Spec:=fun vs w Kv =>
 match vs with
 | [.int .u64 a,.int .u64 b,.int .u64 c]=>bits_Sub64_sh a b c (fun (r s:Int) (w':World)=>Kv (.tuple #[Value.int .u64 r,Value.int .u64 s]) w') w
 | _=>False
theorem bits_Sub64_ok:q7l Tryz.prog 339 bits_Sub64_S:=fun vs w Kv h=>by
  unfold bits_Sub64_S at h
  split at h
  · rename_i a b c
    obtain⟨⟨ha,ha',hb,hb',hc,hc'⟩,hk⟩:=h.out
    exact q8w Tryz.func339 (by kernel_rfl) (by kernel_rfl) (by kernel_rfl) (by kernel_rfl) ha ha' hb hb' hc hc' hk
  · exact h.elim
structure z1w_sh (p0_0 p0_1:Int)(p1_0 p1_1:Int)(K:Pw.Y3)(w:World):Prop where
 out:let w1:=w.alloc (.cells #[(vU p0_0),(vU p0_1)] 253)
  let w2:=w1.alloc (.cells #[(vU p1_0),(vU p1_1)] 253)
  let w3:=w2.alloc (.cells #[(vU 0),(vU 0)] 253)
  ∃ x4:Int,w3.cell? (hA w 1)=some (vU x4)/\∃ x5:Int,w3.cell? (hA w1 1)=some (vU x5)/\bits_Sub64_sh x4 x5 0 (fun r7 r8 w6=>∃ x9:Int,w6.cell? (hA w 0)=some (vU x9)/\∃ x10:Int,w6.cell? (hA w1 0)=some (vU x10)/\bits_Sub64_sh x9 x10 r8 (fun r12 r13 w11=>wrOk w11 (hA w2 0)/\
  (let w14:=w11.setCell (hA w2 0) (vU r12)
  wrOk w14 (hA w2 1)/\
  (let w15:=w14.setCell (hA w2 1) (vU r7)
  ∃ x16:Int,w15.cell? (hA w2 0)=some (vU x16)/\∃ x17:Int,w15.cell? (hA w2 1)=some (vU x17)/\K x16 x17 w15))) w6) w3
def z1w_S:=sp [.g 2,tU,tU,.g 2,tU,tU] [.g 2,tU,tU] z1w_sh
theorem z1w_ok:okP 320 z1w_S:=okR (x:=fun _=>qr 3 (qr 10 (qr 11 (qr 4 ql)))) (Γ:=[(339,bits_Sub64_S)]) ⟨.inr bits_Sub64_ok,trivial⟩ Tryz.call320 Tryz.func320 (fun _=>hEnd)
structure z0l_sh (p0:Int)(K:Pw.Y1)(w:World):Prop where
 out:z39_sh p0 (fun r2 w1=>inR .i64 ((64:Int)-r2)/\K ((64:Int)-r2) w1) w
def z0l_S:=sp [tU] [tI] z0l_sh
theorem z0l_ok:okP 355 z0l_S:=okR (x:=fun _=>qr 1 (qr 4 ql)) (Γ:=[(98,z39_S)]) ⟨.inl z39_ok,trivial⟩ Tryz.call355 Tryz.func355 (fun _=>hEnd)
structure z37_k5 (p2 p8:Int)(un0_14 q1_15:Int)(un21_17 q0_18:Int)(K:Pw.Y3)(w:World):Prop where
 out:0<=p8/\K (IntKind.wrap .u64 ((IntKind.wrap .u64 (q1_15*4294967296))+q0_18)) (Int.fdiv (IntKind.wrap .u64 ((IntKind.wrap .u64 ((IntKind.wrap .u64 (un21_17*4294967296))+un0_14))-(IntKind.wrap .u64 (q0_18*p2)))) (2^(min p8.toNat (IntKind.bits .u64)))) w
structure z37_k4 (p2 p8:Int)(yn1_9 yn0_10:Int)(un0_14 q1_15:Int)(p16 un21_17 q0_18:Int)(N3:Pw.Y9)(K:Pw.Y3)(w:World):Prop where
 out:cnd (decide ((IntKind.wrap .u64 (p16+yn1_9))>=4294967296))
  (z37_k5 p2 p8 un0_14 q1_15 un21_17 (IntKind.wrap .u64 (q0_18-1)) K w)
  (N3 p2 p8 yn1_9 yn0_10 un0_14 q1_15 (IntKind.wrap .u64 (p16+yn1_9)) un21_17 (IntKind.wrap .u64 (q0_18-1)) w)
def z37_b3 (p2 p8:Int)(yn1_9 yn0_10:Int)(un0_14 q1_15:Int)(p16 un21_17 q0_18:Int)(N3:Pw.Y9)(K:Pw.Y3)(w:World):Prop :=
 cnd (decide (q0_18>=4294967296))
 (z37_k4 p2 p8 yn1_9 yn0_10 un0_14 q1_15 p16 un21_17 q0_18 N3 K w)
 (cnd (decide ((IntKind.wrap .u64 (q0_18*yn0_10))>(IntKind.wrap .u64 ((IntKind.wrap .u64 ((4294967296:Int)*p16))+un0_14))))
 (z37_k4 p2 p8 yn1_9 yn0_10 un0_14 q1_15 p16 un21_17 q0_18 N3 K w)
 (z37_k5 p2 p8 un0_14 q1_15 un21_17 q0_18 K w))
structure z37_l3 (p2 p8:Int)(yn1_9 yn0_10:Int)(un0_14 q1_15:Int)(p16 un21_17 q0_18:Int)(K:Pw.Y3)(w:World):Prop where
 out:∃ (I:Int->Int->World->Prop) (μ:Int->Int->World->Nat),I p16 q0_18 w/\∀ (p161 q0_181:Int) (w1:World),I p161 q0_181 w1 ->
  z37_b3 p2 p8 yn1_9 yn0_10 un0_14 q1_15 p161 un21_17 q0_181 (fun p2' p8' yn1_9' yn0_10' un0_14' q1_15' p16' un21_17' q0_18' w'=>((p2'=p2/\p8'=p8/\yn1_9'=yn1_9/\yn0_10'=yn0_10/\un0_14'=un0_14/\q1_15'=q1_15/\un21_17'=un21_17/\True)/\I p16' q0_18' w')/\μ p16' q0_18' w'<μ p161 q0_181 w1) K w1
structure z37_k2 (p2 p8:Int)(yn1_9 yn0_10:Int)(un32_11 un1_13:Int)(un0_14 q1_15:Int)(K:Pw.Y3)(w:World):Prop where
 out:yn1_9≠0/\inR .u64 (Int.tdiv (IntKind.wrap .u64 ((IntKind.wrap .u64 ((IntKind.wrap .u64 (un32_11*4294967296))+un1_13))-(IntKind.wrap .u64 (q1_15*p2)))) yn1_9)/\z37_l3 p2 p8 yn1_9 yn0_10 un0_14 q1_15 (IntKind.wrap .u64 ((IntKind.wrap .u64 ((IntKind.wrap .u64 ((IntKind.wrap .u64 (un32_11*4294967296))+un1_13))-(IntKind.wrap .u64 (q1_15*p2))))-(IntKind.wrap .u64 ((Int.tdiv (IntKind.wrap .u64 ((IntKind.wrap .u64 ((IntKind.wrap .u64 (un32_11*4294967296))+un1_13))-(IntKind.wrap .u64 (q1_15*p2)))) yn1_9)*yn1_9)))) (IntKind.wrap .u64 ((IntKind.wrap .u64 ((IntKind.wrap .u64 (un32_11*4294967296))+un1_13))-(IntKind.wrap .u64 (q1_15*p2)))) (Int.tdiv (IntKind.wrap .u64 ((IntKind.wrap .u64 ((IntKind.wrap .u64 (un32_11*4294967296))+un1_13))-(IntKind.wrap .u64 (q1_15*p2)))) yn1_9) K w
structure z37_k1 (p2 p8:Int)(yn1_9 yn0_10:Int)(un32_11 un1_13:Int)(un0_14 q1_15 p16:Int)(N0:Pw.Y9)(K:Pw.Y3)(w:World):Prop where
 out:cnd (decide ((IntKind.wrap .u64 (p16+yn1_9))>=4294967296))
  (z37_k2 p2 p8 yn1_9 yn0_10 un32_11 un1_13 un0_14 (IntKind.wrap .u64 (q1_15-1)) K w)
  (N0 p2 p8 yn1_9 yn0_10 un32_11 un1_13 un0_14 (IntKind.wrap .u64 (q1_15-1)) (IntKind.wrap .u64 (p16+yn1_9)) w)
def z37_b0 (p2 p8:Int)(yn1_9 yn0_10:Int)(un32_11 un1_13:Int)(un0_14 q1_15 p16:Int)(N0:Pw.Y9)(K:Pw.Y3)(w:World):Prop :=
 cnd (decide (q1_15>=4294967296))
 (z37_k1 p2 p8 yn1_9 yn0_10 un32_11 un1_13 un0_14 q1_15 p16 N0 K w)
 (cnd (decide ((IntKind.wrap .u64 (q1_15*yn0_10))>(IntKind.wrap .u64 ((IntKind.wrap .u64 ((4294967296:Int)*p16))+un1_13))))
 (z37_k1 p2 p8 yn1_9 yn0_10 un32_11 un1_13 un0_14 q1_15 p16 N0 K w)
 (z37_k2 p2 p8 yn1_9 yn0_10 un32_11 un1_13 un0_14 q1_15 K w))
structure z37_l0 (p2 p8:Int)(yn1_9 yn0_10:Int)(un32_11 un1_13:Int)(un0_14 q1_15 p16:Int)(K:Pw.Y3)(w:World):Prop where
 out:∃ (I:Int->Int->World->Prop) (μ:Int->Int->World->Nat),I q1_15 p16 w/\∀ (q1_151 p161:Int) (w1:World),I q1_151 p161 w1 ->
  z37_b0 p2 p8 yn1_9 yn0_10 un32_11 un1_13 un0_14 q1_151 p161 (fun p2' p8' yn1_9' yn0_10' un32_11' un1_13' un0_14' q1_15' p16' w'=>((p2'=p2/\p8'=p8/\yn1_9'=yn1_9/\yn0_10'=yn0_10/\un32_11'=un32_11/\un1_13'=un1_13/\un0_14'=un0_14/\True)/\I q1_15' p16' w')/\μ q1_15' p16' w'<μ q1_151 p161 w1) K w1
structure z37_sh (p0 p1 p2:Int)(K:Pw.Y3)(w:World):Prop where
 out:cnd (p2 == 0)
  (∃ x1:Value,w.cell? (Addr.mk 8 0 none)=some x1/\False)
  (cnd (decide (p2<=p0))
  (∃ x2:Value,w.cell? (Addr.mk 9 0 none)=some x2/\False)
  (cnd (p0 == 0)
  (let w3:=w.drew
  p2≠0/\inR .u64 (Int.tdiv p1 p2)/\p2≠0/\K (Int.tdiv p1 p2) (Int.tmod p1 p2) w3)
  (z0l_sh p2 (fun r5 w4=>0<=(IntKind.wrap .u64 r5)/\0<=(32:Int)/\0<=(IntKind.wrap .u64 r5)/\0<=(IntKind.wrap .u64 ((64:Int)-(IntKind.wrap .u64 r5)))/\0<=(IntKind.wrap .u64 r5)/\0<=(32:Int)/\(Int.fdiv (IntKind.wrap .u64 (p2*2^(min (IntKind.wrap .u64 r5).toNat (IntKind.bits .u64)))) (2^(min 32 (IntKind.bits .u64))))≠0/\inR .u64 (Int.tdiv (IntKind.wrap .u64 (((BitVec.ofInt (IntKind.bits .u64) (IntKind.wrap .u64 (p0*2^(min (IntKind.wrap .u64 r5).toNat (IntKind.bits .u64)))) ||| BitVec.ofInt (IntKind.bits .u64) (Int.fdiv p1 (2^(min (IntKind.wrap .u64 ((64:Int)-(IntKind.wrap .u64 r5))).toNat (IntKind.bits .u64)))))).toNat:Int)) (Int.fdiv (IntKind.wrap .u64 (p2*2^(min (IntKind.wrap .u64 r5).toNat (IntKind.bits .u64)))) (2^(min 32 (IntKind.bits .u64)))))/\z37_l0 (IntKind.wrap .u64 (p2*2^(min (IntKind.wrap .u64 r5).toNat (IntKind.bits .u64)))) (IntKind.wrap .u64 r5) (Int.fdiv (IntKind.wrap .u64 (p2*2^(min (IntKind.wrap .u64 r5).toNat (IntKind.bits .u64)))) (2^(min 32 (IntKind.bits .u64)))) (IntKind.wrap .u64 (((BitVec.ofInt (IntKind.bits .u64) (IntKind.wrap .u64 (p2*2^(min (IntKind.wrap .u64 r5).toNat (IntKind.bits .u64)))) &&& BitVec.ofInt (IntKind.bits .u64) 4294967295)).toNat:Int)) (IntKind.wrap .u64 (((BitVec.ofInt (IntKind.bits .u64) (IntKind.wrap .u64 (p0*2^(min (IntKind.wrap .u64 r5).toNat (IntKind.bits .u64)))) ||| BitVec.ofInt (IntKind.bits .u64) (Int.fdiv p1 (2^(min (IntKind.wrap .u64 ((64:Int)-(IntKind.wrap .u64 r5))).toNat (IntKind.bits .u64)))))).toNat:Int)) (Int.fdiv (IntKind.wrap .u64 (p1*2^(min (IntKind.wrap .u64 r5).toNat (IntKind.bits .u64)))) (2^(min 32 (IntKind.bits .u64)))) (IntKind.wrap .u64 (((BitVec.ofInt (IntKind.bits .u64) (IntKind.wrap .u64 (p1*2^(min (IntKind.wrap .u64 r5).toNat (IntKind.bits .u64)))) &&& BitVec.ofInt (IntKind.bits .u64) 4294967295)).toNat:Int)) (Int.tdiv (IntKind.wrap .u64 (((BitVec.ofInt (IntKind.bits .u64) (IntKind.wrap .u64 (p0*2^(min (IntKind.wrap .u64 r5).toNat (IntKind.bits .u64)))) ||| BitVec.ofInt (IntKind.bits .u64) (Int.fdiv p1 (2^(min (IntKind.wrap .u64 ((64:Int)-(IntKind.wrap .u64 r5))).toNat (IntKind.bits .u64)))))).toNat:Int)) (Int.fdiv (IntKind.wrap .u64 (p2*2^(min (IntKind.wrap .u64 r5).toNat (IntKind.bits .u64)))) (2^(min 32 (IntKind.bits .u64))))) (IntKind.wrap .u64 ((IntKind.wrap .u64 (((BitVec.ofInt (IntKind.bits .u64) (IntKind.wrap .u64 (p0*2^(min (IntKind.wrap .u64 r5).toNat (IntKind.bits .u64)))) ||| BitVec.ofInt (IntKind.bits .u64) (Int.fdiv p1 (2^(min (IntKind.wrap .u64 ((64:Int)-(IntKind.wrap .u64 r5))).toNat (IntKind.bits .u64)))))).toNat:Int))-(IntKind.wrap .u64 ((Int.tdiv (IntKind.wrap .u64 (((BitVec.ofInt (IntKind.bits .u64) (IntKind.wrap .u64 (p0*2^(min (IntKind.wrap .u64 r5).toNat (IntKind.bits .u64)))) ||| BitVec.ofInt (IntKind.bits .u64) (Int.fdiv p1 (2^(min (IntKind.wrap .u64 ((64:Int)-(IntKind.wrap .u64 r5))).toNat (IntKind.bits .u64)))))).toNat:Int)) (Int.fdiv (IntKind.wrap .u64 (p2*2^(min (IntKind.wrap .u64 r5).toNat (IntKind.bits .u64)))) (2^(min 32 (IntKind.bits .u64)))))*(Int.fdiv (IntKind.wrap .u64 (p2*2^(min (IntKind.wrap .u64 r5).toNat (IntKind.bits .u64)))) (2^(min 32 (IntKind.bits .u64)))))))) K w4) w)))
def z37_L0 (Kv:VW):Cur [tU,tU,tU,tU,tU,tU,tU,tU,tU] WP:=fun p2 p8 yn1_9 yn0_10 un32_11 un1_13 un0_14 q1_15 p16=>z37_l0 p2 p8 yn1_9 yn0_10 un32_11 un1_13 un0_14 q1_15 p16 (kk [.u 2,tU,tU] Kv)
def z37_L1 (Kv:VW):Cur [tU,tU,tU,tU,tU,tU,tU,tU,tU] WP->Cur [tU,tU,tU,tU,tU,tU,tU,tU,tU] WP:=fun N0 p2 p8 yn1_9 yn0_10 un32_11 un1_13 un0_14 q1_15 p16=>z37_k1 p2 p8 yn1_9 yn0_10 un32_11 un1_13 un0_14 q1_15 p16 N0 (kk [.u 2,tU,tU] Kv)
def z37_L2 (Kv:VW):Cur [tU,tU,tU,tU,tU,tU,tU,tU] WP:=fun p2 p8 yn1_9 yn0_10 un32_11 un1_13 un0_14 q1_15=>z37_k2 p2 p8 yn1_9 yn0_10 un32_11 un1_13 un0_14 q1_15 (kk [.u 2,tU,tU] Kv)
def z37_L3 (Kv:VW):Cur [tU,tU,tU,tU,tU,tU,tU,tU,tU] WP:=fun p2 p8 yn1_9 yn0_10 un0_14 q1_15 p16 un21_17 q0_18=>z37_l3 p2 p8 yn1_9 yn0_10 un0_14 q1_15 p16 un21_17 q0_18 (kk [.u 2,tU,tU] Kv)
def z37_L4 (Kv:VW):Cur [tU,tU,tU,tU,tU,tU,tU,tU,tU] WP->Cur [tU,tU,tU,tU,tU,tU,tU,tU,tU] WP:=fun N3 p2 p8 yn1_9 yn0_10 un0_14 q1_15 p16 un21_17 q0_18=>z37_k4 p2 p8 yn1_9 yn0_10 un0_14 q1_15 p16 un21_17 q0_18 N3 (kk [.u 2,tU,tU] Kv)
def z37_L5 (Kv:VW):Cur [tU,tU,tU,tU,tU,tU] WP:=fun p2 p8 un0_14 q1_15 un21_17 q0_18=>z37_k5 p2 p8 un0_14 q1_15 un21_17 q0_18 (kk [.u 2,tU,tU] Kv)
def z37_S:=sp [tU,tU,tU] [.u 2,tU,tU] z37_sh
theorem z37_ok:okP 340 z37_S:=okR (x:=fun Kv=>qr 2 (qs (qr 2 (qc (qe 2) ql)) (qs (qr 3 (qc (qe 2) ql)) (qs (qr 2 (qc (qs (A.drp (dp [0,1,2,3,4,5,6,7] DA.done)) ql) ql)) (qs (A.reg (qn 2 (RA.raw (qn 1 RA.done)))) (qr 4 (qr 3 (qr 3 (qs (A.reg (qn 5 (RA.raw (qn 3 RA.done)))) (qr 4 (qr 3 (qr 3 (qr 4 (qs (A.reg (qn 3 (RA.raw (RA.raw (qn 1 RA.done))))) (qs (qb (A.loop [2,8,9,10,11,13,14,15,16] (uR0 [tU,tU,tU,tU,tU,tU,tU,tU,tU] (z37_L0 Kv)) (qs (qs (A.reg (qn 3 (RA.spl 69 (qk 8 (qn 1 RA.done)) (qn 2 (RA.raw (qn 1 (RA.raw (qn 1 (RA.raw (qn 2 RA.done)))))))))) (qc ql ql)) (A.cut [2,8,9,10,11,13,14,15,16] (uR1 [tU,tU,tU,tU,tU,tU,tU,tU,tU] [tU,tU,tU,tU,tU,tU,tU,tU,tU] (z37_L1 Kv)) (qb (qs (A.reg (qn 1 (RA.raw (qn 1 RA.done)))) (qs (A.reg (qn 2 (RA.raw (qn 1 RA.done)))) (qr 2 (qc ql ql))))))))) (A.cut [2,8,9,10,11,13,14,15] (uR0 [tU,tU,tU,tU,tU,tU,tU,tU] (z37_L2 Kv)) (qs (A.reg (qn 1 (RA.raw (qn 1 (RA.raw (qn 2 (RA.raw (RA.raw (qn 1 RA.done))))))))) (qr 4 (qs (A.reg (qn 3 (RA.raw (RA.raw (qn 1 RA.done))))) (qs (qb (A.loop [2,8,9,10,14,15,16,17,18] (uR0 [tU,tU,tU,tU,tU,tU,tU,tU,tU] (z37_L3 Kv)) (qs (qs (A.reg (qn 3 (RA.spl 104 (qk 8 (qn 1 RA.done)) (qn 2 (RA.raw (qn 1 (RA.raw (qn 1 (RA.raw (qn 2 RA.done)))))))))) (qc ql ql)) (A.cut [2,8,9,10,14,15,16,17,18] (uR1 [tU,tU,tU,tU,tU,tU,tU,tU,tU] [tU,tU,tU,tU,tU,tU,tU,tU,tU] (z37_L4 Kv)) (qb (qs (A.reg (qn 1 (RA.raw (qn 1 RA.done)))) (qs (A.reg (qn 2 (RA.raw (qn 1 RA.done)))) (qr 2 (qc ql ql))))))))) (A.cut [2,8,14,15,17,18] (uR0 [tU,tU,tU,tU,tU,tU] (z37_L5 Kv)) (qs (A.reg (qn 1 (RA.raw (qn 1 (RA.raw (qn 1 (RA.raw (qn 1 (RA.raw (qn 2 (RA.raw (RA.raw (qn 4 RA.done))))))))))))) ql)))))))))))))))))))))) (Γ:=[(355,z0l_S)]) ⟨.inl z0l_ok,trivial⟩ Tryz.call340 Tryz.func340 (fun Kv=>q08 (q0c (L:=z37_L0 Kv) (fun N0 p2 p8 yn1_9 yn0_10 un32_11 un1_13 un0_14 q1_15 p16=>z37_b0 p2 p8 yn1_9 yn0_10 un32_11 un1_13 un0_14 q1_15 p16 N0 (kk [.u 2,tU,tU] Kv)) (fun⟨a0,a1,a2,a3,a4,a5,a6,_,_,_⟩ _ h=>let ⟨I,μ,h0,hr⟩:=h.out; ⟨fun b0 b1 b2 b3 b4 b5 b6 b7 b8 w=>(b0=a0/\b1=a1/\b2=a2/\b3=a3/\b4=a4/\b5=a5/\b6=a6/\True)/\I b7 b8 w,fun _ _ _ _ _ _ _ b7 b8 w=>μ b7 b8 w,⟨⟨rfl,rfl,rfl,rfl,rfl,rfl,rfl,trivial⟩,h0⟩,fun⟨_,_,_,_,_,_,_,_,_,_⟩ _ ⟨⟨e0,e1,e2,e3,e4,e5,e6,_⟩,hI⟩=>by cases e0; cases e1; cases e2; cases e3; cases e4; cases e5; cases e6; exact hr _ _ _ hI⟩)) <| q08 (hK1 (F:=z37_L1 Kv)) <| q08 (hK0 (F:=z37_L2 Kv)) <| q08 (q0c (L:=z37_L3 Kv) (fun N3 p2 p8 yn1_9 yn0_10 un0_14 q1_15 p16 un21_17 q0_18=>z37_b3 p2 p8 yn1_9 yn0_10 un0_14 q1_15 p16 un21_17 q0_18 N3 (kk [.u 2,tU,tU] Kv)) (fun⟨a0,a1,a2,a3,a4,a5,_,a7,_,_⟩ _ h=>let ⟨I,μ,h0,hr⟩:=h.out; ⟨fun b0 b1 b2 b3 b4 b5 b6 b7 b8 w=>(b0=a0/\b1=a1/\b2=a2/\b3=a3/\b4=a4/\b5=a5/\b7=a7/\True)/\I b6 b8 w,fun _ _ _ _ _ _ b6 _ b8 w=>μ b6 b8 w,⟨⟨rfl,rfl,rfl,rfl,rfl,rfl,rfl,trivial⟩,h0⟩,fun⟨_,_,_,_,_,_,_,_,_,_⟩ _ ⟨⟨e0,e1,e2,e3,e4,e5,e7,_⟩,hI⟩=>by cases e0; cases e1; cases e2; cases e3; cases e4; cases e5; cases e7; exact hr _ _ _ hI⟩)) <| q08 (hK1 (F:=z37_L4 Kv)) <| q08 (hK0 (F:=z37_L5 Kv)) <| hEnd)
structure z1j_sh (p0_0 p0_1 p1:Int)(K:Pw.Y13)(w:World):Prop where
 out:let w1:=w.alloc (.cells #[(vU p0_0),(vU p0_1)] 253)
  let w2:=w1.alloc (.cells #[(vU 0),(vU 0)] 253)
  let w3:=w2.drew
  ∃ x4:Int,w3.cell? (hA w 0)=some (vU x4)/\p1≠0/\inR .u64 (Int.tdiv x4 p1)/\∃ x5:Int,w3.cell? (hA w 0)=some (vU x5)/\p1≠0/\∃ x6:Int,w3.cell? (hA w 1)=some (vU x6)/\z37_sh (Int.tmod x5 p1) x6 p1 (fun r8 r9 w7=>wrOk w7 (hA w1 0)/\
  (let w10:=w7.setCell (hA w1 0) (vU (Int.tdiv x4 p1))
  wrOk w10 (hA w1 1)/\
  (let w11:=w10.setCell (hA w1 1) (vU r8)
  ∃ x12:Int,w11.cell? (hA w1 0)=some (vU x12)/\∃ x13:Int,w11.cell? (hA w1 1)=some (vU x13)/\K x12 x13 r9 w11))) w3
def z1j_S:=sp [.g 2,tU,tU,tU] [.u 2,.g 2,tU,tU,tU] z1j_sh
theorem z1j_ok:okP 321 z1j_S:=okR (x:=fun _=>qr 3 (qs (A.drp (dp [0,1,2,3,4,5,6,7,8,9] DA.done)) (qr 10 (qr 6 ql)))) (Γ:=[(340,z37_S)]) ⟨.inl z37_ok,trivial⟩ Tryz.call321 Tryz.func321 (fun _=>hEnd)
structure z3x_k0 (p6:Addr)(K:Pw.Y2)(w:World):Prop where
 out:z3j_sh (fun r10_0 r10_1 w9=>wrOk w9 p6/\
  (let w11:=w9.setCell p6 (vI r10_0)
  wrOk w11 (p6.add 1)/\
  (let w12:=w11.setCell (p6.add 1) (vI r10_1)
  lI w12 p6 fun x13=>lI w12 (p6.add 1) fun x14=>K x13 x14 false w12))) w
structure z3x_k2 (p5 p6:Addr)(p8:Int)(K:Pw.Y2)(w:World):Prop where
 out:∃ x16:Int,w.cell? (p5.add 1)=some (vU x16)/\wrOk w p6/\
  (let w17:=w.setCell p6 (vI p8)
  wrOk w17 (p6.add 1)/\
  (let w18:=w17.setCell (p6.add 1) (vI (IntKind.wrap .i64 x16))
  lI w18 p6 fun x19=>lI w18 (p6.add 1) fun x20=>K x19 x20 true w18))
structure z3x_k1 (p0:Bool)(p4 p5 p6:Addr)(K:Pw.Y2)(w:World):Prop where
 out:∃ x15:Int,w.cell? (p4.add 1)=some (vU x15)/\cnd p0
  (z3x_k2 p5 p6 (IntKind.wrap .i64 ((0:Int)-(IntKind.wrap .i64 x15))) K w)
  (z3x_k2 p5 p6 (IntKind.wrap .i64 x15) K w)
structure z3x_sh (p0:Bool)(p1_0 p1_1:Int)(p2_0 p2_1:Int)(K:Pw.Y2)(w:World):Prop where
 out:let w1:=w.alloc (.cells #[(vU p1_0),(vU p1_1)] 253)
  let w2:=w1.alloc (.cells #[(vU p2_0),(vU p2_1)] 253)
  let w3:=w2.alloc (.cells #[(vI 0),(vI 0)] 35)
  ∃ x4:Int,w3.cell? (hA w 0)=some (vU x4)/\cnd (decide (x4>0))
  (z3x_k0 (hA w2 0) K w3)
  (∃ x5:Int,w3.cell? (hA w1 0)=some (vU x5)/\cnd (decide (x5>0))
  (z3x_k0 (hA w2 0) K w3)
  (∃ x6:Int,w3.cell? (hA w1 1)=some (vU x6)/\cnd (decide (x6>9223372036854775807))
  (z3x_k0 (hA w2 0) K w3)
  (∃ x7:Int,w3.cell? (hA w 1)=some (vU x7)/\cnd (decide (x7>9223372036854775808))
  (z3x_k0 (hA w2 0) K w3)
  (∃ x8:Int,w3.cell? (hA w 1)=some (vU x8)/\cnd (x8 == 9223372036854775808)
  (cnd (!p0)
  (z3x_k0 (hA w2 0) K w3)
  (z3x_k1 p0 (hA w 0) (hA w1 0) (hA w2 0) K w3))
  (z3x_k1 p0 (hA w 0) (hA w1 0) (hA w2 0) K w3)))))
def z3x_L0 (Kv:VW):Cur [tQ] WP:=fun p6=>z3x_k0 p6 (kk [.u 2,.g 2,tI,tI,tB] Kv)
def z3x_L1 (Kv:VW):Cur [tB,tQ,tQ,tQ] WP:=fun p0 p4 p5 p6=>z3x_k1 p0 p4 p5 p6 (kk [.u 2,.g 2,tI,tI,tB] Kv)
def z3x_L2 (Kv:VW):Cur [tQ,tQ,tI] WP:=fun p5 p6 p8=>z3x_k2 p5 p6 p8 (kk [.u 2,.g 2,tI,tI,tB] Kv)
def z3x_S:=sp [tB,.g 2,tU,tU,.g 2,tU,tU] [.u 2,.g 2,tI,tI,tB] z3x_sh
theorem z3x_ok:okP 322 z3x_S:=okR (x:=fun Kv=>qr 4 (qs (qs (A.reg (qn 4 (RA.spl 12 (qk 3 (qn 2 (qk 3 (qn 2 (qk 3 (qn 2 (qk 7 (qn 1 RA.done)))))))) (qn 5 (RA.spl 17 (qk 3 (qn 2 (qk 3 (qn 2 (qk 7 (qn 1 RA.done)))))) (qn 5 (RA.spl 22 (qk 3 (qn 2 (qk 7 (qn 1 RA.done)))) (qn 5 (RA.spl 27 (qk 7 (qn 1 RA.done)) (qn 4 (RA.spl 31 (qn 4 RA.done) (qk 2 (qn 2 RA.done))))))))))))) (qc (A.cut [6] (uR0 [tQ] (z3x_L0 Kv)) (qr 3 ql)) ql)) (A.cut [0,4,5,6] (uR0 [tB,tQ,tQ,tQ] (z3x_L1 Kv)) (qs (A.reg (qn 2 (RA.raw (qn 1 RA.done)))) (qs (qr 1 (qc (A.reg (qn 1 (RA.raw (qn 1 RA.done)))) ql)) (A.cut [5,6,8] (uR0 [tQ,tQ,tI] (z3x_L2 Kv)) (qs (A.reg (qn 3 (RA.raw (qn 3 RA.done)))) ql))))))) (Γ:=[(289,z3j_S)]) ⟨.inl z3j_ok,trivial⟩ Tryz.call322 Tryz.func322 (fun Kv=>q08 (hK0 (F:=z3x_L0 Kv)) <| q08 (hK0 (F:=z3x_L1 Kv)) <| q08 (hK0 (F:=z3x_L2 Kv)) <| hEnd)
structure z3y_k1 (p2 p3 p4:Addr)(p6:Int)(p9:Addr)(p10:Bool)(K:Pw.Y2)(w:World):Prop where
 out:∃ x149:Int,w.cell? p9=some (vU x149)/\∃ x150:Int,w.cell? (p9.add 1)=some (vU x150)/\cnd (x149 == 0 && (x150 == 0 && true))
  (z3j_sh (fun r152_0 r152_1 w151=>wrOk w151 p4/\
  (let w153:=w151.setCell p4 (vI r152_0)
  wrOk w153 (p4.add 1)/\
  (let w154:=w153.setCell (p4.add 1) (vI r152_1)
  lI w154 p4 fun x155=>lI w154 (p4.add 1) fun x156=>K x155 x156 true w154))) w)
  (∃ x157:Int,w.cell? p9=some (vU x157)/\∃ x158:Int,w.cell? (p9.add 1)=some (vU x158)/\z1j_sh x157 x158 p6 (fun r160_0 r160_1 r161 w159=>let w162:=w159.alloc (.cells #[(vU 0),(vU 0)] 253)
  wrOk w162 (hA w159 0)/\
  (let w163:=w162.setCell (hA w159 0) (vU r160_0)
  wrOk w163 (hA w159 1)/\
  (let w164:=w163.setCell (hA w159 1) (vU r160_1)
  z3w_sh p6 r161 (fun r166 w165=>∃ x167:Int,w165.cell? p9=some (vU x167)/\∃ x168:Int,w165.cell? (p9.add 1)=some (vU x168)/\z1j_sh x167 x168 r166 (fun r170_0 r170_1 r171 w169=>wrOk w169 p9/\
  (let w172:=w169.setCell p9 (vU r170_0)
  wrOk w172 (p9.add 1)/\
  (let w173:=w172.setCell (p9.add 1) (vU r170_1)
  let w174:=w173.drew
  ∃ S175:World->Prop,S175 w174/\∃ x176:Int,(∀ w':World,S175 w'->w'.cell? p9=some (vU x176))/\∃ x177:Int,(∀ w':World,S175 w'->w'.cell? (p9.add 1)=some (vU x177))/\∃ x178:Int,(∀ w':World,S175 w'->w'.cell? (p2.add 2)=some (vU x178))/\p6≠0/\inR .u64 (Int.tdiv x178 p6)/\∃ x179:Int,(∀ w':World,S175 w'->w'.cell? (p3.add 2)=some (vU x179))/\r166≠0/\inR .u64 (Int.tdiv x179 r166)/\z21_sh (Int.tdiv x178 p6) (Int.tdiv x179 r166) (fun r181_0 r181_1 w180=>S175 w180/\z3x_sh p10 x176 x177 r181_0 r181_1 (fun r183_0 r183_1 r184 w182=>S175 w182/\wrOk w182 p4/\
  (let w185:=w182.setCell p4 (vI r183_0)
  wrOk w185 (p4.add 1)/\
  (let w186:=w185.setCell (p4.add 1) (vI r183_1)
  lI w186 p4 fun x187=>lI w186 (p4.add 1) fun x188=>K x187 x188 r184 w186))) w180) w174))) w165) w164))) w)
structure z3y_k0 (p2 p3 p4:Addr)(p6:Int)(p7 p8:Addr)(K:Pw.Y2)(w:World):Prop where
 out:let w112:=w.alloc (.cells #[(vU 0),(vU 0)] 253)
  lB w112 p2 fun x113=>lB w112 p2 fun x114=>lB w112 p3 fun x115=>cnd (x114 == x115)
  (∃ x116:Int,w112.cell? p7=some (vU x116)/\∃ x117:Int,w112.cell? (p7.add 1)=some (vU x117)/\∃ x118:Int,w112.cell? p8=some (vU x118)/\∃ x119:Int,w112.cell? (p8.add 1)=some (vU x119)/\z1v_sh x116 x117 x118 x119 (fun r121_0 r121_1 w120=>wrOk w120 (hA w 0)/\
  (let w122:=w120.setCell (hA w 0) (vU r121_0)
  wrOk w122 (hA w 1)/\
  (let w123:=w122.setCell (hA w 1) (vU r121_1)
  z3y_k1 p2 p3 p4 p6 (hA w 0) x113 K w123))) w112)
  (∃ x124:Int,w112.cell? p7=some (vU x124)/\∃ x125:Int,w112.cell? (p7.add 1)=some (vU x125)/\∃ x126:Int,w112.cell? p8=some (vU x126)/\∃ x127:Int,w112.cell? (p8.add 1)=some (vU x127)/\z20_sh x124 x125 x126 x127 (fun r129 w128=>cnd (decide (r129>=0))
  (∃ x130:Int,w128.cell? p7=some (vU x130)/\∃ x131:Int,w128.cell? (p7.add 1)=some (vU x131)/\∃ x132:Int,w128.cell? p8=some (vU x132)/\∃ x133:Int,w128.cell? (p8.add 1)=some (vU x133)/\z1w_sh x130 x131 x132 x133 (fun r135_0 r135_1 w134=>wrOk w134 (hA w 0)/\
  (let w136:=w134.setCell (hA w 0) (vU r135_0)
  wrOk w136 (hA w 1)/\
  (let w137:=w136.setCell (hA w 1) (vU r135_1)
  z3y_k1 p2 p3 p4 p6 (hA w 0) x113 K w137))) w128)
  (let w138:=w128.drew
  ∃ S139:World->Prop,S139 w138/\∃ x140:Int,(∀ w':World,S139 w'->w'.cell? p8=some (vU x140))/\∃ x141:Int,(∀ w':World,S139 w'->w'.cell? (p8.add 1)=some (vU x141))/\∃ x142:Int,(∀ w':World,S139 w'->w'.cell? p7=some (vU x142))/\∃ x143:Int,(∀ w':World,S139 w'->w'.cell? (p7.add 1)=some (vU x143))/\mB S139 p3 fun x144=>z1w_sh x140 x141 x142 x143 (fun r146_0 r146_1 w145=>S139 w145/\wrOk w145 (hA w 0)/\
  (let w147:=w145.setCell (hA w 0) (vU r146_0)
  wrOk w147 (hA w 1)/\
  (let w148:=w147.setCell (hA w 1) (vU r146_1)
  S139 w148/\z3y_k1 p2 p3 p4 p6 (hA w 0) x144 K w148))) w138)) w112)
def z3y_sd (p0_0:Bool)(p0_1 p0_2:Int)(p1_0:Bool)(p1_1 p1_2:Int)(K:Pw.Y2)(w:World):Prop :=
 let w1:=w.alloc (.cells #[(.bool p0_0),(vU p0_1),(vU p0_2)] 249)
 let w2:=w1.alloc (.cells #[(.bool p1_0),(vU p1_1),(vU p1_2)] 249)
 let w3:=w2.alloc (.cells #[(vI 0),(vI 0)] 35)
 ∃ x4:Int,w3.cell? (hA w 2)=some (vU x4)/\∃ x5:Int,w3.cell? (hA w1 2)=some (vU x5)/\z3w_sh x4 x5 (fun r7 w6=>let w8:=w6.drew
 ∃ S9:World->Prop,S9 w8/\∃ x10:Int,(∀ w':World,S9 w'->w'.cell? (hA w 1)=some (vU x10))/\∃ x11:Int,(∀ w':World,S9 w'->w'.cell? (hA w1 2)=some (vU x11))/\r7≠0/\inR .u64 (Int.tdiv x11 r7)/\∃ x12:Int,(∀ w':World,S9 w'->w'.cell? (hA w1 1)=some (vU x12))/\∃ x13:Int,(∀ w':World,S9 w'->w'.cell? (hA w 2)=some (vU x13))/\r7≠0/\inR .u64 (Int.tdiv x13 r7)/\(z21_sh x10 (Int.tdiv x11 r7) (fun r15_0 r15_1 w14=>S9 w14/\(z21_sh x12 (Int.tdiv x13 r7) (fun r17_0 r17_1 w16=>S9 w16/\(let w18:=w16.alloc (.cells #[(vU 0),(vU 0)] 253)
 S9 w18/\let w19:=w18.alloc (.cells #[(vU 0),(vU 0)] 253)
 S9 w19/\wrOk w19 (hA w16 0)/\
 (let w20:=w19.setCell (hA w16 0) (vU r15_0)
 wrOk w20 (hA w16 1)/\
 (let w21:=w20.setCell (hA w16 1) (vU r15_1)
 S9 w21/\wrOk w21 (hA w18 0)/\
 (let w22:=w21.setCell (hA w18 0) (vU r17_0)
 wrOk w22 (hA w18 1)/\
 (let w23:=w22.setCell (hA w18 1) (vU r17_1)
 z3y_k0 (hA w 0) (hA w1 0) (hA w2 0) r7 (hA w16 0) (hA w18 0) K w23)))))
/\(let w24:=w16.alloc (.cells #[(vU 0),(vU 0)] 253)
 S9 w24/\let w25:=w24.alloc (.cells #[(vU 0),(vU 0)] 253)
 S9 w25/\wrOk w25 (hA w24 0)/\
 (let w26:=w25.setCell (hA w24 0) (vU r15_0)
 wrOk w26 (hA w24 1)/\
 (let w27:=w26.setCell (hA w24 1) (vU r15_1)
 S9 w27/\wrOk w27 (hA w16 0)/\
 (let w28:=w27.setCell (hA w16 0) (vU r17_0)
 wrOk w28 (hA w16 1)/\
 (let w29:=w28.setCell (hA w16 1) (vU r17_1)
 z3y_k0 (hA w 0) (hA w1 0) (hA w2 0) r7 (hA w24 0) (hA w16 0) K w29)))))) w14)
/\(let w30:=w14.alloc (.cells #[(vU 0),(vU 0)] 253)
 S9 w30/\(z21_sh x12 (Int.tdiv x13 r7) (fun r32_0 r32_1 w31=>S9 w31/\let w33:=w31.alloc (.cells #[(vU 0),(vU 0)] 253)
 S9 w33/\wrOk w33 (hA w14 0)/\
 (let w34:=w33.setCell (hA w14 0) (vU r15_0)
 wrOk w34 (hA w14 1)/\
 (let w35:=w34.setCell (hA w14 1) (vU r15_1)
 S9 w35/\wrOk w35 (hA w31 0)/\
 (let w36:=w35.setCell (hA w31 0) (vU r32_0)
 wrOk w36 (hA w31 1)/\
 (let w37:=w36.setCell (hA w31 1) (vU r32_1)
 z3y_k0 (hA w 0) (hA w1 0) (hA w2 0) r7 (hA w14 0) (hA w31 0) K w37))))) w30)
/\(let w38:=w30.alloc (.cells #[(vU 0),(vU 0)] 253)
 S9 w38/\z21_sh x12 (Int.tdiv x13 r7) (fun r40_0 r40_1 w39=>S9 w39/\wrOk w39 (hA w14 0)/\
 (let w41:=w39.setCell (hA w14 0) (vU r15_0)
 wrOk w41 (hA w14 1)/\
 (let w42:=w41.setCell (hA w14 1) (vU r15_1)
 S9 w42/\wrOk w42 (hA w30 0)/\
 (let w43:=w42.setCell (hA w30 0) (vU r40_0)
 wrOk w43 (hA w30 1)/\
 (let w44:=w43.setCell (hA w30 1) (vU r40_1)
 z3y_k0 (hA w 0) (hA w1 0) (hA w2 0) r7 (hA w14 0) (hA w30 0) K w44))))) w38))
/\(let w45:=w14.alloc (.cells #[(vU 0),(vU 0)] 253)
 S9 w45/\(z21_sh x12 (Int.tdiv x13 r7) (fun r47_0 r47_1 w46=>S9 w46/\let w48:=w46.alloc (.cells #[(vU 0),(vU 0)] 253)
 S9 w48/\wrOk w48 (hA w46 0)/\
 (let w49:=w48.setCell (hA w46 0) (vU r15_0)
 wrOk w49 (hA w46 1)/\
 (let w50:=w49.setCell (hA w46 1) (vU r15_1)
 S9 w50/\wrOk w50 (hA w14 0)/\
 (let w51:=w50.setCell (hA w14 0) (vU r47_0)
 wrOk w51 (hA w14 1)/\
 (let w52:=w51.setCell (hA w14 1) (vU r47_1)
 z3y_k0 (hA w 0) (hA w1 0) (hA w2 0) r7 (hA w46 0) (hA w14 0) K w52))))) w45)
/\(let w53:=w45.alloc (.cells #[(vU 0),(vU 0)] 253)
 S9 w53/\z21_sh x12 (Int.tdiv x13 r7) (fun r55_0 r55_1 w54=>S9 w54/\wrOk w54 (hA w45 0)/\
 (let w56:=w54.setCell (hA w45 0) (vU r15_0)
 wrOk w56 (hA w45 1)/\
 (let w57:=w56.setCell (hA w45 1) (vU r15_1)
 S9 w57/\wrOk w57 (hA w14 0)/\
 (let w58:=w57.setCell (hA w14 0) (vU r55_0)
 wrOk w58 (hA w14 1)/\
 (let w59:=w58.setCell (hA w14 1) (vU r55_1)
 z3y_k0 (hA w 0) (hA w1 0) (hA w2 0) r7 (hA w45 0) (hA w14 0) K w59))))) w53))) w8)
/\(let w60:=w8.alloc (.cells #[(vU 0),(vU 0)] 253)
 S9 w60/\(z21_sh x10 (Int.tdiv x11 r7) (fun r62_0 r62_1 w61=>S9 w61/\(z21_sh x12 (Int.tdiv x13 r7) (fun r64_0 r64_1 w63=>S9 w63/\let w65:=w63.alloc (.cells #[(vU 0),(vU 0)] 253)
 S9 w65/\wrOk w65 (hA w8 0)/\
 (let w66:=w65.setCell (hA w8 0) (vU r62_0)
 wrOk w66 (hA w8 1)/\
 (let w67:=w66.setCell (hA w8 1) (vU r62_1)
 S9 w67/\wrOk w67 (hA w63 0)/\
 (let w68:=w67.setCell (hA w63 0) (vU r64_0)
 wrOk w68 (hA w63 1)/\
 (let w69:=w68.setCell (hA w63 1) (vU r64_1)
 z3y_k0 (hA w 0) (hA w1 0) (hA w2 0) r7 (hA w8 0) (hA w63 0) K w69))))) w61)
/\(let w70:=w61.alloc (.cells #[(vU 0),(vU 0)] 253)
 S9 w70/\z21_sh x12 (Int.tdiv x13 r7) (fun r72_0 r72_1 w71=>S9 w71/\wrOk w71 (hA w8 0)/\
 (let w73:=w71.setCell (hA w8 0) (vU r62_0)
 wrOk w73 (hA w8 1)/\
 (let w74:=w73.setCell (hA w8 1) (vU r62_1)
 S9 w74/\wrOk w74 (hA w61 0)/\
 (let w75:=w74.setCell (hA w61 0) (vU r72_0)
 wrOk w75 (hA w61 1)/\
 (let w76:=w75.setCell (hA w61 1) (vU r72_1)
 z3y_k0 (hA w 0) (hA w1 0) (hA w2 0) r7 (hA w8 0) (hA w61 0) K w76))))) w70)) w60)
/\(let w77:=w60.alloc (.cells #[(vU 0),(vU 0)] 253)
 S9 w77/\z21_sh x10 (Int.tdiv x11 r7) (fun r79_0 r79_1 w78=>S9 w78/\z21_sh x12 (Int.tdiv x13 r7) (fun r81_0 r81_1 w80=>S9 w80/\wrOk w80 (hA w8 0)/\
 (let w82:=w80.setCell (hA w8 0) (vU r79_0)
 wrOk w82 (hA w8 1)/\
 (let w83:=w82.setCell (hA w8 1) (vU r79_1)
 S9 w83/\wrOk w83 (hA w60 0)/\
 (let w84:=w83.setCell (hA w60 0) (vU r81_0)
 wrOk w84 (hA w60 1)/\
 (let w85:=w84.setCell (hA w60 1) (vU r81_1)
 z3y_k0 (hA w 0) (hA w1 0) (hA w2 0) r7 (hA w8 0) (hA w60 0) K w85))))) w78) w77))
/\(let w86:=w8.alloc (.cells #[(vU 0),(vU 0)] 253)
 S9 w86/\(z21_sh x10 (Int.tdiv x11 r7) (fun r88_0 r88_1 w87=>S9 w87/\(z21_sh x12 (Int.tdiv x13 r7) (fun r90_0 r90_1 w89=>S9 w89/\let w91:=w89.alloc (.cells #[(vU 0),(vU 0)] 253)
 S9 w91/\wrOk w91 (hA w89 0)/\
 (let w92:=w91.setCell (hA w89 0) (vU r88_0)
 wrOk w92 (hA w89 1)/\
 (let w93:=w92.setCell (hA w89 1) (vU r88_1)
 S9 w93/\wrOk w93 (hA w8 0)/\
 (let w94:=w93.setCell (hA w8 0) (vU r90_0)
 wrOk w94 (hA w8 1)/\
 (let w95:=w94.setCell (hA w8 1) (vU r90_1)
 z3y_k0 (hA w 0) (hA w1 0) (hA w2 0) r7 (hA w89 0) (hA w8 0) K w95))))) w87)
/\(let w96:=w87.alloc (.cells #[(vU 0),(vU 0)] 253)
 S9 w96/\z21_sh x12 (Int.tdiv x13 r7) (fun r98_0 r98_1 w97=>S9 w97/\wrOk w97 (hA w87 0)/\
 (let w99:=w97.setCell (hA w87 0) (vU r88_0)
 wrOk w99 (hA w87 1)/\
 (let w100:=w99.setCell (hA w87 1) (vU r88_1)
 S9 w100/\wrOk w100 (hA w8 0)/\
 (let w101:=w100.setCell (hA w8 0) (vU r98_0)
 wrOk w101 (hA w8 1)/\
 (let w102:=w101.setCell (hA w8 1) (vU r98_1)
 z3y_k0 (hA w 0) (hA w1 0) (hA w2 0) r7 (hA w87 0) (hA w8 0) K w102))))) w96)) w86)
/\(let w103:=w86.alloc (.cells #[(vU 0),(vU 0)] 253)
 S9 w103/\z21_sh x10 (Int.tdiv x11 r7) (fun r105_0 r105_1 w104=>S9 w104/\z21_sh x12 (Int.tdiv x13 r7) (fun r107_0 r107_1 w106=>S9 w106/\wrOk w106 (hA w86 0)/\
 (let w108:=w106.setCell (hA w86 0) (vU r105_0)
 wrOk w108 (hA w86 1)/\
 (let w109:=w108.setCell (hA w86 1) (vU r105_1)
 S9 w109/\wrOk w109 (hA w8 0)/\
 (let w110:=w109.setCell (hA w8 0) (vU r107_0)
 wrOk w110 (hA w8 1)/\
 (let w111:=w110.setCell (hA w8 1) (vU r107_1)
 z3y_k0 (hA w 0) (hA w1 0) (hA w2 0) r7 (hA w86 0) (hA w8 0) K w111))))) w104) w103))) w3
structure z3y_sh (p0_0:Bool)(p0_1 p0_2:Int)(p1_0:Bool)(p1_1 p1_2:Int)(K:Pw.Y2)(w:World):Prop where
 out:z3y_sd p0_0 p0_1 p0_2 p1_0 p1_1 p1_2 K w
def z3y_L0 (Kv:VW):Cur [tQ,tQ,tQ,tU,tQ,tQ] WP:=fun p2 p3 p4 p6 p7 p8=>z3y_k0 p2 p3 p4 p6 p7 p8 (kk [.u 2,.g 2,tI,tI,tB] Kv)
def z3y_L1 (Kv:VW):Cur [tQ,tQ,tQ,tU,tQ,tB] WP:=fun p2 p3 p4 p6 p9 p10=>z3y_k1 p2 p3 p4 p6 p9 p10 (kk [.u 2,.g 2,tI,tI,tB] Kv)
def z3y_S:=sp [.g 3,tB,tU,tU,.g 3,tB,tU,tU] [.u 2,.g 2,tI,tI,tB] z3y_sh
theorem z3y_ok:q22 Tryz.prog 285 z3y_S:=okS (x:=fun Kv=>qr 4 (qr 6 (qs (A.drw (dp [0,1,2,3,4,5,7,8,9,10,11,12] (DA.thr 6 (DA.thr 13 (DA.two 14 (DA.eff 15 (DA.eff 16 (DA.eff 17 DA.done))) 15 (DA.eff 14 (DA.eff 16 (DA.eff 17 DA.done)))) 14 (DA.two 13 (DA.eff 15 (DA.eff 16 (DA.eff 17 DA.done))) 15 (DA.eff 13 (DA.eff 16 (DA.eff 17 DA.done)))) 15 (DA.two 13 (DA.eff 14 (DA.eff 16 (DA.eff 17 DA.done))) 14 (DA.eff 13 (DA.eff 16 (DA.eff 17 DA.done))))) 14 (DA.two 6 (DA.two 13 (DA.eff 15 (DA.eff 16 (DA.eff 17 DA.done))) 15 (DA.eff 13 (DA.eff 16 (DA.eff 17 DA.done)))) 15 (DA.eff 6 (DA.eff 13 (DA.eff 16 (DA.eff 17 DA.done))))) 15 (DA.two 6 (DA.two 13 (DA.eff 14 (DA.eff 16 (DA.eff 17 DA.done))) 14 (DA.eff 13 (DA.eff 16 (DA.eff 17 DA.done)))) 14 (DA.eff 6 (DA.eff 13 (DA.eff 16 (DA.eff 17 DA.done)))))))) (A.cut [2,3,4,6,7,8] (uR0 [tQ,tQ,tQ,tU,tQ,tQ] (z3y_L0 Kv)) (qr 1 (qr 3 (qs (qb (qr 6 (qc (qe 4) (qr 5 (qc (qe 4) (A.drw (dp [0,1,3,4] (DA.eff 2 (DA.eff 5 (DA.pur 6 DA.done)))))))))) (A.cut [2,3,4,6,9,10] (uR0 [tQ,tQ,tQ,tU,tQ,tB] (z3y_L1 Kv)) (qs (qr 3 (qc (qr 3 ql) ql)) (qr 9 (qr 4 (qr 7 (qs (A.drw (dp [0,1,2,3,4,5,6,7,8,9] (DA.eff 10 (DA.eff 11 (dp [12,13] (DA.eff 14 (DA.pur 15 DA.done))))))) ql))))))))))))) (fun Kv p0_0 p0_1 p0_2 p1_0 p1_1 p1_2=>z3y_sd p0_0 p0_1 p0_2 p1_0 p1_1 p1_2 (kk [.u 2,.g 2,tI,tI,tB] Kv)) progMixed (Γ:=[(156,z20_S),(157,z21_S),(283,z3w_S),(289,z3j_S),(319,z1v_S),(320,z1w_S),(321,z1j_S),(322,z3x_S)]) ⟨.inl z20_ok,.inl z21_ok,.inl z3w_ok,.inl z3j_ok,.inl z1v_ok,.inl z1w_ok,.inl z1j_ok,.inl z3x_ok,trivial⟩ Tryz.call285 Tryz.func285 (fun Kv=>q08 (hK0 (F:=z3y_L0 Kv)) <| q08 (hK0 (F:=z3y_L1 Kv)) <| hEnd)
structure z3r_sh (p0_0 p0_1:Int)(p1_0 p1_1:Int)(K:Pw.Y2)(w:World):Prop where
 out:let w1:=w.alloc (.cells #[(vI p0_0),(vI p0_1)] 35)
  let w2:=w1.alloc (.cells #[(vI p1_0),(vI p1_1)] 35)
  let w3:=w2.alloc (.cells #[(vI 0),(vI 0)] 35)
  lI w3 (hA w 0) fun x4=>lI w3 (hA w 1) fun x5=>lI w3 (hA w1 0) fun x6=>lI w3 (hA w1 1) fun x7=>z1z_sh x4 x5 x6 x7 (Value.func (.func 285) #[] #[]) (fun r9_0 r9_1 r10 w8=>wrOk w8 (hA w2 0)/\
  (let w11:=w8.setCell (hA w2 0) (vI r9_0)
  wrOk w11 (hA w2 1)/\
  (let w12:=w11.setCell (hA w2 1) (vI r9_1)
  lI w12 (hA w2 0) fun x13=>lI w12 (hA w2 1) fun x14=>K x13 x14 r10 w12))) w3
def z3r_S:=sp [.g 2,tI,tI,.g 2,tI,tI] [.u 2,.g 2,tI,tI,tB] z3r_sh
theorem z3r_ok:okP 216 z3r_S:=okR (x:=fun _=>qr 4 (qr 7 ql)) (Γ:=[(284,z1z_S)]) ⟨.inl z1z_ok,trivial⟩ Tryz.call216 Tryz.func216 (fun _=>hEnd)
structure z2u_sh (p0_0:Bool)(p0_1 p0_2:Int)(p1_0:Bool)(p1_1 p1_2:Int)(K:Pw.Y2)(w:World):Prop where
 out:let w1:=w.alloc (.cells #[(.bool p0_0),(vU p0_1),(vU p0_2)] 249)
  let w2:=w1.alloc (.cells #[(.bool p1_0),(vU p1_1),(vU p1_2)] 249)
  let w3:=w2.alloc (.cells #[(vI 0),(vI 0)] 35)
  lB w3 (hA w1 0) fun x4=>wrOk w3 (hA w1 0)/\
  (let w5:=w3.setCell (hA w1 0) (.bool (!x4))
  lB w5 (hA w 0) fun x6=>∃ x7:Int,w5.cell? (hA w 1)=some (vU x7)/\∃ x8:Int,w5.cell? (hA w 2)=some (vU x8)/\lB w5 (hA w1 0) fun x9=>∃ x10:Int,w5.cell? (hA w1 1)=some (vU x10)/\∃ x11:Int,w5.cell? (hA w1 2)=some (vU x11)/\z3y_sh x6 x7 x8 x9 x10 x11 (fun r13_0 r13_1 r14 w12=>wrOk w12 (hA w2 0)/\
  (let w15:=w12.setCell (hA w2 0) (vI r13_0)
  wrOk w15 (hA w2 1)/\
  (let w16:=w15.setCell (hA w2 1) (vI r13_1)
  lI w16 (hA w2 0) fun x17=>lI w16 (hA w2 1) fun x18=>K x17 x18 r14 w16))) w5)
def z2u_S:=sp [.g 3,tB,tU,tU,.g 3,tB,tU,tU] [.u 2,.g 2,tI,tI,tB] z2u_sh
theorem z2u_ok:okP 286 z2u_S:=okR (x:=fun _=>qr 4 (qr 5 (qr 7 ql))) (Γ:=[(285,z3y_S)]) ⟨.inl z3y_ok,trivial⟩ Tryz.call286 Tryz.func286 (fun _=>hEnd)
structure z3v_sh (p0_0 p0_1:Int)(p1_0 p1_1:Int)(K:Pw.Y2)(w:World):Prop where
 out:let w1:=w.alloc (.cells #[(vI p0_0),(vI p0_1)] 35)
  let w2:=w1.alloc (.cells #[(vI p1_0),(vI p1_1)] 35)
  let w3:=w2.alloc (.cells #[(vI 0),(vI 0)] 35)
  lI w3 (hA w 0) fun x4=>lI w3 (hA w 1) fun x5=>lI w3 (hA w1 0) fun x6=>lI w3 (hA w1 1) fun x7=>z1z_sh x4 x5 x6 x7 (Value.func (.func 286) #[] #[]) (fun r9_0 r9_1 r10 w8=>wrOk w8 (hA w2 0)/\
  (let w11:=w8.setCell (hA w2 0) (vI r9_0)
  wrOk w11 (hA w2 1)/\
  (let w12:=w11.setCell (hA w2 1) (vI r9_1)
  lI w12 (hA w2 0) fun x13=>lI w12 (hA w2 1) fun x14=>K x13 x14 r10 w12))) w3
def z3v_S:=sp [.g 2,tI,tI,.g 2,tI,tI] [.u 2,.g 2,tI,tI,tB] z3v_sh
theorem z3v_ok:okP 217 z3v_S:=okR (x:=fun _=>qr 4 (qr 7 ql)) (Γ:=[(284,z1z_S)]) ⟨.inl z1z_ok,trivial⟩ Tryz.call217 Tryz.func217 (fun _=>hEnd)
structure z2v_k0 (p4:Addr)(K:Pw.Y2)(w:World):Prop where
 out:z3j_sh (fun r7_0 r7_1 w6=>wrOk w6 p4/\
  (let w8:=w6.setCell p4 (vI r7_0)
  wrOk w8 (p4.add 1)/\
  (let w9:=w8.setCell (p4.add 1) (vI r7_1)
  lI w9 p4 fun x10=>lI w9 (p4.add 1) fun x11=>K x10 x11 true w9))) w
structure z2v_sh (p0_0:Bool)(p0_1 p0_2:Int)(p1_0:Bool)(p1_1 p1_2:Int)(K:Pw.Y2)(w:World):Prop where
 out:let w1:=w.alloc (.cells #[(.bool p0_0),(vU p0_1),(vU p0_2)] 249)
  let w2:=w1.alloc (.cells #[(.bool p1_0),(vU p1_1),(vU p1_2)] 249)
  let w3:=w2.alloc (.cells #[(vI 0),(vI 0)] 35)
  ∃ x4:Int,w3.cell? (hA w 1)=some (vU x4)/\cnd (x4 == 0)
  (z2v_k0 (hA w2 0) K w3)
  (∃ x5:Int,w3.cell? (hA w1 1)=some (vU x5)/\cnd (x5 == 0)
  (z2v_k0 (hA w2 0) K w3)
  (let w12:=w3.drew
  ∃ S13:World->Prop,S13 w12/\∃ x14:Int,(∀ w':World,S13 w'->w'.cell? (hA w 1)=some (vU x14))/\∃ x15:Int,(∀ w':World,S13 w'->w'.cell? (hA w1 2)=some (vU x15))/\∃ x16:Int,(∀ w':World,S13 w'->w'.cell? (hA w1 1)=some (vU x16))/\∃ x17:Int,(∀ w':World,S13 w'->w'.cell? (hA w 2)=some (vU x17))/\z3w_sh x14 x15 (fun r19 w18=>S13 w18/\z3w_sh x16 x17 (fun r21 w20=>S13 w20/\let w22:=w20.drew
  ∃ S23:World->Prop,S23 w22/\mB S23 (hA w 0) fun x24=>mB S23 (hA w1 0) fun x25=>∃ x26:Int,(∀ w':World,S23 w'->w'.cell? (hA w 1)=some (vU x26))/\r19≠0/\inR .u64 (Int.tdiv x26 r19)/\∃ x27:Int,(∀ w':World,S23 w'->w'.cell? (hA w1 1)=some (vU x27))/\r21≠0/\inR .u64 (Int.tdiv x27 r21)/\∃ x28:Int,(∀ w':World,S23 w'->w'.cell? (hA w 2)=some (vU x28))/\r21≠0/\inR .u64 (Int.tdiv x28 r21)/\∃ x29:Int,(∀ w':World,S23 w'->w'.cell? (hA w1 2)=some (vU x29))/\r19≠0/\inR .u64 (Int.tdiv x29 r19)/\z21_sh (Int.tdiv x26 r19) (Int.tdiv x27 r21) (fun r31_0 r31_1 w30=>S23 w30/\z21_sh (Int.tdiv x28 r21) (Int.tdiv x29 r19) (fun r33_0 r33_1 w32=>S23 w32/\z3x_sh (!(x24 == x25)) r31_0 r31_1 r33_0 r33_1 (fun r35_0 r35_1 r36 w34=>S23 w34/\wrOk w34 (hA w2 0)/\
  (let w37:=w34.setCell (hA w2 0) (vI r35_0)
  wrOk w37 (hA w2 1)/\
  (let w38:=w37.setCell (hA w2 1) (vI r35_1)
  lI w38 (hA w2 0) fun x39=>lI w38 (hA w2 1) fun x40=>K x39 x40 r36 w38))) w32) w30) w22) w18) w12))
def z2v_L0 (Kv:VW):Cur [tQ] WP:=fun p4=>z2v_k0 p4 (kk [.u 2,.g 2,tI,tI,tB] Kv)
def z2v_S:=sp [.g 3,tB,tU,tU,.g 3,tB,tU,tU] [.u 2,.g 2,tI,tI,tB] z2v_sh
theorem z2v_ok:okP 287 z2v_S:=okR (x:=fun Kv=>qr 4 (qs (qs (A.reg (qn 4 (RA.spl 11 (qk 3 (qn 1 RA.done)) (qn 4 RA.done)))) (qc (A.cut [4] (uR0 [tQ] (z2v_L0 Kv)) (qr 3 ql)) ql)) (qs (A.drw (dp [0,1,2,3,5,6,7,8] (DA.eff 4 (DA.eff 9 (dp [10,11] DA.done))))) (qs (A.drw (dp [0,1,2,3,4,5,6,7,8,9,10,11,12,14,15,16,17,18,19,20,21] (DA.eff 13 (DA.eff 22 (DA.eff 23 (dp [24,25] (DA.eff 26 (DA.pur 27 DA.done)))))))) ql)))) (Γ:=[(157,z21_S),(283,z3w_S),(289,z3j_S),(322,z3x_S)]) ⟨.inl z21_ok,.inl z3w_ok,.inl z3j_ok,.inl z3x_ok,trivial⟩ Tryz.call287 Tryz.func287 (fun Kv=>q08 (hK0 (F:=z2v_L0 Kv)) <| hEnd)
structure z3t_sh (p0_0 p0_1:Int)(p1_0 p1_1:Int)(K:Pw.Y2)(w:World):Prop where
 out:let w1:=w.alloc (.cells #[(vI p0_0),(vI p0_1)] 35)
  let w2:=w1.alloc (.cells #[(vI p1_0),(vI p1_1)] 35)
  let w3:=w2.alloc (.cells #[(vI 0),(vI 0)] 35)
  lI w3 (hA w 0) fun x4=>lI w3 (hA w 1) fun x5=>lI w3 (hA w1 0) fun x6=>lI w3 (hA w1 1) fun x7=>z1z_sh x4 x5 x6 x7 (Value.func (.func 287) #[] #[]) (fun r9_0 r9_1 r10 w8=>wrOk w8 (hA w2 0)/\
  (let w11:=w8.setCell (hA w2 0) (vI r9_0)
  wrOk w11 (hA w2 1)/\
  (let w12:=w11.setCell (hA w2 1) (vI r9_1)
  lI w12 (hA w2 0) fun x13=>lI w12 (hA w2 1) fun x14=>K x13 x14 r10 w12))) w3
def z3t_S:=sp [.g 2,tI,tI,.g 2,tI,tI] [.u 2,.g 2,tI,tI,tB] z3t_sh
theorem z3t_ok:okP 218 z3t_S:=okR (x:=fun _=>qr 4 (qr 7 ql)) (Γ:=[(284,z1z_S)]) ⟨.inl z1z_ok,trivial⟩ Tryz.call218 Tryz.func218 (fun _=>hEnd)
structure z2s_sh (p0_0:Bool)(p0_1 p0_2:Int)(p1_0:Bool)(p1_1 p1_2:Int)(p2:Addr)(K:Pw.Y2)(w:World):Prop where
 out:let w1:=w.alloc (.cells #[(.bool p0_0),(vU p0_1),(vU p0_2)] 249)
  let w2:=w1.alloc (.cells #[(.bool p1_0),(vU p1_1),(vU p1_2)] 249)
  let w3:=w2.alloc (.cells #[(vI 0),(vI 0)] 35)
  lI w3 p2 fun x4=>cnd (x4 == 0)
  (z3j_sh (fun r6_0 r6_1 w5=>wrOk w5 (hA w2 0)/\
  (let w7:=w5.setCell (hA w2 0) (vI r6_0)
  wrOk w7 (hA w2 1)/\
  (let w8:=w7.setCell (hA w2 1) (vI r6_1)
  lI w8 (hA w2 0) fun x9=>lI w8 (hA w2 1) fun x10=>K x9 x10 false w8))) w3)
  (lB w3 (hA w 0) fun x11=>∃ x12:Int,w3.cell? (hA w 1)=some (vU x12)/\∃ x13:Int,w3.cell? (hA w 2)=some (vU x13)/\lB w3 (hA w1 0) fun x14=>∃ x15:Int,w3.cell? (hA w1 2)=some (vU x15)/\∃ x16:Int,w3.cell? (hA w1 1)=some (vU x16)/\z2v_sh x11 x12 x13 x14 x15 x16 (fun r18_0 r18_1 r19 w17=>wrOk w17 (hA w2 0)/\
  (let w20:=w17.setCell (hA w2 0) (vI r18_0)
  wrOk w20 (hA w2 1)/\
  (let w21:=w20.setCell (hA w2 1) (vI r18_1)
  lI w21 (hA w2 0) fun x22=>lI w21 (hA w2 1) fun x23=>K x22 x23 r19 w21))) w3)
def z2s_S:=sp [.g 3,tB,tU,tU,.g 3,tB,tU,tU,tQ] [.u 2,.g 2,tI,tI,tB] z2s_sh
theorem z2s_ok:okP 288 z2s_S:=okR (x:=fun _=>qr 4 (qs (qr 3 (qc (qr 3 ql) ql)) (qr 13 ql))) (Γ:=[(287,z2v_S),(289,z3j_S)]) ⟨.inl z2v_ok,.inl z3j_ok,trivial⟩ Tryz.call288 Tryz.func288 (fun _=>hEnd)
structure z3u_sh (p0_0 p0_1:Int)(p1_0 p1_1:Int)(K:Pw.Y2)(w:World):Prop where
 out:let w1:=w.alloc (.cells #[(vI p0_0),(vI p0_1)] 35)
  let w2:=w1.alloc (.cells #[(vI p1_0),(vI p1_1)] 35)
  let w3:=w2.alloc (.cells #[(vI 0),(vI 0)] 35)
  lI w3 (hA w 0) fun x4=>lI w3 (hA w 1) fun x5=>lI w3 (hA w1 0) fun x6=>lI w3 (hA w1 1) fun x7=>z1z_sh x4 x5 x6 x7 (Value.func (.func 288) #[] #[(.pointer (some (hA w1 0)))]) (fun r9_0 r9_1 r10 w8=>wrOk w8 (hA w2 0)/\
  (let w11:=w8.setCell (hA w2 0) (vI r9_0)
  wrOk w11 (hA w2 1)/\
  (let w12:=w11.setCell (hA w2 1) (vI r9_1)
  lI w12 (hA w2 0) fun x13=>lI w12 (hA w2 1) fun x14=>K x13 x14 r10 w12))) w3
def z3u_S:=sp [.g 2,tI,tI,.g 2,tI,tI] [.u 2,.g 2,tI,tI,tB] z3u_sh
theorem z3u_ok:okP 219 z3u_S:=okR (x:=fun _=>qr 4 (qr 8 ql)) (Γ:=[(284,z1z_S)]) ⟨.inl z1z_ok,trivial⟩ Tryz.call219 Tryz.func219 (fun _=>hEnd)
structure z42_sh (p0:Int)(K:Pw.Y3)(w:World):Prop where
 out:let w1:=w.alloc (.cells #[(vI 0),(vI 0)] 35)
  wrOk w1 (hA w 0)/\
  (let w2:=w1.setCell (hA w 0) (vI p0)
  wrOk w2 (hA w 1)/\
  (let w3:=w2.setCell (hA w 1) (vI 1)
  lI w3 (hA w 0) fun x4=>lI w3 (hA w 1) fun x5=>K x4 x5 w3))
def z42_S:=sp [tI] [.g 2,tI,tI] z42_sh
theorem z42_ok:okP 145 z42_S:=okR (x:=fun _=>qr 1 (qr 3 ql)) (Γ:=[]) trivial Tryz.call145 Tryz.func145 (fun _=>hEnd)
structure z41_sh (p0:Int)(K:Pw.Y1)(w:World):Prop where
 out:z39_sh p0 (fun r2 w1=>K r2 w1) w
def z41_S:=sp [tU] [tI] z41_sh
theorem z41_ok:okP 54 z41_S:=okR (x:=fun _=>qr 1 (qs (qc ql ql) (qr 3 ql))) (Γ:=[(98,z39_S)]) ⟨.inl z39_ok,trivial⟩ Tryz.call54 Tryz.func54 (fun _=>hEnd)
structure z29_sh (p0_0:Bool)(p0_1 p0_2:Int)(K:Pw.Y2)(w:World):Prop where
 out:let w1:=w.alloc (.cells #[(.bool p0_0),(vU p0_1),(vU p0_2)] 249)
  let w2:=w1.alloc (.cells #[(vI 0),(vI 0)] 35)
  ∃ x3:Int,w2.cell? (hA w 1)=some (vU x3)/\∃ x4:Int,w2.cell? (hA w 2)=some (vU x4)/\z3w_sh x3 x4 (fun r6 w5=>let w7:=w5.drew
  ∃ S8:World->Prop,S8 w7/\mB S8 (hA w 0) fun x9=>∃ x10:Int,(∀ w':World,S8 w'->w'.cell? (hA w 1)=some (vU x10))/\r6≠0/\inR .u64 (Int.tdiv x10 r6)/\∃ x11:Int,(∀ w':World,S8 w'->w'.cell? (hA w 2)=some (vU x11))/\r6≠0/\inR .u64 (Int.tdiv x11 r6)/\cnd x9
  (∃ x12:Int,(∀ w':World,S8 w'->w'.cell? (hA w 1)=some (vU x12))/\z3x_sh (decide (x12>0)) 0 (Int.tdiv x10 r6) 0 (Int.tdiv x11 r6) (fun r14_0 r14_1 r15 w13=>S8 w13/\wrOk w13 (hA w1 0)/\
  (let w16:=w13.setCell (hA w1 0) (vI r14_0)
  wrOk w16 (hA w1 1)/\
  (let w17:=w16.setCell (hA w1 1) (vI r14_1)
  lI w17 (hA w1 0) fun x23=>lI w17 (hA w1 1) fun x24=>K x23 x24 r15 w17))) w7)
  (z3x_sh false 0 (Int.tdiv x10 r6) 0 (Int.tdiv x11 r6) (fun r19_0 r19_1 r20 w18=>S8 w18/\wrOk w18 (hA w1 0)/\
  (let w21:=w18.setCell (hA w1 0) (vI r19_0)
  wrOk w21 (hA w1 1)/\
  (let w22:=w21.setCell (hA w1 1) (vI r19_1)
  lI w22 (hA w1 0) fun x25=>lI w22 (hA w1 1) fun x26=>K x25 x26 r20 w22))) w7)) w2
def z29_S:=sp [.g 3,tB,tU,tU] [.u 2,.g 2,tI,tI,tB] z29_sh
theorem z29_ok:okP 369 z29_S:=okR (x:=fun _=>qr 3 (qr 6 (qs (A.drw (dp [0,1,2,7,8,9,10,11,12,13,14,15,16] (DA.spl 12 (dp [3,4,5,6] (DA.eff 17 (dp [18,19] (DA.eff 20 (DA.pur 21 DA.done))))) (DA.skp 3 (DA.skp 4 (DA.skp 5 (DA.pur 6 (DA.eff 17 (dp [18,19] (DA.eff 20 (DA.pur 21 DA.done))))))))))) ql))) (Γ:=[(283,z3w_S),(322,z3x_S)]) ⟨.inl z3w_ok,.inl z3x_ok,trivial⟩ Tryz.call369 Tryz.func369 (fun _=>hEnd)
structure z3g_sh (p0 p1:Int)(K:Pw.Y2)(w:World):Prop where
 out:let w1:=w.alloc (.cells #[(vI 0),(vI 0)] 35)
  cnd (p1 == 0)
  (z3j_sh (fun r3_0 r3_1 w2=>wrOk w2 (hA w 0)/\
  (let w4:=w2.setCell (hA w 0) (vI r3_0)
  wrOk w4 (hA w 1)/\
  (let w5:=w4.setCell (hA w 1) (vI r3_1)
  lI w5 (hA w 0) fun x6=>lI w5 (hA w 1) fun x7=>K x6 x7 false w5))) w1)
  (z3i_sh p0 (fun r9 w8=>z3i_sh p1 (fun r11 w10=>z29_sh (!((decide (p0<0)) == (decide (p1<0)))) r9 r11 (fun r13_0 r13_1 r14 w12=>wrOk w12 (hA w 0)/\
  (let w15:=w12.setCell (hA w 0) (vI r13_0)
  wrOk w15 (hA w 1)/\
  (let w16:=w15.setCell (hA w 1) (vI r13_1)
  lI w16 (hA w 0) fun x17=>lI w16 (hA w 1) fun x18=>K x17 x18 r14 w16))) w10) w8) w1)
def z3g_S:=sp [tI,tI] [.u 2,.g 2,tI,tI,tB] z3g_sh
theorem z3g_ok:okP 364 z3g_S:=okR (x:=fun _=>qr 2 (qs (qr 2 (qc (qr 3 ql) ql)) (qr 15 ql))) (Γ:=[(226,z3i_S),(289,z3j_S),(369,z29_S)]) ⟨.inl z3i_ok,.inl z3j_ok,.inl z29_ok,trivial⟩ Tryz.call364 Tryz.func364 (fun _=>hEnd)
