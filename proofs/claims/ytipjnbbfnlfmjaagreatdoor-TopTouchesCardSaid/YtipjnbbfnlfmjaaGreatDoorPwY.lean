/- Values one by one, said by a list of tokens; what is owed and the call's contract in few words. Conditions: none. -/
import Derived.Test.YtipjnbbfnlfmjaaGreatDoorPWX
import Derived.KernelRfl
open Nat renaming eq_of_beq_eq_true->J0,le_of_ble_eq_true->J1,beq_refl->J2,beq->J3,ble->J4
namespace Pw
open Go
inductive Lf where
 | i (k:IntKind)
 | b
 | s
 | p
 | q
 | m
 | n
 | v
 | l
inductive Tk where
 | f (a:Lf)
 | g (n:Nat)
 | u (n:Nat)
 | c (f a b:Nat)
abbrev tI:Tk:=.f (.i .i64)
abbrev tU:Tk:=.f (.i .u64)
abbrev tB:Tk:=.f .b
abbrev tS:Tk:=.f .s
abbrev tQ:Tk:=.f .q
abbrev tN:Tk:=.f .n
abbrev tV:Tk:=.f .v
abbrev tL:Tk:=.f .l
abbrev Lf.ty:Lf->Type
 | .i _=>Int
 | .b=>Bool
 | .s=>ByteArray
 | .p=>Option Addr
 | .q=>Addr
 | .m=>Option Nat
 | .n=>Nat
 | .v=>Value
 | .l=>Sl
def Lf.enc:(a:Lf)->a.ty->Value
 | .i k,x=>.int k x
 | .b,x=>.bool x
 | .s,x=>.string x
 | .p,x=>.pointer x
 | .q,x=>.pointer (some x)
 | .m,x=>.map x
 | .n,x=>.map (some x)
 | .v,x=>x
 | .l,x=>.slice x.p x.l x.c
def Lf.dec:(a:Lf)->Value->Option a.ty
 | .i k,x=>match x with
  | .int j x=>match decEq j k with
   | .isTrue _=>some x
   | .isFalse _=>none
  | _=>none
 | .b,x=>match x with
  | .bool x=>some x
  | _=>none
 | .s,x=>match x with
  | .string x=>some x
  | _=>none
 | .p,x=>match x with
  | .pointer x=>some x
  | _=>none
 | .q,x=>match x with
  | .pointer (some x)=>some x
  | _=>none
 | .m,x=>match x with
  | .map x=>some x
  | _=>none
 | .n,x=>match x with
  | .map (some x)=>some x
  | _=>none
 | .v,x=>some x
 | .l,x=>match x with
  | .slice a1 a2 a3=>some ⟨a1,a2,a3⟩
  | _=>none
theorem Lf.dec_enc (a:Lf)(x:a.ty):a.dec (a.enc x)=some x:=by
 cases a with
 | i k =>
  simp only[enc,dec]
  split
  ·rfl
  ·rename_i h _; exact absurd rfl h
 | _=>rfl
theorem Lf.enc_dec (a:Lf)(v:Value)(x:a.ty)(h:a.dec v=some x):a.enc x=v:=by
 cases a with
 | i k =>
  simp only[dec] at h
  split at h
  ·split at h
   ·rename_i e _
    cases h; subst e; rfl
   ·cases h
  ·cases h
 | v=>simp only[dec] at h; cases h; rfl
 | _ =>
  simp only[dec] at h
  split at h
  ·cases h; rfl
  ·cases h
abbrev Cur:List Tk->Type->Type
 | [],R=>R
 | .f a :: ts,R=>a.ty->Cur ts R
 | .g _ :: ts,R=>Cur ts R
 | .u _ :: ts,R=>Cur ts R
 | .c _ _ _ :: ts,R=>Cur ts R
abbrev Ar:List Tk->Type
 | []=>Unit
 | .f a :: ts=>a.ty × Ar ts
 | .g _ :: ts=>Ar ts
 | .u _ :: ts=>Ar ts
 | .c _ _ _ :: ts=>Ar ts
def ap {R:Type}:(ts:List Tk)->Cur ts R->Ar ts->R
 | [],f,_=>f
 | .f _ :: ts,f,(x,r)=>ap ts (f x) r
 | .g _ :: ts,f,r=>ap ts f r
 | .u _ :: ts,f,r=>ap ts f r
 | .c _ _ _ :: ts,f,r=>ap ts f r
def un {R:Type}:(ts:List Tk)->Cur ts R->R->List Value->R
 | [],f,d,vs=>match vs with
  | []=>f
  | _ :: _=>d
 | .f a :: ts,f,d,vs=>match vs with
  | v :: vs=>match a.dec v with
   | some x=>un ts (f x) d vs
   | none=>d
  | []=>d
 | .g n :: ts,f,d,vs=>match vs with
  | .agg xs :: vs=>match J3 xs.toList.length n with
   | true=>un ts f d (xs.toList++vs)
   | false=>d
  | _=>d
 | .u n :: ts,f,d,vs=>match vs with
  | .tuple xs :: vs=>match J3 xs.toList.length n with
   | true=>un ts f d (xs.toList++vs)
   | false=>d
  | _=>d
 | .c g n m :: ts,f,d,vs=>match vs with
  | .func (.func h) xs ys :: vs=>match J3 h g && J3 xs.toList.length n && J3 ys.toList.length m with
   | true=>un ts f d (xs.toList++(ys.toList++vs))
   | false=>d
  | _=>d
def cu {R:Type}:(ts:List Tk)->(List Value->R)->Cur ts R
 | [],k=>k []
 | .f a :: ts,k=>fun x=>cu ts fun vs=>k (a.enc x :: vs)
 | .g n :: ts,k=>cu ts fun vs=>k (.agg (vs.take n).toArray :: vs.drop n)
 | .u n :: ts,k=>cu ts fun vs=>k (.tuple (vs.take n).toArray :: vs.drop n)
 | .c g n m :: ts,k=>cu ts fun vs=>k (.func (.func g) (vs.take n).toArray ((vs.drop n).take m).toArray :: (vs.drop n).drop m)
def enl:(ts:List Tk)->Ar ts->List Value
 | [],_=>[]
 | .f a :: ts,(x,r)=>a.enc x :: enl ts r
 | .g n :: ts,r=>.agg ((enl ts r).take n).toArray :: (enl ts r).drop n
 | .u n :: ts,r=>.tuple ((enl ts r).take n).toArray :: (enl ts r).drop n
 | .c g n m :: ts,r=>.func (.func g) ((enl ts r).take n).toArray (((enl ts r).drop n).take m).toArray :: ((enl ts r).drop n).drop m
def cnt:List Tk->Option Nat
 | []=>some 0
 | .f _ :: ts=>match cnt ts with
  | some c=>some (c+1)
  | none=>none
 | .g n :: ts=>match cnt ts with
  | some c=>match J4 n c with
   | true=>some (c-n+1)
   | false=>none
  | none=>none
 | .u n :: ts=>match cnt ts with
  | some c=>match J4 n c with
   | true=>some (c-n+1)
   | false=>none
  | none=>none
 | .c _ n m :: ts=>match cnt ts with
  | some c=>match J4 (n+m) c with
   | true=>some (c-(n+m)+1)
   | false=>none
  | none=>none
theorem qcj {R:Type}:∀ (ts:List Tk) (k:List Value->R) (a:Ar ts),ap ts (cu ts k) a=k (enl ts a)
 | [],_,_=>rfl
 | .f _ :: ts,k,(x,r)=>qcj ts _ r
 | .g _ :: ts,k,r=>qcj ts _ r
 | .u _ :: ts,k,r=>qcj ts _ r
 | .c _ _ _ :: ts,k,r=>qcj ts _ r
theorem qck {R:Type}:∀ (ts:List Tk) (f g:Cur ts R),(∀ a,ap ts f a=ap ts g a)->f=g
 | [],_,_,h=>h ()
 | .f _ :: ts,_,_,h=>funext fun x=>qck ts _ _ fun r=>h (x,r)
 | .g _ :: ts,_,_,h=>qck ts _ _ h
 | .u _ :: ts,_,_,h=>qck ts _ _ h
 | .c _ _ _ :: ts,_,_,h=>qck ts _ _ h
theorem qj0 {R:Type}{T:R->Prop}{d:R}(hd:¬T d):∀ (ts:List Tk) (f:Cur ts R) (vs:List Value),T (un ts f d vs)->∃ a,enl ts a=vs/\T (ap ts f a)
 | [],f,vs,h=>by
  cases vs with
  | nil=>exact⟨(),rfl,h⟩
  | cons v vs=>exact absurd h hd
 | .f a :: ts,f,vs,h=>by
  unfold un at h
  split at h
  ·split at h
   ·rename_i x hx
    obtain⟨r,hr,ht⟩:=qj0 hd ts (f x) _ h
    exact⟨(x,r),by simp only[enl,hr,a.enc_dec _ x hx],ht⟩
   ·exact absurd h hd
  ·exact absurd h hd
 | .g n :: ts,f,vs,h=>by
  unfold un at h
  split at h
  ·split at h
   ·rename_i xs vs hn
    have hn:=J0 hn
    obtain⟨r,hr,ht⟩:=qj0 hd ts f _ h
    exact⟨r,by simp[enl,hr,← hn],ht⟩
   ·exact absurd h hd
  ·exact absurd h hd
 | .u n :: ts,f,vs,h=>by
  unfold un at h
  split at h
  ·split at h
   ·rename_i xs vs hn
    have hn:=J0 hn
    obtain⟨r,hr,ht⟩:=qj0 hd ts f _ h
    exact⟨r,by simp[enl,hr,← hn],ht⟩
   ·exact absurd h hd
  ·exact absurd h hd
 | .c g n m :: ts,f,vs,h=>by
  unfold un at h
  split at h
  ·split at h
   ·rename_i hh xs ys vs hn
    simp only[Bool.and_eq_true] at hn
    obtain⟨⟨hg,hn⟩,hm⟩:=hn
    have hg:=J0 hg
    have hn:=J0 hn
    have hm:=J0 hm
    obtain⟨r,hr,ht⟩:=qj0 hd ts f _ h
    subst hg
    exact⟨r,by simp[enl,hr,← hn,← hm],ht⟩
   ·exact absurd h hd
  ·exact absurd h hd
theorem q3a:∀ (ts:List Tk) (c:Nat) (a:Ar ts),cnt ts=some c->(enl ts a).length=c
 | [],c,_,h=>by simp[cnt] at h; subst h; rfl
 | .f _ :: ts,c,(x,r),h=>by
  simp only[cnt] at h
  split at h
  ·rename_i c' hc
   cases h
   simp[enl,q3a ts c' r hc]
  ·cases h
 | .g n :: ts,c,r,h=>by
  simp only[cnt] at h
  split at h
  ·rename_i c' hc
   split at h
   ·cases h
    simp[enl,q3a ts c' r hc]
   ·cases h
  ·cases h
 | .u n :: ts,c,r,h=>by
  simp only[cnt] at h
  split at h
  ·rename_i c' hc
   split at h
   ·cases h
    simp[enl,q3a ts c' r hc]
   ·cases h
  ·cases h
 | .c _ n m :: ts,c,r,h=>by
  simp only[cnt] at h
  split at h
  ·rename_i c' hc
   split at h
   ·cases h
    simp[enl,q3a ts c' r hc]
   ·cases h
  ·cases h
theorem q6t {R:Type}{d:R}:∀ (ts:List Tk) (c:Nat) (f:Cur ts R) (a:Ar ts),cnt ts=some c->un ts f d (enl ts a)=ap ts f a
 | [],_,_,_,_=>rfl
 | .f lf :: ts,c,f,(x,r),h=>by
  simp only[cnt] at h
  split at h
  ·rename_i c' hc
   simp only[un,enl,lf.dec_enc,ap]
   exact q6t ts c' (f x) r hc
  ·cases h
 | .g n :: ts,c,f,r,h=>by
  simp only[cnt] at h
  split at h
  ·rename_i c' hc
   split at h
   ·rename_i hb
    have hb:=J1 hb
    have hl:=q3a ts c' r hc
    have e:J3 ((enl ts r).take n).toArray.toList.length n=true:=by
     have:((enl ts r).take n).toArray.toList.length=n:=by simp[hl]; omega
     rw[this]; exact J2 n
    simp only[un,enl,e,ap]
    rw[← q6t (d:=d) ts c' f r hc]
    simp
   ·cases h
  ·cases h
 | .u n :: ts,c,f,r,h=>by
  simp only[cnt] at h
  split at h
  ·rename_i c' hc
   split at h
   ·rename_i hb
    have hb:=J1 hb
    have hl:=q3a ts c' r hc
    have e:J3 ((enl ts r).take n).toArray.toList.length n=true:=by
     have:((enl ts r).take n).toArray.toList.length=n:=by simp[hl]; omega
     rw[this]; exact J2 n
    simp only[un,enl,e,ap]
    rw[← q6t (d:=d) ts c' f r hc]
    simp
   ·cases h
  ·cases h
 | .c g n m :: ts,c,f,r,h=>by
  simp only[cnt] at h
  split at h
  ·rename_i c' hc
   split at h
   ·rename_i hb
    have hb:=J1 hb
    have hl:=q3a ts c' r hc
    have e1:J3 ((enl ts r).take n).toArray.toList.length n=true:=by
     have:((enl ts r).take n).toArray.toList.length=n:=by simp[hl]; omega
     rw[this]; exact J2 n
    have e2:J3 (((enl ts r).drop n).take m).toArray.toList.length m=true:=by
     have:(((enl ts r).drop n).take m).toArray.toList.length=m:=by simp[hl]; omega
     rw[this]; exact J2 m
    have e3:J3 g g=true:=J2 g
    simp only[un,enl,e1,e2,e3,ap,Bool.and_true]
    rw[← q6t (d:=d) ts c' f r hc]
    simp only[List.append_assoc,List.take_append_drop]
   ·cases h
  ·cases h
abbrev WP:=World->Prop
abbrev nF:WP:=fun _=>False
theorem qe4 {ts:List Tk}{f:Cur ts WP}{vs:List Value}{w:World}(h:un ts f nF vs w):∃ a,enl ts a=vs/\ap ts f a w :=
 qj0 (T:=fun p=>p w) (fun h=>h) ts f vs h
def nT:(ts:List Tk)->Cur ts WP->Cur ts (World->Nat)->Nat->Cur ts WP
 | [],J,μ,m=>fun w=>J w/\μ w<m
 | .f _ :: ts,J,μ,m=>fun x=>nT ts (J x) (μ x) m
 | .g _ :: ts,J,μ,m=>nT ts J μ m
 | .u _ :: ts,J,μ,m=>nT ts J μ m
 | .c _ _ _ :: ts,J,μ,m=>nT ts J μ m
theorem qj1:∀ (ts:List Tk) (J:Cur ts WP) (μ:Cur ts (World->Nat)) (m:Nat) (a:Ar ts) (w:World),ap ts (nT ts J μ m) a w=(ap ts J a w/\ap ts μ a w<m)
 | [],_,_,_,_,_=>rfl
 | .f _ :: ts,J,μ,m,(x,r),w=>qj1 ts (J x) (μ x) m r w
 | .g _ :: ts,J,μ,m,r,w=>qj1 ts J μ m r w
 | .u _ :: ts,J,μ,m,r,w=>qj1 ts J μ m r w
 | .c _ _ _ :: ts,J,μ,m,r,w=>qj1 ts J μ m r w
def uR0 (ts:List Tk)(F:Cur ts WP):Rho->List Value->World->Prop:=fun _=>un ts F nF
def uR1 (t1 ts:List Tk)(F:Cur t1 WP->Cur ts WP):Rho->List Value->World->Prop
 | N :: _=>un ts (F (cu t1 N)) nF
 | []=>fun _=>nF
def uR2 (t1 t2 ts:List Tk)(F:Cur t1 WP->Cur t2 WP->Cur ts WP):Rho->List Value->World->Prop
 | N :: M :: _=>un ts (F (cu t1 N) (cu t2 M)) nF
 | _=>fun _=>nF
section
variable {P:Program}{Γ:Env}{n:Nat}{O:List Ob}{k:Nat}{t1 t2 t3 t4 ts:List Tk}
theorem qo7 {F G:Cur ts WP}{g:List Value->World->Prop}{vs:List Value}{w:World}(hi:∀ a w,ap ts F a w->ap ts G a w)(he:G=cu ts g)(h:un ts F nF vs w):g vs w:=by
 obtain⟨a,rfl,h'⟩:=qe4 h
 have:=hi a w h'
 rw[he,qcj] at this
 exact this
theorem qe5 {F G:Cur ts WP}(hk:q3l O k=some .cut:=by kernel_rfl)(hq:∀ ρ,q2s O k ρ=uR0 ts F ρ:=by intros; kernel_rfl)(hi:∀ a w,ap ts F a w->ap ts G a w:=by intros; rename_i h; exact h.out)(he:∀ ρ,G=cu ts (q1l P Γ n O k ρ):=by intros; kernel_rfl):q0e P Γ n O k :=
 q0q (.inl hk) fun ρ vs w h=>by
  rw[hq] at h
  exact qo7 hi (he ρ) h
theorem hCut1 {F G:Cur t1 WP->Cur ts WP}(hk:q3l O k=some .cut:=by kernel_rfl)(hq:∀ ρ,q2s O k ρ=uR1 t1 ts F ρ:=by intros; kernel_rfl)(hi:∀ N a w,ap ts (F N) a w->ap ts (G N) a w:=by intros; rename_i h; exact h.out)(he:∀ N ρ,G (cu t1 N)=cu ts (q1l P Γ n O k (N :: ρ)):=by intros; kernel_rfl):q0e P Γ n O k :=
 q0q (.inl hk) fun ρ vs w h=>by
  rw[hq] at h
  match ρ with
  | []=>exact h.elim
  | N :: ρ=>exact qo7 (hi _) (he N ρ) h
def LI (ts:List Tk)(L:Cur ts WP)(B:Cur ts WP->Cur ts WP):Prop :=
 ∀ a w,ap ts L a w->∃ (J:Cur ts WP) (μ:Cur ts (World->Nat)),ap ts J a w/\∀ a' w',ap ts J a' w'->ap ts (B (nT ts J μ (ap ts μ a' w'))) a' w'
theorem qe6 {ts:List Tk}{L:Cur ts WP}{B:Cur ts WP->Cur ts WP}{g:Rho->List Value->World->Prop}{ρ:Rho}{vs:List Value}{w:World}(hw:(cnt ts).isSome=true)(hl:LI ts L B)(he:∀ N,B (cu ts N)=cu ts (g (N :: ρ)))(h:un ts L nF vs w) :
  ∃ (I:List Value->World->Prop) (μ:List Value->World->Nat),I vs w/\∀ vs w,I vs w->g (mkN I μ vs w :: ρ) vs w:=by
 obtain⟨c,hc⟩:=Option.isSome_iff_exists.1 hw
 obtain⟨a,rfl,h'⟩:=qe4 h
 obtain⟨J,μ,h0,hr⟩:=hl a w h'
 refine⟨un ts J nF,un ts μ (fun _=>0),by rw[q6t ts c J a hc]; exact h0,fun vs' w' hI=>?_⟩
 obtain⟨a',rfl,hJ⟩:=qe4 hI
 have h1:=hr a' w' hJ
 have e:cu ts (mkN (un ts J nF) (un ts μ fun _=>0) (enl ts a') w')=nT ts J μ (ap ts μ a' w'):=by
  apply qck
  intro b
  funext u
  rw[qj1,qcj]
  unfold mkN
  rw[q6t ts c J b hc,q6t ts c μ b hc,q6t ts c μ a' hc]
 rw[← e,he,qcj] at h1
 exact h1
theorem q0c {L:Cur ts WP}(B:Cur ts WP->Cur ts WP)(hl:LI ts L B)(hw:(cnt ts).isSome=true:=by kernel_rfl)(hk:q3l O k=some .loop:=by kernel_rfl)(hq:∀ ρ,q2s O k ρ=uR0 ts L ρ:=by intros; kernel_rfl)(he:∀ N ρ,B (cu ts N)=cu ts (q1l P Γ n O k (N :: ρ)):=by intros; kernel_rfl):q0e P Γ n O k :=
 q2k hk fun ρ vs w h=>by
  rw[hq] at h
  exact qe6 hw hl (fun N=>he N ρ) h
theorem qj2 {L:Cur t1 WP->Cur ts WP}(B:Cur t1 WP->Cur ts WP->Cur ts WP)(hl:∀ M,LI ts (L M) (B M))(hw:(cnt ts).isSome=true:=by kernel_rfl)(hk:q3l O k=some .loop:=by kernel_rfl)(hq:∀ ρ,q2s O k ρ=uR1 t1 ts L ρ:=by intros; kernel_rfl)(he:∀ M N ρ,B (cu t1 M) (cu ts N)=cu ts (q1l P Γ n O k (N :: M :: ρ)):=by intros; kernel_rfl):q0e P Γ n O k :=
 q2k hk fun ρ vs w h=>by
  rw[hq] at h
  match ρ with
  | []=>exact h.elim
  | M :: ρ=>exact qe6 hw (hl _) (fun N=>he M N (ρ)) h
theorem hLoop2 {L:Cur t1 WP->Cur t2 WP->Cur ts WP}(B:Cur t1 WP->Cur t2 WP->Cur ts WP->Cur ts WP)(hl:∀ M X,LI ts (L M X) (B M X))(hw:(cnt ts).isSome=true:=by kernel_rfl)(hk:q3l O k=some .loop:=by kernel_rfl)(hq:∀ ρ,q2s O k ρ=uR2 t1 t2 ts L ρ:=by intros; kernel_rfl)(he:∀ M X N ρ,B (cu t1 M) (cu t2 X) (cu ts N)=cu ts (q1l P Γ n O k (N :: M :: X :: ρ)):=by intros; kernel_rfl):q0e P Γ n O k :=
 q2k hk fun ρ vs w h=>by
  rw[hq] at h
  match ρ with
  | []=>exact h.elim
  | [_]=>exact h.elim
  | M :: X :: ρ=>exact qe6 hw (hl _ _) (fun N=>he M X N ρ) h
theorem hEnd {m:Nat}(h:obAt O m=none:=by kernel_rfl):∀ k,m<=k->q0e P Γ n O k:=fun _ hk=>q1a h hk
theorem q08 {m:Nat}(h:q0e P Γ n O m)(r:∀ k,m+1<=k->q0e P Γ n O k):∀ k,m<=k->q0e P Γ n O k:=fun k hk=>by
 rcases Nat.eq_or_lt_of_le hk with e | hlt
 ·subst e; exact h
 ·exact r k hlt
end
def obF (P:Program)(Γ:Env)(fn:Func)(x:A)(K:VW):List Ob:=obs P Γ fn.ntmps x (fn.body.getD .skip) (fun _=>retQ P fn.results K)
def qml (ts:List Tk)(n:Nat):Bool:=match cnt ts with
 | some c=>J4 c n
 | none=>false
theorem okS {P:Program}{Γ:Env}{f:FuncId}{fn:Func}{ts:List Tk}{F:VW->Cur ts WP}{x:VW->A}(G:VW->Cur ts WP)(hm:P.follows .mixedOrders=true)(hΓ:q4t P Γ)(hc:∀ args w,(callFunc f args).run P w=.ok (.enter f args) w)
  (hf:P.funcs[f]?=some fn) (ho:∀ K k,0<=k->q0e P Γ fn.ntmps (obF P Γ fn (x K) K) k)
  (hb:fn.body.isSome=true:=by kernel_rfl) (hn:qml ts fn.ntmps=true:=by kernel_rfl) (hi:∀ K a w,ap ts (F K) a w->ap ts (G K) a w:=by intros; rename_i h; exact h.out) (he:∀ K,G K=cu ts fun vs=>W P Γ fn.ntmps (x K) (fn.body.getD .skip) [] (retQ P fn.results K) [] (q1d vs):=by intros; kernel_rfl) (hp:q3n Γ pk=none:=by rfl):q22 P f (fun vs w K=>un ts (F K) nF vs w):=by
 refine⟨hc,fun vs w K h=>?_⟩
 obtain⟨a,rfl,h'⟩:=qe4 h
 have h:=hi K a w h'
 rw[he,qcj] at h
 obtain⟨code,hcode⟩:=Option.isSome_iff_exists.1 hb
 have e:fn.body.getD .skip=code:=by rw[hcode]; rfl
 unfold qml at hn
 split at hn
 ·rename_i c hcn
  have hlen:(enl ts a).length<=fn.ntmps:=by rw[q3a ts c a hcn]; exact J1 hn
  have hob:=q15 (fun k=>ho K k (Nat.zero_le k))
  unfold obF at hob
  rw[e] at h hob
  exact q0z hm hΓ hf hcode (x K) K hob hlen h hp
 ·cases hn
def kk (ts:List Tk)(Kv:VW):Cur ts WP:=cu ts fun vs=>Kv (vs.headD .nilIface)
def qn:Nat->RA->RA
 | 0,x=>x
 | n+1,x=>RA.run (qn n x)
def qk:Nat->RA->RA
 | 0,x=>x
 | n+1,x=>RA.skp (qk n x)
def ql:A:=A.leaf
def qe (n:Nat):A:=A.reg (qn n RA.done)
def qr (n:Nat)(x:A):A:=A.seq (A.reg (qn n RA.done)) x
def qs (x y:A):A:=A.seq x y
def qc (x y:A):A:=A.cond x y
def qb (x:A):A:=A.blk x
def dp:List Nat->DA->DA
 | [],x=>x
 | i :: l,x=>DA.pur i (dp l x)
