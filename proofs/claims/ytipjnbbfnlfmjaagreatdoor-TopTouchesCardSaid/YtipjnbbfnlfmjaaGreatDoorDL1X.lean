/- Tenders in boxes; what a law's start says. Conditions: none. -/
import Derived.Test.YtipjnbbfnlfmjaaGreatDoorDRTY
namespace Go.Proofs.YtipjnbbfnlfmjaaGreatDoor
open Go Pw Dp
section
variable {w w' u:World}{x y:T43}{t:Td}{F:Nat->Prop}{Z:List Sl}
theorem Ow.frY {α:Type}{n:Nat}{enc:α->List Value}{s:Sl}{l:List α}(h:Ow n enc w s l)(hn:∀ a,(enc a).length=n)(hF:∀ b,F b->∃ y:T43,Row w b y.cs/\∀ a∈l,enc a≠y.cs.take n)(hF':∀ b,F b->∃ y:T43,Row w' b y.cs)(hf:Fr F w w'):Ow n enc w' s l:=by
 cases l with
 | nil =>
  refine⟨h.len,by simpa using h.own.1,?_⟩
  rcases h.own.2 with h1 | ⟨b,cs,h1,h2,h3,h4,h5⟩
  ·exact .inl h1
  ·by_cases hb:F b
   ·obtain⟨y,hy,_⟩:=hF b hb
    obtain⟨y',hy'⟩:=hF' b hb
    have:=h2.uniq2 hy
    exact .inr ⟨b,y'.cs,h1,hy',by rw[← h3,this]; rfl,h4,rfl⟩
   ·exact .inr ⟨b,cs,h1,hf.row h2 hb,h3,h4,h5⟩
 | cons a l =>
  refine h.frF hf fun b hb hFb=>?_
  obtain⟨y,hy,hc⟩:=hF b hFb
  rcases h.own.2 with⟨h1,_,_⟩ | ⟨b',cs,h1,h2,_,_,h5⟩
  ·obtain⟨ad,ha,_⟩:=hb
   rw[h1] at ha
   cases ha
  ·obtain⟨ad,ha,rfl⟩:=hb
   rw[h1] at ha
   cases ha
   have:=h2.uniq hy
   subst this
   refine hc a (List.mem_cons_self ..) ?_
   have h6:=congrArg (List.take n) h5
   rw[List.take_take,Nat.min_eq_left (by rw[q0a hn]; simp only[List.length_cons,Nat.add_mul]; omega)] at h6
   rw[h6,List.flatMap_cons,← hn a,List.take_left]
theorem XQ.frY {P:Nat->Prop}(hF:∀ b,F b->∃ y:T43,Row w b y.cs)(hf:Fr F w w'):∀ {e:Fm} {c:XC},XQ P w e c->XQ P w' e c
 | .num _ _,_,h=>h
 | .name _,_,h=>h
 | .op _ _ _,_,⟨ca,cb,i,h1,h2,h5,hi,h3,h4⟩=>⟨ca,cb,i,h1,h2,hf.row h5 fun hb=>by
   obtain⟨y,hy⟩:=hF _ hb
   exact absurd (hy.uniq2 h5) (by show ¬(20:Nat)=10; decide),hi,h3.frY hF hf,h4.frY hF hf⟩
theorem TP0.fr (h:TP0 w x t)(hf:Fr F0 w w'):TP0 w' x t :=
 { h with lots:=h.lots.fr hf,crit:=h.crit.fr hf,reqs:=h.reqs.fr hf,fm:=h.fm.fr hf,ties:=h.ties.fr hf }
theorem TW.fr (h:TW w x t Z)(hf:Fr F0 w w'):TW w' x t Z :=
 ⟨h.tp.fr hf,h.o1.fr hf,h.o2.fr hf,h.o3.fr hf,h.o4.fr hf,h.fm.imp fun _ hx=>hx.frE hf,h.ne,h.io.fr hf⟩
theorem TE.fr {lo:Nat}(h:TE lo w x t Z)(hf:Fr F0 w w'):TE lo w' x t Z:=⟨h.tw.fr hf,h.oz.fr hf,h.nw⟩
theorem TW.ro (h:TW w x t Z)(ho:Ow 1 encZ w x.f13 Z):RS0 w x t Z :=
 ⟨h.tp.name,h.tp.low,h.tp.high,h.fm,h.tp.most,ho,h.io,h.tp.budget,h.tp.t1,h.tp.t2,h.tp.t3,h.tp.t4,h.tp.t5⟩
theorem RS0.frY (h:RS0 w x t Z)(hF:∀ b,F b->∃ y:T43,Row w b y.cs)(hF':∀ b,F b->∃ y:T43,Row w' b y.cs)(hf:Fr F w w'):RS0 w' x t Z :=
 { h with
  fm:=h.fm.imp fun _ hx=>hx.frY hF hf
  combos:=Ow.frY h.combos q1i (fun b hb=>let ⟨y,hy⟩:=hF b hb; ⟨y,hy,fun a _ e=>by simp[encZ,T43.cs] at e⟩) hF' hf
  io:=⟨h.io.1,fun i a b=>Ow.frY (h.io.2 i a b) encI_length (fun b hb=>let ⟨y,hy⟩:=hF b hb; ⟨y,hy,fun a _ e=>by simp[encI,T43.cs] at e⟩) hF' hf⟩ }
theorem TE.frB {lo:Nat}(h:TE lo w x t Z)(hlo:∀ b,F b->b<lo)(hF:∀ b,F b->∃ y:T43,Row w b y.cs)(hF':∀ b,F b->∃ y:T43,Row w' b y.cs)(hf:Fr F w w'):TE lo w' x t Z:=by
 have hn:=h.nw
 refine TE.of ((h.tw.ro h.oz).frY hF hF' hf) (h.tw.o1.frF hf fun b hb e=>?_) (h.tw.o2.frF hf fun b hb e=>?_) (h.tw.o3.frF hf fun b hb e=>?_) (h.tw.o4.frF hf fun b hb e=>?_) h.tw.ne hn
 ·have:=hn b (.inl hb); have:=hlo b e; omega
 ·have:=hn b (.inr (.inl hb)); have:=hlo b e; omega
 ·have:=hn b (.inr (.inr (.inl hb))); have:=hlo b e; omega
 ·have:=hn b (.inr (.inr (.inr hb))); have:=hlo b e; omega
def zR:T43:=⟨ofL [],⟨none,0,0⟩,⟨none,0,0⟩,⟨none,0,0⟩,0,0,ofL [],0,0,ofL [],⟨none,0,0⟩,⟨none,0,0⟩,0,⟨none,0,0⟩,0,0,0,0,0,0⟩
theorem TW.frZ (h:TW w x t Z)(ho:Ow 1 encZ w x.f13 Z)(hF:∀ b,F b->Row w b zT)(hF':∀ b,F b->∃ y:T43,Row w' b y.cs)(hf:Fr F w w'):TE 0 w' x t Z:=by
 have hY:∀ b,F b->∃ y:T43,Row w b y.cs:=fun b hb=>⟨zR,hF b hb⟩
 refine TE.of ((h.ro ho).frY hY hF' hf) (Ow.frY h.o1 q0s (fun b hb=>⟨zR,hF b hb,fun a _ e=>?_⟩) hF' hf) (Ow.frY h.o2 q10 (fun b hb=>⟨zR,hF b hb,fun a _ e=>?_⟩) hF' hf)
  (Ow.frY h.o3 q1j (fun b hb=>⟨zR,hF b hb,fun a _ e=>?_⟩) hF' hf) (Ow.frY h.o4 q0w (fun b hb=>⟨zR,hF b hb,fun a ha e=>?_⟩) hF' hf) h.ne fun _ _=>Nat.zero_le _
 ·simp[encL,T43.cs] at e
 ·simp[encC,T43.cs] at e
 ·simp[encR,T43.cs] at e
 ·simp[encB,zR,T43.cs] at e
  exact h.ne a ha (q0x.1 e)
structure TD (D:Nat->Prop)(w:World)(x:T43)(t:Td)(Z:List Sl):Prop where
 tw:TW w x t Z
 oz:Ow 1 encZ w x.f13 Z
 dv:∀ b,D b->(t.lots≠[]->¬inB x.f1 b)/\(t.crit≠[]->¬inB x.f2 b)/\(t.reqs≠[]->¬inB x.f3 b)/\(t.ties≠[]->¬inB x.f11 b)
theorem TD.te {D:Nat->Prop}(h:TD D w x t Z):TE 0 w x t Z:=⟨h.tw,h.oz,fun _ _=>Nat.zero_le _⟩
theorem TD.tp {D:Nat->Prop}(h:TD D w x t Z):TP w x t:=h.te.tp
theorem TD.fr {D:Nat->Prop}(h:TD D w x t Z)(hf:Fr F0 w w'):TD D w' x t Z:=⟨h.tw.fr hf,h.oz.fr hf,h.dv⟩
theorem Ow.frD {α:Type}{n:Nat}{enc:α->List Value}{s:Sl}{l:List α}(h:Ow n enc w s l)(hn:∀ a,(enc a).length=n)(hd:l≠[]->∀ b,F b->¬inB s b)(hF:∀ b,F b->∃ y:T43,Row w b y.cs)(hF':∀ b,F b->∃ y:T43,Row w' b y.cs)(hf:Fr F w w'):Ow n enc w' s l:=by
 cases l with
 | nil=>exact Ow.frY h hn (fun b hb=>let ⟨y,hy⟩:=hF b hb; ⟨y,hy,fun a ha=>by cases ha⟩) hF' hf
 | cons a l=>exact h.frF hf fun b hb hFb=>hd (by simp) b hFb hb
theorem TD.frB {D:Nat->Prop}(h:TD D w x t Z)(hD:∀ b,F b->D b)(hF:∀ b,F b->∃ y:T43,Row w b y.cs)(hF':∀ b,F b->∃ y:T43,Row w' b y.cs)(hf:Fr F w w'):TD D w' x t Z:=by
 have k:=TE.of (lo:=0) ((h.tw.ro h.oz).frY hF hF' hf) (Ow.frD h.tw.o1 q0s (fun hl b hb=>(h.dv b (hD b hb)).1 hl) hF hF' hf) (Ow.frD h.tw.o2 q10 (fun hl b hb=>(h.dv b (hD b hb)).2.1 hl) hF hF' hf)
  (Ow.frD h.tw.o3 q1j (fun hl b hb=>(h.dv b (hD b hb)).2.2.1 hl) hF hF' hf) (Ow.frD h.tw.o4 q0w (fun hl b hb=>(h.dv b (hD b hb)).2.2.2 hl) hF hF' hf) h.tw.ne fun _ _=>Nat.zero_le _
 exact⟨k.tw,k.oz,h.dv⟩
theorem Ow.noZ {α:Type}{n b:Nat}{enc:α->List Value}{s:Sl}{l:List α}(h:Ow n enc w s l)(hn:∀ a,(enc a).length=n)(hc:∀ a∈l,enc a≠zT.take n)(hr:Row w b zT)(hl:l≠[]):¬inB s b:=by
 intro hb
 cases l with
 | nil=>exact hl rfl
 | cons a l =>
  rcases h.own.2 with⟨h1,_,_⟩ | ⟨b',cs,h1,h2,_,_,h5⟩
  ·obtain⟨ad,ha,_⟩:=hb
   rw[h1] at ha
   cases ha
  ·obtain⟨ad,ha,rfl⟩:=hb
   rw[h1] at ha
   cases ha
   have:=h2.uniq hr
   subst this
   refine hc a (List.mem_cons_self ..) ?_
   have h6:=congrArg (List.take n) h5
   rw[List.take_take,Nat.min_eq_left (by rw[q0a hn]; simp only[List.length_cons,Nat.add_mul]; omega)] at h6
   rw[h6,List.flatMap_cons,← hn a,List.take_left]
theorem TW.dvZ (h:TW w x t Z){b:Nat}(hr:Row w b zT):(t.lots≠[]->¬inB x.f1 b)/\(t.crit≠[]->¬inB x.f2 b)/\(t.reqs≠[]->¬inB x.f3 b)/\(t.ties≠[]->¬inB x.f11 b):=by
 refine⟨Ow.noZ h.o1 q0s (fun a _ e=>?_) hr,Ow.noZ h.o2 q10 (fun a _ e=>?_) hr,Ow.noZ h.o3 q1j (fun a _ e=>?_) hr,Ow.noZ h.o4 q0w (fun a ha e=>?_) hr⟩
 ·simp[encL,zT,T43.cs] at e
 ·simp[encC,zT,T43.cs] at e
 ·simp[encR,zT,T43.cs] at e
 ·simp[encB,zT,T43.cs] at e
  exact h.ne a ha (q0x.1 e)
theorem qqp {b1 b2:Nat}{r1 r2:T43}{t1 t2:Td}{Z1 Z2:List Sl}{S J:World->Prop}(h1:Row w b1 zT)(h2:Row w b2 zT)(hne:b1≠b2)(T1:TW w r1 t1 Z1)(O1:Ow 1 encZ w r1.f13 Z1)(T2:TW w r2 t2 Z2)(O2:Ow 1 encZ w r2.f13 Z2)
  (hS:∀ u,Fr (fun c=>c=b1) w u->S u) (hJ:∀ u,Fr (fun c=>c=b1\/c=b2) w u->Row u b1 r1.cs->Row u b2 r2.cs->TD (fun c=>c=b1\/c=b2) u r1 t1 Z1->TD (fun c=>c=b1\/c=b2) u r2 t2 Z2->J u):stN w ⟨b1,0,none⟩ r1.cs fun w18=>S w18/\stN w18 ⟨b2,0,none⟩ r2.cs J:=by
 refine qg7 h1 rfl fun w18 f18 q1=>⟨hS w18 f18,?_⟩
 refine qg7 (f18.row h2 fun e=>hne e.symm) rfl fun w19 f19 q2=>?_
 have f:Fr (fun c=>c=b1\/c=b2) w w19:=(f18.mono fun _ h=>.inl h).trans f19 fun _ h _=>.inr h
 have hF:∀ b,b=b1\/b=b2->Row w b zT:=by rintro b (rfl | rfl)<;>assumption
 have q1:=f19.row q1 hne
 have hF':∀ b,b=b1\/b=b2->∃ y:T43,Row w19 b y.cs:=by
  rintro b (rfl | rfl)
  ·exact⟨_,q1⟩
  ·exact⟨_,q2⟩
 have e1:=T1.frZ O1 hF hF' f
 have e2:=T2.frZ O2 hF hF' f
 exact hJ w19 f q1 q2 ⟨e1.tw,e1.oz,fun b hb=>T1.dvZ (hF b hb)⟩ ⟨e2.tw,e2.oz,fun b hb=>T2.dvZ (hF b hb)⟩
theorem qhx {b k lo:Nat}{q0 q1 q2:Int}{J:World->Prop}(hr:Row w b x.cs)(hT:TE lo w x t Z)(hF:FitK (k+1) t)(hJ:∀ u x' Z',Fr (fun c=>c=b) w u->Row u b x'.cs->TE w.heap.size u x' (qny t q0 q1 q2) Z'->J u) :
  z0y_sh x q0 q1 q2 (fun r w40=>stN w40 ⟨b,0,none⟩ r.cs J) w:=by
 refine qlz hT hF fun w40 r Z' f40 U=>?_
 have hr40:=f40.row hr fun h=>h
 refine qg7 hr40 rfl fun w42 f42 hr42=>?_
 have hb:=hr.lt
 refine hJ w42 r Z' ((f40.mono fun _ h=>h.elim).trans f42 fun _ h _=>h) hr42 (U.frB (F:=fun c=>c=b) (fun c hc=>by rw[show c=b from hc]; exact hb) (fun c hc=>⟨x,by rw[show c=b from hc]; exact hr40⟩) (fun c hc=>⟨r,by rw[show c=b from hc]; exact hr42⟩) f42)
end
