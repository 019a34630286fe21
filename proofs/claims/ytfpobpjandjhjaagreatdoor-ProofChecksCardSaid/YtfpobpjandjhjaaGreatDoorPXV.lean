/- ProofAccepts. Conditions: none. -/
import Derived.Test.YtfpobpjandjhjaaGreatDoorPCE
namespace Go.Proofs.YtfpobpjandjhjaaGreatDoor
open Go Pw
section
variable {w w' w0 wM wB:World}{s s0 s1 s2 t ns:Sl}{p:Pr}{l T:List Int}{N:List Nd}{cs:List NdC}{pts bnd:Int}{L:List (Nat × List Value)}
theorem V.nvr (h:V wM wB L [] [] ns t T cs N)(hN:N.length<2^47):NV wB ns N:=by
 refine⟨⟨cs,h.ow.vw,h.nv.len,fun i c n hc hn=>?_⟩,hN⟩
 have:=h.nv.at hc hn
 exact⟨⟨this.lot,this.num,this.den⟩,this.nx.vw,this.i1,this.i2⟩
end
open Go Pw
section
variable {w w' w0:World}{s s0 s1 s2 x0 x1 x2 x79 x82:Sl}{p:Pr}{l T:List Int}{N:List Nd}{x80 x81:Int}{xb rb ab eb:Nat}
theorem qbx {K:Bool->World->Prop}{M:World->Prop}(hP:PV w x0 x1 x2 p)(hch:p.ch.length<=14)(hxr:Row w xb (prC x0 x1 x2 p.most p.budget))(hT:VI w x79 T)(hTl:T.length<2^63)(hN:NV w x82 N)(hM:∀ u,Fr F0 w u->M u) :
 let w83:World:=w.alloc (Obj.cells #[(Value.slice none 0 0),(Value.int .i64 (0:Int)),(Value.int .i64 (0:Int)),(Value.slice none 0 0)] 45)
 stN w83 (Addr.mk w.heap.size 0 none) [(Value.slice x79.p x79.l x79.c),(Value.int .i64 x80),(Value.int .i64 x81),(Value.slice x82.p x82.l x82.c)] fun (w84:World)=>∃ x85:Sl,w84.cell? (Addr.mk xb 0 none)=some (Value.slice x85.p x85.l x85.c)/\∃ x86:Sl,w84.cell? ((Addr.mk xb 0 none).add 1)=some (Value.slice x86.p x86.l x86.c)/\∃ x87:Sl,w84.cell? ((Addr.mk xb 0 none).add 2)=some (Value.slice x87.p x87.l x87.c)/\∃ x88:Int,w84.cell? ((Addr.mk xb 0 none).add 3)=some (Value.int .i64 x88)/\∃ x89:Int,w84.cell? ((Addr.mk xb 0 none).add 4)=some (Value.int .i64 x89)/\∃ x90:Sl,w84.cell? (Addr.mk w.heap.size 0 none)=some (Value.slice x90.p x90.l x90.c)/\∃ x91:Int,w84.cell? (Addr.mk w.heap.size 1 none)=some (Value.int .i64 x91)/\∃ x92:Int,w84.cell? (Addr.mk w.heap.size 2 none)=some (Value.int .i64 x92)/\∃ x93:Sl,w84.cell? (Addr.mk w.heap.size 3 none)=some (Value.slice x93.p x93.l x93.c)/\z3s_sh x85 x86 x87 x88 x89 x90 x91 x92 x93 (fun (r95:Int) (w94:World)=>∃ x96:Sl,w94.cell? (Addr.mk xb 0 none)=some (Value.slice x96.p x96.l x96.c)/\∃ x97:Sl,w94.cell? ((Addr.mk xb 0 none).add 1)=some (Value.slice x97.p x97.l x97.c)/\∃ x98:Sl,w94.cell? ((Addr.mk xb 0 none).add 2)=some (Value.slice x98.p x98.l x98.c)/\∃ x99:Int,w94.cell? ((Addr.mk xb 0 none).add 3)=some (Value.int .i64 x99)/\∃ x100:Int,w94.cell? ((Addr.mk xb 0 none).add 4)=some (Value.int .i64 x100)/\∃ x101:Sl,w94.cell? (Addr.mk w.heap.size 0 none)=some (Value.slice x101.p x101.l x101.c)/\∃ x102:Int,w94.cell? (Addr.mk w.heap.size 1 none)=some (Value.int .i64 x102)/\∃ x103:Int,w94.cell? (Addr.mk w.heap.size 2 none)=some (Value.int .i64 x103)/\∃ x104:Sl,w94.cell? (Addr.mk w.heap.size 3 none)=some (Value.slice x104.p x104.l x104.c)/\z1u_sh x96 x97 x98 x99 x100 x101 x102 x103 x104 (fun (r106:Int) (w105:World)=>cnd (r95 != r106)
  (K false w105)
  (let w107:World:=w105.drew
 ∃ S108:World->Prop,S108 w107/\cnd (r95 == (0:Int))
  (∃ x109:Sl,(∀ w':World,S108 w'->w'.cell? (Addr.mk xb 0 none)=some (Value.slice x109.p x109.l x109.c))/\∃ x110:Sl,(∀ w':World,S108 w'->w'.cell? ((Addr.mk xb 0 none).add 1)=some (Value.slice x110.p x110.l x110.c))/\∃ x111:Sl,(∀ w':World,S108 w'->w'.cell? ((Addr.mk xb 0 none).add 2)=some (Value.slice x111.p x111.l x111.c))/\∃ x112:Int,(∀ w':World,S108 w'->w'.cell? ((Addr.mk xb 0 none).add 3)=some (Value.int .i64 x112))/\∃ x113:Int,(∀ w':World,S108 w'->w'.cell? ((Addr.mk xb 0 none).add 4)=some (Value.int .i64 x113))/\z0l_sh x109 x110 x111 x112 x113 (fun (r115:Int) (w114:World)=>S108 w114/\cnd (decide (r115<(3000:Int)))
  (∃ x116:Sl,(∀ w':World,S108 w'->w'.cell? (Addr.mk w.heap.size 0 none)=some (Value.slice x116.p x116.l x116.c))/\∃ x117:Sl,(∀ w':World,S108 w'->w'.cell? (Addr.mk xb 0 none)=some (Value.slice x117.p x117.l x117.c))/\∃ x118:Sl,(∀ w':World,S108 w'->w'.cell? ((Addr.mk xb 0 none).add 1)=some (Value.slice x118.p x118.l x118.c))/\∃ x119:Sl,(∀ w':World,S108 w'->w'.cell? ((Addr.mk xb 0 none).add 2)=some (Value.slice x119.p x119.l x119.c))/\∃ x120:Int,(∀ w':World,S108 w'->w'.cell? ((Addr.mk xb 0 none).add 3)=some (Value.int .i64 x120))/\∃ x121:Int,(∀ w':World,S108 w'->w'.cell? ((Addr.mk xb 0 none).add 4)=some (Value.int .i64 x121))/\z20_sh x117 x118 x119 x120 x121 (fun (r123:Sl) (w122:World)=>S108 w122/\z21_sh x116 r123 (fun (r125:Bool) (w124:World)=>S108 w124/\cnd (!r125)
  (K false w124)
  (M w124)) w122) w114)
  (M w114)) w107)
  (M w107))) w94) w84:=by
 refine q19 (w0:=w) (l:=[]) rfl Mem.nil fun w84 m=>?_
 have hx:=m.1.row hxr fun h=>h
 refine⟨x0,hx.at,x1,hx.at,x2,hx.at,_,hx.at,_,hx.at,x79,m.ld 0,_,m.ld 0,_,m.ld 0,x82,m.ld 0,q4d (hP.fr m.1) (hT.fr m.1) hTl (hN.fr m.1) fun w94 f94=>?_⟩
 have m:=m.fr f94
 have hx:=m.1.row hxr fun h=>h
 refine⟨x0,hx.at,x1,hx.at,x2,hx.at,_,hx.at,_,hx.at,x79,m.ld 0,_,m.ld 0,_,m.ld 0,x82,m.ld 0,qeb (hP.fr m.1) (hT.fr m.1) hTl (hN.fr m.1) fun w105 f105=>q0u.2 ⟨fun h=>absurd rfl h,fun _=>?_⟩⟩
 have m:=m.fr f105
 intro w107
 have m:Mem w w107 _:=m.drew
 have hS:∀ {u},Fr F0 w107 u->Row u xb (prC x0 x1 x2 p.most p.budget)/\Row u w.heap.size (rsC x79 x80 x81 x82):=fun h=>⟨(m.1.t h).row hxr fun h=>h,h.row (m.row 0) fun h=>h⟩
 refine⟨fun u=>Row u xb (prC x0 x1 x2 p.most p.budget)/\Row u w.heap.size (rsC x79 x80 x81 x82),hS Fr.refl,q09.2 ⟨fun hz=>?_,fun _=>hM w107 m.1⟩⟩
 obtain⟨hp,hbest⟩:=qkq hz
 refine⟨x0,fun _ h=>h.1.at,x1,fun _ h=>h.1.at,x2,fun _ h=>h.1.at,_,fun _ h=>h.1.at,_,fun _ h=>h.1.at,q9w (hP.fr m.1) (qkr hch hp.few) fun w114 f114=>⟨hS f114,?_⟩⟩
 generalize (decide (((q2g p p.lots:Nat):Int)<3000))=q
 cases q with
 | false=>exact hM w114 (m.1.t f114)
 | true =>
 rw[q17]
 refine⟨x79,fun _ h=>h.2.at,x0,fun _ h=>h.1.at,x1,fun _ h=>h.1.at,x2,fun _ h=>h.1.at,_,fun _ h=>h.1.at,_,fun _ h=>h.1.at,qd2 hp (hP.fr (m.1.t f114)) fun w122 sb f122 hvb=>⟨hS (f114.t f122),qi8 (hT.fr (m.1.t (f114.t f122))) hvb hTl fun w124 f124=>⟨hS ((f114.t f122).t f124),?_⟩⟩⟩
 rw[decide_eq_true (hbest.uniq (qlv hp))]
 exact hM w124 (m.1.t ((f114.t f122).t f124))
theorem qj4 {bb rr aa:Addr}{t33:Sl}{t34 t35:Int}{t1 n1 t2 n2 t3 n3:Sl}{T1 T2 T3:List Int}{N1 N2 N3:List Nd}{p1 b1 p2 b2 p3 b3:Int}{N0:Addr->Bool->Addr->Addr->Sl->Int->Int->World->Prop}{K:Bool->World->Prop}
  (hP:PV w x0 x1 x2 p) (hch:p.ch.length<=14) (hxr:Row w xb (prC x0 x1 x2 p.most p.budget))
  (her:Row w eb [.slice t1.p t1.l t1.c,.int .i64 p1,.int .i64 b1,.slice n1.p n1.l n1.c,.slice t2.p t2.l t2.c,.int .i64 p2,.int .i64 b2,.slice n2.p n2.l n2.c,.slice t3.p t3.l t3.c,.int .i64 p3,.int .i64 b3,.slice n3.p n3.l n3.c])
  (h1:VI w t1 T1/\T1.length<2^63/\NV w n1 N1) (h2:VI w t2 T2/\T2.length<2^63/\NV w n2 N2) (h3:VI w t3 T3/\T3.length<2^63/\NV w n3 N3) (h35:inR .i64 (t35+1)) (hN:∀ u,Fr F0 w u->N0 bb true rr aa t33 t34 (t35+1) u) :
  z07_l1 bb true rr aa ⟨xb,0,none⟩ t33 t34 t35 ⟨some ⟨eb,0,none⟩,3,3⟩ 3 0 N0 K w:=by
 refine⟨⟨fun i u=>∃ i':Nat,i=i'/\i'<=3/\Fr F0 w u,fun i _=>3-i.toNat,⟨0,rfl,by omega,Fr.refl⟩,?_⟩⟩
 rintro i u ⟨i,rfl,hi,hu⟩
 unfold z07_b1
 have he:=hu.row her fun h=>h
 refine q00.2 ⟨fun hlt=>?_,fun _=>⟨h35,hN u hu⟩⟩
 have hi2:i<3:=by omega
 have hfin:∀ v,Fr F0 u v->inR .i64 ((i:Int)+1)/\((bb=bb/\true=true/\rr=rr/\aa=aa/\(⟨xb,0,none⟩:Addr)=⟨xb,0,none⟩/\t33=t33/\t34=t34/\t35=t35/\(⟨some ⟨eb,0,none⟩,3,3⟩:Sl)=⟨some ⟨eb,0,none⟩,3,3⟩/\(3:Int)=3/\True)/\∃ i':Nat,(i:Int)+1=i'/\i'<=3/\Fr F0 w v)/\3-((i:Int)+1).toNat<3-(i:Int).toNat:=fun v hv =>
  ⟨q01,⟨⟨rfl,rfl,rfl,rfl,rfl,rfl,rfl,rfl,rfl,rfl,trivial⟩,i+1,by omega,by omega,hu.t hv⟩,by omega⟩
 match i,hi2,hfin with
 | 0,_,hfin=>exact q0b.2 ⟨_,rfl,⟨by decide,by show((0:Nat):Int)<((3:Nat):Int); decide⟩,t1,he.at (i:=0) rfl,_,he.at (i:=1) rfl,_,he.at (i:=2) rfl,n1,he.at (i:=3) rfl,qbx (hP.fr hu) hch (hu.row hxr fun h=>h) (h1.1.fr hu) h1.2.1 (h1.2.2.fr hu) hfin⟩
 | 1,_,hfin=>exact q0b.2 ⟨_,rfl,⟨by decide,by show((1:Nat):Int)<((3:Nat):Int); decide⟩,t2,he.at (i:=4) rfl,_,he.at (i:=5) rfl,_,he.at (i:=6) rfl,n2,he.at (i:=7) rfl,qbx (hP.fr hu) hch (hu.row hxr fun h=>h) (h2.1.fr hu) h2.2.1 (h2.2.2.fr hu) hfin⟩
 | 2,_,hfin=>exact q0b.2 ⟨_,rfl,⟨by decide,by show((2:Nat):Int)<((3:Nat):Int); decide⟩,t3,he.at (i:=8) rfl,_,he.at (i:=9) rfl,_,he.at (i:=10) rfl,n3,he.at (i:=11) rfl,qbx (hP.fr hu) hch (hu.row hxr fun h=>h) (h3.1.fr hu) h3.2.1 (h3.2.2.fr hu) hfin⟩
theorem qfk {t33:Sl}{t34 t35:Int}{t1 n1 t2 n2:Sl}{T1 T2:List Int}{N1 N2:List Nd}{p1 b1 p2 b2 c0 c1 c2 c3 d0 d1 d2 d3:Int}{bb:Nat}{N0:Addr->Bool->Addr->Addr->Sl->Int->Int->World->Prop}{K:Bool->World->Prop}
  (hP:PV w x0 x1 x2 p) (hch:p.ch.length<=14) (hbr:Row w bb [.int .i64 c0,.int .i64 c1,.int .i64 c2,.int .i64 c3,.int .i64 d0,.int .i64 d1,.int .i64 d2,.int .i64 d3]) (hd2:I64 d2)
  (hr1:Row w rb (rsC t1 p1 b1 n1)) (hr2:Row w ab (rsC t2 p2 b2 n2))
  (h1:VI w t1 T1/\T1.length<2^63/\NV w n1 N1) (h2:VI w t2 T2/\NV w n2 N2/\SzR 1 T2 N2) (h35:inR .i64 (t35+1)) (hN:∀ u,Fr F0 w u->N0 ⟨bb,0,none⟩ true ⟨rb,0,none⟩ ⟨ab,0,none⟩ t33 t34 (t35+1) u) :
  let w55:World:=w.alloc (Obj.cells #[(Value.slice none 0 0),(Value.slice none 0 0),(Value.slice none 0 0),(Value.int .i64 (0:Int)),(Value.int .i64 (0:Int))] 28)
 stN w55 (Addr.mk w.heap.size 0 none) [(Value.slice x0.p x0.l x0.c),(Value.slice x1.p x1.l x1.c),(Value.slice x2.p x2.l x2.c),(Value.int .i64 p.most),(Value.int .i64 p.budget)] fun (w56:World)=>let w57:World:=w56.drew
 ∃ S58:World->Prop,S58 w57/\∃ x59:Sl,(∀ w':World,S58 w'->w'.cell? (Addr.mk rb 0 none)=some (Value.slice x59.p x59.l x59.c))/\∃ x60:Int,(∀ w':World,S58 w'->w'.cell? ((Addr.mk rb 0 none).add 1)=some (Value.int .i64 x60))/\∃ x61:Int,(∀ w':World,S58 w'->w'.cell? ((Addr.mk rb 0 none).add 2)=some (Value.int .i64 x61))/\∃ x62:Sl,(∀ w':World,S58 w'->w'.cell? ((Addr.mk rb 0 none).add 3)=some (Value.slice x62.p x62.l x62.c))/\∃ x63:Sl,(∀ w':World,S58 w'->w'.cell? (Addr.mk ab 0 none)=some (Value.slice x63.p x63.l x63.c))/\∃ x64:Int,(∀ w':World,S58 w'->w'.cell? ((Addr.mk ab 0 none).add 1)=some (Value.int .i64 x64))/\∃ x65:Int,(∀ w':World,S58 w'->w'.cell? ((Addr.mk ab 0 none).add 2)=some (Value.int .i64 x65))/\∃ x66:Sl,(∀ w':World,S58 w'->w'.cell? ((Addr.mk ab 0 none).add 3)=some (Value.slice x66.p x66.l x66.c))/\∃ x67:Sl,(∀ w':World,S58 w'->w'.cell? (Addr.mk ab 0 none)=some (Value.slice x67.p x67.l x67.c))/\∃ x68:Int,(∀ w':World,S58 w'->w'.cell? ((Addr.mk ab 0 none).add 1)=some (Value.int .i64 x68))/\∃ x69:Int,(∀ w':World,S58 w'->w'.cell? ((Addr.mk ab 0 none).add 2)=some (Value.int .i64 x69))/\∃ x70:Sl,(∀ w':World,S58 w'->w'.cell? ((Addr.mk ab 0 none).add 3)=some (Value.slice x70.p x70.l x70.c))/\(0<=(1:Int)/\(1:Int)<(2:Nat))/\∃ x71:Int,(∀ w':World,S58 w'->w'.cell? ((Addr.mk bb 0 none).add ((1:Int).toNat*4))=some (Value.int .i64 x71))/\∃ x72:Int,(∀ w':World,S58 w'->w'.cell? (((Addr.mk bb 0 none).add ((1:Int).toNat*4)).add 1)=some (Value.int .i64 x72))/\∃ x73:Int,(∀ w':World,S58 w'->w'.cell? (((Addr.mk bb 0 none).add ((1:Int).toNat*4)).add 2)=some (Value.int .i64 x73))/\∃ x74:Int,(∀ w':World,S58 w'->w'.cell? (((Addr.mk bb 0 none).add ((1:Int).toNat*4)).add 3)=some (Value.int .i64 x74))/\z27_sh x67 x68 x69 x70 x71 x72 x73 x74 (fun (r76_0:Sl) (r76_1:Int) (r76_2:Int) (r76_3:Sl) (w75:World)=>S58 w75/\let w77:World:=w75.alloc (Obj.cells #[(Value.slice x59.p x59.l x59.c),(Value.int .i64 x60),(Value.int .i64 x61),(Value.slice x62.p x62.l x62.c),(Value.slice x63.p x63.l x63.c),(Value.int .i64 x64),(Value.int .i64 x65),(Value.slice x66.p x66.l x66.c),(Value.slice r76_0.p r76_0.l r76_0.c),(Value.int .i64 r76_1),(Value.int .i64 r76_2),(Value.slice r76_3.p r76_3.l r76_3.c)] 45)
 S58 w77/\z07_l1 (Addr.mk bb 0 none) true (Addr.mk rb 0 none) (Addr.mk ab 0 none) (Addr.mk w.heap.size 0 none) t33 t34 t35 (Sl.mk (some (Addr.mk w75.heap.size 0 none)) 3 3) (3:Int) (0:Int) N0 K w77) w57:=by
 refine q19 (w0:=w) (l:=[]) rfl Mem.nil fun w56 m=>?_
 intro w57
 have m:Mem w w57 [(w.heap.size,prC x0 x1 x2 p.most p.budget)]:=m.drew
 have hS:∀ {u},Fr F0 w57 u->Row u rb (rsC t1 p1 b1 n1)/\Row u ab (rsC t2 p2 b2 n2)/\Row u bb [.int .i64 c0,.int .i64 c1,.int .i64 c2,.int .i64 c3,.int .i64 d0,.int .i64 d1,.int .i64 d2,.int .i64 d3]:=fun h=>⟨(m.1.t h).row hr1 fun h=>h,(m.1.t h).row hr2 fun h=>h,(m.1.t h).row hbr fun h=>h⟩
 refine⟨fun u=>Row u rb (rsC t1 p1 b1 n1)/\Row u ab (rsC t2 p2 b2 n2)/\Row u bb [.int .i64 c0,.int .i64 c1,.int .i64 c2,.int .i64 c3,.int .i64 d0,.int .i64 d1,.int .i64 d2,.int .i64 d3],hS Fr.refl,t1,fun _ h=>h.1.at,_,fun _ h=>h.1.at,_,fun _ h=>h.1.at,n1,fun _ h=>h.1.at,
  t2,fun _ h=>h.2.1.at,_,fun _ h=>h.2.1.at,_,fun _ h=>h.2.1.at,n2,fun _ h=>h.2.1.at,t2,fun _ h=>h.2.1.at,_,fun _ h=>h.2.1.at,_,fun _ h=>h.2.1.at,n2,fun _ h=>h.2.1.at,
  ⟨by decide,by decide⟩,_,fun _ h=>h.2.2.at (i:=4) rfl,_,fun _ h=>h.2.2.at (i:=5) rfl,_,fun _ h=>h.2.2.at (i:=6) rfl,_,fun _ h=>h.2.2.at (i:=7) rfl,?_⟩
 refine qde (h2.1.fr m.1) (h2.2.1.fr m.1) h2.2.2 (by omega) hd2 fun w75 t3 T3 n3 N3 p3 b3 f75 v3 nv3 z3=>⟨hS f75,?_⟩
 have m:=m.fr f75
 intro w77
 have f77:Fr F0 w75 w77:=Fr.alloc
 have m:Mem w w77 _:=m.allocL
 have z2:=h2.2.2.t
 have z3':=z3.t
 exact⟨hS (f75.t f77),qj4 (hP.fr m.1) hch (m.row 1) (m.row 0) ⟨h1.1.fr m.1,h1.2.1,h1.2.2.fr m.1⟩ ⟨h2.1.fr m.1,by omega,h2.2.1.fr m.1⟩ ⟨v3.fr f77,by omega,nv3.fr f77⟩ h35 fun u hu=>hN u (m.1.t hu)⟩
theorem qm1 (l:List Int):(q3f l).ch.length<=13:=by
 have h:=q0s (l:=l) (j:=3+(q0v l).toNat) (n:=13) (by decide)
 show((List.range (q1g l).toNat).map (mCh l)).length<=13
 have:q1g l=nv l (3+(q0v l).toNat) 13:=rfl
 simp
 omega
theorem qgn {q0 q1 q2 c0 c1 c2 c3 d0 d1 d2 d3:Int}{K:Bool->World->Prop}(g:GlT w)(hv:VI w s l)(hl:l.length<2^63)(hc2:I64 c2)(hd2:I64 d2)(hK:∀ w',Fr F0 w w'->K true w'):z07_sh s q0 q1 q2 c0 c1 c2 c3 d0 d1 d2 d3 K w:=by
 have hpn:=qgc l
 have hp:=q8s l
 have hfew:=hp.few
 have hch:=qm1 l
 refine⟨?_⟩
 intro w1
 have m:Mem w w1 _:=Mem.nil.allocL
 intro w2
 have m:Mem w w2 _:=m.allocL
 refine qeg (g.fr m.1) fun w3 f3=>?_
 have m:=m.fr f3
 refine qi9 (hv.fr m.1) hl fun w5 s0 s1 s2 f5 hP=>?_
 have m:=m.fr f5
 have hbr:=m.row 0
 have hqr:=m.row 1
 have hw5:=m.1
 clear m
 refine q19 (w0:=w5) (l:=[]) rfl Mem.nil fun w8 m=>⟨s0,m.ld 0,s1,m.ld 0,s2,m.ld 0,_,m.ld 0,_,m.ld 0,qgb hp (hP.fr m.1) ⟨by omega,by omega⟩ (by omega) fun w14 t bnd ns T cs N hV hT hbd hTr=>?_⟩
 have m:=m.fr hV.m.1
 have hpr:=m.row 0
 have hbr:=m.1.row hbr fun h=>h
 have hqr:=m.1.row hqr fun h=>h
 have hP:=hP.fr m.1
 have hw14:=hw5.t m.1
 have hNV:NV w14 ns N:=hV.nvr (by have:=hTr.2; omega)
 have hTV:=hV.tv.vw
 have hTl:T.length<=12:=by rw[hT.1.1]; exact hfew
 have hsz:SzR 0 T N:=⟨by omega,by have:=hTr.2; omega,fun n hn=>by
  obtain⟨i,hi,rfl⟩:=List.mem_iff_getElem.1 hn
  have hcl:=hV.nv.len
  exact(hV.nv.at (List.getElem?_eq_getElem (show i<cs.length by omega)) (List.getElem?_eq_getElem hi)).ln⟩
 clear m
 refine q19 (w0:=w14) (l:=[]) rfl Mem.nil fun w18 m=>?_
 have hb18:=m.1.row hbr fun h=>h
 refine⟨t,m.ld 0,_,m.ld 0,_,m.ld 0,ns,m.ld 0,⟨by decide,by decide⟩,_,hb18.at (i:=0) rfl,_,hb18.at (i:=1) rfl,_,hb18.at (i:=2) rfl,_,hb18.at (i:=3) rfl,qde (hTV.fr m.1) (hNV.fr m.1) hsz (by omega) hc2 fun w27 t2 T2 n2 N2 p2 b2 f27 v2 nv2 z2=>?_⟩
 have m:=m.fr f27
 have hf27:=m.1
 have hr1:=m.row 0
 clear m
 have hP:=hP.fr hf27
 have hpr:=hf27.row hpr fun h=>h
 have hbr:=hf27.row hbr fun h=>h
 have hqr:=hf27.row hqr fun h=>h
 have hTV:=hTV.fr hf27
 have hNV:=hNV.fr hf27
 have hw27:=hw14.t hf27
 refine q19 (w0:=w27) (l:=[]) rfl Mem.nil fun w30 m=>?_
 intro w31
 have m:Mem w27 w31 [(w27.heap.size,rsC t2 p2 b2 n2)]:=m.drew
 have hS:∀ {u},Fr F0 w31 u->Row u w5.heap.size (prC s0 s1 s2 (q3f l).most (q3f l).budget)/\Row u w.heap.size [.int .i64 q0,.int .i64 q1,.int .i64 q2]:=fun h=>⟨(m.1.t h).row hpr fun h=>h,(m.1.t h).row hqr fun h=>h⟩
 refine⟨fun u=>Row u w5.heap.size (prC s0 s1 s2 (q3f l).most (q3f l).budget)/\Row u w.heap.size [.int .i64 q0,.int .i64 q1,.int .i64 q2],hS Fr.refl,s0,fun u hu=>hu.1.at,s1,fun u hu=>hu.1.at,s2,fun u hu=>hu.1.at,_,fun u hu=>hu.1.at,_,fun u hu=>hu.1.at,s0,fun u hu=>hu.1.at,s1,fun u hu=>hu.1.at,s2,fun u hu=>hu.1.at,_,fun u hu=>hu.1.at,_,fun u hu=>hu.1.at,
  _,fun u hu=>hu.2.at (i:=0) rfl,_,fun u hu=>hu.2.at (i:=1) rfl,_,fun u hu=>hu.2.at (i:=2) rfl,?_⟩
 refine q9v hp (hP.fr m.1) Fr.refl fun w46 t0' t1' t2' p' f46 hcp hPQ=>⟨hS f46,?_⟩
 have hP':=hPQ w46 f46 fun _ _=>rfl
 have m:=m.fr f46
 intro w48
 have f48:Fr F0 w46 w48:=Fr.alloc
 have m:Mem w27 w48 [(w46.heap.size,[.slice s0.p s0.l s0.c,.slice s1.p s1.l s1.c,.slice s2.p s2.l s2.c,.int .i64 (q3f l).most,.int .i64 (q3f l).budget,.slice t0'.p t0'.l t0'.c,.slice t1'.p t1'.l t1'.c,.slice t2'.p t2'.l t2'.c,.int .i64 p'.most,.int .i64 p'.budget]),(w27.heap.size,rsC t2 p2 b2 n2)] :=
  m.allocL
 refine⟨hS (f46.t f48),?_⟩
 have hP48:=hP.fr m.1
 have hP':=hP'.fr f48
 have hbr:=m.1.row hbr fun h=>h
 have hr1:=m.1.row hr1 fun h=>h
 have hTV:=hTV.fr m.1
 have hNV:=hNV.fr m.1
 have v2:=v2.fr m.1
 have nv2:=nv2.fr m.1
 have hK48:∀ u,Fr F0 w48 u->K true u:=fun u hu=>hK u (hw27.t (m.1.t hu))
 refine⟨⟨fun i u=>∃ i':Nat,i=i'/\i'<=2/\Fr F0 w48 u,fun i _=>2-i.toNat,⟨0,rfl,by omega,Fr.refl⟩,?_⟩⟩
 rintro i u ⟨i,rfl,hi,hu⟩
 unfold z07_b0
 have hab:=hu.row (m.row 0) fun h=>h
 refine q00.2 ⟨fun hlt=>?_,fun _=>hK48 u hu⟩
 have hi2:i<2:=by omega
 have hfin:∀ v,Fr F0 u v->(((⟨w1.heap.size,0,none⟩:Addr)=⟨w1.heap.size,0,none⟩/\true=true/\(⟨w14.heap.size,0,none⟩:Addr)=⟨w14.heap.size,0,none⟩/\(⟨w27.heap.size,0,none⟩:Addr)=⟨w27.heap.size,0,none⟩/\(⟨some ⟨w46.heap.size,0,none⟩,2,2⟩:Sl)=⟨some ⟨w46.heap.size,0,none⟩,2,2⟩/\(2:Int)=2/\True)/\∃ i':Nat,(i:Int)+1=i'/\i'<=2/\Fr F0 w48 v)/\2-((i:Int)+1).toNat<2-(i:Int).toNat:=fun v hv =>
  ⟨⟨⟨rfl,rfl,rfl,rfl,rfl,rfl,trivial⟩,i+1,by omega,by omega,hu.t hv⟩,by omega⟩
 match i,hi2,hfin with
 | 0,_,hfin=>exact q0b.2 ⟨_,rfl,⟨by decide,by show((0:Nat):Int)<((2:Nat):Int); decide⟩,s0,hab.at (i:=0) rfl,s1,hab.at (i:=1) rfl,s2,hab.at (i:=2) rfl,_,hab.at (i:=3) rfl,_,hab.at (i:=4) rfl,qfk (hP48.fr hu) (by omega) (hu.row hbr fun h=>h) hd2 (hu.row hr1 fun h=>h) (hu.row (m.row 1) fun h=>h) ⟨hTV.fr hu,by omega,hNV.fr hu⟩ ⟨v2.fr hu,nv2.fr hu,z2⟩ (q01 (by decide) (by decide)) hfin⟩
 | 1,_,hfin=>exact q0b.2 ⟨_,rfl,⟨by decide,by show((1:Nat):Int)<((2:Nat):Int); decide⟩,t0',hab.at (i:=5) rfl,t1',hab.at (i:=6) rfl,t2',hab.at (i:=7) rfl,_,hab.at (i:=8) rfl,_,hab.at (i:=9) rfl,qfk (hP'.fr hu) (by omega) (hu.row hbr fun h=>h) hd2 (hu.row hr1 fun h=>h) (hu.row (m.row 1) fun h=>h) ⟨hTV.fr hu,by omega,hNV.fr hu⟩ ⟨v2.fr hu,nv2.fr hu,z2⟩ (q01 (by decide) (by decide)) hfin⟩
theorem qj5 {q0 q1 q2 c0 c1 c2 c3 d0 d1 d2 d3:Int}{K:Bool->World->Prop}(g:GlT w)(hv:VI w s l)(hl:l.length<2^63)(_:I64 q0/\I64 q1/\I64 q2)(hq:I64 c0/\I64 c1/\I64 c2/\I64 c3/\I64 d0/\I64 d1/\I64 d2/\I64 d3)(hK:∀ w',Fr F0 w w'->K true w'):z07_sh s q0 q1 q2 c0 c1 c2 c3 d0 d1 d2 d3 K w :=
 qgn g hv hl hq.2.2.1 hq.2.2.2.2.2.2.1 hK
end
end Go.Proofs.YtfpobpjandjhjaaGreatDoor
