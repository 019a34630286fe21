/- The bodies' formulas, by program. -/
import Derived.Test.YtipjnbbfnlfmjaaGreatDoorDG2
set_option maxRecDepth 20000
namespace Go.Proofs.YtipjnbbfnlfmjaaGreatDoor
open Go Pw
structure z1b_sh (p0 p1:Int)(K:Pw.Y1)(w:World):Prop where
 out:p1≠0/\inR .i64 ((Int.tmod p0 p1)+p1)/\p1≠0/\K (Int.tmod ((Int.tmod p0 p1)+p1) p1) w
def z1b_S:=sp [tI,tI] [tI] z1b_sh
theorem z1b_ok:okP 14 z1b_S:=okR (x:=fun _=>qr 1 (qr 8 ql)) (Γ:=[]) trivial Tryz.call14 Tryz.func14 (fun _=>hEnd)
structure z0s_sh (K:Pw.Y5)(w:World):Prop where
 out:let w1:=w.alloc (.cells #[(vT (str [112,114,105,99,101])),(vT (str [108,111,119])),(vT (str [113,117,97,108,105,116,121])),(vT (str [100,97,121,115]))] 9)
  K (Sl.mk (some (hA w 0)) 4 4) w1
def z0s_S:=sp [] [tL] z0s_sh
theorem z0s_ok:okP 34 z0s_S:=okR (x:=fun _=>qr 1 (qr 2 ql)) (Γ:=[]) trivial Tryz.call34 Tryz.func34 (fun _=>hEnd)
structure z0x_k1 (p0:Sl)(p2:Addr)(p3 p4:Sl)(p5 p7:Int)(N0:Pw.Y10)(K:Pw.Y4)(w:World):Prop where
 out:(13:Int)≠0/\inR .i64 ((Int.tmod p7 13)-3)/\(13:Int)≠0/\inR .i64 (Int.tdiv p7 13)/\(4:Int)≠0/\inR .i64 ((1:Int)+(Int.tmod (Int.tdiv p7 13) 4))/\z0w_sh ((Int.tmod p7 13)-3) ((1:Int)+(Int.tmod (Int.tdiv p7 13) 4)) (fun r8_0 r8_1 r9 w7=>let w10:=w7.alloc (.cells #[(vI 0),(vI 0)] 35)
  wrOk w10 (hA w7 0)/\
  (let w11:=w10.setCell (hA w7 0) (vI r8_0)
  wrOk w11 (hA w7 1)/\
  (let w12:=w11.setCell (hA w7 1) (vI r8_1)
  lI w12 (hA w7 0) fun x13=>∃ x14:Int,w12.cell? (hA w7 1)=some (vI x14)/\let w15:=w12.alloc (.cells #[(vT (str [110,117,109])),(vI x13),(vI x14),(vT (str [])),vN] 38)
  apS 5 72 [(vT (str [])),(vI 0),(vI 0),(vT (str [])),vN] 38 p3 (Sl.mk (some (hA w12 0)) 1 1) w15 fun s16 w17=>inR .i64 (p5+1)/\N0 p0 p2 s16 p4 (p5+1) w17))) w
structure z0x_k3 (p0:Sl)(p2:Addr)(p3 p4:Sl)(p5 p7:Int)(N0:Pw.Y10)(K:Pw.Y4)(w:World):Prop where
 out:z0s_sh (fun r19 w18=>(4:Int)≠0/\nz r19.p fun a20=>(0<=(Int.tmod p7 4)/\(Int.tmod p7 4)<(r19.l:Nat))/\∃ x21:ByteArray,w18.cell? (a20.add ((Int.tmod p7 4).toNat*1))=some (vT x21)/\let w22:=w18.alloc (.cells #[(vT (str [110,97,109,101])),(vI 0),(vI 0),(vT x21),vN] 38)
  apS 5 72 [(vT (str [])),(vI 0),(vI 0),(vT (str [])),vN] 38 p3 (Sl.mk (some (hA w18 0)) 1 1) w22 fun s23 w24=>inR .i64 (p5+1)/\N0 p0 p2 s23 p4 (p5+1) w24) w
structure z0x_k4 (p0:Sl)(p2:Addr)(p3 p4:Sl)(p5 p7:Int)(N0:Pw.Y10)(K:Pw.Y4)(w:World):Prop where
 out:cnd (decide ((p3.l:Int)>1))
  (inR .i64 ((p3.l:Int)-2)/\nz p3.p fun a25=>(0<=((p3.l:Int)-2)/\((p3.l:Int)-2)<(p3.l:Nat))/\∃ x26:ByteArray,w.cell? (a25.add (((p3.l:Int)-2).toNat*5))=some (vT x26)/\∃ x27:Int,w.cell? ((a25.add (((p3.l:Int)-2).toNat*5)).add 1)=some (vI x27)/\∃ x28:Int,w.cell? ((a25.add (((p3.l:Int)-2).toNat*5)).add 2)=some (vI x28)/\∃ x29:ByteArray,w.cell? ((a25.add (((p3.l:Int)-2).toNat*5)).add 3)=some (vT x29)/\∃ x30:Sl,w.cell? ((a25.add (((p3.l:Int)-2).toNat*5)).add 4)=some (vS x30)/\let w31:=w.alloc (.cells #[(vT (str [])),(vI 0),(vI 0),(vT (str [])),vN] 38)
  stN w31 (hA w 0) [(vT x26),(vI x27),(vI x28),(vT x29),(vS x30)] fun w32=>inR .i64 ((p3.l:Int)-1)/\nz p3.p fun a33=>(0<=((p3.l:Int)-1)/\((p3.l:Int)-1)<(p3.l:Nat))/\∃ x34:ByteArray,w32.cell? (a33.add (((p3.l:Int)-1).toNat*5))=some (vT x34)/\∃ x35:Int,w32.cell? ((a33.add (((p3.l:Int)-1).toNat*5)).add 1)=some (vI x35)/\∃ x36:Int,w32.cell? ((a33.add (((p3.l:Int)-1).toNat*5)).add 2)=some (vI x36)/\∃ x37:ByteArray,w32.cell? ((a33.add (((p3.l:Int)-1).toNat*5)).add 3)=some (vT x37)/\∃ x38:Sl,w32.cell? ((a33.add (((p3.l:Int)-1).toNat*5)).add 4)=some (vS x38)/\let w39:=w32.alloc (.cells #[(vT (str [])),(vI 0),(vI 0),(vT (str [])),vN] 38)
  stN w39 (hA w32 0) [(vT x34),(vI x35),(vI x36),(vT x37),(vS x38)] fun w40=>let w41:=w40.drew
  ∃ S42:World->Prop,S42 w41/\inR .i64 ((p3.l:Int)-2)/\(0<=(0:Int)/\(0:Int)<=((p3.l:Int)-2)/\((p3.l:Int)-2)<=(p3.c:Nat))/\(6:Int)≠0/\nz p4.p fun a43=>(0<=(Int.tmod p7 6)/\(Int.tmod p7 6)<(p4.l:Nat))/\∃ x44:ByteArray,(∀ w':World,S42 w'->w'.cell? (a43.add ((Int.tmod p7 6).toNat*1))=some (vT x44))/\mX S42 (hA w 0) fun x45 x46 x47 x48 x49=>mT S42 (hA w32 0) fun x50=>mI S42 (hA w32 1) fun x51=>mI S42 (hA w32 2) fun x52=>mT S42 (hA w32 3) fun x53=>∃ x54:Sl,(∀ w':World,S42 w'->w'.cell? (hA w32 4)=some (vS x54))/\let w55:=w41.alloc (.cells #[(vT x45),(vI x46),(vI x47),(vT x48),(vS x49),(vT x50),(vI x51),(vI x52),(vT x53),(vS x54)] 38)
  S42 w55/\let w56:=w55.alloc (.cells #[(vT x44),(vI 0),(vI 0),(vT (str [])),(.slice (some (hA w41 0)) 2 2)] 38)
  S42 w56/\apS 5 72 [(vT (str [])),(vI 0),(vI 0),(vT (str [])),vN] 38 (Sl.mk (subP p3.p 0 p3.c 5) (((p3.l:Int)-2).toNat-0) (p3.c-0)) (Sl.mk (some (hA w55 0)) 1 1) w56 fun s57 w58=>S42 w58/\inR .i64 (p5+1)/\N0 p0 p2 s57 p4 (p5+1) w58)
  (inR .i64 (p5+1)/\N0 p0 p2 p3 p4 (p5+1) w)
structure z0x_k2 (p0:Sl)(p2:Addr)(p3 p4:Sl)(p5 p7 p33:Int)(N0:Pw.Y10)(K:Pw.Y4)(w:World):Prop where
 out:cnd (p33 == 2)
  (cnd (p33 == 2)
  (z0x_k3 p0 p2 p3 p4 p5 p7 N0 K w)
  (z0x_k4 p0 p2 p3 p4 p5 p7 N0 K w))
  (cnd (p33 == 3)
  (cnd (p33 == 3)
  (z0x_k3 p0 p2 p3 p4 p5 p7 N0 K w)
  (z0x_k4 p0 p2 p3 p4 p5 p7 N0 K w))
  (cnd (p33 == 4)
  (z0x_k3 p0 p2 p3 p4 p5 p7 N0 K w)
  (z0x_k4 p0 p2 p3 p4 p5 p7 N0 K w)))
def z0x_b6 (p2:Addr)(p3:Sl)(p12:Addr)(p13:Int)(N6:Addr->Sl->Addr->Int->World->Prop)(K:Pw.Y4)(w:World):Prop :=
 cnd (decide (p13<(p3.l:Int)))
 (let w73:=w.drew
 ∃ S74:World->Prop,S74 w73/\mX S74 p12 fun x75 x76 x77 x78 x79=>nz p3.p fun a80=>(0<=p13/\p13<(p3.l:Nat))/\mT S74 (a80.add (p13.toNat*5)) fun x81=>∃ x82:Int,(∀ w':World,S74 w'->w'.cell? ((a80.add (p13.toNat*5)).add 1)=some (vI x82))/\∃ x83:Int,(∀ w':World,S74 w'->w'.cell? ((a80.add (p13.toNat*5)).add 2)=some (vI x83))/\∃ x84:ByteArray,(∀ w':World,S74 w'->w'.cell? ((a80.add (p13.toNat*5)).add 3)=some (vT x84))/\∃ x85:Sl,(∀ w':World,S74 w'->w'.cell? ((a80.add (p13.toNat*5)).add 4)=some (vS x85))/\let w86:=w73.alloc (.cells #[(vT x75),(vI x76),(vI x77),(vT x78),(vS x79),(vT x81),(vI x82),(vI x83),(vT x84),(vS x85)] 38)
 stN w86 p12 [(vT (str [43])),(vI 0),(vI 0),(vT (str [])),(.slice (some (hA w73 0)) 2 2)] fun w87=>inR .i64 (p13+1)/\N6 p2 p3 p12 (p13+1) w87)
 (lX w p12 fun x88 x89 x90 x91 x92=>stN w p2 [(vT x88),(vI x89),(vI x90),(vT x91),(vS x92)] fun w93=>lX w93 p2 fun x94 x95 x96 x97 x98=>K x94 x95 x96 x97 x98 w93)
structure z0x_l6 (p2:Addr)(p3:Sl)(p12:Addr)(p13:Int)(K:Pw.Y4)(w:World):Prop where
 out:∃ (I:Int->World->Prop) (μ:Int->World->Nat),I p13 w/\∀ (p131:Int) (w1:World),I p131 w1 ->
  z0x_b6 p2 p3 p12 p131 (fun p2' p3' p12' p13' w'=>((p2'=p2/\p3'=p3/\p12'=p12/\True)/\I p13' w')/\μ p13' w'<μ p131 w1) K w1
structure z0x_k5 (p2:Addr)(p3:Sl)(K:Pw.Y4)(w:World):Prop where
 out:cnd ((p3.l:Int) == 0)
  (stN w p2 [(vT (str [110,97,109,101])),(vI 0),(vI 0),(vT (str [112,114,105,99,101])),vN] fun w59=>lX w59 p2 fun x60 x61 x62 x63 x64=>K x60 x61 x62 x63 x64 w59)
  (nz p3.p fun a65=>(0<=(0:Int)/\(0:Int)<(p3.l:Nat))/\∃ x66:ByteArray,w.cell? (a65.add ((0:Int).toNat*5))=some (vT x66)/\∃ x67:Int,w.cell? ((a65.add ((0:Int).toNat*5)).add 1)=some (vI x67)/\∃ x68:Int,w.cell? ((a65.add ((0:Int).toNat*5)).add 2)=some (vI x68)/\∃ x69:ByteArray,w.cell? ((a65.add ((0:Int).toNat*5)).add 3)=some (vT x69)/\∃ x70:Sl,w.cell? ((a65.add ((0:Int).toNat*5)).add 4)=some (vS x70)/\let w71:=w.alloc (.cells #[(vT (str [])),(vI 0),(vI 0),(vT (str [])),vN] 38)
  stN w71 (hA w 0) [(vT x66),(vI x67),(vI x68),(vT x69),(vS x70)] fun w72=>z0x_l6 p2 p3 (hA w 0) 1 K w72)
def z0x_b0 (p0:Sl)(p2:Addr)(p3 p4:Sl)(p5:Int)(N0:Pw.Y10)(K:Pw.Y4)(w:World):Prop :=
 cnd (decide (p5<(p0.l:Int)))
 (cnd (decide (p5<80))
 (nz p0.p fun a3=>(0<=p5/\p5<(p0.l:Nat))/\lI w (a3.add (p5.toNat*1)) fun x4=>z1b_sh x4 1000 (fun r6 w5=>(10:Int)≠0/\inR .i64 (Int.tdiv r6 10)/\(10:Int)≠0/\cnd ((Int.tmod r6 10) == 0)
 (cnd ((Int.tmod r6 10) == 0)
 (z0x_k1 p0 p2 p3 p4 p5 (Int.tdiv r6 10) N0 K w5)
 (z0x_k2 p0 p2 p3 p4 p5 (Int.tdiv r6 10) (Int.tmod r6 10) N0 K w5))
 (cnd ((Int.tmod r6 10) == 1)
 (z0x_k1 p0 p2 p3 p4 p5 (Int.tdiv r6 10) N0 K w5)
 (z0x_k2 p0 p2 p3 p4 p5 (Int.tdiv r6 10) (Int.tmod r6 10) N0 K w5))) w)
 (z0x_k5 p2 p3 K w))
 (z0x_k5 p2 p3 K w)
structure z0x_l0 (p0:Sl)(p2:Addr)(p3 p4:Sl)(p5:Int)(K:Pw.Y4)(w:World):Prop where
 out:∃ (I:Sl->Int->World->Prop) (μ:Sl->Int->World->Nat),I p3 p5 w/\∀ (p31:Sl) (p51:Int) (w1:World),I p31 p51 w1 ->
  z0x_b0 p0 p2 p31 p4 p51 (fun p0' p2' p3' p4' p5' w'=>((p0'=p0/\p2'=p2/\p4'=p4/\True)/\I p3' p5' w')/\μ p3' p5' w'<μ p31 p51 w1) K w1
structure z0x_sh (p0:Sl)(K:Pw.Y4)(w:World):Prop where
 out:let w1:=w.alloc (.cells #[(vT (str [])),(vI 0),(vI 0),(vT (str [])),vN] 38)
  let w2:=w1.alloc (.cells #[(vT (str [43])),(vT (str [45])),(vT (str [42])),(vT (str [47])),(vT (str [109,105,110])),(vT (str [109,97,120]))] 9)
  z0x_l0 p0 (hA w 0) (Sl.mk none 0 0) (Sl.mk (some (hA w1 0)) 6 6) 0 K w2
def z0x_L0 (Kv:VW):Cur [tL,tQ,tL,tL,tI] WP:=fun p0 p2 p3 p4 p5=>z0x_l0 p0 p2 p3 p4 p5 (kk [.g 5,tS,tI,tI,tS,tL] Kv)
def z0x_L1 (Kv:VW):Cur [tL,tQ,tL,tL,tI] WP->Cur [tL,tQ,tL,tL,tI,tI] WP:=fun N0 p0 p2 p3 p4 p5 p7=>z0x_k1 p0 p2 p3 p4 p5 p7 N0 (kk [.g 5,tS,tI,tI,tS,tL] Kv)
def z0x_L2 (Kv:VW):Cur [tL,tQ,tL,tL,tI] WP->Cur [tL,tQ,tL,tL,tI,tI,tI] WP:=fun N0 p0 p2 p3 p4 p5 p7 p33=>z0x_k2 p0 p2 p3 p4 p5 p7 p33 N0 (kk [.g 5,tS,tI,tI,tS,tL] Kv)
def z0x_L3 (Kv:VW):Cur [tL,tQ,tL,tL,tI] WP->Cur [tL,tQ,tL,tL,tI,tI] WP:=fun N0 p0 p2 p3 p4 p5 p7=>z0x_k3 p0 p2 p3 p4 p5 p7 N0 (kk [.g 5,tS,tI,tI,tS,tL] Kv)
def z0x_L4 (Kv:VW):Cur [tL,tQ,tL,tL,tI] WP->Cur [tL,tQ,tL,tL,tI,tI] WP:=fun N0 p0 p2 p3 p4 p5 p7=>z0x_k4 p0 p2 p3 p4 p5 p7 N0 (kk [.g 5,tS,tI,tI,tS,tL] Kv)
def z0x_L5 (Kv:VW):Cur [tQ,tL] WP:=fun p2 p3=>z0x_k5 p2 p3 (kk [.g 5,tS,tI,tI,tS,tL] Kv)
def z0x_L6 (Kv:VW):Cur [tQ,tL,tQ,tI] WP:=fun p2 p3 p12 p13=>z0x_l6 p2 p3 p12 p13 (kk [.g 5,tS,tI,tI,tS,tL] Kv)
def z0x_S:=sp [tL] [.g 5,tS,tI,tI,tS,tL] z0x_sh
theorem z0x_ok:okP 13 z0x_S:=okR (x:=fun Kv=>qr 1 (qr 1 (qr 2 (qs (qr 1 (qb (A.loop [0,2,3,4,5] (uR0 [tL,tQ,tL,tL,tI] (z0x_L0 Kv)) (qs (qs (A.reg (qn 5 (RA.spl 19 (qn 3 RA.done) (qk 2 (qn 1 RA.done))))) (qc ql ql)) (qs (qb (qr 6 (qr 3 (qr 2 (qb (qs (qr 2 (qc ql (qe 2))) (qc (A.cut [0,2,3,4,5,7] (uR1 [tL,tQ,tL,tL,tI] [tL,tQ,tL,tL,tI,tI] (z0x_L1 Kv)) (qr 14 (qe 6))) (A.cut [0,2,3,4,5,7,33] (uR1 [tL,tQ,tL,tL,tI] [tL,tQ,tL,tL,tI,tI,tI] (z0x_L2 Kv)) (qs (qr 2 (qc ql (qr 2 (qc ql (qe 2))))) (qc (A.cut [0,2,3,4,5,7] (uR1 [tL,tQ,tL,tL,tI] [tL,tQ,tL,tL,tI,tI] (z0x_L3 Kv)) (qe 10)) (A.cut [0,2,3,4,5,7] (uR1 [tL,tQ,tL,tL,tI] [tL,tQ,tL,tL,tI,tI] (z0x_L4 Kv)) (qr 3 (qc (qr 8 (qr 8 (A.drw (dp [0,1,2,3,4,5,6,7,8,9,10,11] (DA.eff 12 (DA.pur 13 (DA.eff 14 (DA.eff 15 (DA.pur 16 DA.done))))))))) ql))))))))))))) (qe 3)))))) (A.cut [2,3] (uR0 [tQ,tL] (z0x_L5 Kv)) (qs (qr 3 (qc (qr 2 ql) ql)) (qr 5 (qs (qr 1 (qb (A.loop [2,3,12,13] (uR0 [tQ,tL,tQ,tI] (z0x_L6 Kv)) (qs (qr 4 (qc ql ql)) (qs (qb (A.drw (dp [0,1,2,3,4] (DA.eff 5 (DA.pur 6 (DA.eff 7 DA.done)))))) (qe 3)))))) (qr 2 ql))))))))) (Γ:=[(14,z1b_S),(33,z0w_S),(34,z0s_S)]) ⟨.inl z1b_ok,.inl z0w_ok,.inl z0s_ok,trivial⟩ Tryz.call13 Tryz.func13 (fun Kv=>q08 (q0c (L:=z0x_L0 Kv) (fun N0 p0 p2 p3 p4 p5=>z0x_b0 p0 p2 p3 p4 p5 N0 (kk [.g 5,tS,tI,tI,tS,tL] Kv)) (fun⟨a0,a1,_,a3,_,_⟩ _ h=>let ⟨I,μ,h0,hr⟩:=h.out; ⟨fun b0 b1 b2 b3 b4 w=>(b0=a0/\b1=a1/\b3=a3/\True)/\I b2 b4 w,fun _ _ b2 _ b4 w=>μ b2 b4 w,⟨⟨rfl,rfl,rfl,trivial⟩,h0⟩,fun⟨_,_,_,_,_,_⟩ _ ⟨⟨e0,e1,e3,_⟩,hI⟩=>by cases e0; cases e1; cases e3; exact hr _ _ _ hI⟩)) <| q08 (hK1 (F:=z0x_L1 Kv)) <| q08 (hK1 (F:=z0x_L2 Kv)) <| q08 (hK1 (F:=z0x_L3 Kv)) <| q08 (hK1 (F:=z0x_L4 Kv)) <| q08 (hK0 (F:=z0x_L5 Kv)) <| q08 (q0c (L:=z0x_L6 Kv) (fun N6 p2 p3 p12 p13=>z0x_b6 p2 p3 p12 p13 N6 (kk [.g 5,tS,tI,tI,tS,tL] Kv)) (fun⟨a0,a1,a2,_,_⟩ _ h=>let ⟨I,μ,h0,hr⟩:=h.out; ⟨fun b0 b1 b2 b3 w=>(b0=a0/\b1=a1/\b2=a2/\True)/\I b3 w,fun _ _ _ b3 w=>μ b3 w,⟨⟨rfl,rfl,rfl,trivial⟩,h0⟩,fun⟨_,_,_,_,_⟩ _ ⟨⟨e0,e1,e2,_⟩,hI⟩=>by cases e0; cases e1; cases e2; exact hr _ _ hI⟩)) <| hEnd)
