/- The bodies' formulas, by program. -/
import Derived.Test.YtfpobpjandjhjaaGreatDoorPG1
set_option maxRecDepth 20000
namespace Go.Proofs.YtfpobpjandjhjaaGreatDoor
open Go Pw
def z28_b1 (p1 p2 p3:Addr)(p4:Int)(N1:Addr->Addr->Addr->Int->World->Prop)(K:Pw.T15)(w:World):Prop :=
 lS w (p1.add 3) fun x22=>cnd (decide (p4<(x22.l:Int)))
 (lS w (p1.add 3) fun x23=>nz x23.p fun a24=>(0<=p4/\p4<(x23.l:Nat))/\lI w (a24.add (p4.toNat*4)) fun x25=>∃ x26:Int,w.cell? ((a24.add (p4.toNat*4)).add 1)=some (vI x26)/\∃ x27:Int,w.cell? ((a24.add (p4.toNat*4)).add 2)=some (vI x27)/\∃ x28:Sl,w.cell? ((a24.add (p4.toNat*4)).add 3)=some (vS x28)/\let w29:=w.alloc (.cells #[(vI 0),(vI 0),(vI 0),vN] 55)
 stN w29 (hA w 0) [(vI x25),(vI x26),(vI x27),(vS x28)] fun w30=>let w31:=w30.alloc (.cells #[] 3)
 lS w31 (hA w 3) fun x32=>apS 1 8 [(vI 0)] 3 (Sl.mk (some (hA w30 0)) 0 0) x32 w31 fun s33 w34=>wrOk w34 (hA w 3)/\
 (let w35:=w34.setCell (hA w 3) (vS s33)
 lS w35 (p3.add 3) fun x36=>lI w35 (hA w 0) fun x37=>lI w35 (hA w 1) fun x38=>lI w35 (hA w 2) fun x39=>∃ x40:Sl,w35.cell? (hA w 3)=some (vS x40)/\let w41:=w35.alloc (.cells #[(vI x37),(vI x38),(vI x39),(vS x40)] 55)
 apS 4 48 [(vI 0),(vI 0),(vI 0),vN] 55 x36 (Sl.mk (some (hA w35 0)) 1 1) w41 fun s42 w43=>wrOk w43 (p3.add 3)/\
 (let w44:=w43.setCell (p3.add 3) (vS s42)
 inR .i64 (p4+1)/\N1 p1 p2 p3 (p4+1) w44)))
 (lS w p3 fun x45=>lI w (p3.add 1) fun x46=>lI w (p3.add 2) fun x47=>lS w (p3.add 3) fun x48=>stN w p2 [(vS x45),(vI x46),(vI x47),(vS x48)] fun w49=>lS w49 p2 fun x50=>lI w49 (p2.add 1) fun x51=>lI w49 (p2.add 2) fun x52=>lS w49 (p2.add 3) fun x53=>K x50 x51 x52 x53 w49)
structure z28_l1 (p1 p2 p3:Addr)(p4:Int)(K:Pw.T15)(w:World):Prop where
 out:∃ (I:Int->World->Prop) (μ:Int->World->Nat),I p4 w/\∀ (p41:Int) (w1:World),I p41 w1 ->
  z28_b1 p1 p2 p3 p41 (fun p1' p2' p3' p4' w'=>((p1'=p1/\p2'=p2/\p3'=p3/\True)/\I p4' w')/\μ p4' w'<μ p41 w1) K w1
structure z28_k0 (p1 p2 p3:Addr)(K:Pw.T15)(w:World):Prop where
 out:z28_l1 p1 p2 p3 0 K w
def z28_sd (p0_0:Sl)(p0_1 p0_2:Int)(p0_3:Sl)(K:Pw.T15)(w:World):Prop :=
 let w1:=w.alloc (.cells #[(vS p0_0),(vI p0_1),(vI p0_2),(vS p0_3)] 45)
 let w2:=w1.alloc (.cells #[vN,(vI 0),(vI 0),vN] 45)
 let w3:=w2.drew
 ∃ S4:World->Prop,S4 w3/\mS S4 (hA w 0) fun x5=>mI S4 (hA w 1) fun x6=>mI S4 (hA w 2) fun x7=>(let w8:=w3.alloc (.cells #[] 3)
 S4 w8/\(apS 1 8 [(vI 0)] 3 (Sl.mk (some (hA w3 0)) 0 0) x5 w8 fun s9 w10=>S4 w10/\let w11:=w10.alloc (.cells #[vN,(vI 0),(vI 0),vN] 45)
 S4 w11/\stN w11 (hA w10 0) [(vS s9),(vI x6),(vI x7),vN] fun w12=>z28_k0 (hA w 0) (hA w1 0) (hA w10 0) K w12)
/\(let w13:=w8.alloc (.cells #[vN,(vI 0),(vI 0),vN] 45)
 S4 w13/\apS 1 8 [(vI 0)] 3 (Sl.mk (some (hA w3 0)) 0 0) x5 w13 fun s14 w15=>S4 w15/\stN w15 (hA w8 0) [(vS s14),(vI x6),(vI x7),vN] fun w16=>z28_k0 (hA w 0) (hA w1 0) (hA w8 0) K w16))
/\(let w17:=w3.alloc (.cells #[vN,(vI 0),(vI 0),vN] 45)
 S4 w17/\let w18:=w17.alloc (.cells #[] 3)
 S4 w18/\apS 1 8 [(vI 0)] 3 (Sl.mk (some (hA w17 0)) 0 0) x5 w18 fun s19 w20=>S4 w20/\stN w20 (hA w3 0) [(vS s19),(vI x6),(vI x7),vN] fun w21=>z28_k0 (hA w 0) (hA w1 0) (hA w3 0) K w21)
structure z28_sh (p0_0:Sl)(p0_1 p0_2:Int)(p0_3:Sl)(K:Pw.T15)(w:World):Prop where
 out:z28_sd p0_0 p0_1 p0_2 p0_3 K w
def z28_L0 (Kv:VW):Cur [tQ,tQ,tQ] WP:=fun p1 p2 p3=>z28_k0 p1 p2 p3 (kk [.g 4,tL,tI,tI,tL] Kv)
def z28_L1 (Kv:VW):Cur [tQ,tQ,tQ,tI] WP:=fun p1 p2 p3 p4=>z28_l1 p1 p2 p3 p4 (kk [.g 4,tL,tI,tI,tL] Kv)
noncomputable def z28_S:=sp [.g 4,tL,tI,tI,tL] [.g 4,tL,tI,tI,tL] z28_sh
theorem z28_ok:q3e Tryz.prog 33 z28_S:=okS (x:=fun Kv=>qr 2 (qs (A.drw (dp [1,2,4,5,6,7] (DA.two 0 (DA.two 3 (DA.pur 8 (DA.eff 9 (DA.eff 10 DA.done))) 9 (DA.eff 3 (DA.pur 8 (DA.eff 10 DA.done)))) 9 (DA.eff 0 (DA.eff 3 (DA.pur 8 (DA.eff 10 DA.done))))))) (A.cut [1,2,3] (uR0 [tQ,tQ,tQ] (z28_L0 Kv)) (qs (qr 1 (qb (A.loop [1,2,3,4] (uR0 [tQ,tQ,tQ,tI] (z28_L1 Kv)) (qs (qr 5 (qc ql ql)) (qs (qb (qr 7 (qr 6 (qe 7)))) (qe 3)))))) (qr 2 ql))))) (fun Kv p0_0 p0_1 p0_2 p0_3=>z28_sd p0_0 p0_1 p0_2 p0_3 (kk [.g 4,tL,tI,tI,tL] Kv)) progMixed (Γ:=[]) trivial Tryz.call33 Tryz.func33 (fun Kv=>q07 (hK0 (F:=z28_L0 Kv)) <| q07 (q0a (L:=z28_L1 Kv) (fun N1 p1 p2 p3 p4=>z28_b1 p1 p2 p3 p4 N1 (kk [.g 4,tL,tI,tI,tL] Kv)) (fun⟨a0,a1,a2,_,_⟩ _ h=>let ⟨I,μ,h0,hr⟩:=h.out; ⟨fun b0 b1 b2 b3 w=>(b0=a0/\b1=a1/\b2=a2/\True)/\I b3 w,fun _ _ _ b3 w=>μ b3 w,⟨⟨rfl,rfl,rfl,trivial⟩,h0⟩,fun⟨_,_,_,_,_⟩ _ ⟨⟨e0,e1,e2,_⟩,hI⟩=>by cases e0; cases e1; cases e2; exact hr _ _ hI⟩)) <| hEnd)
structure z2k_sh (p0 p1:Int)(K:Pw.T1)(w:World):Prop where
 out:p1≠0/\inR .i64 ((Int.tmod p0 p1)+p1)/\p1≠0/\K (Int.tmod ((Int.tmod p0 p1)+p1) p1) w
noncomputable def z2k_S:=sp [tI,tI] [tI] z2k_sh
theorem z2k_ok:okP 31 z2k_S:=okR (x:=fun _=>qr 1 (qr 8 ql)) (Γ:=[]) trivial Tryz.call31 Tryz.func31 (fun _=>hEnd)
structure z1u_sh (p0_0 p0_1 p0_2:Sl)(p0_3 p0_4:Int)(p1_0:Sl)(p1_1 p1_2:Int)(p1_3:Sl)(K:Pw.T1)(w:World):Prop where
 out:let w1:=w.alloc (.cells #[(vS p0_0),(vS p0_1),(vS p0_2),(vI p0_3),(vI p0_4)] 28)
  let w2:=w1.alloc (.cells #[(vS p1_0),(vI p1_1),(vI p1_2),(vS p1_3)] 45)
  lS w2 (hA w 0) fun x3=>lS w2 (hA w 1) fun x4=>lS w2 (hA w 2) fun x5=>lI w2 (hA w 3) fun x6=>lI w2 (hA w 4) fun x7=>z1q_sh x3 x4 x5 x6 x7 (fun r9 w8=>cnd (!r9)
  (K 1 w8)
  (lS w8 (hA w 0) fun x10=>lS w8 (hA w 1) fun x11=>lS w8 (hA w 2) fun x12=>lI w8 (hA w 3) fun x13=>lI w8 (hA w 4) fun x14=>lS w8 (hA w1 0) fun x15=>z0e_sh x10 x11 x12 x13 x14 x15 (fun r17 w16=>let w18:=w16.drew
  ∃ S19:World->Prop,S19 w18/\cnd (!r17)
  (K 41 w18)
  (mS S19 (hA w 0) fun x20=>mS S19 (hA w 1) fun x21=>mS S19 (hA w 2) fun x22=>mI S19 (hA w 3) fun x23=>mI S19 (hA w 4) fun x24=>mS S19 (hA w1 0) fun x25=>mI S19 (hA w1 1) fun x26=>z19_sh x20 x21 x22 x23 x24 x25 (fun r28 w27=>S19 w27/\cnd (r28 != x26)
  (K 41 w27)
  (mI S19 (hA w1 2) fun x29=>mI S19 (hA w1 1) fun x30=>cnd (x29 != x30)
  (K 41 w27)
  (lS w27 (hA w 0) fun x31=>lS w27 (hA w 1) fun x32=>lS w27 (hA w 2) fun x33=>lI w27 (hA w 3) fun x34=>lI w27 (hA w 4) fun x35=>lS w27 (hA w1 0) fun x36=>lI w27 (hA w1 1) fun x37=>lI w27 (hA w1 2) fun x38=>lS w27 (hA w1 3) fun x39=>z1p_sh x31 x32 x33 x34 x35 x36 x37 x38 x39 (fun r41 w40=>cnd (!r41)
  (K 41 w40)
  (K 0 w40)) w27))) w18)) w8)) w2
noncomputable def z1u_S:=sp [.g 5,tL,tL,tL,tI,tI,.g 4,tL,tI,tI,tL] [tI] z1u_sh
theorem z1u_ok:okP 19 z1u_S:=okR (x:=fun _=>qr 3 (qr 3 (qs (qr 2 (qc (qr 1 ql) ql)) (qr 5 (qs (qs (A.drw (dp [0,1,2] (DA.spl 18 (DA.skp 3 (DA.skp 4 (DA.skp 5 (DA.skp 7 (DA.skp 8 (DA.skp 6 (DA.skp 9 (dp [10,11] (DA.skp 12 (DA.skp 13 (DA.skp 14 (DA.skp 15 (DA.skp 16 (DA.pur 17 DA.done)))))))))))))) (dp [3,4,5,7,8] (DA.eff 6 (dp [9,10,11] (DA.spl 27 (DA.skp 12 (DA.skp 13 (DA.skp 14 (DA.skp 15 (DA.skp 16 (DA.pur 17 DA.done)))))) (dp [12,13,14,15,16,17] DA.done)))))))) (qc (qr 1 ql) ql)) (qr 4 (qs (qr 2 (qc (qr 1 ql) ql)) (qr 1 ql)))))))) (Γ:=[(17,z19_S),(46,z1q_S),(47,z0e_S),(48,z1p_S)]) ⟨.inl z19_ok,.inl z1q_ok,.inl z0e_ok,.inl z1p_ok,trivial⟩ Tryz.call19 Tryz.func19 (fun _=>hEnd)
def z27_k0d (p4 p5:Addr)(K:Pw.T15)(w:World):Prop :=
 lS w p5 fun x119=>lI w (p5.add 1) fun x120=>lI w (p5.add 2) fun x121=>lS w (p5.add 3) fun x122=>stN w p4 [(vS x119),(vI x120),(vI x121),(vS x122)] fun w123=>lS w123 p4 fun x124=>lI w123 (p4.add 1) fun x125=>lI w123 (p4.add 2) fun x126=>lS w123 (p4.add 3) fun x127=>K x124 x125 x126 x127 w123
structure z27_k0 (p4 p5:Addr)(K:Pw.T15)(w:World):Prop where
 out:z27_k0d p4 p5 K w
structure z27_sh (p0_0:Sl)(p0_1 p0_2:Int)(p0_3:Sl)(p1_0 p1_1:Int)(p1_2 p1_3:Int)(K:Pw.T15)(w:World):Prop where
 out:let w1:=w.alloc (.cells #[(vS p0_0),(vI p0_1),(vI p0_2),(vS p0_3)] 45)
  let w2:=w1.alloc (.cells #[(vI p1_0),(vI p1_1),(vI p1_2),(vI p1_3)] 63)
  let w3:=w2.alloc (.cells #[vN,(vI 0),(vI 0),vN] 45)
  lS w3 (hA w 0) fun x4=>lI w3 (hA w 1) fun x5=>lI w3 (hA w 2) fun x6=>lS w3 (hA w 3) fun x7=>z28_sh x4 x5 x6 x7 (fun r9_0 r9_1 r9_2 r9_3 w8=>let w10:=w8.alloc (.cells #[vN,(vI 0),(vI 0),vN] 45)
  stN w10 (hA w8 0) [(vS r9_0),(vI r9_1),(vI r9_2),(vS r9_3)] fun w11=>(0<=(1:Int)/\(1:Int)<(4:Nat))/\∃ x12:Int,w11.cell? ((hA w1 0).add ((1:Int).toNat*1))=some (vI x12)/\lS w11 (hA w8 3) fun x13=>z2k_sh x12 (max 1 (x13.l:Int)) (fun r15 w14=>(0<=(1:Int)/\(1:Int)<(4:Nat))/\∃ x16:Int,w14.cell? ((hA w1 0).add ((1:Int).toNat*1))=some (vI x16)/\lS w14 (hA w8 0) fun x17=>z2k_sh x16 (max 1 (x17.l:Int)) (fun r19 w18=>(0<=(0:Int)/\(0:Int)<(4:Nat))/\∃ x20:Int,w18.cell? ((hA w1 0).add ((0:Int).toNat*1))=some (vI x20)/\z2k_sh x20 12 (fun r22 w21=>cnd (r22 == 0)
  (lS w21 (hA w8 0) fun x23=>cnd (decide ((x23.l:Int)>0))
  (let w24:=w21.drew
  ∃ S25:World->Prop,S25 w24/\mS S25 (hA w8 0) fun x26=>mS S25 (hA w8 0) fun x27=>nz x27.p fun a28=>(0<=r19/\r19<(x27.l:Nat))/\mI S25 (a28.add (r19.toNat*1)) fun x29=>nz x26.p fun a30=>(0<=r19/\r19<(x26.l:Nat))/\wrOk w24 (a30.add (r19.toNat*1))/\
  (let w31:=w24.setCell (a30.add (r19.toNat*1)) (vI (IntKind.wrap .i64 (x29+1)))
  z27_k0 (hA w2 0) (hA w8 0) K w31))
  (z27_k0 (hA w2 0) (hA w8 0) K w21))
  (cnd (r22 == 1)
  (lS w21 (hA w8 0) fun x32=>cnd (decide ((x32.l:Int)>0))
  (let w33:=w21.drew
  ∃ S34:World->Prop,S34 w33/\mS S34 (hA w8 0) fun x35=>(0<=(2:Int)/\(2:Int)<(4:Nat))/\∃ x36:Int,(∀ w':World,S34 w'->w'.cell? ((hA w1 0).add ((2:Int).toNat*1))=some (vI x36))/\z2k_sh x36 14 (fun r38 w37=>S34 w37/\nz x35.p fun a39=>(0<=r19/\r19<(x35.l:Nat))/\wrOk w37 (a39.add (r19.toNat*1))/\
  (let w40:=w37.setCell (a39.add (r19.toNat*1)) (vI (IntKind.wrap .i64 (r38-1)))
  z27_k0 (hA w2 0) (hA w8 0) K w40)) w33)
  (z27_k0 (hA w2 0) (hA w8 0) K w21))
  (cnd (r22 == 2)
  (lI w21 (hA w8 1) fun x41=>(0<=(2:Int)/\(2:Int)<(4:Nat))/\∃ x42:Int,w21.cell? ((hA w1 0).add ((2:Int).toNat*1))=some (vI x42)/\wrOk w21 (hA w8 1)/\
  (let w43:=w21.setCell (hA w8 1) (vI (IntKind.wrap .i64 (x41+x42)))
  z27_k0 (hA w2 0) (hA w8 0) K w43))
  (cnd (r22 == 3)
  (lI w21 (hA w8 2) fun x44=>(0<=(2:Int)/\(2:Int)<(4:Nat))/\∃ x45:Int,w21.cell? ((hA w1 0).add ((2:Int).toNat*1))=some (vI x45)/\wrOk w21 (hA w8 2)/\
  (let w46:=w21.setCell (hA w8 2) (vI (IntKind.wrap .i64 (x44+x45)))
  z27_k0 (hA w2 0) (hA w8 0) K w46))
  (cnd (r22 == 4)
  (∃ x47:Sl,w21.cell? (hA w8 0)=some (vS x47)/\let w48:=w21.alloc (.cells #[(vI (-1))] 3)
  apS 1 8 [(vI 0)] 3 x47 (Sl.mk (some (hA w21 0)) 1 1) w48 fun s49 w50=>wrOk w50 (hA w8 0)/\
  (let w51:=w50.setCell (hA w8 0) (vS s49)
  z27_k0 (hA w2 0) (hA w8 0) K w51))
  (lS w21 (hA w8 3) fun x52=>cnd ((x52.l:Int) == 0)
  (lS w21 (hA w8 0) fun x53=>lI w21 (hA w8 1) fun x54=>lI w21 (hA w8 2) fun x55=>lS w21 (hA w8 3) fun x56=>stN w21 (hA w2 0) [(vS x53),(vI x54),(vI x55),(vS x56)] fun w57=>lS w57 (hA w2 0) fun x58=>lI w57 (hA w2 1) fun x59=>lI w57 (hA w2 2) fun x60=>lS w57 (hA w2 3) fun x61=>K x58 x59 x60 x61 w57)
  (lS w21 (hA w8 3) fun x62=>nz x62.p fun a63=>(0<=r15/\r15<(x62.l:Nat))/\(0<=(0:Int)/\(0:Int)<(4:Nat))/\∃ x64:Int,w21.cell? ((hA w1 0).add ((0:Int).toNat*1))=some (vI x64)/\z2k_sh x64 12 (fun r66 w65=>cnd (r66 == 5)
  (let w67:=w65.drew
  ∃ S68:World->Prop,S68 w67/\mI S68 (a63.add (r15.toNat*4)) fun x69=>(0<=(2:Int)/\(2:Int)<(4:Nat))/\∃ x70:Int,(∀ w':World,S68 w'->w'.cell? ((hA w1 0).add ((2:Int).toNat*1))=some (vI x70))/\wrOk w67 (a63.add (r15.toNat*4))/\
  (let w71:=w67.setCell (a63.add (r15.toNat*4)) (vI (IntKind.wrap .i64 (x69+x70)))
  z27_k0 (hA w2 0) (hA w8 0) K w71))
  (cnd (r66 == 6)
  (let w72:=w65.drew
  ∃ S73:World->Prop,S73 w72/\(0<=(2:Int)/\(2:Int)<(4:Nat))/\∃ x74:Int,(∀ w':World,S73 w'->w'.cell? ((hA w1 0).add ((2:Int).toNat*1))=some (vI x74))/\(0<=(3:Int)/\(3:Int)<(4:Nat))/\∃ x75:Int,(∀ w':World,S73 w'->w'.cell? ((hA w1 0).add ((3:Int).toNat*1))=some (vI x75))/\z2k_sh x75 3 (fun r77 w76=>S73 w76/\wrOk w76 ((a63.add (r15.toNat*4)).add 1)/\
  (let w78:=w76.setCell ((a63.add (r15.toNat*4)).add 1) (vI x74)
  wrOk w78 ((a63.add (r15.toNat*4)).add 2)/\
  (let w79:=w78.setCell ((a63.add (r15.toNat*4)).add 2) (vI (IntKind.wrap .i64 ((1:Int)+r77)))
  z27_k0 (hA w2 0) (hA w8 0) K w79))) w72)
  (cnd (r66 == 7)
  (let w80:=w65.drew
  ∃ S81:World->Prop,S81 w80/\∃ x82:Sl,(∀ w':World,S81 w'->w'.cell? ((a63.add (r15.toNat*4)).add 3)=some (vS x82))/\(0<=(2:Int)/\(2:Int)<(4:Nat))/\∃ x83:Int,(∀ w':World,S81 w'->w'.cell? ((hA w1 0).add ((2:Int).toNat*1))=some (vI x83))/\let w84:=w80.alloc (.cells #[(vI x83)] 3)
  S81 w84/\apS 1 8 [(vI 0)] 3 x82 (Sl.mk (some (hA w80 0)) 1 1) w84 fun s85 w86=>S81 w86/\wrOk w86 ((a63.add (r15.toNat*4)).add 3)/\
  (let w87:=w86.setCell ((a63.add (r15.toNat*4)).add 3) (vS s85)
  z27_k0 (hA w2 0) (hA w8 0) K w87))
  (cnd (r66 == 8)
  (∃ x88:Sl,w65.cell? ((a63.add (r15.toNat*4)).add 3)=some (vS x88)/\cnd (decide ((x88.l:Int)>0))
  (let w89:=w65.drew
  ∃ S90:World->Prop,S90 w89/\∃ x91:Sl,(∀ w':World,S90 w'->w'.cell? ((a63.add (r15.toNat*4)).add 3)=some (vS x91))/\∃ x92:Sl,(∀ w':World,S90 w'->w'.cell? ((a63.add (r15.toNat*4)).add 3)=some (vS x92))/\(0<=(0:Int)/\(0:Int)<=(IntKind.wrap .i64 ((x92.l:Int)-1))/\(IntKind.wrap .i64 ((x92.l:Int)-1))<=(x91.c:Nat))/\wrOk w89 ((a63.add (r15.toNat*4)).add 3)/\
  (let w93:=w89.setCell ((a63.add (r15.toNat*4)).add 3) (.slice (subP x91.p 0 x91.c 1) ((IntKind.wrap .i64 ((x92.l:Int)-1)).toNat-0) (x91.c-0))
  z27_k0 (hA w2 0) (hA w8 0) K w93))
  (z27_k0 (hA w2 0) (hA w8 0) K w65))
  (cnd (r66 == 9)
  (∃ x94:Sl,w65.cell? ((a63.add (r15.toNat*4)).add 3)=some (vS x94)/\cnd (decide ((x94.l:Int)>0))
  (let w95:=w65.drew
  ∃ S96:World->Prop,S96 w95/\∃ x97:Sl,(∀ w':World,S96 w'->w'.cell? ((a63.add (r15.toNat*4)).add 3)=some (vS x97))/\(0<=(2:Int)/\(2:Int)<(4:Nat))/\∃ x98:Int,(∀ w':World,S96 w'->w'.cell? ((hA w1 0).add ((2:Int).toNat*1))=some (vI x98))/\∃ x99:Sl,(∀ w':World,S96 w'->w'.cell? ((a63.add (r15.toNat*4)).add 3)=some (vS x99))/\(0<=(3:Int)/\(3:Int)<(4:Nat))/\∃ x100:Int,(∀ w':World,S96 w'->w'.cell? ((hA w1 0).add ((3:Int).toNat*1))=some (vI x100))/\mS S96 (hA w8 3) fun x101=>z2k_sh x98 (x99.l:Int) (fun r103 w102=>S96 w102/\z2k_sh x100 (x101.l:Int) (fun r105 w104=>S96 w104/\nz x97.p fun a106=>(0<=r103/\r103<(x97.l:Nat))/\wrOk w104 (a106.add (r103.toNat*1))/\
  (let w107:=w104.setCell (a106.add (r103.toNat*1)) (vI r105)
  z27_k0 (hA w2 0) (hA w8 0) K w107)) w102) w95)
  (z27_k0 (hA w2 0) (hA w8 0) K w65))
  (cnd (r66 == 10)
  (wrOk w65 ((a63.add (r15.toNat*4)).add 3)/\
  (let w108:=w65.setCell ((a63.add (r15.toNat*4)).add 3) vN
  z27_k0 (hA w2 0) (hA w8 0) K w108))
  (cnd (r66 == 11)
  (let w109:=w65.drew
  ∃ S110:World->Prop,S110 w109/\mS S110 (hA w8 3) fun x111=>(0<=(0:Int)/\(0:Int)<=r15/\r15<=(x111.c:Nat))/\mS S110 (hA w8 3) fun x112=>(0<=(IntKind.wrap .i64 (r15+1))/\(IntKind.wrap .i64 (r15+1))<=(x112.l:Nat))/\let w113:=w109.alloc (.cells #[] 55)
  S110 w113/\apS 4 48 [(vI 0),(vI 0),(vI 0),vN] 55 (Sl.mk (some (hA w109 0)) 0 0) (Sl.mk (subP x111.p 0 x111.c 4) (r15.toNat-0) (x111.c-0)) w113 fun s114 w115=>S110 w115/\apS 4 48 [(vI 0),(vI 0),(vI 0),vN] 55 s114 (Sl.mk (subP x112.p (IntKind.wrap .i64 (r15+1)).toNat x112.c 4) (x112.l-(IntKind.wrap .i64 (r15+1)).toNat) (x112.c-(IntKind.wrap .i64 (r15+1)).toNat)) w115 fun s116 w117=>S110 w117/\wrOk w117 (hA w8 3)/\
  (let w118:=w117.setCell (hA w8 3) (vS s116)
  z27_k0 (hA w2 0) (hA w8 0) K w118))
  (z27_k0 (hA w2 0) (hA w8 0) K w65)))))))) w21))))))) w18) w14) w11) w3
def z27_L0 (Kv:VW):Cur [tQ,tQ] WP:=fun p4 p5=>z27_k0 p4 p5 (kk [.g 4,tL,tI,tI,tL] Kv)
noncomputable def z27_S:=sp [.g 4,tL,tI,tI,tL,.g 4,tI,tI,tI,tI] [.g 4,tL,tI,tI,tL] z27_sh
theorem z27_ok:okP 26 z27_S:=okR (x:=fun Kv=>qr 3 (qr 4 (qr 8 (qr 8 (qs (qr 3 (qb (qr 2 (qc (qr 4 (qc (A.drw (dp [0,1,2,3,4,5,6,7] (DA.prw 8 (DA.pur 9 (DA.eff 10 DA.done))))) ql)) (qr 2 (qc (qr 4 (qc (A.drw (dp [0,1,2,3,4] (DA.eff 5 (DA.prw 6 (DA.pur 7 (DA.eff 8 DA.done)))))) ql)) (qr 2 (qc (A.reg (qn 4 (RA.raw (qn 2 RA.done)))) (qr 2 (qc (A.reg (qn 4 (RA.raw (qn 2 RA.done)))) (qr 2 (qc (qe 6) (qs (qr 4 (qc (qr 2 ql) ql)) (qr 5 (qr 3 (qb (qr 2 (qc (A.drw (dp [0,1,2,3,4,5,6] (DA.prw 7 (dp [8,9] (DA.eff 10 DA.done))))) (qr 2 (qc (A.drw (dp [0,1,2,3,4] (DA.eff 5 (DA.prw 6 (dp [7,8,9] (DA.eff 10 DA.done)))))) (qr 2 (qc (A.drw (dp [0,1,2,3,4,5,6] (DA.eff 7 (DA.eff 8 (dp [9,10] (DA.eff 11 DA.done)))))) (qr 2 (qc (qr 6 (qc (A.drw (dp [0,1,2,3,4,5,6,7,8,9] (DA.prw 10 (dp [11,12,13] (DA.eff 14 DA.done))))) ql)) (qr 2 (qc (qr 6 (qc (A.drw (dp [0,1,2,3,4,5,6,7,8,9,10,12,13,14,15,16] (DA.eff 11 (DA.eff 17 (DA.pur 18 (DA.eff 19 DA.done)))))) ql)) (qr 2 (qc (qe 4) (qr 2 (qc (A.drw (dp [1,2,3,4,6,7,8] (DA.prw 9 (DA.pur 10 (DA.eff 0 (DA.eff 5 (DA.eff 11 (DA.pur 12 (DA.eff 13 DA.done))))))))) ql)))))))))))))))))))))))))))))) (A.cut [4,5] (uR0 [tQ,tQ] (z27_L0 Kv)) (qr 2 ql))))))) (Γ:=[(31,z2k_S),(33,z28_S)]) ⟨.inl z2k_ok,.inl z28_ok,trivial⟩ Tryz.call26 Tryz.func26 (fun Kv=>q07 (qjh (F:=z27_L0 Kv) (G:=fun p4 p5=>z27_k0d p4 p5 (kk [.g 4,tL,tI,tI,tL] Kv))) <| hEnd)
end Go.Proofs.YtfpobpjandjhjaaGreatDoor
