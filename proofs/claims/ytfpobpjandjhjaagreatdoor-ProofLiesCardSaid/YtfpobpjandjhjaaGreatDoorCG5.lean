/- The bodies' formulas, by program. -/
import Derived.Test.YtfpobpjandjhjaaGreatDoorProg
import Derived.KernelRfl
import Derived.Test.YtfpobpjandjhjaaGreatDoorPwY
import Derived.Test.YtfpobpjandjhjaaGreatDoorCG0
import Derived.Test.YtfpobpjandjhjaaGreatDoorCG1
import Derived.Test.YtfpobpjandjhjaaGreatDoorCG2
set_option maxRecDepth 20000
namespace Go.Proofs.YtfpobpjandjhjaaGreatDoor
open Go Pw
def z05_sd (m_0:Option Addr) (n_1:Int) (K:Pw.T1) (w:World):Prop :=
 let w1 := w.drew
 nz m_0 fun a2=>∃ x3:Int, w1.cell? (a2.add 1)=some (Value.int .i64 x3)/\nz m_0 fun a4=>∃ x5:Sl, w1.cell? a4=some (Value.slice x5.p x5.l x5.c)/\cnd (decide (x3 >= (x5.l:Int)))
 (K (0:Int) w1)
 (nz m_0 fun a6=>∃ x7:Int, w1.cell? (a6.add 1)=some (Value.int .i64 x7)/\inR .i64 (x7 + (1:Int))/\nz m_0 fun a8=>wrOk w1 (a8.add 1)/\
 (let w9 := w1.setCell (a8.add 1) (Value.int .i64 (x7 + (1:Int)))
 let w10 := w9.drew
 ∃ S11:World->Prop, S11 w10/\nz m_0 fun a12=>∃ x13:Sl, (∀ w':World, S11 w'->w'.cell? a12=some (Value.slice x13.p x13.l x13.c))/\nz m_0 fun a14=>∃ x15:Int, (∀ w':World, S11 w'->w'.cell? (a14.add 1)=some (Value.int .i64 x15))/\inR .i64 (x15 - (1:Int))/\nz x13.p fun a16=>(0 <= (x15 - (1:Int))/\(x15 - (1:Int)) < (x13.l:Nat))/\∃ x17:Int, (∀ w':World, S11 w'->w'.cell? (a16.add ((x15 - (1:Int)).toNat * 1))=some (Value.int .i64 x17))/\z2h_sh x17 n_1 (fun r19 w18=>S11 w18/\K r19 w18) w10))
structure z05_sh (m_0:Option Addr) (n_1:Int) (K:Pw.T1) (w:World):Prop where
 out:z05_sd m_0 n_1 K w
noncomputable def z05_S:Pw.Spec := fun vs w Kv=>un [tP, tI] (fun m_0 n_1=>z05_sh m_0 n_1 (kk [tI] Kv)) nF vs w
def z05_A (_:VW):A := (qr 1 (qs (qs (A.drp (dp [0, 1, 2, 3, 4, 5, 6, 7, 8, 9] DA.done)) (qc (qr 1 ql) ql)) (qr 8 (qs (A.drw (dp [0, 1, 2, 3, 4, 5, 6, 7, 8, 9, 10, 11] (DA.eff 12 (DA.pur 13 DA.done)))) ql))))
theorem z05_ok:Sound Tryz.prog 34 z05_S := okS (x := z05_A) (fun Kv m_0 n_1=>z05_sd m_0 n_1 (kk [tI] Kv)) progMixed (Γ := [(35, z2h_S)]) ⟨.inl z2h_ok, trivial⟩ Tryz.call34 Tryz.func34 (fun _=>hEnd)
def z24_b3 (t_2 m_3 p_4:Addr) (lots_5 deals_9 i_10:Int) (d_11:Addr) (set_12 k_13:Int) (N3:Addr->Addr->Addr->Int->Int->Int->Addr->Int->Int->World->Prop) (N2:Addr->Addr->Addr->Int->Int->Int->World->Prop) (K:Pw.T6) (w:World):Prop :=
 cnd (decide (k_13 < lots_5))
 (0 <= k_13/\cnd ((IntKind.wrap .i64 (((BitVec.ofInt (IntKind.bits .i64) (Int.fdiv set_12 (2 ^ (min k_13.toNat (IntKind.bits .i64)))) &&& BitVec.ofInt (IntKind.bits .i64) (1:Int))).toNat:Int)) == (1:Int))
 (let w50 := w.drew
 ∃ S51:World->Prop, S51 w50/\∃ x52:Sl, (∀ w':World, S51 w'->w'.cell? (d_11.add 1)=some (Value.slice x52.p x52.l x52.c))/\∃ x53:Sl, (∀ w':World, S51 w'->w'.cell? p_4=some (Value.slice x53.p x53.l x53.c))/\nz x53.p fun a54=>(0 <= k_13/\k_13 < (x53.l:Nat))/\∃ x55:Int, (∀ w':World, S51 w'->w'.cell? (a54.add (k_13.toNat * 1))=some (Value.int .i64 x55))/\let w56 := w50.alloc (Obj.cells #[(Value.int .i64 x55)] 3)
 S51 w56/\apS 1 8 [(Value.int .i64 0)] 3 x52 (Sl.mk (some (Addr.mk w50.heap.size 0 none)) 1 1) w56 fun s57 w58=>S51 w58/\wrOk w58 (d_11.add 1)/\
 (let w59 := w58.setCell (d_11.add 1) (Value.slice s57.p s57.l s57.c)
 inR .i64 (k_13 + (1:Int))/\N3 t_2 m_3 p_4 lots_5 deals_9 i_10 d_11 set_12 (k_13 + (1:Int)) w59))
 (inR .i64 (k_13 + (1:Int))/\N3 t_2 m_3 p_4 lots_5 deals_9 i_10 d_11 set_12 (k_13 + (1:Int)) w))
 (∃ x60:Sl, w.cell? (p_4.add 2)=some (Value.slice x60.p x60.l x60.c)/\∃ x61:Int, w.cell? d_11=some (Value.int .i64 x61)/\∃ x62:Sl, w.cell? (d_11.add 1)=some (Value.slice x62.p x62.l x62.c)/\∃ x63:Int, w.cell? (d_11.add 2)=some (Value.int .i64 x63)/\let w64 := w.alloc (Obj.cells #[(Value.int .i64 x61), (Value.slice x62.p x62.l x62.c), (Value.int .i64 x63)] 81)
 apS 3 40 [(Value.int .i64 0), (Value.slice none 0 0), (Value.int .i64 0)] 81 x60 (Sl.mk (some (Addr.mk w.heap.size 0 none)) 1 1) w64 fun s65 w66=>wrOk w66 (p_4.add 2)/\
 (let w67 := w66.setCell (p_4.add 2) (Value.slice s65.p s65.l s65.c)
 inR .i64 (i_10 + (1:Int))/\N2 t_2 m_3 p_4 lots_5 deals_9 (i_10 + (1:Int)) w67))
def z24_l3d (t_2 m_3 p_4:Addr) (lots_5 deals_9 i_10:Int) (d_11:Addr) (set_12 k_13:Int) (N2:Addr->Addr->Addr->Int->Int->Int->World->Prop) (K:Pw.T6) (w:World):Prop :=
 ∃ (I:Int->World->Prop) (μ:Int->World->Nat), I k_13 w/\∀ (k_131:Int) (w1:World), I k_131 w1 ->
 z24_b3 t_2 m_3 p_4 lots_5 deals_9 i_10 d_11 set_12 k_131 (fun t_2' m_3' p_4' lots_5' deals_9' i_10' d_11' set_12' k_13' w'=>((t_2'=t_2/\m_3'=m_3/\p_4'=p_4/\lots_5'=lots_5/\deals_9'=deals_9/\i_10'=i_10/\d_11'=d_11/\set_12'=set_12/\True)/\I k_13' w')/\μ k_13' w' < μ k_131 w1) N2 K w1
structure z24_l3 (t_2 m_3 p_4:Addr) (lots_5 deals_9 i_10:Int) (d_11:Addr) (set_12 k_13:Int) (N2:Addr->Addr->Addr->Int->Int->Int->World->Prop) (K:Pw.T6) (w:World):Prop where
 out:z24_l3d t_2 m_3 p_4 lots_5 deals_9 i_10 d_11 set_12 k_13 N2 K w
def z24_b2 (t_2 m_3 p_4:Addr) (lots_5 deals_9 i_10:Int) (N2:Addr->Addr->Addr->Int->Int->Int->World->Prop) (K:Pw.T6) (w:World):Prop :=
 cnd (decide (i_10 < deals_9))
 (z05_sh (some m_3) (4:Int) (fun r43 w42=>inR .i64 ((1:Int) + r43)/\z05_sh (some m_3) (6:Int) (fun r45 w44=>let w46 := w44.alloc (Obj.cells #[(Value.int .i64 0), (Value.slice none 0 0), (Value.int .i64 0)] 81)
 stN w46 (Addr.mk w44.heap.size 0 none) [(Value.int .i64 ((1:Int) + r43)), (Value.slice none 0 0), (Value.int .i64 r45)] fun w47=>0 <= lots_5/\inR .i64 ((IntKind.wrap .i64 ((1:Int) * 2 ^ (min lots_5.toNat (IntKind.bits .i64)))) - (1:Int))/\z05_sh (some m_3) ((IntKind.wrap .i64 ((1:Int) * 2 ^ (min lots_5.toNat (IntKind.bits .i64)))) - (1:Int)) (fun r49 w48=>inR .i64 ((1:Int) + r49)/\z24_l3 t_2 m_3 p_4 lots_5 deals_9 i_10 (Addr.mk w44.heap.size 0 none) ((1:Int) + r49) (0:Int) N2 K w48) w47) w42) w)
 (∃ x68:Sl, w.cell? p_4=some (Value.slice x68.p x68.l x68.c)/\∃ x69:Sl, w.cell? (p_4.add 1)=some (Value.slice x69.p x69.l x69.c)/\∃ x70:Sl, w.cell? (p_4.add 2)=some (Value.slice x70.p x70.l x70.c)/\∃ x71:Int, w.cell? (p_4.add 3)=some (Value.int .i64 x71)/\∃ x72:Int, w.cell? (p_4.add 4)=some (Value.int .i64 x72)/\stN w t_2 [(Value.slice x68.p x68.l x68.c), (Value.slice x69.p x69.l x69.c), (Value.slice x70.p x70.l x70.c), (Value.int .i64 x71), (Value.int .i64 x72)] fun w73=>∃ x74:Sl, w73.cell? t_2=some (Value.slice x74.p x74.l x74.c)/\∃ x75:Sl, w73.cell? (t_2.add 1)=some (Value.slice x75.p x75.l x75.c)/\∃ x76:Sl, w73.cell? (t_2.add 2)=some (Value.slice x76.p x76.l x76.c)/\∃ x77:Int, w73.cell? (t_2.add 3)=some (Value.int .i64 x77)/\∃ x78:Int, w73.cell? (t_2.add 4)=some (Value.int .i64 x78)/\K x74 x75 x76 x77 x78 w73)
def z24_l2d (t_2 m_3 p_4:Addr) (lots_5 deals_9 i_10:Int) (K:Pw.T6) (w:World):Prop :=
 ∃ (I:Int->World->Prop) (μ:Int->World->Nat), I i_10 w/\∀ (i_101:Int) (w1:World), I i_101 w1 ->
 z24_b2 t_2 m_3 p_4 lots_5 deals_9 i_101 (fun t_2' m_3' p_4' lots_5' deals_9' i_10' w'=>((t_2'=t_2/\m_3'=m_3/\p_4'=p_4/\lots_5'=lots_5/\deals_9'=deals_9/\True)/\I i_10' w')/\μ i_10' w' < μ i_101 w1) K w1
structure z24_l2 (t_2 m_3 p_4:Addr) (lots_5 deals_9 i_10:Int) (K:Pw.T6) (w:World):Prop where
 out:z24_l2d t_2 m_3 p_4 lots_5 deals_9 i_10 K w
def z24_b1 (t_2 m_3 p_4:Addr) (lots_5 choices_7 i_8:Int) (N1:Addr->Addr->Addr->Int->Int->Int->World->Prop) (K:Pw.T6) (w:World):Prop :=
 cnd (decide (i_8 < choices_7))
 (let w22 := w.drew
 ∃ S23:World->Prop, S23 w22/\∃ x24:Sl, (∀ w':World, S23 w'->w'.cell? (p_4.add 1)=some (Value.slice x24.p x24.l x24.c))/\∃ x25:Sl, (∀ w':World, S23 w'->w'.cell? p_4=some (Value.slice x25.p x25.l x25.c))/\z05_sh (some m_3) lots_5 (fun r27 w26=>S23 w26/\nz x25.p fun a28=>(0 <= r27/\r27 < (x25.l:Nat))/\∃ x29:Int, (∀ w':World, S23 w'->w'.cell? (a28.add (r27.toNat * 1))=some (Value.int .i64 x29))/\z05_sh (some m_3) (4:Int) (fun r31 w30=>S23 w30/\inR .i64 ((1:Int) + r31)/\z05_sh (some m_3) (12:Int) (fun r33 w32=>S23 w32/\z05_sh (some m_3) (6:Int) (fun r35 w34=>S23 w34/\let w36 := w34.alloc (Obj.cells #[(Value.int .i64 x29), (Value.int .i64 ((1:Int) + r31)), (Value.int .i64 r33), (Value.int .i64 r35)] 57)
 S23 w36/\apS 4 32 [(Value.int .i64 0), (Value.int .i64 0), (Value.int .i64 0), (Value.int .i64 0)] 57 x24 (Sl.mk (some (Addr.mk w34.heap.size 0 none)) 1 1) w36 fun s37 w38=>S23 w38/\wrOk w38 (p_4.add 1)/\
 (let w39 := w38.setCell (p_4.add 1) (Value.slice s37.p s37.l s37.c)
 inR .i64 (i_8 + (1:Int))/\N1 t_2 m_3 p_4 lots_5 choices_7 (i_8 + (1:Int)) w39)) w32) w30) w26) w22)
 (z05_sh (some m_3) (4:Int) (fun r41 w40=>z24_l2 t_2 m_3 p_4 lots_5 r41 (0:Int) K w40) w)
def z24_l1d (t_2 m_3 p_4:Addr) (lots_5 choices_7 i_8:Int) (K:Pw.T6) (w:World):Prop :=
 ∃ (I:Int->World->Prop) (μ:Int->World->Nat), I i_8 w/\∀ (i_81:Int) (w1:World), I i_81 w1 ->
 z24_b1 t_2 m_3 p_4 lots_5 choices_7 i_81 (fun t_2' m_3' p_4' lots_5' choices_7' i_8' w'=>((t_2'=t_2/\m_3'=m_3/\p_4'=p_4/\lots_5'=lots_5/\choices_7'=choices_7/\True)/\I i_8' w')/\μ i_8' w' < μ i_81 w1) K w1
structure z24_l1 (t_2 m_3 p_4:Addr) (lots_5 choices_7 i_8:Int) (K:Pw.T6) (w:World):Prop where
 out:z24_l1d t_2 m_3 p_4 lots_5 choices_7 i_8 K w
def z24_b0 (t_2 m_3 p_4:Addr) (lots_5 i_6:Int) (N0:Addr->Addr->Addr->Int->Int->World->Prop) (K:Pw.T6) (w:World):Prop :=
 cnd (decide (i_6 < lots_5))
 (let w11 := w.drew
 ∃ S12:World->Prop, S12 w11/\∃ x13:Sl, (∀ w':World, S12 w'->w'.cell? p_4=some (Value.slice x13.p x13.l x13.c))/\inR .i64 ((3:Int) * i_6)/\inR .i64 ((10:Int) + ((3:Int) * i_6))/\z05_sh (some m_3) (2:Int) (fun r15 w14=>S12 w14/\inR .i64 ((2:Int) * r15)/\inR .i64 (((10:Int) + ((3:Int) * i_6)) - ((2:Int) * r15))/\let w16 := w14.alloc (Obj.cells #[(Value.int .i64 (((10:Int) + ((3:Int) * i_6)) - ((2:Int) * r15)))] 3)
 S12 w16/\apS 1 8 [(Value.int .i64 0)] 3 x13 (Sl.mk (some (Addr.mk w14.heap.size 0 none)) 1 1) w16 fun s17 w18=>wrOk w18 p_4/\
 (let w19 := w18.setCell p_4 (Value.slice s17.p s17.l s17.c)
 inR .i64 (i_6 + (1:Int))/\N0 t_2 m_3 p_4 lots_5 (i_6 + (1:Int)) w19)) w11)
 (z05_sh (some m_3) (13:Int) (fun r21 w20=>z24_l1 t_2 m_3 p_4 lots_5 r21 (0:Int) K w20) w)
def z24_l0d (t_2 m_3 p_4:Addr) (lots_5 i_6:Int) (K:Pw.T6) (w:World):Prop :=
 ∃ (I:Int->World->Prop) (μ:Int->World->Nat), I i_6 w/\∀ (i_61:Int) (w1:World), I i_61 w1 ->
 z24_b0 t_2 m_3 p_4 lots_5 i_61 (fun t_2' m_3' p_4' lots_5' i_6' w'=>((t_2'=t_2/\m_3'=m_3/\p_4'=p_4/\lots_5'=lots_5/\True)/\I i_6' w')/\μ i_6' w' < μ i_61 w1) K w1
structure z24_l0 (t_2 m_3 p_4:Addr) (lots_5 i_6:Int) (K:Pw.T6) (w:World):Prop where
 out:z24_l0d t_2 m_3 p_4 lots_5 i_6 K w
def z24_sd (l_0:Sl) (K:Pw.T6) (w:World):Prop :=
 let w1 := w.alloc (Obj.cells #[(Value.slice none 0 0), (Value.slice none 0 0), (Value.slice none 0 0), (Value.int .i64 0), (Value.int .i64 0)] 28)
 let w2 := w1.alloc (Obj.cells #[(Value.slice l_0.p l_0.l l_0.c), (Value.int .i64 0)] 78)
 z05_sh (some (Addr.mk w1.heap.size 0 none)) (4:Int) (fun r4 w3=>z05_sh (some (Addr.mk w1.heap.size 0 none)) (30:Int) (fun r6 w5=>let w7 := w5.alloc (Obj.cells #[(Value.slice none 0 0), (Value.slice none 0 0), (Value.slice none 0 0), (Value.int .i64 0), (Value.int .i64 0)] 28)
 stN w7 (Addr.mk w5.heap.size 0 none) [(Value.slice none 0 0), (Value.slice none 0 0), (Value.slice none 0 0), (Value.int .i64 r4), (Value.int .i64 r6)] fun w8=>z05_sh (some (Addr.mk w1.heap.size 0 none)) (4:Int) (fun r10 w9=>inR .i64 ((1:Int) + r10)/\z24_l0 (Addr.mk w.heap.size 0 none) (Addr.mk w1.heap.size 0 none) (Addr.mk w5.heap.size 0 none) ((1:Int) + r10) (0:Int) K w9) w8) w3) w2
structure z24_sh (l_0:Sl) (K:Pw.T6) (w:World):Prop where
 out:z24_sd l_0 K w
def z24_L0 (Kv:VW):Cur [tQ, tQ, tQ, tI, tI] WP := fun t_2 m_3 p_4 lots_5 i_6=>z24_l0 t_2 m_3 p_4 lots_5 i_6 (kk [.g 5, tL, tL, tL, tI, tI] Kv)
def z24_L1 (Kv:VW):Cur [tQ, tQ, tQ, tI, tI, tI] WP := fun t_2 m_3 p_4 lots_5 choices_7 i_8=>z24_l1 t_2 m_3 p_4 lots_5 choices_7 i_8 (kk [.g 5, tL, tL, tL, tI, tI] Kv)
def z24_L2 (Kv:VW):Cur [tQ, tQ, tQ, tI, tI, tI] WP := fun t_2 m_3 p_4 lots_5 deals_9 i_10=>z24_l2 t_2 m_3 p_4 lots_5 deals_9 i_10 (kk [.g 5, tL, tL, tL, tI, tI] Kv)
def z24_L3 (Kv:VW):Cur [tQ, tQ, tQ, tI, tI, tI] WP->Cur [tQ, tQ, tQ, tI, tI, tI, tQ, tI, tI] WP := fun N2 t_2 m_3 p_4 lots_5 deals_9 i_10 d_11 set_12 k_13=>z24_l3 t_2 m_3 p_4 lots_5 deals_9 i_10 d_11 set_12 k_13 N2 (kk [.g 5, tL, tL, tL, tI, tI] Kv)
noncomputable def z24_S:Pw.Spec := fun vs w Kv=>un [tL] (fun l_0=>z24_sh l_0 (kk [.g 5, tL, tL, tL, tI, tI] Kv)) nF vs w
def z24_A (Kv:VW):A := (qr 1 (qr 4 (qr 7 (qr 4 (qs (qr 1 (qb (A.loop [2, 3, 4, 5, 6] (uR0 [tQ, tQ, tQ, tI, tI] (z24_L0 Kv)) (qs (qr 3 (qc ql ql)) (qs (qb (A.drw (dp [0, 1, 2, 3, 4, 5] (DA.eff 6 (dp [7, 8] (DA.eff 9 (DA.eff 10 (DA.pur 11 (DA.eff 12 DA.done))))))))) (qe 3)))))) (qr 3 (qs (qr 1 (qb (A.loop [2, 3, 4, 5, 7, 8] (uR0 [tQ, tQ, tQ, tI, tI, tI] (z24_L1 Kv)) (qs (qr 3 (qc ql ql)) (qs (qb (A.drw (dp [0, 1, 2, 3, 4, 5, 9, 12, 14] (DA.eff 6 (dp [7, 8] (DA.eff 10 (DA.pur 11 (DA.eff 13 (DA.eff 15 (DA.pur 16 (DA.eff 17 (DA.eff 18 (DA.pur 19 (DA.eff 20 DA.done)))))))))))))) (qe 3)))))) (qr 3 (qs (qr 1 (qb (A.loop [2, 3, 4, 5, 9, 10] (uR0 [tQ, tQ, tQ, tI, tI, tI] (z24_L2 Kv)) (qs (qr 3 (qc ql ql)) (qs (qb (qr 8 (qr 7 (qs (qr 1 (qb (A.loop [2, 3, 4, 5, 9, 10, 11, 12, 13] (uR1 [tQ, tQ, tQ, tI, tI, tI] [tQ, tQ, tQ, tI, tI, tI, tQ, tI, tI] (z24_L3 Kv)) (qs (qr 3 (qc ql ql)) (qs (qb (qr 5 (qc (A.drw (dp [0, 1, 2, 3, 4, 5, 6] (DA.eff 7 (DA.eff 8 (DA.pur 9 (DA.eff 10 DA.done)))))) ql))) (qe 3)))))) (qe 7))))) (qe 3)))))) (qr 2 ql))))))))))
theorem z24_ok:Sound Tryz.prog 11 z24_S := okS (x := z24_A) (fun Kv l_0=>z24_sd l_0 (kk [.g 5, tL, tL, tL, tI, tI] Kv)) progMixed (Γ := [(34, z05_S)]) ⟨.inl z05_ok, trivial⟩ Tryz.call11 Tryz.func11 (fun Kv=>hStep (hLoop0 (L := z24_L0 Kv) (fun N0 t_2 m_3 p_4 lots_5 i_6=>z24_b0 t_2 m_3 p_4 lots_5 i_6 N0 (kk [.g 5, tL, tL, tL, tI, tI] Kv)) (fun ⟨a0, a1, a2, a3, _, _⟩ _ h=>let ⟨I, μ, h0, hr⟩ := h.out; ⟨fun b0 b1 b2 b3 b4 w=>(b0=a0/\b1=a1/\b2=a2/\b3=a3/\True)/\I b4 w, fun _ _ _ _ b4 w=>μ b4 w, ⟨⟨rfl, rfl, rfl, rfl, trivial⟩, h0⟩, fun ⟨_, _, _, _, _, _⟩ _ ⟨⟨e0, e1, e2, e3, _⟩, hI⟩=>by cases e0; cases e1; cases e2; cases e3; exact hr _ _ hI⟩)) <| hStep (hLoop0 (L := z24_L1 Kv) (fun N1 t_2 m_3 p_4 lots_5 choices_7 i_8=>z24_b1 t_2 m_3 p_4 lots_5 choices_7 i_8 N1 (kk [.g 5, tL, tL, tL, tI, tI] Kv)) (fun ⟨a0, a1, a2, a3, a4, _, _⟩ _ h=>let ⟨I, μ, h0, hr⟩ := h.out; ⟨fun b0 b1 b2 b3 b4 b5 w=>(b0=a0/\b1=a1/\b2=a2/\b3=a3/\b4=a4/\True)/\I b5 w, fun _ _ _ _ _ b5 w=>μ b5 w, ⟨⟨rfl, rfl, rfl, rfl, rfl, trivial⟩, h0⟩, fun ⟨_, _, _, _, _, _, _⟩ _ ⟨⟨e0, e1, e2, e3, e4, _⟩, hI⟩=>by cases e0; cases e1; cases e2; cases e3; cases e4; exact hr _ _ hI⟩)) <| hStep (hLoop0 (L := z24_L2 Kv) (fun N2 t_2 m_3 p_4 lots_5 deals_9 i_10=>z24_b2 t_2 m_3 p_4 lots_5 deals_9 i_10 N2 (kk [.g 5, tL, tL, tL, tI, tI] Kv)) (fun ⟨a0, a1, a2, a3, a4, _, _⟩ _ h=>let ⟨I, μ, h0, hr⟩ := h.out; ⟨fun b0 b1 b2 b3 b4 b5 w=>(b0=a0/\b1=a1/\b2=a2/\b3=a3/\b4=a4/\True)/\I b5 w, fun _ _ _ _ _ b5 w=>μ b5 w, ⟨⟨rfl, rfl, rfl, rfl, rfl, trivial⟩, h0⟩, fun ⟨_, _, _, _, _, _, _⟩ _ ⟨⟨e0, e1, e2, e3, e4, _⟩, hI⟩=>by cases e0; cases e1; cases e2; cases e3; cases e4; exact hr _ _ hI⟩)) <| hStep (hLoop1 (L := z24_L3 Kv) (fun N2 N3 t_2 m_3 p_4 lots_5 deals_9 i_10 d_11 set_12 k_13=>z24_b3 t_2 m_3 p_4 lots_5 deals_9 i_10 d_11 set_12 k_13 N3 N2 (kk [.g 5, tL, tL, tL, tI, tI] Kv)) (fun _ ⟨a0, a1, a2, a3, a4, a5, a6, a7, _, _⟩ _ h=>let ⟨I, μ, h0, hr⟩ := h.out; ⟨fun b0 b1 b2 b3 b4 b5 b6 b7 b8 w=>(b0=a0/\b1=a1/\b2=a2/\b3=a3/\b4=a4/\b5=a5/\b6=a6/\b7=a7/\True)/\I b8 w, fun _ _ _ _ _ _ _ _ b8 w=>μ b8 w, ⟨⟨rfl, rfl, rfl, rfl, rfl, rfl, rfl, rfl, trivial⟩, h0⟩, fun ⟨_, _, _, _, _, _, _, _, _, _⟩ _ ⟨⟨e0, e1, e2, e3, e4, e5, e6, e7, _⟩, hI⟩=>by cases e0; cases e1; cases e2; cases e3; cases e4; cases e5; cases e6; cases e7; exact hr _ _ hI⟩)) <| hEnd)
def z0o_b0 (l_0:Sl) (n_1 i_5:Int) (N0:Sl->Int->Int->World->Prop) (K:Pw.T0) (w:World):Prop :=
 cnd (decide (i_5 < (l_0.l:Int)))
 (nz l_0.p fun a1=>(0 <= i_5/\i_5 < (l_0.l:Nat))/\∃ x2:Int, w.cell? (a1.add (i_5.toNat * 1))=some (Value.int .i64 x2)/\cnd (x2 == n_1)
 (K true w)
 (inR .i64 (i_5 + (1:Int))/\N0 l_0 n_1 (i_5 + (1:Int)) w))
 (K false w)
def z0o_l0d (l_0:Sl) (n_1 i_5:Int) (K:Pw.T0) (w:World):Prop :=
 ∃ (I:Int->World->Prop) (μ:Int->World->Nat), I i_5 w/\∀ (i_51:Int) (w1:World), I i_51 w1 ->
 z0o_b0 l_0 n_1 i_51 (fun l_0' n_1' i_5' w'=>((l_0'=l_0/\n_1'=n_1/\True)/\I i_5' w')/\μ i_5' w' < μ i_51 w1) K w1
structure z0o_l0 (l_0:Sl) (n_1 i_5:Int) (K:Pw.T0) (w:World):Prop where
 out:z0o_l0d l_0 n_1 i_5 K w
def z0o_sd (l_0:Sl) (n_1:Int) (K:Pw.T0) (w:World):Prop :=
 z0o_l0 l_0 n_1 (0:Int) K w
structure z0o_sh (l_0:Sl) (n_1:Int) (K:Pw.T0) (w:World):Prop where
 out:z0o_sd l_0 n_1 K w
def z0o_L0 (Kv:VW):Cur [tL, tI, tI] WP := fun l_0 n_1 i_5=>z0o_l0 l_0 n_1 i_5 (kk [tB] Kv)
noncomputable def z0o_S:Pw.Spec := fun vs w Kv=>un [tL, tI] (fun l_0 n_1=>z0o_sh l_0 n_1 (kk [tB] Kv)) nF vs w
def z0o_A (Kv:VW):A := (qr 1 (qs (qr 1 (qb (A.loop [0, 1, 5] (uR0 [tL, tI, tI] (z0o_L0 Kv)) (qs (qr 4 (qc ql ql)) (qs (qb (qr 6 (qc (qr 1 ql) ql))) (qe 3)))))) (qr 1 ql)))
theorem z0o_ok:Sound Tryz.prog 95 z0o_S := okS (x := z0o_A) (fun Kv l_0 n_1=>z0o_sd l_0 n_1 (kk [tB] Kv)) progMixed (Γ := []) trivial Tryz.call95 Tryz.func95 (fun Kv=>hStep (hLoop0 (L := z0o_L0 Kv) (fun N0 l_0 n_1 i_5=>z0o_b0 l_0 n_1 i_5 N0 (kk [tB] Kv)) (fun ⟨a0, a1, _, _⟩ _ h=>let ⟨I, μ, h0, hr⟩ := h.out; ⟨fun b0 b1 b2 w=>(b0=a0/\b1=a1/\True)/\I b2 w, fun _ _ b2 w=>μ b2 w, ⟨⟨rfl, rfl, trivial⟩, h0⟩, fun ⟨_, _, _, _⟩ _ ⟨⟨e0, e1, _⟩, hI⟩=>by cases e0; cases e1; exact hr _ _ hI⟩)) <| hEnd)
def z0h_b0 (l_0:Sl) (i_3:Int) (N0:Sl->Int->World->Prop) (K:Pw.T0) (w:World):Prop :=
 cnd (decide (i_3 < (l_0.l:Int)))
 (let w1 := w.drew
 ∃ S2:World->Prop, S2 w1/\(0 <= (0:Int)/\(0:Int) <= i_3/\i_3 <= (l_0.c:Nat))/\nz l_0.p fun a3=>(0 <= i_3/\i_3 < (l_0.l:Nat))/\∃ x4:Int, (∀ w':World, S2 w'->w'.cell? (a3.add (i_3.toNat * 1))=some (Value.int .i64 x4))/\z0o_sh (Sl.mk (subP l_0.p 0 l_0.c 1) (i_3.toNat - 0) (l_0.c - 0)) x4 (fun r6 w5=>cnd r6
 (K false w5)
 (inR .i64 (i_3 + (1:Int))/\N0 l_0 (i_3 + (1:Int)) w5)) w1)
 (K true w)
def z0h_l0d (l_0:Sl) (i_3:Int) (K:Pw.T0) (w:World):Prop :=
 ∃ (I:Int->World->Prop) (μ:Int->World->Nat), I i_3 w/\∀ (i_31:Int) (w1:World), I i_31 w1 ->
 z0h_b0 l_0 i_31 (fun l_0' i_3' w'=>((l_0'=l_0/\True)/\I i_3' w')/\μ i_3' w' < μ i_31 w1) K w1
structure z0h_l0 (l_0:Sl) (i_3:Int) (K:Pw.T0) (w:World):Prop where
 out:z0h_l0d l_0 i_3 K w
def z0h_sd (l_0:Sl) (K:Pw.T0) (w:World):Prop :=
 z0h_l0 l_0 (0:Int) K w
structure z0h_sh (l_0:Sl) (K:Pw.T0) (w:World):Prop where
 out:z0h_sd l_0 K w
def z0h_L0 (Kv:VW):Cur [tL, tI] WP := fun l_0 i_3=>z0h_l0 l_0 i_3 (kk [tB] Kv)
noncomputable def z0h_S:Pw.Spec := fun vs w Kv=>un [tL] (fun l_0=>z0h_sh l_0 (kk [tB] Kv)) nF vs w
def z0h_A (Kv:VW):A := (qr 1 (qs (qr 1 (qb (A.loop [0, 3] (uR0 [tL, tI] (z0h_L0 Kv)) (qs (qr 4 (qc ql ql)) (qs (qb (qs (A.drw (dp [0, 1, 2, 3, 4, 5, 6] (DA.eff 7 DA.done))) (qc (qr 1 ql) ql))) (qe 3)))))) (qr 1 ql)))
theorem z0h_ok:Sound Tryz.prog 93 z0h_S := okS (x := z0h_A) (fun Kv l_0=>z0h_sd l_0 (kk [tB] Kv)) progMixed (Γ := [(95, z0o_S)]) ⟨.inl z0o_ok, trivial⟩ Tryz.call93 Tryz.func93 (fun Kv=>hStep (hLoop0 (L := z0h_L0 Kv) (fun N0 l_0 i_3=>z0h_b0 l_0 i_3 N0 (kk [tB] Kv)) (fun ⟨a0, _, _⟩ _ h=>let ⟨I, μ, h0, hr⟩ := h.out; ⟨fun b0 b1 w=>(b0=a0/\True)/\I b1 w, fun _ b1 w=>μ b1 w, ⟨⟨rfl, trivial⟩, h0⟩, fun ⟨_, _, _⟩ _ ⟨⟨e0, _⟩, hI⟩=>by cases e0; exact hr _ _ hI⟩)) <| hEnd)
def z1e_sd (n_0 most_1:Int) (K:Pw.T0) (w:World):Prop :=
 cnd (decide (n_0 >= (0:Int)))
 (K (decide (n_0 <= most_1)) w)
 (K false w)
structure z1e_sh (n_0 most_1:Int) (K:Pw.T0) (w:World):Prop where
 out:z1e_sd n_0 most_1 K w
noncomputable def z1e_S:Pw.Spec := fun vs w Kv=>un [tI, tI] (fun n_0 most_1=>z1e_sh n_0 most_1 (kk [tB] Kv)) nF vs w
def z1e_A (_:VW):A := (qr 1 (qs (A.reg (qn 3 (RA.spl 7 (qn 5 RA.done) (qk 3 (qn 2 RA.done))))) ql))
theorem z1e_ok:Sound Tryz.prog 94 z1e_S := okS (x := z1e_A) (fun Kv n_0 most_1=>z1e_sd n_0 most_1 (kk [tB] Kv)) progMixed (Γ := []) trivial Tryz.call94 Tryz.func94 (fun _=>hEnd)
def z1s_b2 (p_1:Addr) (i_5:Int) (d_6:Addr) (k_7:Int) (N2:Addr->Int->Addr->Int->World->Prop) (N1:Addr->Int->World->Prop) (K:Pw.T0) (w:World):Prop :=
 ∃ x49:Sl, w.cell? (d_6.add 1)=some (Value.slice x49.p x49.l x49.c)/\cnd (decide (k_7 < (x49.l:Int)))
 (let w50 := w.drew
 ∃ S51:World->Prop, S51 w50/\∃ x52:Sl, (∀ w':World, S51 w'->w'.cell? p_1=some (Value.slice x52.p x52.l x52.c))/\∃ x53:Sl, (∀ w':World, S51 w'->w'.cell? (d_6.add 1)=some (Value.slice x53.p x53.l x53.c))/\nz x53.p fun a54=>(0 <= k_7/\k_7 < (x53.l:Nat))/\∃ x55:Int, (∀ w':World, S51 w'->w'.cell? (a54.add (k_7.toNat * 1))=some (Value.int .i64 x55))/\z0o_sh x52 x55 (fun r57 w56=>S51 w56/\cnd (!r57)
 (K false w56)
 (inR .i64 (k_7 + (1:Int))/\N2 p_1 i_5 d_6 (k_7 + (1:Int)) w56)) w50)
 (inR .i64 (i_5 + (1:Int))/\N1 p_1 (i_5 + (1:Int)) w)
def z1s_l2d (p_1:Addr) (i_5:Int) (d_6:Addr) (k_7:Int) (N1:Addr->Int->World->Prop) (K:Pw.T0) (w:World):Prop :=
 ∃ (I:Int->World->Prop) (μ:Int->World->Nat), I k_7 w/\∀ (k_71:Int) (w1:World), I k_71 w1 ->
 z1s_b2 p_1 i_5 d_6 k_71 (fun p_1' i_5' d_6' k_7' w'=>((p_1'=p_1/\i_5'=i_5/\d_6'=d_6/\True)/\I k_7' w')/\μ k_7' w' < μ k_71 w1) N1 K w1
structure z1s_l2 (p_1:Addr) (i_5:Int) (d_6:Addr) (k_7:Int) (N1:Addr->Int->World->Prop) (K:Pw.T0) (w:World):Prop where
 out:z1s_l2d p_1 i_5 d_6 k_7 N1 K w
def z1s_b1 (p_1:Addr) (i_5:Int) (N1:Addr->Int->World->Prop) (K:Pw.T0) (w:World):Prop :=
 ∃ x34:Sl, w.cell? (p_1.add 2)=some (Value.slice x34.p x34.l x34.c)/\cnd (decide (i_5 < (x34.l:Int)))
 (∃ x35:Sl, w.cell? (p_1.add 2)=some (Value.slice x35.p x35.l x35.c)/\nz x35.p fun a36=>(0 <= i_5/\i_5 < (x35.l:Nat))/\∃ x37:Int, w.cell? (a36.add (i_5.toNat * 3))=some (Value.int .i64 x37)/\∃ x38:Sl, w.cell? ((a36.add (i_5.toNat * 3)).add 1)=some (Value.slice x38.p x38.l x38.c)/\∃ x39:Int, w.cell? ((a36.add (i_5.toNat * 3)).add 2)=some (Value.int .i64 x39)/\let w40 := w.alloc (Obj.cells #[(Value.int .i64 0), (Value.slice none 0 0), (Value.int .i64 0)] 81)
 stN w40 (Addr.mk w.heap.size 0 none) [(Value.int .i64 x37), (Value.slice x38.p x38.l x38.c), (Value.int .i64 x39)] fun w41=>∃ x42:Sl, w41.cell? (Addr.mk w.heap.size 1 none)=some (Value.slice x42.p x42.l x42.c)/\cnd ((x42.l:Int) == (0:Int))
 (K false w41)
 (∃ x43:Sl, w41.cell? (Addr.mk w.heap.size 1 none)=some (Value.slice x43.p x43.l x43.c)/\z0h_sh x43 (fun r45 w44=>cnd (!r45)
 (K false w44)
 (∃ x46:Int, w44.cell? (Addr.mk w.heap.size 2 none)=some (Value.int .i64 x46)/\z1e_sh x46 (1000000000:Int) (fun r48 w47=>cnd (!r48)
 (K false w47)
 (z1s_l2 p_1 i_5 (Addr.mk w.heap.size 0 none) (0:Int) N1 K w47)) w44)) w41))
 (K true w)
def z1s_l1d (p_1:Addr) (i_5:Int) (K:Pw.T0) (w:World):Prop :=
 ∃ (I:Int->World->Prop) (μ:Int->World->Nat), I i_5 w/\∀ (i_51:Int) (w1:World), I i_51 w1 ->
 z1s_b1 p_1 i_51 (fun p_1' i_5' w'=>((p_1'=p_1/\True)/\I i_5' w')/\μ i_5' w' < μ i_51 w1) K w1
structure z1s_l1 (p_1:Addr) (i_5:Int) (K:Pw.T0) (w:World):Prop where
 out:z1s_l1d p_1 i_5 K w
def z1s_b0 (p_1:Addr) (i_3:Int) (N0:Addr->Int->World->Prop) (K:Pw.T0) (w:World):Prop :=
 ∃ x15:Sl, w.cell? (p_1.add 1)=some (Value.slice x15.p x15.l x15.c)/\cnd (decide (i_3 < (x15.l:Int)))
 (∃ x16:Sl, w.cell? (p_1.add 1)=some (Value.slice x16.p x16.l x16.c)/\nz x16.p fun a17=>(0 <= i_3/\i_3 < (x16.l:Nat))/\∃ x18:Int, w.cell? (a17.add (i_3.toNat * 4))=some (Value.int .i64 x18)/\∃ x19:Int, w.cell? ((a17.add (i_3.toNat * 4)).add 1)=some (Value.int .i64 x19)/\∃ x20:Int, w.cell? ((a17.add (i_3.toNat * 4)).add 2)=some (Value.int .i64 x20)/\∃ x21:Int, w.cell? ((a17.add (i_3.toNat * 4)).add 3)=some (Value.int .i64 x21)/\let w22 := w.alloc (Obj.cells #[(Value.int .i64 0), (Value.int .i64 0), (Value.int .i64 0), (Value.int .i64 0)] 57)
 stN w22 (Addr.mk w.heap.size 0 none) [(Value.int .i64 x18), (Value.int .i64 x19), (Value.int .i64 x20), (Value.int .i64 x21)] fun w23=>∃ x24:Sl, w23.cell? p_1=some (Value.slice x24.p x24.l x24.c)/\∃ x25:Int, w23.cell? (Addr.mk w.heap.size 0 none)=some (Value.int .i64 x25)/\z0o_sh x24 x25 (fun r27 w26=>cnd (!r27)
 (K false w26)
 (∃ x28:Int, w26.cell? (Addr.mk w.heap.size 2 none)=some (Value.int .i64 x28)/\z1e_sh x28 (1000000000:Int) (fun r30 w29=>cnd (!r30)
 (K false w29)
 (∃ x31:Int, w29.cell? (Addr.mk w.heap.size 3 none)=some (Value.int .i64 x31)/\z1e_sh x31 (1000000:Int) (fun r33 w32=>cnd (!r33)
 (K false w32)
 (inR .i64 (i_3 + (1:Int))/\N0 p_1 (i_3 + (1:Int)) w32)) w29)) w26)) w23)
 (z1s_l1 p_1 (0:Int) K w)
def z1s_l0d (p_1:Addr) (i_3:Int) (K:Pw.T0) (w:World):Prop :=
 ∃ (I:Int->World->Prop) (μ:Int->World->Nat), I i_3 w/\∀ (i_31:Int) (w1:World), I i_31 w1 ->
 z1s_b0 p_1 i_31 (fun p_1' i_3' w'=>((p_1'=p_1/\True)/\I i_3' w')/\μ i_3' w' < μ i_31 w1) K w1
structure z1s_l0 (p_1:Addr) (i_3:Int) (K:Pw.T0) (w:World):Prop where
 out:z1s_l0d p_1 i_3 K w
def z1s_sd (p_0_0 p_0_1 p_0_2:Sl) (p_0_3 p_0_4:Int) (K:Pw.T0) (w:World):Prop :=
 let w1 := w.alloc (Obj.cells #[(Value.slice p_0_0.p p_0_0.l p_0_0.c), (Value.slice p_0_1.p p_0_1.l p_0_1.c), (Value.slice p_0_2.p p_0_2.l p_0_2.c), (Value.int .i64 p_0_3), (Value.int .i64 p_0_4)] 28)
 ∃ x2:Sl, w1.cell? (Addr.mk w.heap.size 0 none)=some (Value.slice x2.p x2.l x2.c)/\cnd (decide ((x2.l:Int) < (1:Int)))
 (K false w1)
 (∃ x3:Sl, w1.cell? (Addr.mk w.heap.size 0 none)=some (Value.slice x3.p x3.l x3.c)/\cnd (decide ((x3.l:Int) > (12:Int)))
 (K false w1)
 (∃ x4:Sl, w1.cell? (Addr.mk w.heap.size 0 none)=some (Value.slice x4.p x4.l x4.c)/\z0h_sh x4 (fun r6 w5=>cnd (!r6)
 (K false w5)
 (∃ x7:Sl, w5.cell? (Addr.mk w.heap.size 1 none)=some (Value.slice x7.p x7.l x7.c)/\cnd (decide ((x7.l:Int) > (480:Int)))
 (K false w5)
 (∃ x8:Sl, w5.cell? (Addr.mk w.heap.size 2 none)=some (Value.slice x8.p x8.l x8.c)/\cnd (decide ((x8.l:Int) > (100:Int)))
 (K false w5)
 (∃ x9:Int, w5.cell? (Addr.mk w.heap.size 3 none)=some (Value.int .i64 x9)/\z1e_sh x9 (1000000000:Int) (fun r11 w10=>cnd (!r11)
 (K false w10)
 (∃ x12:Int, w10.cell? (Addr.mk w.heap.size 4 none)=some (Value.int .i64 x12)/\z1e_sh x12 (1000000000:Int) (fun r14 w13=>cnd (!r14)
 (K false w13)
 (z1s_l0 (Addr.mk w.heap.size 0 none) (0:Int) K w13)) w10)) w5)))) w1))
structure z1s_sh (p_0_0 p_0_1 p_0_2:Sl) (p_0_3 p_0_4:Int) (K:Pw.T0) (w:World):Prop where
 out:z1s_sd p_0_0 p_0_1 p_0_2 p_0_3 p_0_4 K w
def z1s_L0 (Kv:VW):Cur [tQ, tI] WP := fun p_1 i_3=>z1s_l0 p_1 i_3 (kk [tB] Kv)
def z1s_L1 (Kv:VW):Cur [tQ, tI] WP := fun p_1 i_5=>z1s_l1 p_1 i_5 (kk [tB] Kv)
def z1s_L2 (Kv:VW):Cur [tQ, tI] WP->Cur [tQ, tI, tQ, tI] WP := fun N1 p_1 i_5 d_6 k_7=>z1s_l2 p_1 i_5 d_6 k_7 N1 (kk [tB] Kv)
noncomputable def z1s_S:Pw.Spec := fun vs w Kv=>un [.g 5, tL, tL, tL, tI, tI] (fun p_0_0 p_0_1 p_0_2 p_0_3 p_0_4=>z1s_sh p_0_0 p_0_1 p_0_2 p_0_3 p_0_4 (kk [tB] Kv)) nF vs w
def z1s_A (Kv:VW):A := (qr 2 (qs (qs (A.reg (qn 5 (RA.spl 12 (qk 4 (qn 2 (qk 4 (qn 2 (qk 4 (qn 2 (qk 4 (qn 2 (qk 4 (qn 2 (qk 4 (qn 1 RA.done)))))))))))) (qn 6 (RA.spl 18 (qk 4 (qn 2 (qk 4 (qn 2 (qk 4 (qn 2 (qk 4 (qn 2 (qk 4 (qn 1 RA.done)))))))))) (qn 6 (RA.spl 24 (qk 4 (qn 2 (qk 4 (qn 2 (qk 4 (qn 2 (qk 4 (qn 1 RA.done)))))))) (qn 6 (RA.spl 30 (qk 4 (qn 2 (qk 4 (qn 2 (qk 4 (qn 1 RA.done)))))) (qn 6 (RA.spl 36 (qk 4 (qn 2 (qk 4 (qn 1 RA.done)))) (qn 6 (RA.spl 42 (qk 4 (qn 1 RA.done)) (qn 5 RA.done)))))))))))))) (qc (qr 1 ql) ql)) (qs (qr 1 (qb (A.loop [1, 3] (uR0 [tQ, tI] (z1s_L0 Kv)) (qs (qr 5 (qc ql ql)) (qs (qb (qr 7 (qs (A.reg (qn 7 (RA.spl 66 (qk 4 (qn 2 (qk 4 (qn 1 RA.done)))) (qn 6 (RA.spl 72 (qk 4 (qn 1 RA.done)) (qn 5 RA.done)))))) (qc (qr 1 ql) ql)))) (qe 3)))))) (qs (qr 1 (qb (A.loop [1, 5] (uR0 [tQ, tI] (z1s_L1 Kv)) (qs (qr 5 (qc ql ql)) (qs (qb (qr 7 (qs (qs (A.reg (qn 5 (RA.spl 94 (qk 4 (qn 2 (qk 4 (qn 1 RA.done)))) (qn 6 (RA.spl 100 (qk 4 (qn 1 RA.done)) (qn 5 RA.done)))))) (qc (qr 1 ql) ql)) (qr 1 (qb (A.loop [1, 5, 6, 7] (uR1 [tQ, tI] [tQ, tI, tQ, tI] (z1s_L2 Kv)) (qs (qr 5 (qc ql ql)) (qs (qb (qs (A.drw (dp [0, 1, 2, 3, 4, 5, 6] (DA.eff 7 (DA.pur 8 DA.done)))) (qc (qr 1 ql) ql))) (qe 3))))))))) (qe 3)))))) (qr 1 ql)))))
theorem z1s_ok:Sound Tryz.prog 46 z1s_S := okS (x := z1s_A) (fun Kv p_0_0 p_0_1 p_0_2 p_0_3 p_0_4=>z1s_sd p_0_0 p_0_1 p_0_2 p_0_3 p_0_4 (kk [tB] Kv)) progMixed (Γ := [(93, z0h_S), (94, z1e_S), (95, z0o_S)]) ⟨.inl z0h_ok, .inl z1e_ok, .inl z0o_ok, trivial⟩ Tryz.call46 Tryz.func46 (fun Kv=>hStep (hLoop0 (L := z1s_L0 Kv) (fun N0 p_1 i_3=>z1s_b0 p_1 i_3 N0 (kk [tB] Kv)) (fun ⟨a0, _, _⟩ _ h=>let ⟨I, μ, h0, hr⟩ := h.out; ⟨fun b0 b1 w=>(b0=a0/\True)/\I b1 w, fun _ b1 w=>μ b1 w, ⟨⟨rfl, trivial⟩, h0⟩, fun ⟨_, _, _⟩ _ ⟨⟨e0, _⟩, hI⟩=>by cases e0; exact hr _ _ hI⟩)) <| hStep (hLoop0 (L := z1s_L1 Kv) (fun N1 p_1 i_5=>z1s_b1 p_1 i_5 N1 (kk [tB] Kv)) (fun ⟨a0, _, _⟩ _ h=>let ⟨I, μ, h0, hr⟩ := h.out; ⟨fun b0 b1 w=>(b0=a0/\True)/\I b1 w, fun _ b1 w=>μ b1 w, ⟨⟨rfl, trivial⟩, h0⟩, fun ⟨_, _, _⟩ _ ⟨⟨e0, _⟩, hI⟩=>by cases e0; exact hr _ _ hI⟩)) <| hStep (hLoop1 (L := z1s_L2 Kv) (fun N1 N2 p_1 i_5 d_6 k_7=>z1s_b2 p_1 i_5 d_6 k_7 N2 N1 (kk [tB] Kv)) (fun _ ⟨a0, a1, a2, _, _⟩ _ h=>let ⟨I, μ, h0, hr⟩ := h.out; ⟨fun b0 b1 b2 b3 w=>(b0=a0/\b1=a1/\b2=a2/\True)/\I b3 w, fun _ _ _ b3 w=>μ b3 w, ⟨⟨rfl, rfl, rfl, trivial⟩, h0⟩, fun ⟨_, _, _, _, _⟩ _ ⟨⟨e0, e1, e2, _⟩, hI⟩=>by cases e0; cases e1; cases e2; exact hr _ _ hI⟩)) <| hEnd)
def z1c_b0 (f_1:Sl) (p_2:Addr) (i_5:Int) (N0:Sl->Addr->Int->World->Prop) (K:Pw.T0) (w:World):Prop :=
 cnd (decide (i_5 < (f_1.l:Int)))
 (let w3 := w.drew
 nz f_1.p fun a4=>(0 <= i_5/\i_5 < (f_1.l:Nat))/\∃ x5:Int, w3.cell? (a4.add (i_5.toNat * 1))=some (Value.int .i64 x5)/\cnd (decide (x5 < (-1:Int)))
 (K false w3)
 (nz f_1.p fun a6=>(0 <= i_5/\i_5 < (f_1.l:Nat))/\∃ x7:Int, w3.cell? (a6.add (i_5.toNat * 1))=some (Value.int .i64 x7)/\∃ x8:Sl, w3.cell? (p_2.add 1)=some (Value.slice x8.p x8.l x8.c)/\cnd (decide (x7 >= (x8.l:Int)))
 (K false w3)
 (nz f_1.p fun a9=>(0 <= i_5/\i_5 < (f_1.l:Nat))/\∃ x10:Int, w3.cell? (a9.add (i_5.toNat * 1))=some (Value.int .i64 x10)/\cnd (decide (x10 >= (0:Int)))
 (∃ x11:Sl, w3.cell? (p_2.add 1)=some (Value.slice x11.p x11.l x11.c)/\nz f_1.p fun a12=>(0 <= i_5/\i_5 < (f_1.l:Nat))/\∃ x13:Int, w3.cell? (a12.add (i_5.toNat * 1))=some (Value.int .i64 x13)/\nz x11.p fun a14=>(0 <= x13/\x13 < (x11.l:Nat))/\∃ x15:Int, w3.cell? (a14.add (x13.toNat * 4))=some (Value.int .i64 x15)/\∃ x16:Sl, w3.cell? p_2=some (Value.slice x16.p x16.l x16.c)/\nz x16.p fun a17=>(0 <= i_5/\i_5 < (x16.l:Nat))/\∃ x18:Int, w3.cell? (a17.add (i_5.toNat * 1))=some (Value.int .i64 x18)/\cnd (x15 != x18)
 (K false w3)
 (inR .i64 (i_5 + (1:Int))/\N0 f_1 p_2 (i_5 + (1:Int)) w3))
 (inR .i64 (i_5 + (1:Int))/\N0 f_1 p_2 (i_5 + (1:Int)) w3))))
 (K true w)
def z1c_l0d (f_1:Sl) (p_2:Addr) (i_5:Int) (K:Pw.T0) (w:World):Prop :=
 ∃ (I:Int->World->Prop) (μ:Int->World->Nat), I i_5 w/\∀ (i_51:Int) (w1:World), I i_51 w1 ->
 z1c_b0 f_1 p_2 i_51 (fun f_1' p_2' i_5' w'=>((f_1'=f_1/\p_2'=p_2/\True)/\I i_5' w')/\μ i_5' w' < μ i_51 w1) K w1
structure z1c_l0 (f_1:Sl) (p_2:Addr) (i_5:Int) (K:Pw.T0) (w:World):Prop where
 out:z1c_l0d f_1 p_2 i_5 K w
def z1c_sd (p_0_0 p_0_1 p_0_2:Sl) (p_0_3 p_0_4:Int) (f_1:Sl) (K:Pw.T0) (w:World):Prop :=
 let w1 := w.alloc (Obj.cells #[(Value.slice p_0_0.p p_0_0.l p_0_0.c), (Value.slice p_0_1.p p_0_1.l p_0_1.c), (Value.slice p_0_2.p p_0_2.l p_0_2.c), (Value.int .i64 p_0_3), (Value.int .i64 p_0_4)] 28)
 ∃ x2:Sl, w1.cell? (Addr.mk w.heap.size 0 none)=some (Value.slice x2.p x2.l x2.c)/\cnd (decide ((f_1.l:Int) > (x2.l:Int)))
 (K false w1)
 (z1c_l0 f_1 (Addr.mk w.heap.size 0 none) (0:Int) K w1)
structure z1c_sh (p_0_0 p_0_1 p_0_2:Sl) (p_0_3 p_0_4:Int) (f_1:Sl) (K:Pw.T0) (w:World):Prop where
 out:z1c_sd p_0_0 p_0_1 p_0_2 p_0_3 p_0_4 f_1 K w
def z1c_L0 (Kv:VW):Cur [tL, tQ, tI] WP := fun f_1 p_2 i_5=>z1c_l0 f_1 p_2 i_5 (kk [tB] Kv)
noncomputable def z1c_S:Pw.Spec := fun vs w Kv=>un [.g 5, tL, tL, tL, tI, tI, tL] (fun p_0_0 p_0_1 p_0_2 p_0_3 p_0_4 f_1=>z1c_sh p_0_0 p_0_1 p_0_2 p_0_3 p_0_4 f_1 (kk [tB] Kv)) nF vs w
def z1c_A (Kv:VW):A := (qr 2 (qs (qr 6 (qc (qr 1 ql) ql)) (qs (qr 1 (qb (A.loop [1, 2, 5] (uR0 [tL, tQ, tI] (z1c_L0 Kv)) (qs (qr 4 (qc ql ql)) (qs (qb (qs (A.drp (dp [0, 1, 2, 3, 4, 5] (DA.spl 23 (DA.skp 6 (DA.skp 7 (DA.skp 8 (DA.skp 9 (DA.skp 10 (DA.skp 11 (DA.skp 12 (DA.skp 13 (dp [14, 15] (DA.skp 16 (DA.skp 17 (DA.skp 18 (DA.skp 19 (DA.skp 20 (DA.skp 21 (DA.skp 22 (DA.skp 23 (DA.skp 24 (DA.skp 25 (DA.skp 26 (DA.skp 27 (DA.skp 28 (DA.skp 29 (DA.skp 30 (DA.skp 31 (DA.skp 32 (DA.skp 33 (DA.skp 34 (DA.skp 35 (DA.skp 36 (DA.skp 37 (DA.pur 38 DA.done)))))))))))))))))))))))))))))))) (dp [6, 7, 8, 9, 10, 11, 12, 13, 14, 15] (DA.spl 33 (DA.skp 16 (DA.skp 17 (DA.skp 18 (DA.skp 19 (DA.skp 20 (DA.skp 21 (DA.skp 22 (DA.skp 23 (DA.skp 24 (DA.skp 25 (DA.skp 26 (DA.skp 27 (DA.skp 28 (DA.skp 29 (DA.skp 30 (DA.skp 31 (DA.skp 32 (DA.skp 33 (DA.skp 34 (DA.skp 35 (DA.skp 36 (DA.skp 37 (DA.pur 38 DA.done))))))))))))))))))))))) (dp [16, 17, 18, 19, 20, 21] (DA.spl 39 (dp [22, 23, 24, 25, 26, 27, 28, 29, 30, 31, 32, 33, 34, 35, 36, 37, 38] DA.done) (DA.skp 22 (DA.skp 23 (DA.skp 24 (DA.skp 25 (DA.skp 26 (DA.skp 27 (DA.skp 28 (DA.skp 29 (DA.skp 30 (DA.skp 31 (DA.skp 32 (DA.skp 33 (DA.skp 34 (DA.skp 35 (DA.skp 36 (dp [37, 38] DA.done))))))))))))))))))))))) (qc (qr 1 ql) ql))) (qe 3)))))) (qr 1 ql))))
theorem z1c_ok:Sound Tryz.prog 82 z1c_S := okS (x := z1c_A) (fun Kv p_0_0 p_0_1 p_0_2 p_0_3 p_0_4 f_1=>z1c_sd p_0_0 p_0_1 p_0_2 p_0_3 p_0_4 f_1 (kk [tB] Kv)) progMixed (Γ := []) trivial Tryz.call82 Tryz.func82 (fun Kv=>hStep (hLoop0 (L := z1c_L0 Kv) (fun N0 f_1 p_2 i_5=>z1c_b0 f_1 p_2 i_5 N0 (kk [tB] Kv)) (fun ⟨a0, a1, _, _⟩ _ h=>let ⟨I, μ, h0, hr⟩ := h.out; ⟨fun b0 b1 b2 w=>(b0=a0/\b1=a1/\True)/\I b2 w, fun _ _ b2 w=>μ b2 w, ⟨⟨rfl, rfl, trivial⟩, h0⟩, fun ⟨_, _, _, _⟩ _ ⟨⟨e0, e1, _⟩, hI⟩=>by cases e0; cases e1; exact hr _ _ hI⟩)) <| hEnd)
def z2n_sd (sum_0_0 sum_0_1:Int) (a_1_0 a_1_1:Int) (b_2_0 b_2_1:Int) (K:Pw.T4) (w:World):Prop :=
 let w1 := w.alloc (Obj.cells #[(Value.int .i64 sum_0_0), (Value.int .i64 sum_0_1)] 31)
 let w2 := w1.alloc (Obj.cells #[(Value.int .i64 a_1_0), (Value.int .i64 a_1_1)] 31)
 let w3 := w2.alloc (Obj.cells #[(Value.int .i64 b_2_0), (Value.int .i64 b_2_1)] 31)
 let w4 := w3.alloc (Obj.cells #[(Value.int .i64 0), (Value.int .i64 0)] 31)
 ∃ x5:Int, w4.cell? (Addr.mk w1.heap.size 0 none)=some (Value.int .i64 x5)/\∃ x6:Int, w4.cell? (Addr.mk w1.heap.size 1 none)=some (Value.int .i64 x6)/\∃ x7:Int, w4.cell? (Addr.mk w2.heap.size 0 none)=some (Value.int .i64 x7)/\∃ x8:Int, w4.cell? (Addr.mk w2.heap.size 1 none)=some (Value.int .i64 x8)/\z2i_sh x5 x6 x7 x8 (fun r10_0 r10_1 r11 w9=>let w12 := w9.alloc (Obj.cells #[(Value.int .i64 0), (Value.int .i64 0)] 31)
 wrOk w12 (Addr.mk w9.heap.size 0 none)/\
 (let w13 := w12.setCell (Addr.mk w9.heap.size 0 none) (Value.int .i64 r10_0)
 wrOk w13 (Addr.mk w9.heap.size 1 none)/\
 (let w14 := w13.setCell (Addr.mk w9.heap.size 1 none) (Value.int .i64 r10_1)
 ∃ x15:Int, w14.cell? (Addr.mk w.heap.size 0 none)=some (Value.int .i64 x15)/\∃ x16:Int, w14.cell? (Addr.mk w.heap.size 1 none)=some (Value.int .i64 x16)/\∃ x17:Int, w14.cell? (Addr.mk w9.heap.size 0 none)=some (Value.int .i64 x17)/\∃ x18:Int, w14.cell? (Addr.mk w9.heap.size 1 none)=some (Value.int .i64 x18)/\z2f_sh x15 x16 x17 x18 (fun r20_0 r20_1 r21 w19=>let w22 := w19.alloc (Obj.cells #[(Value.int .i64 0), (Value.int .i64 0)] 31)
 wrOk w22 (Addr.mk w19.heap.size 0 none)/\
 (let w23 := w22.setCell (Addr.mk w19.heap.size 0 none) (Value.int .i64 r20_0)
 wrOk w23 (Addr.mk w19.heap.size 1 none)/\
 (let w24 := w23.setCell (Addr.mk w19.heap.size 1 none) (Value.int .i64 r20_1)
 ∃ x25:Int, w24.cell? (Addr.mk w19.heap.size 0 none)=some (Value.int .i64 x25)/\∃ x26:Int, w24.cell? (Addr.mk w19.heap.size 1 none)=some (Value.int .i64 x26)/\cnd r11
 (wrOk w24 (Addr.mk w3.heap.size 0 none)/\
 (let w27 := w24.setCell (Addr.mk w3.heap.size 0 none) (Value.int .i64 x25)
 wrOk w27 (Addr.mk w3.heap.size 1 none)/\
 (let w28 := w27.setCell (Addr.mk w3.heap.size 1 none) (Value.int .i64 x26)
 ∃ x31:Int, w28.cell? (Addr.mk w3.heap.size 0 none)=some (Value.int .i64 x31)/\∃ x32:Int, w28.cell? (Addr.mk w3.heap.size 1 none)=some (Value.int .i64 x32)/\K x31 x32 r21 w28)))
 (wrOk w24 (Addr.mk w3.heap.size 0 none)/\
 (let w29 := w24.setCell (Addr.mk w3.heap.size 0 none) (Value.int .i64 x25)
 wrOk w29 (Addr.mk w3.heap.size 1 none)/\
 (let w30 := w29.setCell (Addr.mk w3.heap.size 1 none) (Value.int .i64 x26)
 ∃ x33:Int, w30.cell? (Addr.mk w3.heap.size 0 none)=some (Value.int .i64 x33)/\∃ x34:Int, w30.cell? (Addr.mk w3.heap.size 1 none)=some (Value.int .i64 x34)/\K x33 x34 false w30)))))) w14))) w4
structure z2n_sh (sum_0_0 sum_0_1:Int) (a_1_0 a_1_1:Int) (b_2_0 b_2_1:Int) (K:Pw.T4) (w:World):Prop where
 out:z2n_sd sum_0_0 sum_0_1 a_1_0 a_1_1 b_2_0 b_2_1 K w
noncomputable def z2n_S:Pw.Spec := fun vs w Kv=>un [.g 2, tI, tI, .g 2, tI, tI, .g 2, tI, tI] (fun sum_0_0 sum_0_1 a_1_0 a_1_1 b_2_0 b_2_1=>z2n_sh sum_0_0 sum_0_1 a_1_0 a_1_1 b_2_0 b_2_1 (kk [.u 2, .g 2, tI, tI, tB] Kv)) nF vs w
def z2n_A (_:VW):A := (qr 5 (qr 9 (qr 9 (qs (A.reg (qn 3 (RA.spl 26 (qn 4 RA.done) (qk 1 (qn 3 RA.done))))) ql))))
theorem z2n_ok:Sound Tryz.prog 83 z2n_S := okS (x := z2n_A) (fun Kv sum_0_0 sum_0_1 a_1_0 a_1_1 b_2_0 b_2_1=>z2n_sd sum_0_0 sum_0_1 a_1_0 a_1_1 b_2_0 b_2_1 (kk [.u 2, .g 2, tI, tI, tB] Kv)) progMixed (Γ := [(86, z2f_S), (138, z2i_S)]) ⟨.inl z2f_ok, .inl z2i_ok, trivial⟩ Tryz.call83 Tryz.func83 (fun _=>hEnd)
def z0p_k2d (f_1:Sl) (p_3 d_5:Addr) (i_7:Int) (fine_8:Bool) (N0:Sl->Addr->Addr->Int->World->Prop) (K:Pw.T0) (w:World):Prop :=
 cnd (!fine_8)
 (K false w)
 (inR .i64 (i_7 + (1:Int))/\N0 f_1 p_3 d_5 (i_7 + (1:Int)) w)
structure z0p_k2 (f_1:Sl) (p_3 d_5:Addr) (i_7:Int) (fine_8:Bool) (N0:Sl->Addr->Addr->Int->World->Prop) (K:Pw.T0) (w:World):Prop where
 out:z0p_k2d f_1 p_3 d_5 i_7 fine_8 N0 K w
def z0p_b1 (f_1:Sl) (p_3 d_5:Addr) (i_7:Int) (fine_8:Bool) (k_9:Int) (N1:Sl->Addr->Addr->Int->Bool->Int->World->Prop) (N0:Sl->Addr->Addr->Int->World->Prop) (K:Pw.T0) (w:World):Prop :=
 ∃ x21:Sl, w.cell? (p_3.add 1)=some (Value.slice x21.p x21.l x21.c)/\cnd (decide (k_9 < (x21.l:Int)))
 (let w22 := w.drew
 cnd fine_8
 (inR .i64 (k_9 + (1:Int))/\N1 f_1 p_3 d_5 i_7 true (k_9 + (1:Int)) w22)
 (∃ x23:Sl, w22.cell? (p_3.add 1)=some (Value.slice x23.p x23.l x23.c)/\nz x23.p fun a24=>(0 <= k_9/\k_9 < (x23.l:Nat))/\∃ x25:Int, w22.cell? (a24.add (k_9.toNat * 4))=some (Value.int .i64 x25)/\∃ x26:Sl, w22.cell? p_3=some (Value.slice x26.p x26.l x26.c)/\nz x26.p fun a27=>(0 <= i_7/\i_7 < (x26.l:Nat))/\∃ x28:Int, w22.cell? (a27.add (i_7.toNat * 1))=some (Value.int .i64 x28)/\cnd (x25 == x28)
 (∃ x29:Sl, w22.cell? (p_3.add 1)=some (Value.slice x29.p x29.l x29.c)/\nz x29.p fun a30=>(0 <= k_9/\k_9 < (x29.l:Nat))/\∃ x31:Int, w22.cell? ((a30.add (k_9.toNat * 4)).add 1)=some (Value.int .i64 x31)/\∃ x32:Int, w22.cell? d_5=some (Value.int .i64 x32)/\inR .i64 (k_9 + (1:Int))/\N1 f_1 p_3 d_5 i_7 (x31 == x32) (k_9 + (1:Int)) w22)
 (inR .i64 (k_9 + (1:Int))/\N1 f_1 p_3 d_5 i_7 false (k_9 + (1:Int)) w22)))
 (z0p_k2 f_1 p_3 d_5 i_7 fine_8 N0 K w)
def z0p_l1d (f_1:Sl) (p_3 d_5:Addr) (i_7:Int) (fine_8:Bool) (k_9:Int) (N0:Sl->Addr->Addr->Int->World->Prop) (K:Pw.T0) (w:World):Prop :=
 ∃ (I:Bool->Int->World->Prop) (μ:Bool->Int->World->Nat), I fine_8 k_9 w/\∀ (fine_81:Bool) (k_91:Int) (w1:World), I fine_81 k_91 w1 ->
 z0p_b1 f_1 p_3 d_5 i_7 fine_81 k_91 (fun f_1' p_3' d_5' i_7' fine_8' k_9' w'=>((f_1'=f_1/\p_3'=p_3/\d_5'=d_5/\i_7'=i_7/\True)/\I fine_8' k_9' w')/\μ fine_8' k_9' w' < μ fine_81 k_91 w1) N0 K w1
structure z0p_l1 (f_1:Sl) (p_3 d_5:Addr) (i_7:Int) (fine_8:Bool) (k_9:Int) (N0:Sl->Addr->Addr->Int->World->Prop) (K:Pw.T0) (w:World):Prop where
 out:z0p_l1d f_1 p_3 d_5 i_7 fine_8 k_9 N0 K w
def z0p_b0 (f_1:Sl) (p_3 d_5:Addr) (i_7:Int) (N0:Sl->Addr->Addr->Int->World->Prop) (K:Pw.T0) (w:World):Prop :=
 ∃ x3:Sl, w.cell? p_3=some (Value.slice x3.p x3.l x3.c)/\cnd (decide (i_7 < (x3.l:Int)))
 (let w4 := w.drew
 ∃ S5:World->Prop, S5 w4/\∃ x6:Sl, (∀ w':World, S5 w'->w'.cell? (d_5.add 1)=some (Value.slice x6.p x6.l x6.c))/\∃ x7:Sl, (∀ w':World, S5 w'->w'.cell? p_3=some (Value.slice x7.p x7.l x7.c))/\nz x7.p fun a8=>(0 <= i_7/\i_7 < (x7.l:Nat))/\∃ x9:Int, (∀ w':World, S5 w'->w'.cell? (a8.add (i_7.toNat * 1))=some (Value.int .i64 x9))/\z0o_sh x6 x9 (fun r11 w10=>S5 w10/\cnd (!r11)
 (inR .i64 (i_7 + (1:Int))/\N0 f_1 p_3 d_5 (i_7 + (1:Int)) w10)
 (cnd (decide (i_7 < (f_1.l:Int)))
 (let w12 := w10.drew
 nz f_1.p fun a13=>(0 <= i_7/\i_7 < (f_1.l:Nat))/\∃ x14:Int, w12.cell? (a13.add (i_7.toNat * 1))=some (Value.int .i64 x14)/\cnd (decide (x14 >= (0:Int)))
 (∃ x15:Sl, w12.cell? (p_3.add 1)=some (Value.slice x15.p x15.l x15.c)/\nz f_1.p fun a16=>(0 <= i_7/\i_7 < (f_1.l:Nat))/\∃ x17:Int, w12.cell? (a16.add (i_7.toNat * 1))=some (Value.int .i64 x17)/\nz x15.p fun a18=>(0 <= x17/\x17 < (x15.l:Nat))/\∃ x19:Int, w12.cell? ((a18.add (x17.toNat * 4)).add 1)=some (Value.int .i64 x19)/\∃ x20:Int, w12.cell? d_5=some (Value.int .i64 x20)/\z0p_k2 f_1 p_3 d_5 i_7 (x19 == x20) N0 K w12)
 (z0p_k2 f_1 p_3 d_5 i_7 false N0 K w12))
 (z0p_l1 f_1 p_3 d_5 i_7 false (0:Int) N0 K w10))) w4)
 (K true w)
def z0p_l0d (f_1:Sl) (p_3 d_5:Addr) (i_7:Int) (K:Pw.T0) (w:World):Prop :=
 ∃ (I:Int->World->Prop) (μ:Int->World->Nat), I i_7 w/\∀ (i_71:Int) (w1:World), I i_71 w1 ->
 z0p_b0 f_1 p_3 d_5 i_71 (fun f_1' p_3' d_5' i_7' w'=>((f_1'=f_1/\p_3'=p_3/\d_5'=d_5/\True)/\I i_7' w')/\μ i_7' w' < μ i_71 w1) K w1
structure z0p_l0 (f_1:Sl) (p_3 d_5:Addr) (i_7:Int) (K:Pw.T0) (w:World):Prop where
 out:z0p_l0d f_1 p_3 d_5 i_7 K w
def z0p_sd (p_0_0 p_0_1 p_0_2:Sl) (p_0_3 p_0_4:Int) (f_1:Sl) (d_2_0:Int) (d_2_1:Sl) (d_2_2:Int) (K:Pw.T0) (w:World):Prop :=
 let w1 := w.alloc (Obj.cells #[(Value.slice p_0_0.p p_0_0.l p_0_0.c), (Value.slice p_0_1.p p_0_1.l p_0_1.c), (Value.slice p_0_2.p p_0_2.l p_0_2.c), (Value.int .i64 p_0_3), (Value.int .i64 p_0_4)] 28)
 let w2 := w1.alloc (Obj.cells #[(Value.int .i64 d_2_0), (Value.slice d_2_1.p d_2_1.l d_2_1.c), (Value.int .i64 d_2_2)] 81)
 z0p_l0 f_1 (Addr.mk w.heap.size 0 none) (Addr.mk w1.heap.size 0 none) (0:Int) K w2
structure z0p_sh (p_0_0 p_0_1 p_0_2:Sl) (p_0_3 p_0_4:Int) (f_1:Sl) (d_2_0:Int) (d_2_1:Sl) (d_2_2:Int) (K:Pw.T0) (w:World):Prop where
 out:z0p_sd p_0_0 p_0_1 p_0_2 p_0_3 p_0_4 f_1 d_2_0 d_2_1 d_2_2 K w
def z0p_L0 (Kv:VW):Cur [tL, tQ, tQ, tI] WP := fun f_1 p_3 d_5 i_7=>z0p_l0 f_1 p_3 d_5 i_7 (kk [tB] Kv)
def z0p_L1 (Kv:VW):Cur [tL, tQ, tQ, tI] WP->Cur [tL, tQ, tQ, tI, tB, tI] WP := fun N0 f_1 p_3 d_5 i_7 fine_8 k_9=>z0p_l1 f_1 p_3 d_5 i_7 fine_8 k_9 N0 (kk [tB] Kv)
def z0p_L2 (Kv:VW):Cur [tL, tQ, tQ, tI] WP->Cur [tL, tQ, tQ, tI, tB] WP := fun N0 f_1 p_3 d_5 i_7 fine_8=>z0p_k2 f_1 p_3 d_5 i_7 fine_8 N0 (kk [tB] Kv)
noncomputable def z0p_S:Pw.Spec := fun vs w Kv=>un [.g 5, tL, tL, tL, tI, tI, tL, .g 3, tI, tL, tI] (fun p_0_0 p_0_1 p_0_2 p_0_3 p_0_4 f_1 d_2_0 d_2_1 d_2_2=>z0p_sh p_0_0 p_0_1 p_0_2 p_0_3 p_0_4 f_1 d_2_0 d_2_1 d_2_2 (kk [tB] Kv)) nF vs w
def z0p_A (Kv:VW):A := (qr 3 (qs (qr 1 (qb (A.loop [1, 3, 5, 7] (uR0 [tL, tQ, tQ, tI] (z0p_L0 Kv)) (qs (qr 5 (qc ql ql)) (qs (qb (qs (qs (A.drw (dp [0, 1, 2, 3, 4, 5, 6] (DA.eff 7 (DA.pur 8 DA.done)))) (qc ql ql)) (qr 1 (qs (qr 4 (qc (A.drp (dp [0, 1, 2, 3, 4, 5] (DA.spl 35 (dp [6, 7, 8, 9, 10, 11, 12, 13, 14, 15, 16, 17, 18, 19] DA.done) (DA.skp 6 (DA.skp 7 (DA.skp 8 (DA.skp 9 (DA.skp 10 (DA.skp 11 (DA.skp 12 (DA.skp 13 (DA.skp 14 (DA.skp 15 (DA.skp 16 (DA.skp 17 (dp [18, 19] DA.done)))))))))))))))) (qr 1 (qb (A.loop [1, 3, 5, 7, 8, 9] (uR1 [tL, tQ, tQ, tI] [tL, tQ, tQ, tI, tB, tI] (z0p_L1 Kv)) (qs (qr 5 (qc ql ql)) (qs (qb (A.drp (dp [0, 1] (DA.spl 57 (DA.skp 2 (DA.skp 3 (DA.skp 4 (DA.skp 5 (DA.skp 6 (DA.skp 7 (DA.skp 8 (DA.skp 9 (DA.skp 10 (DA.skp 11 (DA.skp 12 (DA.skp 13 (DA.skp 14 (DA.skp 15 (DA.skp 16 (DA.skp 17 (DA.skp 18 (DA.skp 19 (DA.skp 20 (DA.skp 21 (DA.skp 22 (DA.skp 23 (DA.skp 24 (dp [25, 26] DA.done)))))))))))))))))))))))) (dp [2, 3, 4, 5, 6, 7, 8, 9, 10, 11, 12, 13, 14] (DA.spl 70 (dp [15, 16, 17, 18, 19, 20, 21, 22, 23, 24, 25, 26] DA.done) (DA.skp 15 (DA.skp 16 (DA.skp 17 (DA.skp 18 (DA.skp 19 (DA.skp 20 (DA.skp 21 (DA.skp 22 (DA.skp 23 (dp [24, 25, 26] DA.done)))))))))))))))) (qe 3)))))))) (A.cut [1, 3, 5, 7, 8] (uR1 [tL, tQ, tQ, tI] [tL, tQ, tQ, tI, tB] (z0p_L2 Kv)) (qr 2 (qc (qr 1 ql) ql))))))) (qe 3)))))) (qr 1 ql)))
theorem z0p_ok:Sound Tryz.prog 144 z0p_S := okS (x := z0p_A) (fun Kv p_0_0 p_0_1 p_0_2 p_0_3 p_0_4 f_1 d_2_0 d_2_1 d_2_2=>z0p_sd p_0_0 p_0_1 p_0_2 p_0_3 p_0_4 f_1 d_2_0 d_2_1 d_2_2 (kk [tB] Kv)) progMixed (Γ := [(95, z0o_S)]) ⟨.inl z0o_ok, trivial⟩ Tryz.call144 Tryz.func144 (fun Kv=>hStep (hLoop0 (L := z0p_L0 Kv) (fun N0 f_1 p_3 d_5 i_7=>z0p_b0 f_1 p_3 d_5 i_7 N0 (kk [tB] Kv)) (fun ⟨a0, a1, a2, _, _⟩ _ h=>let ⟨I, μ, h0, hr⟩ := h.out; ⟨fun b0 b1 b2 b3 w=>(b0=a0/\b1=a1/\b2=a2/\True)/\I b3 w, fun _ _ _ b3 w=>μ b3 w, ⟨⟨rfl, rfl, rfl, trivial⟩, h0⟩, fun ⟨_, _, _, _, _⟩ _ ⟨⟨e0, e1, e2, _⟩, hI⟩=>by cases e0; cases e1; cases e2; exact hr _ _ hI⟩)) <| hStep (hLoop1 (L := z0p_L1 Kv) (fun N0 N1 f_1 p_3 d_5 i_7 fine_8 k_9=>z0p_b1 f_1 p_3 d_5 i_7 fine_8 k_9 N1 N0 (kk [tB] Kv)) (fun _ ⟨a0, a1, a2, a3, _, _, _⟩ _ h=>let ⟨I, μ, h0, hr⟩ := h.out; ⟨fun b0 b1 b2 b3 b4 b5 w=>(b0=a0/\b1=a1/\b2=a2/\b3=a3/\True)/\I b4 b5 w, fun _ _ _ _ b4 b5 w=>μ b4 b5 w, ⟨⟨rfl, rfl, rfl, rfl, trivial⟩, h0⟩, fun ⟨_, _, _, _, _, _, _⟩ _ ⟨⟨e0, e1, e2, e3, _⟩, hI⟩=>by cases e0; cases e1; cases e2; cases e3; exact hr _ _ _ hI⟩)) <| hStep (hCut1 (F := z0p_L2 Kv) (G := fun N0 f_1 p_3 d_5 i_7 fine_8=>z0p_k2d f_1 p_3 d_5 i_7 fine_8 N0 (kk [tB] Kv))) <| hEnd)
def z26_b0 (f_1:Sl) (p_2:Addr) (out_5 i_6:Int) (N0:Sl->Addr->Int->Int->World->Prop) (K:Pw.T1) (w:World):Prop :=
 ∃ x2:Sl, w.cell? (p_2.add 2)=some (Value.slice x2.p x2.l x2.c)/\cnd (decide (i_6 < (x2.l:Int)))
 (let w3 := w.drew
 ∃ S4:World->Prop, S4 w3/\∃ x5:Sl, (∀ w':World, S4 w'->w'.cell? p_2=some (Value.slice x5.p x5.l x5.c))/\∃ x6:Sl, (∀ w':World, S4 w'->w'.cell? (p_2.add 1)=some (Value.slice x6.p x6.l x6.c))/\∃ x7:Sl, (∀ w':World, S4 w'->w'.cell? (p_2.add 2)=some (Value.slice x7.p x7.l x7.c))/\∃ x8:Int, (∀ w':World, S4 w'->w'.cell? (p_2.add 3)=some (Value.int .i64 x8))/\∃ x9:Int, (∀ w':World, S4 w'->w'.cell? (p_2.add 4)=some (Value.int .i64 x9))/\∃ x10:Sl, (∀ w':World, S4 w'->w'.cell? (p_2.add 2)=some (Value.slice x10.p x10.l x10.c))/\nz x10.p fun a11=>(0 <= i_6/\i_6 < (x10.l:Nat))/\∃ x12:Int, (∀ w':World, S4 w'->w'.cell? (a11.add (i_6.toNat * 3))=some (Value.int .i64 x12))/\∃ x13:Sl, (∀ w':World, S4 w'->w'.cell? ((a11.add (i_6.toNat * 3)).add 1)=some (Value.slice x13.p x13.l x13.c))/\∃ x14:Int, (∀ w':World, S4 w'->w'.cell? ((a11.add (i_6.toNat * 3)).add 2)=some (Value.int .i64 x14))/\z0p_sh x5 x6 x7 x8 x9 f_1 x12 x13 x14 (fun r16 w15=>S4 w15/\cnd r16
 (∃ x17:Sl, w15.cell? (p_2.add 2)=some (Value.slice x17.p x17.l x17.c)/\nz x17.p fun a18=>(0 <= i_6/\i_6 < (x17.l:Nat))/\∃ x19:Int, w15.cell? ((a18.add (i_6.toNat * 3)).add 2)=some (Value.int .i64 x19)/\inR .i64 (out_5 + x19)/\inR .i64 (i_6 + (1:Int))/\N0 f_1 p_2 (out_5 + x19) (i_6 + (1:Int)) w15)
 (inR .i64 (i_6 + (1:Int))/\N0 f_1 p_2 out_5 (i_6 + (1:Int)) w15)) w3)
 (K out_5 w)
def z26_l0d (f_1:Sl) (p_2:Addr) (out_5 i_6:Int) (K:Pw.T1) (w:World):Prop :=
 ∃ (I:Int->Int->World->Prop) (μ:Int->Int->World->Nat), I out_5 i_6 w/\∀ (out_51 i_61:Int) (w1:World), I out_51 i_61 w1 ->
 z26_b0 f_1 p_2 out_51 i_61 (fun f_1' p_2' out_5' i_6' w'=>((f_1'=f_1/\p_2'=p_2/\True)/\I out_5' i_6' w')/\μ out_5' i_6' w' < μ out_51 i_61 w1) K w1
structure z26_l0 (f_1:Sl) (p_2:Addr) (out_5 i_6:Int) (K:Pw.T1) (w:World):Prop where
 out:z26_l0d f_1 p_2 out_5 i_6 K w
def z26_sd (p_0_0 p_0_1 p_0_2:Sl) (p_0_3 p_0_4:Int) (f_1:Sl) (K:Pw.T1) (w:World):Prop :=
 let w1 := w.alloc (Obj.cells #[(Value.slice p_0_0.p p_0_0.l p_0_0.c), (Value.slice p_0_1.p p_0_1.l p_0_1.c), (Value.slice p_0_2.p p_0_2.l p_0_2.c), (Value.int .i64 p_0_3), (Value.int .i64 p_0_4)] 28)
 z26_l0 f_1 (Addr.mk w.heap.size 0 none) (0:Int) (0:Int) K w1
structure z26_sh (p_0_0 p_0_1 p_0_2:Sl) (p_0_3 p_0_4:Int) (f_1:Sl) (K:Pw.T1) (w:World):Prop where
 out:z26_sd p_0_0 p_0_1 p_0_2 p_0_3 p_0_4 f_1 K w
def z26_L0 (Kv:VW):Cur [tL, tQ, tI, tI] WP := fun f_1 p_2 out_5 i_6=>z26_l0 f_1 p_2 out_5 i_6 (kk [tI] Kv)
noncomputable def z26_S:Pw.Spec := fun vs w Kv=>un [.g 5, tL, tL, tL, tI, tI, tL] (fun p_0_0 p_0_1 p_0_2 p_0_3 p_0_4 f_1=>z26_sh p_0_0 p_0_1 p_0_2 p_0_3 p_0_4 f_1 (kk [tI] Kv)) nF vs w
def z26_A (Kv:VW):A := (qr 2 (qr 1 (qs (qr 1 (qb (A.loop [1, 2, 5, 6] (uR0 [tL, tQ, tI, tI] (z26_L0 Kv)) (qs (qr 5 (qc ql ql)) (qs (qb (qs (A.drw (dp [0, 1, 2, 3, 4, 5, 6] (DA.eff 7 (DA.pur 8 DA.done)))) (qr 1 (qc (qe 9) ql)))) (qe 3)))))) (qr 2 ql))))
theorem z26_ok:Sound Tryz.prog 87 z26_S := okS (x := z26_A) (fun Kv p_0_0 p_0_1 p_0_2 p_0_3 p_0_4 f_1=>z26_sd p_0_0 p_0_1 p_0_2 p_0_3 p_0_4 f_1 (kk [tI] Kv)) progMixed (Γ := [(144, z0p_S)]) ⟨.inl z0p_ok, trivial⟩ Tryz.call87 Tryz.func87 (fun Kv=>hStep (hLoop0 (L := z26_L0 Kv) (fun N0 f_1 p_2 out_5 i_6=>z26_b0 f_1 p_2 out_5 i_6 N0 (kk [tI] Kv)) (fun ⟨a0, a1, _, _, _⟩ _ h=>let ⟨I, μ, h0, hr⟩ := h.out; ⟨fun b0 b1 b2 b3 w=>(b0=a0/\b1=a1/\True)/\I b2 b3 w, fun _ _ b2 b3 w=>μ b2 b3 w, ⟨⟨rfl, rfl, trivial⟩, h0⟩, fun ⟨_, _, _, _, _⟩ _ ⟨⟨e0, e1, _⟩, hI⟩=>by cases e0; cases e1; exact hr _ _ _ hI⟩)) <| hEnd)
def z1t_k6d (f_1:Sl) (p_3 dual_5 sum_10:Addr) (ok_11:Bool) (i_12:Int) (best_13:Addr) (k_14:Int) (x_16:Addr) (N2:Sl->Addr->Addr->Addr->Bool->Int->Addr->Int->World->Prop) (N1:Sl->Addr->Addr->Addr->Bool->Int->World->Prop) (K:Pw.T3) (w:World):Prop :=
 ∃ x131:Int, w.cell? x_16=some (Value.int .i64 x131)/\∃ x132:Int, w.cell? (x_16.add 1)=some (Value.int .i64 x132)/\wrOk w best_13/\
 (let w133 := w.setCell best_13 (Value.int .i64 x131)
 wrOk w133 (best_13.add 1)/\
 (let w134 := w133.setCell (best_13.add 1) (Value.int .i64 x132)
 inR .i64 (k_14 + (1:Int))/\N2 f_1 p_3 dual_5 sum_10 ok_11 i_12 best_13 (k_14 + (1:Int)) w134))
structure z1t_k6 (f_1:Sl) (p_3 dual_5 sum_10:Addr) (ok_11:Bool) (i_12:Int) (best_13:Addr) (k_14:Int) (x_16:Addr) (N2:Sl->Addr->Addr->Addr->Bool->Int->Addr->Int->World->Prop) (N1:Sl->Addr->Addr->Addr->Bool->Int->World->Prop) (K:Pw.T3) (w:World):Prop where
 out:z1t_k6d f_1 p_3 dual_5 sum_10 ok_11 i_12 best_13 k_14 x_16 N2 N1 K w
def z1t_k5d (f_1:Sl) (p_3 dual_5 sum_10:Addr) (ok_11:Bool) (i_12:Int) (best_13:Addr) (k_14:Int) (x_16:Addr) (N2:Sl->Addr->Addr->Addr->Bool->Int->Addr->Int->World->Prop) (N1:Sl->Addr->Addr->Addr->Bool->Int->World->Prop) (K:Pw.T3) (w:World):Prop :=
 cnd (decide (i_12 < (f_1.l:Int)))
 (z1t_k6 f_1 p_3 dual_5 sum_10 ok_11 i_12 best_13 k_14 x_16 N2 N1 K w)
 (∃ x125:Int, w.cell? x_16=some (Value.int .i64 x125)/\∃ x126:Int, w.cell? (x_16.add 1)=some (Value.int .i64 x126)/\∃ x127:Int, w.cell? best_13=some (Value.int .i64 x127)/\∃ x128:Int, w.cell? (best_13.add 1)=some (Value.int .i64 x128)/\z2g_sh x125 x126 x127 x128 (fun r130 w129=>cnd (decide (r130 > (0:Int)))
 (z1t_k6 f_1 p_3 dual_5 sum_10 ok_11 i_12 best_13 k_14 x_16 N2 N1 K w129)
 (inR .i64 (k_14 + (1:Int))/\N2 f_1 p_3 dual_5 sum_10 ok_11 i_12 best_13 (k_14 + (1:Int)) w129)) w)
structure z1t_k5 (f_1:Sl) (p_3 dual_5 sum_10:Addr) (ok_11:Bool) (i_12:Int) (best_13:Addr) (k_14:Int) (x_16:Addr) (N2:Sl->Addr->Addr->Addr->Bool->Int->Addr->Int->World->Prop) (N1:Sl->Addr->Addr->Addr->Bool->Int->World->Prop) (K:Pw.T3) (w:World):Prop where
 out:z1t_k5d f_1 p_3 dual_5 sum_10 ok_11 i_12 best_13 k_14 x_16 N2 N1 K w
def z1t_k4d (f_1:Sl) (p_3 dual_5 sum_10:Addr) (ok_11:Bool) (i_12:Int) (best_13:Addr) (k_14:Int) (x_16:Addr) (one_17:Bool) (N2:Sl->Addr->Addr->Addr->Bool->Int->Addr->Int->World->Prop) (N1:Sl->Addr->Addr->Addr->Bool->Int->World->Prop) (K:Pw.T3) (w:World):Prop :=
 cnd ok_11
 (z1t_k5 f_1 p_3 dual_5 sum_10 one_17 i_12 best_13 k_14 x_16 N2 N1 K w)
 (z1t_k5 f_1 p_3 dual_5 sum_10 false i_12 best_13 k_14 x_16 N2 N1 K w)
structure z1t_k4 (f_1:Sl) (p_3 dual_5 sum_10:Addr) (ok_11:Bool) (i_12:Int) (best_13:Addr) (k_14:Int) (x_16:Addr) (one_17:Bool) (N2:Sl->Addr->Addr->Addr->Bool->Int->Addr->Int->World->Prop) (N1:Sl->Addr->Addr->Addr->Bool->Int->World->Prop) (K:Pw.T3) (w:World):Prop where
 out:z1t_k4d f_1 p_3 dual_5 sum_10 ok_11 i_12 best_13 k_14 x_16 one_17 N2 N1 K w
def z1t_k3d (f_1:Sl) (p_3 dual_5 sum_10:Addr) (ok_11:Bool) (i_12:Int) (best_13:Addr) (k_14:Int) (c_15:Addr) (N2:Sl->Addr->Addr->Addr->Bool->Int->Addr->Int->World->Prop) (N1:Sl->Addr->Addr->Addr->Bool->Int->World->Prop) (K:Pw.T3) (w:World):Prop :=
 let w83 := w.drew
 ∃ S84:World->Prop, S84 w83/\∃ x85:Int, (∀ w':World, S84 w'->w'.cell? (c_15.add 3)=some (Value.int .i64 x85))/\∃ x86:Int, (∀ w':World, S84 w'->w'.cell? (p_3.add 4)=some (Value.int .i64 x86))/\inR .i64 (x86 + (1:Int))/\inR .i64 (x85 * (x86 + (1:Int)))/\∃ x87:Int, (∀ w':World, S84 w'->w'.cell? (c_15.add 2)=some (Value.int .i64 x87))/\inR .i64 ((x85 * (x86 + (1:Int))) - x87)/\∃ x88:Int, (∀ w':World, S84 w'->w'.cell? dual_5=some (Value.int .i64 x88))/\∃ x89:Int, (∀ w':World, S84 w'->w'.cell? (dual_5.add 1)=some (Value.int .i64 x89))/\∃ x90:Int, (∀ w':World, S84 w'->w'.cell? (c_15.add 2)=some (Value.int .i64 x90))/\inR .i64 (-x90)/\(z2u_sh ((x85 * (x86 + (1:Int))) - x87) (fun r92_0 r92_1 w91=>S84 w91/\(z2u_sh (-x90) (fun r94_0 r94_1 w93=>S84 w93/\(z2n_sh r92_0 r92_1 x88 x89 r94_0 r94_1 (fun r96_0 r96_1 r97 w95=>S84 w95/\let w98 := w95.alloc (Obj.cells #[(Value.int .i64 0), (Value.int .i64 0)] 31)
 S84 w98/\wrOk w98 (Addr.mk w95.heap.size 0 none)/\
 (let w99 := w98.setCell (Addr.mk w95.heap.size 0 none) (Value.int .i64 r96_0)
 wrOk w99 (Addr.mk w95.heap.size 1 none)/\
 (let w100 := w99.setCell (Addr.mk w95.heap.size 1 none) (Value.int .i64 r96_1)
 z1t_k4 f_1 p_3 dual_5 sum_10 ok_11 i_12 best_13 k_14 (Addr.mk w95.heap.size 0 none) r97 N2 N1 K w100))) w93)
/\(let w101 := w93.alloc (Obj.cells #[(Value.int .i64 0), (Value.int .i64 0)] 31)
 S84 w101/\z2n_sh r92_0 r92_1 x88 x89 r94_0 r94_1 (fun r103_0 r103_1 r104 w102=>S84 w102/\wrOk w102 (Addr.mk w93.heap.size 0 none)/\
 (let w105 := w102.setCell (Addr.mk w93.heap.size 0 none) (Value.int .i64 r103_0)
 wrOk w105 (Addr.mk w93.heap.size 1 none)/\
 (let w106 := w105.setCell (Addr.mk w93.heap.size 1 none) (Value.int .i64 r103_1)
 z1t_k4 f_1 p_3 dual_5 sum_10 ok_11 i_12 best_13 k_14 (Addr.mk w93.heap.size 0 none) r104 N2 N1 K w106))) w101)) w91)
/\(let w107 := w91.alloc (Obj.cells #[(Value.int .i64 0), (Value.int .i64 0)] 31)
 S84 w107/\z2u_sh (-x90) (fun r109_0 r109_1 w108=>S84 w108/\z2n_sh r92_0 r92_1 x88 x89 r109_0 r109_1 (fun r111_0 r111_1 r112 w110=>S84 w110/\wrOk w110 (Addr.mk w91.heap.size 0 none)/\
 (let w113 := w110.setCell (Addr.mk w91.heap.size 0 none) (Value.int .i64 r111_0)
 wrOk w113 (Addr.mk w91.heap.size 1 none)/\
 (let w114 := w113.setCell (Addr.mk w91.heap.size 1 none) (Value.int .i64 r111_1)
 z1t_k4 f_1 p_3 dual_5 sum_10 ok_11 i_12 best_13 k_14 (Addr.mk w91.heap.size 0 none) r112 N2 N1 K w114))) w108) w107)) w83)
/\(let w115 := w83.alloc (Obj.cells #[(Value.int .i64 0), (Value.int .i64 0)] 31)
 S84 w115/\z2u_sh ((x85 * (x86 + (1:Int))) - x87) (fun r117_0 r117_1 w116=>S84 w116/\z2u_sh (-x90) (fun r119_0 r119_1 w118=>S84 w118/\z2n_sh r117_0 r117_1 x88 x89 r119_0 r119_1 (fun r121_0 r121_1 r122 w120=>S84 w120/\wrOk w120 (Addr.mk w83.heap.size 0 none)/\
 (let w123 := w120.setCell (Addr.mk w83.heap.size 0 none) (Value.int .i64 r121_0)
 wrOk w123 (Addr.mk w83.heap.size 1 none)/\
 (let w124 := w123.setCell (Addr.mk w83.heap.size 1 none) (Value.int .i64 r121_1)
 z1t_k4 f_1 p_3 dual_5 sum_10 ok_11 i_12 best_13 k_14 (Addr.mk w83.heap.size 0 none) r122 N2 N1 K w124))) w118) w116) w115)
structure z1t_k3 (f_1:Sl) (p_3 dual_5 sum_10:Addr) (ok_11:Bool) (i_12:Int) (best_13:Addr) (k_14:Int) (c_15:Addr) (N2:Sl->Addr->Addr->Addr->Bool->Int->Addr->Int->World->Prop) (N1:Sl->Addr->Addr->Addr->Bool->Int->World->Prop) (K:Pw.T3) (w:World):Prop where
 out:z1t_k3d f_1 p_3 dual_5 sum_10 ok_11 i_12 best_13 k_14 c_15 N2 N1 K w
def z1t_b2 (f_1:Sl) (p_3 dual_5 sum_10:Addr) (ok_11:Bool) (i_12:Int) (best_13:Addr) (k_14:Int) (N2:Sl->Addr->Addr->Addr->Bool->Int->Addr->Int->World->Prop) (N1:Sl->Addr->Addr->Addr->Bool->Int->World->Prop) (K:Pw.T3) (w:World):Prop :=
 ∃ x67:Sl, w.cell? (p_3.add 1)=some (Value.slice x67.p x67.l x67.c)/\cnd (decide (k_14 < (x67.l:Int)))
 (∃ x68:Sl, w.cell? (p_3.add 1)=some (Value.slice x68.p x68.l x68.c)/\nz x68.p fun a69=>(0 <= k_14/\k_14 < (x68.l:Nat))/\∃ x70:Int, w.cell? (a69.add (k_14.toNat * 4))=some (Value.int .i64 x70)/\∃ x71:Int, w.cell? ((a69.add (k_14.toNat * 4)).add 1)=some (Value.int .i64 x71)/\∃ x72:Int, w.cell? ((a69.add (k_14.toNat * 4)).add 2)=some (Value.int .i64 x72)/\∃ x73:Int, w.cell? ((a69.add (k_14.toNat * 4)).add 3)=some (Value.int .i64 x73)/\let w74 := w.alloc (Obj.cells #[(Value.int .i64 0), (Value.int .i64 0), (Value.int .i64 0), (Value.int .i64 0)] 57)
 stN w74 (Addr.mk w.heap.size 0 none) [(Value.int .i64 x70), (Value.int .i64 x71), (Value.int .i64 x72), (Value.int .i64 x73)] fun w75=>let w76 := w75.drew
 ∃ x77:Int, w76.cell? (Addr.mk w.heap.size 0 none)=some (Value.int .i64 x77)/\∃ x78:Sl, w76.cell? p_3=some (Value.slice x78.p x78.l x78.c)/\nz x78.p fun a79=>(0 <= i_12/\i_12 < (x78.l:Nat))/\∃ x80:Int, w76.cell? (a79.add (i_12.toNat * 1))=some (Value.int .i64 x80)/\cnd (x77 != x80)
 (inR .i64 (k_14 + (1:Int))/\N2 f_1 p_3 dual_5 sum_10 ok_11 i_12 best_13 (k_14 + (1:Int)) w76)
 (cnd (decide (i_12 < (f_1.l:Int)))
 (nz f_1.p fun a81=>(0 <= i_12/\i_12 < (f_1.l:Nat))/\∃ x82:Int, w76.cell? (a81.add (i_12.toNat * 1))=some (Value.int .i64 x82)/\cnd (x82 != k_14)
 (inR .i64 (k_14 + (1:Int))/\N2 f_1 p_3 dual_5 sum_10 ok_11 i_12 best_13 (k_14 + (1:Int)) w76)
 (z1t_k3 f_1 p_3 dual_5 sum_10 ok_11 i_12 best_13 k_14 (Addr.mk w.heap.size 0 none) N2 N1 K w76))
 (z1t_k3 f_1 p_3 dual_5 sum_10 ok_11 i_12 best_13 k_14 (Addr.mk w.heap.size 0 none) N2 N1 K w76)))
 (∃ x135:Int, w.cell? sum_10=some (Value.int .i64 x135)/\∃ x136:Int, w.cell? (sum_10.add 1)=some (Value.int .i64 x136)/\∃ x137:Int, w.cell? best_13=some (Value.int .i64 x137)/\∃ x138:Int, w.cell? (best_13.add 1)=some (Value.int .i64 x138)/\z2f_sh x135 x136 x137 x138 (fun r140_0 r140_1 r141 w139=>let w142 := w139.alloc (Obj.cells #[(Value.int .i64 0), (Value.int .i64 0)] 31)
 wrOk w142 (Addr.mk w139.heap.size 0 none)/\
 (let w143 := w142.setCell (Addr.mk w139.heap.size 0 none) (Value.int .i64 r140_0)
 wrOk w143 (Addr.mk w139.heap.size 1 none)/\
 (let w144 := w143.setCell (Addr.mk w139.heap.size 1 none) (Value.int .i64 r140_1)
 ∃ x145:Int, w144.cell? (Addr.mk w139.heap.size 0 none)=some (Value.int .i64 x145)/\∃ x146:Int, w144.cell? (Addr.mk w139.heap.size 1 none)=some (Value.int .i64 x146)/\wrOk w144 sum_10/\
 (let w147 := w144.setCell sum_10 (Value.int .i64 x145)
 wrOk w147 (sum_10.add 1)/\
 (let w148 := w147.setCell (sum_10.add 1) (Value.int .i64 x146)
 cnd ok_11
 (inR .i64 (i_12 + (1:Int))/\N1 f_1 p_3 dual_5 sum_10 r141 (i_12 + (1:Int)) w148)
 (inR .i64 (i_12 + (1:Int))/\N1 f_1 p_3 dual_5 sum_10 false (i_12 + (1:Int)) w148)))))) w)
def z1t_l2d (f_1:Sl) (p_3 dual_5 sum_10:Addr) (ok_11:Bool) (i_12:Int) (best_13:Addr) (k_14:Int) (N1:Sl->Addr->Addr->Addr->Bool->Int->World->Prop) (K:Pw.T3) (w:World):Prop :=
 ∃ (I:Bool->Int->World->Prop) (μ:Bool->Int->World->Nat), I ok_11 k_14 w/\∀ (ok_111:Bool) (k_141:Int) (w1:World), I ok_111 k_141 w1 ->
 z1t_b2 f_1 p_3 dual_5 sum_10 ok_111 i_12 best_13 k_141 (fun f_1' p_3' dual_5' sum_10' ok_11' i_12' best_13' k_14' w'=>((f_1'=f_1/\p_3'=p_3/\dual_5'=dual_5/\sum_10'=sum_10/\i_12'=i_12/\best_13'=best_13/\True)/\I ok_11' k_14' w')/\μ ok_11' k_14' w' < μ ok_111 k_141 w1) N1 K w1
structure z1t_l2 (f_1:Sl) (p_3 dual_5 sum_10:Addr) (ok_11:Bool) (i_12:Int) (best_13:Addr) (k_14:Int) (N1:Sl->Addr->Addr->Addr->Bool->Int->World->Prop) (K:Pw.T3) (w:World):Prop where
 out:z1t_l2d f_1 p_3 dual_5 sum_10 ok_11 i_12 best_13 k_14 N1 K w
def z1t_k8d (f_1:Sl) (p_3 sum_10:Addr) (ok_11:Bool) (more_20:Addr) (one_21:Bool) (K:Pw.T3) (w:World):Prop :=
 let w175 := w.drew
 ∃ S176:World->Prop, S176 w175/\∃ x177:Int, (∀ w':World, S176 w'->w'.cell? sum_10=some (Value.int .i64 x177))/\∃ x178:Int, (∀ w':World, S176 w'->w'.cell? (sum_10.add 1)=some (Value.int .i64 x178))/\∃ x179:Int, (∀ w':World, S176 w'->w'.cell? more_20=some (Value.int .i64 x179))/\∃ x180:Int, (∀ w':World, S176 w'->w'.cell? (more_20.add 1)=some (Value.int .i64 x180))/\∃ x181:Sl, (∀ w':World, S176 w'->w'.cell? p_3=some (Value.slice x181.p x181.l x181.c))/\∃ x182:Sl, (∀ w':World, S176 w'->w'.cell? (p_3.add 1)=some (Value.slice x182.p x182.l x182.c))/\∃ x183:Sl, (∀ w':World, S176 w'->w'.cell? (p_3.add 2)=some (Value.slice x183.p x183.l x183.c))/\∃ x184:Int, (∀ w':World, S176 w'->w'.cell? (p_3.add 3)=some (Value.int .i64 x184))/\∃ x185:Int, (∀ w':World, S176 w'->w'.cell? (p_3.add 4)=some (Value.int .i64 x185))/\z26_sh x181 x182 x183 x184 x185 f_1 (fun r187 w186=>S176 w186/\z2u_sh r187 (fun r189_0 r189_1 w188=>S176 w188/\z2n_sh x177 x178 x179 x180 r189_0 r189_1 (fun r191_0 r191_1 r192 w190=>S176 w190/\wrOk w190 sum_10/\
 (let w193 := w190.setCell sum_10 (Value.int .i64 r191_0)
 wrOk w193 (sum_10.add 1)/\
 (let w194 := w193.setCell (sum_10.add 1) (Value.int .i64 r191_1)
 cnd (!ok_11)
 (K (0:Int) false w194)
 (cnd (!one_21)
 (K (0:Int) false w194)
 (cnd (!r192)
 (K (0:Int) false w194)
 (∃ x195:Int, w194.cell? sum_10=some (Value.int .i64 x195)/\∃ x196:Int, w194.cell? (sum_10.add 1)=some (Value.int .i64 x196)/\z1k_sh x195 x196 (fun r198 w197=>K r198 true w197) w194)))))) w188) w186) w175
structure z1t_k8 (f_1:Sl) (p_3 sum_10:Addr) (ok_11:Bool) (more_20:Addr) (one_21:Bool) (K:Pw.T3) (w:World):Prop where
 out:z1t_k8d f_1 p_3 sum_10 ok_11 more_20 one_21 K w
def z1t_k7d (f_1:Sl) (p_3 dual_5 sum_10:Addr) (ok_11:Bool) (K:Pw.T3) (w:World):Prop :=
 let w149 := w.drew
 ∃ S150:World->Prop, S150 w149/\∃ x151:Int, (∀ w':World, S150 w'->w'.cell? dual_5=some (Value.int .i64 x151))/\∃ x152:Int, (∀ w':World, S150 w'->w'.cell? (dual_5.add 1)=some (Value.int .i64 x152))/\(z2u_sh (1:Int) (fun r154_0 r154_1 w153=>S150 w153/\(z2f_sh r154_0 r154_1 x151 x152 (fun r156_0 r156_1 r157 w155=>S150 w155/\let w158 := w155.alloc (Obj.cells #[(Value.int .i64 0), (Value.int .i64 0)] 31)
 S150 w158/\wrOk w158 (Addr.mk w155.heap.size 0 none)/\
 (let w159 := w158.setCell (Addr.mk w155.heap.size 0 none) (Value.int .i64 r156_0)
 wrOk w159 (Addr.mk w155.heap.size 1 none)/\
 (let w160 := w159.setCell (Addr.mk w155.heap.size 1 none) (Value.int .i64 r156_1)
 z1t_k8 f_1 p_3 sum_10 ok_11 (Addr.mk w155.heap.size 0 none) r157 K w160))) w153)
/\(let w161 := w153.alloc (Obj.cells #[(Value.int .i64 0), (Value.int .i64 0)] 31)
 S150 w161/\z2f_sh r154_0 r154_1 x151 x152 (fun r163_0 r163_1 r164 w162=>wrOk w162 (Addr.mk w153.heap.size 0 none)/\
 (let w165 := w162.setCell (Addr.mk w153.heap.size 0 none) (Value.int .i64 r163_0)
 wrOk w165 (Addr.mk w153.heap.size 1 none)/\
 (let w166 := w165.setCell (Addr.mk w153.heap.size 1 none) (Value.int .i64 r163_1)
 z1t_k8 f_1 p_3 sum_10 ok_11 (Addr.mk w153.heap.size 0 none) r164 K w166))) w161)) w149)
/\(let w167 := w149.alloc (Obj.cells #[(Value.int .i64 0), (Value.int .i64 0)] 31)
 S150 w167/\z2u_sh (1:Int) (fun r169_0 r169_1 w168=>S150 w168/\z2f_sh r169_0 r169_1 x151 x152 (fun r171_0 r171_1 r172 w170=>wrOk w170 (Addr.mk w149.heap.size 0 none)/\
 (let w173 := w170.setCell (Addr.mk w149.heap.size 0 none) (Value.int .i64 r171_0)
 wrOk w173 (Addr.mk w149.heap.size 1 none)/\
 (let w174 := w173.setCell (Addr.mk w149.heap.size 1 none) (Value.int .i64 r171_1)
 z1t_k8 f_1 p_3 sum_10 ok_11 (Addr.mk w149.heap.size 0 none) r172 K w174))) w168) w167)
structure z1t_k7 (f_1:Sl) (p_3 dual_5 sum_10:Addr) (ok_11:Bool) (K:Pw.T3) (w:World):Prop where
 out:z1t_k7d f_1 p_3 dual_5 sum_10 ok_11 K w
def z1t_b1 (f_1:Sl) (p_3 dual_5 sum_10:Addr) (ok_11:Bool) (i_12:Int) (N1:Sl->Addr->Addr->Addr->Bool->Int->World->Prop) (K:Pw.T3) (w:World):Prop :=
 ∃ x61:Sl, w.cell? p_3=some (Value.slice x61.p x61.l x61.c)/\cnd (decide (i_12 < (x61.l:Int)))
 (cnd ok_11
 (z2u_sh (0:Int) (fun r63_0 r63_1 w62=>let w64 := w62.alloc (Obj.cells #[(Value.int .i64 0), (Value.int .i64 0)] 31)
 wrOk w64 (Addr.mk w62.heap.size 0 none)/\
 (let w65 := w64.setCell (Addr.mk w62.heap.size 0 none) (Value.int .i64 r63_0)
 wrOk w65 (Addr.mk w62.heap.size 1 none)/\
 (let w66 := w65.setCell (Addr.mk w62.heap.size 1 none) (Value.int .i64 r63_1)
 z1t_l2 f_1 p_3 dual_5 sum_10 ok_11 i_12 (Addr.mk w62.heap.size 0 none) (0:Int) N1 K w66))) w)
 (z1t_k7 f_1 p_3 dual_5 sum_10 ok_11 K w))
 (z1t_k7 f_1 p_3 dual_5 sum_10 ok_11 K w)
def z1t_l1d (f_1:Sl) (p_3 dual_5 sum_10:Addr) (ok_11:Bool) (i_12:Int) (K:Pw.T3) (w:World):Prop :=
 ∃ (I:Bool->Int->World->Prop) (μ:Bool->Int->World->Nat), I ok_11 i_12 w/\∀ (ok_111:Bool) (i_121:Int) (w1:World), I ok_111 i_121 w1 ->
 z1t_b1 f_1 p_3 dual_5 sum_10 ok_111 i_121 (fun f_1' p_3' dual_5' sum_10' ok_11' i_12' w'=>((f_1'=f_1/\p_3'=p_3/\dual_5'=dual_5/\sum_10'=sum_10/\True)/\I ok_11' i_12' w')/\μ ok_11' i_12' w' < μ ok_111 i_121 w1) K w1
structure z1t_l1 (f_1:Sl) (p_3 dual_5 sum_10:Addr) (ok_11:Bool) (i_12:Int) (K:Pw.T3) (w:World):Prop where
 out:z1t_l1d f_1 p_3 dual_5 sum_10 ok_11 i_12 K w
def z1t_k0d (f_1:Sl) (p_3 dual_5 sum_10:Addr) (ok_11:Bool) (K:Pw.T3) (w:World):Prop :=
 z1t_l1 f_1 p_3 dual_5 sum_10 ok_11 (0:Int) K w
structure z1t_k0 (f_1:Sl) (p_3 dual_5 sum_10:Addr) (ok_11:Bool) (K:Pw.T3) (w:World):Prop where
 out:z1t_k0d f_1 p_3 dual_5 sum_10 ok_11 K w
def z1t_sd (p_0_0 p_0_1 p_0_2:Sl) (p_0_3 p_0_4:Int) (f_1:Sl) (dual_2_0 dual_2_1:Int) (K:Pw.T3) (w:World):Prop :=
 let w1 := w.alloc (Obj.cells #[(Value.slice p_0_0.p p_0_0.l p_0_0.c), (Value.slice p_0_1.p p_0_1.l p_0_1.c), (Value.slice p_0_2.p p_0_2.l p_0_2.c), (Value.int .i64 p_0_3), (Value.int .i64 p_0_4)] 28)
 let w2 := w1.alloc (Obj.cells #[(Value.int .i64 dual_2_0), (Value.int .i64 dual_2_1)] 31)
 ∃ x3:Sl, w2.cell? (Addr.mk w.heap.size 0 none)=some (Value.slice x3.p x3.l x3.c)/\∃ x4:Sl, w2.cell? (Addr.mk w.heap.size 1 none)=some (Value.slice x4.p x4.l x4.c)/\∃ x5:Sl, w2.cell? (Addr.mk w.heap.size 2 none)=some (Value.slice x5.p x5.l x5.c)/\∃ x6:Int, w2.cell? (Addr.mk w.heap.size 3 none)=some (Value.int .i64 x6)/\∃ x7:Int, w2.cell? (Addr.mk w.heap.size 4 none)=some (Value.int .i64 x7)/\z1s_sh x3 x4 x5 x6 x7 (fun r9 w8=>∃ x10:Int, w8.cell? (Addr.mk w1.heap.size 0 none)=some (Value.int .i64 x10)/\∃ x11:Int, w8.cell? (Addr.mk w1.heap.size 1 none)=some (Value.int .i64 x11)/\z1l_sh x10 x11 (fun r13 w12=>cnd (!r9)
 (K (0:Int) false w12)
 (∃ x14:Sl, w12.cell? (Addr.mk w.heap.size 0 none)=some (Value.slice x14.p x14.l x14.c)/\∃ x15:Sl, w12.cell? (Addr.mk w.heap.size 1 none)=some (Value.slice x15.p x15.l x15.c)/\∃ x16:Sl, w12.cell? (Addr.mk w.heap.size 2 none)=some (Value.slice x16.p x16.l x16.c)/\∃ x17:Int, w12.cell? (Addr.mk w.heap.size 3 none)=some (Value.int .i64 x17)/\∃ x18:Int, w12.cell? (Addr.mk w.heap.size 4 none)=some (Value.int .i64 x18)/\z1c_sh x14 x15 x16 x17 x18 f_1 (fun r20 w19=>cnd (!r20)
 (K (0:Int) false w19)
 (cnd (!r13)
 (K (0:Int) false w19)
 (∃ x21:Int, w19.cell? (Addr.mk w1.heap.size 0 none)=some (Value.int .i64 x21)/\cnd (decide (x21 < (0:Int)))
 (K (0:Int) false w19)
 (let w22 := w19.drew
 ∃ S23:World->Prop, S23 w22/\∃ x24:Int, (∀ w':World, S23 w'->w'.cell? (Addr.mk w1.heap.size 0 none)=some (Value.int .i64 x24))/\∃ x25:Int, (∀ w':World, S23 w'->w'.cell? (Addr.mk w1.heap.size 1 none)=some (Value.int .i64 x25))/\∃ x26:Int, (∀ w':World, S23 w'->w'.cell? (Addr.mk w.heap.size 4 none)=some (Value.int .i64 x26))/\(z2u_sh (0:Int) (fun r28_0 r28_1 w27=>S23 w27/\(z2u_sh x26 (fun r30_0 r30_1 w29=>S23 w29/\(z2n_sh r28_0 r28_1 x24 x25 r30_0 r30_1 (fun r32_0 r32_1 r33 w31=>S23 w31/\let w34 := w31.alloc (Obj.cells #[(Value.int .i64 0), (Value.int .i64 0)] 31)
 S23 w34/\wrOk w34 (Addr.mk w31.heap.size 0 none)/\
 (let w35 := w34.setCell (Addr.mk w31.heap.size 0 none) (Value.int .i64 r32_0)
 wrOk w35 (Addr.mk w31.heap.size 1 none)/\
 (let w36 := w35.setCell (Addr.mk w31.heap.size 1 none) (Value.int .i64 r32_1)
 z1t_k0 f_1 (Addr.mk w.heap.size 0 none) (Addr.mk w1.heap.size 0 none) (Addr.mk w31.heap.size 0 none) r33 K w36))) w29)
/\(let w37 := w29.alloc (Obj.cells #[(Value.int .i64 0), (Value.int .i64 0)] 31)
 S23 w37/\z2n_sh r28_0 r28_1 x24 x25 r30_0 r30_1 (fun r39_0 r39_1 r40 w38=>S23 w38/\wrOk w38 (Addr.mk w29.heap.size 0 none)/\
 (let w41 := w38.setCell (Addr.mk w29.heap.size 0 none) (Value.int .i64 r39_0)
 wrOk w41 (Addr.mk w29.heap.size 1 none)/\
 (let w42 := w41.setCell (Addr.mk w29.heap.size 1 none) (Value.int .i64 r39_1)
 z1t_k0 f_1 (Addr.mk w.heap.size 0 none) (Addr.mk w1.heap.size 0 none) (Addr.mk w29.heap.size 0 none) r40 K w42))) w37)) w27)
/\(let w43 := w27.alloc (Obj.cells #[(Value.int .i64 0), (Value.int .i64 0)] 31)
 S23 w43/\z2u_sh x26 (fun r45_0 r45_1 w44=>S23 w44/\z2n_sh r28_0 r28_1 x24 x25 r45_0 r45_1 (fun r47_0 r47_1 r48 w46=>S23 w46/\wrOk w46 (Addr.mk w27.heap.size 0 none)/\
 (let w49 := w46.setCell (Addr.mk w27.heap.size 0 none) (Value.int .i64 r47_0)
 wrOk w49 (Addr.mk w27.heap.size 1 none)/\
 (let w50 := w49.setCell (Addr.mk w27.heap.size 1 none) (Value.int .i64 r47_1)
 z1t_k0 f_1 (Addr.mk w.heap.size 0 none) (Addr.mk w1.heap.size 0 none) (Addr.mk w27.heap.size 0 none) r48 K w50))) w44) w43)) w22)
/\(let w51 := w22.alloc (Obj.cells #[(Value.int .i64 0), (Value.int .i64 0)] 31)
 S23 w51/\z2u_sh (0:Int) (fun r53_0 r53_1 w52=>S23 w52/\z2u_sh x26 (fun r55_0 r55_1 w54=>S23 w54/\z2n_sh r53_0 r53_1 x24 x25 r55_0 r55_1 (fun r57_0 r57_1 r58 w56=>S23 w56/\wrOk w56 (Addr.mk w22.heap.size 0 none)/\
 (let w59 := w56.setCell (Addr.mk w22.heap.size 0 none) (Value.int .i64 r57_0)
 wrOk w59 (Addr.mk w22.heap.size 1 none)/\
 (let w60 := w59.setCell (Addr.mk w22.heap.size 1 none) (Value.int .i64 r57_1)
 z1t_k0 f_1 (Addr.mk w.heap.size 0 none) (Addr.mk w1.heap.size 0 none) (Addr.mk w22.heap.size 0 none) r58 K w60))) w54) w52) w51))))) w12)) w8) w2
structure z1t_sh (p_0_0 p_0_1 p_0_2:Sl) (p_0_3 p_0_4:Int) (f_1:Sl) (dual_2_0 dual_2_1:Int) (K:Pw.T3) (w:World):Prop where
 out:z1t_sd p_0_0 p_0_1 p_0_2 p_0_3 p_0_4 f_1 dual_2_0 dual_2_1 K w
def z1t_L0 (Kv:VW):Cur [tL, tQ, tQ, tQ, tB] WP := fun f_1 p_3 dual_5 sum_10 ok_11=>z1t_k0 f_1 p_3 dual_5 sum_10 ok_11 (kk [.u 2, tI, tB] Kv)
def z1t_L1 (Kv:VW):Cur [tL, tQ, tQ, tQ, tB, tI] WP := fun f_1 p_3 dual_5 sum_10 ok_11 i_12=>z1t_l1 f_1 p_3 dual_5 sum_10 ok_11 i_12 (kk [.u 2, tI, tB] Kv)
def z1t_L2 (Kv:VW):Cur [tL, tQ, tQ, tQ, tB, tI] WP->Cur [tL, tQ, tQ, tQ, tB, tI, tQ, tI] WP := fun N1 f_1 p_3 dual_5 sum_10 ok_11 i_12 best_13 k_14=>z1t_l2 f_1 p_3 dual_5 sum_10 ok_11 i_12 best_13 k_14 N1 (kk [.u 2, tI, tB] Kv)
def z1t_L3 (Kv:VW):Cur [tL, tQ, tQ, tQ, tB, tI, tQ, tI] WP->Cur [tL, tQ, tQ, tQ, tB, tI] WP->Cur [tL, tQ, tQ, tQ, tB, tI, tQ, tI, tQ] WP := fun N2 N1 f_1 p_3 dual_5 sum_10 ok_11 i_12 best_13 k_14 c_15=>z1t_k3 f_1 p_3 dual_5 sum_10 ok_11 i_12 best_13 k_14 c_15 N2 N1 (kk [.u 2, tI, tB] Kv)
def z1t_L4 (Kv:VW):Cur [tL, tQ, tQ, tQ, tB, tI, tQ, tI] WP->Cur [tL, tQ, tQ, tQ, tB, tI] WP->Cur [tL, tQ, tQ, tQ, tB, tI, tQ, tI, tQ, tB] WP := fun N2 N1 f_1 p_3 dual_5 sum_10 ok_11 i_12 best_13 k_14 x_16 one_17=>z1t_k4 f_1 p_3 dual_5 sum_10 ok_11 i_12 best_13 k_14 x_16 one_17 N2 N1 (kk [.u 2, tI, tB] Kv)
def z1t_L5 (Kv:VW):Cur [tL, tQ, tQ, tQ, tB, tI, tQ, tI] WP->Cur [tL, tQ, tQ, tQ, tB, tI] WP->Cur [tL, tQ, tQ, tQ, tB, tI, tQ, tI, tQ] WP := fun N2 N1 f_1 p_3 dual_5 sum_10 ok_11 i_12 best_13 k_14 x_16=>z1t_k5 f_1 p_3 dual_5 sum_10 ok_11 i_12 best_13 k_14 x_16 N2 N1 (kk [.u 2, tI, tB] Kv)
def z1t_L6 (Kv:VW):Cur [tL, tQ, tQ, tQ, tB, tI, tQ, tI] WP->Cur [tL, tQ, tQ, tQ, tB, tI] WP->Cur [tL, tQ, tQ, tQ, tB, tI, tQ, tI, tQ] WP := fun N2 N1 f_1 p_3 dual_5 sum_10 ok_11 i_12 best_13 k_14 x_16=>z1t_k6 f_1 p_3 dual_5 sum_10 ok_11 i_12 best_13 k_14 x_16 N2 N1 (kk [.u 2, tI, tB] Kv)
def z1t_L7 (Kv:VW):Cur [tL, tQ, tQ, tQ, tB] WP := fun f_1 p_3 dual_5 sum_10 ok_11=>z1t_k7 f_1 p_3 dual_5 sum_10 ok_11 (kk [.u 2, tI, tB] Kv)
def z1t_L8 (Kv:VW):Cur [tL, tQ, tQ, tB, tQ, tB] WP := fun f_1 p_3 sum_10 ok_11 more_20 one_21=>z1t_k8 f_1 p_3 sum_10 ok_11 more_20 one_21 (kk [.u 2, tI, tB] Kv)
noncomputable def z1t_S:Pw.Spec := fun vs w Kv=>un [.g 5, tL, tL, tL, tI, tI, tL, .g 2, tI, tI] (fun p_0_0 p_0_1 p_0_2 p_0_3 p_0_4 f_1 dual_2_0 dual_2_1=>z1t_sh p_0_0 p_0_1 p_0_2 p_0_3 p_0_4 f_1 dual_2_0 dual_2_1 (kk [.u 2, tI, tB] Kv)) nF vs w
def z1t_A (Kv:VW):A := (qr 4 (qr 3 (qr 3 (qs (qs (A.reg (qn 3 (RA.spl 29 (qk 4 (qn 2 (qk 2 (qn 2 (qk 3 (qn 1 RA.done)))))) (qn 6 (RA.spl 35 (qk 2 (qn 2 (qk 3 (qn 1 RA.done)))) (qn 4 (RA.spl 39 (qk 3 (qn 1 RA.done)) (qn 4 RA.done)))))))) (qc (qr 2 ql) ql)) (qs (A.drw (dp [1, 2, 3] (DA.two 0 (DA.two 4 (DA.two 5 (dp [6, 7, 8] (DA.eff 9 (DA.eff 10 (DA.pur 11 DA.done)))) 9 (DA.eff 5 (dp [6, 7, 8] (DA.eff 10 (DA.pur 11 DA.done))))) 9 (DA.eff 4 (DA.eff 5 (dp [6, 7, 8] (DA.eff 10 (DA.pur 11 DA.done)))))) 9 (DA.eff 0 (DA.eff 4 (DA.eff 5 (dp [6, 7, 8] (DA.eff 10 (DA.pur 11 DA.done))))))))) (A.cut [1, 3, 5, 10, 11] (uR0 [tL, tQ, tQ, tQ, tB] (z1t_L0 Kv)) (qs (qr 1 (qb (A.loop [1, 3, 5, 10, 11, 12] (uR0 [tL, tQ, tQ, tQ, tB, tI] (z1t_L1 Kv)) (qs (qs (A.reg (qn 6 (RA.spl 58 (qn 2 RA.done) (qk 1 (qn 1 RA.done))))) (qc ql ql)) (qs (qb (qr 3 (qs (qr 1 (qb (A.loop [1, 3, 5, 10, 11, 12, 13, 14] (uR1 [tL, tQ, tQ, tQ, tB, tI] [tL, tQ, tQ, tQ, tB, tI, tQ, tI] (z1t_L2 Kv)) (qs (qr 5 (qc ql ql)) (qs (qb (qr 7 (qs (qs (A.drp (dp [0, 1, 2, 3, 4, 5, 6, 7, 8] (DA.spl 84 (DA.skp 9 (DA.skp 10 (DA.skp 11 (DA.skp 12 (DA.skp 13 (DA.skp 14 (DA.skp 15 (DA.skp 16 (DA.skp 17 (DA.skp 18 (DA.skp 19 (DA.skp 20 (DA.pur 21 DA.done))))))))))))) (dp [9, 10, 11, 12, 13] (DA.spl 89 (dp [14, 15, 16, 17, 18, 19, 20, 21] DA.done) (DA.skp 14 (DA.skp 15 (DA.skp 16 (DA.skp 17 (DA.skp 18 (DA.skp 19 (dp [20, 21] DA.done)))))))))))) (qc ql ql)) (A.cut [1, 3, 5, 10, 11, 12, 13, 14, 15] (uR2 [tL, tQ, tQ, tQ, tB, tI, tQ, tI] [tL, tQ, tQ, tQ, tB, tI] [tL, tQ, tQ, tQ, tB, tI, tQ, tI, tQ] (z1t_L3 Kv)) (qs (A.drw (dp [0, 1, 2, 3, 4, 5, 6, 7, 8, 10, 11, 12, 13] (DA.two 9 (DA.two 14 (DA.two 15 (dp [16, 17, 18] (DA.eff 19 (DA.eff 20 (DA.pur 21 DA.done)))) 19 (DA.eff 15 (dp [16, 17, 18] (DA.eff 20 (DA.pur 21 DA.done))))) 19 (DA.eff 14 (DA.eff 15 (dp [16, 17, 18] (DA.eff 20 (DA.pur 21 DA.done)))))) 19 (DA.eff 9 (DA.eff 14 (DA.eff 15 (dp [16, 17, 18] (DA.eff 20 (DA.pur 21 DA.done))))))))) (A.cut [1, 3, 5, 10, 11, 12, 13, 14, 16, 17] (uR2 [tL, tQ, tQ, tQ, tB, tI, tQ, tI] [tL, tQ, tQ, tQ, tB, tI] [tL, tQ, tQ, tQ, tB, tI, tQ, tI, tQ, tB] (z1t_L4 Kv)) (qs (A.reg (qn 2 (RA.spl 118 (qn 3 RA.done) (qk 1 (qn 2 RA.done))))) (A.cut [1, 3, 5, 10, 11, 12, 13, 14, 16] (uR2 [tL, tQ, tQ, tQ, tB, tI, tQ, tI] [tL, tQ, tQ, tQ, tB, tI] [tL, tQ, tQ, tQ, tB, tI, tQ, tI, tQ] (z1t_L5 Kv)) (qs (A.reg (qn 5 (RA.spl 125 (qk 4 (qn 1 RA.done)) (qn 5 RA.done)))) (qc (A.cut [1, 3, 5, 10, 11, 12, 13, 14, 16] (uR2 [tL, tQ, tQ, tQ, tB, tI, tQ, tI] [tL, tQ, tQ, tQ, tB, tI] [tL, tQ, tQ, tQ, tB, tI, tQ, tI, tQ] (z1t_L6 Kv)) (qe 2)) ql)))))))))) (qe 3)))))) (qr 9 (qr 2 (A.reg (qn 2 (RA.spl 140 (qn 3 RA.done) (qk 1 (qn 2 RA.done)))))))))) (qe 3)))))) (A.cut [1, 3, 5, 10, 11] (uR0 [tL, tQ, tQ, tQ, tB] (z1t_L7 Kv)) (qs (A.drw (DA.pur 1 (DA.two 0 (DA.two 2 (dp [3, 4, 5] (DA.eff 6 (DA.eff 7 (DA.pur 8 DA.done)))) 6 (DA.eff 2 (dp [3, 4, 5] (DA.eff 7 (DA.pur 8 DA.done))))) 6 (DA.eff 0 (DA.eff 2 (dp [3, 4, 5] (DA.eff 7 (DA.pur 8 DA.done)))))))) (A.cut [1, 3, 10, 11, 20, 21] (uR0 [tL, tQ, tQ, tB, tQ, tB] (z1t_L8 Kv)) (qs (A.drw (dp [0, 1, 2, 3] (DA.eff 4 (DA.eff 5 (DA.eff 6 (dp [7, 8, 9] (DA.eff 10 (DA.pur 11 DA.done)))))))) (qs (qs (A.reg (qn 3 (RA.spl 161 (qk 2 (qn 2 (qk 2 (qn 1 RA.done)))) (qn 4 (RA.spl 165 (qk 2 (qn 1 RA.done)) (qn 3 RA.done)))))) (qc (qr 2 ql) ql)) (qr 4 ql)))))))))))))
theorem z1t_ok:Sound Tryz.prog 40 z1t_S := okS (x := z1t_A) (fun Kv p_0_0 p_0_1 p_0_2 p_0_3 p_0_4 f_1 dual_2_0 dual_2_1=>z1t_sd p_0_0 p_0_1 p_0_2 p_0_3 p_0_4 f_1 dual_2_0 dual_2_1 (kk [.u 2, tI, tB] Kv)) progMixed (Γ := [(46, z1s_S), (81, z1l_S), (82, z1c_S), (83, z2n_S), (84, z2u_S), (85, z2g_S), (86, z2f_S), (87, z26_S), (88, z1k_S)]) ⟨.inl z1s_ok, .inl z1l_ok, .inl z1c_ok, .inl z2n_ok, .inl z2u_ok, .inl z2g_ok, .inl z2f_ok, .inl z26_ok, .inl z1k_ok, trivial⟩ Tryz.call40 Tryz.func40 (fun Kv=>hStep (hCut0 (F := z1t_L0 Kv) (G := fun f_1 p_3 dual_5 sum_10 ok_11=>z1t_k0d f_1 p_3 dual_5 sum_10 ok_11 (kk [.u 2, tI, tB] Kv))) <| hStep (hLoop0 (L := z1t_L1 Kv) (fun N1 f_1 p_3 dual_5 sum_10 ok_11 i_12=>z1t_b1 f_1 p_3 dual_5 sum_10 ok_11 i_12 N1 (kk [.u 2, tI, tB] Kv)) (fun ⟨a0, a1, a2, a3, _, _, _⟩ _ h=>let ⟨I, μ, h0, hr⟩ := h.out; ⟨fun b0 b1 b2 b3 b4 b5 w=>(b0=a0/\b1=a1/\b2=a2/\b3=a3/\True)/\I b4 b5 w, fun _ _ _ _ b4 b5 w=>μ b4 b5 w, ⟨⟨rfl, rfl, rfl, rfl, trivial⟩, h0⟩, fun ⟨_, _, _, _, _, _, _⟩ _ ⟨⟨e0, e1, e2, e3, _⟩, hI⟩=>by cases e0; cases e1; cases e2; cases e3; exact hr _ _ _ hI⟩)) <| hStep (hLoop1 (L := z1t_L2 Kv) (fun N1 N2 f_1 p_3 dual_5 sum_10 ok_11 i_12 best_13 k_14=>z1t_b2 f_1 p_3 dual_5 sum_10 ok_11 i_12 best_13 k_14 N2 N1 (kk [.u 2, tI, tB] Kv)) (fun _ ⟨a0, a1, a2, a3, _, a5, a6, _, _⟩ _ h=>let ⟨I, μ, h0, hr⟩ := h.out; ⟨fun b0 b1 b2 b3 b4 b5 b6 b7 w=>(b0=a0/\b1=a1/\b2=a2/\b3=a3/\b5=a5/\b6=a6/\True)/\I b4 b7 w, fun _ _ _ _ b4 _ _ b7 w=>μ b4 b7 w, ⟨⟨rfl, rfl, rfl, rfl, rfl, rfl, trivial⟩, h0⟩, fun ⟨_, _, _, _, _, _, _, _, _⟩ _ ⟨⟨e0, e1, e2, e3, e5, e6, _⟩, hI⟩=>by cases e0; cases e1; cases e2; cases e3; cases e5; cases e6; exact hr _ _ _ hI⟩)) <| hStep (hCut2 (F := z1t_L3 Kv) (G := fun N2 N1 f_1 p_3 dual_5 sum_10 ok_11 i_12 best_13 k_14 c_15=>z1t_k3d f_1 p_3 dual_5 sum_10 ok_11 i_12 best_13 k_14 c_15 N2 N1 (kk [.u 2, tI, tB] Kv))) <| hStep (hCut2 (F := z1t_L4 Kv) (G := fun N2 N1 f_1 p_3 dual_5 sum_10 ok_11 i_12 best_13 k_14 x_16 one_17=>z1t_k4d f_1 p_3 dual_5 sum_10 ok_11 i_12 best_13 k_14 x_16 one_17 N2 N1 (kk [.u 2, tI, tB] Kv))) <| hStep (hCut2 (F := z1t_L5 Kv) (G := fun N2 N1 f_1 p_3 dual_5 sum_10 ok_11 i_12 best_13 k_14 x_16=>z1t_k5d f_1 p_3 dual_5 sum_10 ok_11 i_12 best_13 k_14 x_16 N2 N1 (kk [.u 2, tI, tB] Kv))) <| hStep (hCut2 (F := z1t_L6 Kv) (G := fun N2 N1 f_1 p_3 dual_5 sum_10 ok_11 i_12 best_13 k_14 x_16=>z1t_k6d f_1 p_3 dual_5 sum_10 ok_11 i_12 best_13 k_14 x_16 N2 N1 (kk [.u 2, tI, tB] Kv))) <| hStep (hCut0 (F := z1t_L7 Kv) (G := fun f_1 p_3 dual_5 sum_10 ok_11=>z1t_k7d f_1 p_3 dual_5 sum_10 ok_11 (kk [.u 2, tI, tB] Kv))) <| hStep (hCut0 (F := z1t_L8 Kv) (G := fun f_1 p_3 sum_10 ok_11 more_20 one_21=>z1t_k8d f_1 p_3 sum_10 ok_11 more_20 one_21 (kk [.u 2, tI, tB] Kv))) <| hEnd)
def z27_sd (p_0_0 p_0_1 p_0_2:Sl) (p_0_3 p_0_4:Int) (f_1:Sl) (K:Pw.T0) (w:World):Prop :=
 let w1 := w.alloc (Obj.cells #[(Value.slice p_0_0.p p_0_0.l p_0_0.c), (Value.slice p_0_1.p p_0_1.l p_0_1.c), (Value.slice p_0_2.p p_0_2.l p_0_2.c), (Value.int .i64 p_0_3), (Value.int .i64 p_0_4)] 28)
 ∃ x2:Sl, w1.cell? (Addr.mk w.heap.size 0 none)=some (Value.slice x2.p x2.l x2.c)/\∃ x3:Sl, w1.cell? (Addr.mk w.heap.size 1 none)=some (Value.slice x3.p x3.l x3.c)/\∃ x4:Sl, w1.cell? (Addr.mk w.heap.size 2 none)=some (Value.slice x4.p x4.l x4.c)/\∃ x5:Int, w1.cell? (Addr.mk w.heap.size 3 none)=some (Value.int .i64 x5)/\∃ x6:Int, w1.cell? (Addr.mk w.heap.size 4 none)=some (Value.int .i64 x6)/\z1s_sh x2 x3 x4 x5 x6 (fun r8 w7=>cnd r8
 (∃ x9:Sl, w7.cell? (Addr.mk w.heap.size 0 none)=some (Value.slice x9.p x9.l x9.c)/\∃ x10:Sl, w7.cell? (Addr.mk w.heap.size 1 none)=some (Value.slice x10.p x10.l x10.c)/\∃ x11:Sl, w7.cell? (Addr.mk w.heap.size 2 none)=some (Value.slice x11.p x11.l x11.c)/\∃ x12:Int, w7.cell? (Addr.mk w.heap.size 3 none)=some (Value.int .i64 x12)/\∃ x13:Int, w7.cell? (Addr.mk w.heap.size 4 none)=some (Value.int .i64 x13)/\z1c_sh x9 x10 x11 x12 x13 f_1 (fun r15 w14=>cnd r15
 (∃ x16:Sl, w14.cell? (Addr.mk w.heap.size 0 none)=some (Value.slice x16.p x16.l x16.c)/\K ((f_1.l:Int) == (x16.l:Int)) w14)
 (K false w14)) w7)
 (K false w7)) w1
structure z27_sh (p_0_0 p_0_1 p_0_2:Sl) (p_0_3 p_0_4:Int) (f_1:Sl) (K:Pw.T0) (w:World):Prop where
 out:z27_sd p_0_0 p_0_1 p_0_2 p_0_3 p_0_4 f_1 K w
noncomputable def z27_S:Pw.Spec := fun vs w Kv=>un [.g 5, tL, tL, tL, tI, tI, tL] (fun p_0_0 p_0_1 p_0_2 p_0_3 p_0_4 f_1=>z27_sh p_0_0 p_0_1 p_0_2 p_0_3 p_0_4 f_1 (kk [tB] Kv)) nF vs w
def z27_A (_:VW):A := (qr 2 (qr 3 (qs (A.reg (qn 2 (RA.spl 9 (qn 5 (RA.spl 14 (qn 8 RA.done) (qk 6 (qn 2 RA.done)))) (qk 3 (qn 2 (qk 6 (qn 2 RA.done))))))) ql)))
theorem z27_ok:Sound Tryz.prog 41 z27_S := okS (x := z27_A) (fun Kv p_0_0 p_0_1 p_0_2 p_0_3 p_0_4 f_1=>z27_sd p_0_0 p_0_1 p_0_2 p_0_3 p_0_4 f_1 (kk [tB] Kv)) progMixed (Γ := [(46, z1s_S), (82, z1c_S)]) ⟨.inl z1s_ok, .inl z1c_ok, trivial⟩ Tryz.call41 Tryz.func41 (fun _=>hEnd)
def z1b_b0 (f_1:Sl) (p_2:Addr) (out_6 i_7:Int) (N0:Sl->Addr->Int->Int->World->Prop) (K:Pw.T1) (w:World):Prop :=
 cnd (decide (i_7 < (f_1.l:Int)))
 (nz f_1.p fun a9=>(0 <= i_7/\i_7 < (f_1.l:Nat))/\∃ x10:Int, w.cell? (a9.add (i_7.toNat * 1))=some (Value.int .i64 x10)/\cnd (decide (x10 >= (0:Int)))
 (let w11 := w.drew
 ∃ x12:Sl, w11.cell? (p_2.add 1)=some (Value.slice x12.p x12.l x12.c)/\nz f_1.p fun a13=>(0 <= i_7/\i_7 < (f_1.l:Nat))/\∃ x14:Int, w11.cell? (a13.add (i_7.toNat * 1))=some (Value.int .i64 x14)/\nz x12.p fun a15=>(0 <= x14/\x14 < (x12.l:Nat))/\∃ x16:Int, w11.cell? ((a15.add (x14.toNat * 4)).add 3)=some (Value.int .i64 x16)/\inR .i64 (out_6 + x16)/\inR .i64 (i_7 + (1:Int))/\N0 f_1 p_2 (out_6 + x16) (i_7 + (1:Int)) w11)
 (inR .i64 (i_7 + (1:Int))/\N0 f_1 p_2 out_6 (i_7 + (1:Int)) w))
 (K out_6 w)
def z1b_l0d (f_1:Sl) (p_2:Addr) (out_6 i_7:Int) (K:Pw.T1) (w:World):Prop :=
 ∃ (I:Int->Int->World->Prop) (μ:Int->Int->World->Nat), I out_6 i_7 w/\∀ (out_61 i_71:Int) (w1:World), I out_61 i_71 w1 ->
 z1b_b0 f_1 p_2 out_61 i_71 (fun f_1' p_2' out_6' i_7' w'=>((f_1'=f_1/\p_2'=p_2/\True)/\I out_6' i_7' w')/\μ out_6' i_7' w' < μ out_61 i_71 w1) K w1
structure z1b_l0 (f_1:Sl) (p_2:Addr) (out_6 i_7:Int) (K:Pw.T1) (w:World):Prop where
 out:z1b_l0d f_1 p_2 out_6 i_7 K w
def z1b_sd (p_0_0 p_0_1 p_0_2:Sl) (p_0_3 p_0_4:Int) (f_1:Sl) (K:Pw.T1) (w:World):Prop :=
 let w1 := w.alloc (Obj.cells #[(Value.slice p_0_0.p p_0_0.l p_0_0.c), (Value.slice p_0_1.p p_0_1.l p_0_1.c), (Value.slice p_0_2.p p_0_2.l p_0_2.c), (Value.int .i64 p_0_3), (Value.int .i64 p_0_4)] 28)
 ∃ x2:Sl, w1.cell? (Addr.mk w.heap.size 0 none)=some (Value.slice x2.p x2.l x2.c)/\∃ x3:Sl, w1.cell? (Addr.mk w.heap.size 1 none)=some (Value.slice x3.p x3.l x3.c)/\∃ x4:Sl, w1.cell? (Addr.mk w.heap.size 2 none)=some (Value.slice x4.p x4.l x4.c)/\∃ x5:Int, w1.cell? (Addr.mk w.heap.size 3 none)=some (Value.int .i64 x5)/\∃ x6:Int, w1.cell? (Addr.mk w.heap.size 4 none)=some (Value.int .i64 x6)/\z27_sh x2 x3 x4 x5 x6 f_1 (fun r8 w7=>cnd (!r8)
 (K (0:Int) w7)
 (z1b_l0 f_1 (Addr.mk w.heap.size 0 none) (0:Int) (0:Int) K w7)) w1
structure z1b_sh (p_0_0 p_0_1 p_0_2:Sl) (p_0_3 p_0_4:Int) (f_1:Sl) (K:Pw.T1) (w:World):Prop where
 out:z1b_sd p_0_0 p_0_1 p_0_2 p_0_3 p_0_4 f_1 K w
def z1b_L0 (Kv:VW):Cur [tL, tQ, tI, tI] WP := fun f_1 p_2 out_6 i_7=>z1b_l0 f_1 p_2 out_6 i_7 (kk [tI] Kv)
noncomputable def z1b_S:Pw.Spec := fun vs w Kv=>un [.g 5, tL, tL, tL, tI, tI, tL] (fun p_0_0 p_0_1 p_0_2 p_0_3 p_0_4 f_1=>z1b_sh p_0_0 p_0_1 p_0_2 p_0_3 p_0_4 f_1 (kk [tI] Kv)) nF vs w
def z1b_A (Kv:VW):A := (qr 2 (qr 4 (qs (qr 2 (qc (qr 1 ql) ql)) (qr 1 (qs (qr 1 (qb (A.loop [1, 2, 6, 7] (uR0 [tL, tQ, tI, tI] (z1b_L0 Kv)) (qs (qr 4 (qc ql ql)) (qs (qb (qr 5 (qc (A.drp (dp [0, 1, 2, 3, 4, 5, 6, 7, 8, 9, 10, 11] DA.done)) ql))) (qe 3)))))) (qr 2 ql))))))
theorem z1b_ok:Sound Tryz.prog 17 z1b_S := okS (x := z1b_A) (fun Kv p_0_0 p_0_1 p_0_2 p_0_3 p_0_4 f_1=>z1b_sd p_0_0 p_0_1 p_0_2 p_0_3 p_0_4 f_1 (kk [tI] Kv)) progMixed (Γ := [(41, z27_S)]) ⟨.inl z27_ok, trivial⟩ Tryz.call17 Tryz.func17 (fun Kv=>hStep (hLoop0 (L := z1b_L0 Kv) (fun N0 f_1 p_2 out_6 i_7=>z1b_b0 f_1 p_2 out_6 i_7 N0 (kk [tI] Kv)) (fun ⟨a0, a1, _, _, _⟩ _ h=>let ⟨I, μ, h0, hr⟩ := h.out; ⟨fun b0 b1 b2 b3 w=>(b0=a0/\b1=a1/\True)/\I b2 b3 w, fun _ _ b2 b3 w=>μ b2 b3 w, ⟨⟨rfl, rfl, trivial⟩, h0⟩, fun ⟨_, _, _, _, _⟩ _ ⟨⟨e0, e1, _⟩, hI⟩=>by cases e0; cases e1; exact hr _ _ _ hI⟩)) <| hEnd)
def z1q_b0 (f_1:Sl) (p_2:Addr) (out_5 i_6:Int) (N0:Sl->Addr->Int->Int->World->Prop) (K:Pw.T1) (w:World):Prop :=
 cnd (decide (i_6 < (f_1.l:Int)))
 (nz f_1.p fun a2=>(0 <= i_6/\i_6 < (f_1.l:Nat))/\∃ x3:Int, w.cell? (a2.add (i_6.toNat * 1))=some (Value.int .i64 x3)/\cnd (decide (x3 >= (0:Int)))
 (let w4 := w.drew
 ∃ x5:Sl, w4.cell? (p_2.add 1)=some (Value.slice x5.p x5.l x5.c)/\nz f_1.p fun a6=>(0 <= i_6/\i_6 < (f_1.l:Nat))/\∃ x7:Int, w4.cell? (a6.add (i_6.toNat * 1))=some (Value.int .i64 x7)/\nz x5.p fun a8=>(0 <= x7/\x7 < (x5.l:Nat))/\∃ x9:Int, w4.cell? ((a8.add (x7.toNat * 4)).add 2)=some (Value.int .i64 x9)/\inR .i64 (out_5 + x9)/\inR .i64 (i_6 + (1:Int))/\N0 f_1 p_2 (out_5 + x9) (i_6 + (1:Int)) w4)
 (inR .i64 (i_6 + (1:Int))/\N0 f_1 p_2 out_5 (i_6 + (1:Int)) w))
 (∃ x10:Sl, w.cell? p_2=some (Value.slice x10.p x10.l x10.c)/\∃ x11:Sl, w.cell? (p_2.add 1)=some (Value.slice x11.p x11.l x11.c)/\∃ x12:Sl, w.cell? (p_2.add 2)=some (Value.slice x12.p x12.l x12.c)/\∃ x13:Int, w.cell? (p_2.add 3)=some (Value.int .i64 x13)/\∃ x14:Int, w.cell? (p_2.add 4)=some (Value.int .i64 x14)/\z26_sh x10 x11 x12 x13 x14 f_1 (fun r16 w15=>inR .i64 (out_5 - r16)/\K (max (0:Int) (out_5 - r16)) w15) w)
def z1q_l0d (f_1:Sl) (p_2:Addr) (out_5 i_6:Int) (K:Pw.T1) (w:World):Prop :=
 ∃ (I:Int->Int->World->Prop) (μ:Int->Int->World->Nat), I out_5 i_6 w/\∀ (out_51 i_61:Int) (w1:World), I out_51 i_61 w1 ->
 z1q_b0 f_1 p_2 out_51 i_61 (fun f_1' p_2' out_5' i_6' w'=>((f_1'=f_1/\p_2'=p_2/\True)/\I out_5' i_6' w')/\μ out_5' i_6' w' < μ out_51 i_61 w1) K w1
structure z1q_l0 (f_1:Sl) (p_2:Addr) (out_5 i_6:Int) (K:Pw.T1) (w:World):Prop where
 out:z1q_l0d f_1 p_2 out_5 i_6 K w
def z1q_sd (p_0_0 p_0_1 p_0_2:Sl) (p_0_3 p_0_4:Int) (f_1:Sl) (K:Pw.T1) (w:World):Prop :=
 let w1 := w.alloc (Obj.cells #[(Value.slice p_0_0.p p_0_0.l p_0_0.c), (Value.slice p_0_1.p p_0_1.l p_0_1.c), (Value.slice p_0_2.p p_0_2.l p_0_2.c), (Value.int .i64 p_0_3), (Value.int .i64 p_0_4)] 28)
 z1q_l0 f_1 (Addr.mk w.heap.size 0 none) (0:Int) (0:Int) K w1
structure z1q_sh (p_0_0 p_0_1 p_0_2:Sl) (p_0_3 p_0_4:Int) (f_1:Sl) (K:Pw.T1) (w:World):Prop where
 out:z1q_sd p_0_0 p_0_1 p_0_2 p_0_3 p_0_4 f_1 K w
def z1q_L0 (Kv:VW):Cur [tL, tQ, tI, tI] WP := fun f_1 p_2 out_5 i_6=>z1q_l0 f_1 p_2 out_5 i_6 (kk [tI] Kv)
noncomputable def z1q_S:Pw.Spec := fun vs w Kv=>un [.g 5, tL, tL, tL, tI, tI, tL] (fun p_0_0 p_0_1 p_0_2 p_0_3 p_0_4 f_1=>z1q_sh p_0_0 p_0_1 p_0_2 p_0_3 p_0_4 f_1 (kk [tI] Kv)) nF vs w
def z1q_A (Kv:VW):A := (qr 2 (qr 1 (qs (qr 1 (qb (A.loop [1, 2, 5, 6] (uR0 [tL, tQ, tI, tI] (z1q_L0 Kv)) (qs (qr 4 (qc ql ql)) (qs (qb (qr 5 (qc (A.drp (dp [0, 1, 2, 3, 4, 5, 6, 7, 8, 9, 10, 11] DA.done)) ql))) (qe 3)))))) (qr 7 ql))))
theorem z1q_ok:Sound Tryz.prog 96 z1q_S := okS (x := z1q_A) (fun Kv p_0_0 p_0_1 p_0_2 p_0_3 p_0_4 f_1=>z1q_sd p_0_0 p_0_1 p_0_2 p_0_3 p_0_4 f_1 (kk [tI] Kv)) progMixed (Γ := [(87, z26_S)]) ⟨.inl z26_ok, trivial⟩ Tryz.call96 Tryz.func96 (fun Kv=>hStep (hLoop0 (L := z1q_L0 Kv) (fun N0 f_1 p_2 out_5 i_6=>z1q_b0 f_1 p_2 out_5 i_6 N0 (kk [tI] Kv)) (fun ⟨a0, a1, _, _, _⟩ _ h=>let ⟨I, μ, h0, hr⟩ := h.out; ⟨fun b0 b1 b2 b3 w=>(b0=a0/\b1=a1/\True)/\I b2 b3 w, fun _ _ b2 b3 w=>μ b2 b3 w, ⟨⟨rfl, rfl, trivial⟩, h0⟩, fun ⟨_, _, _, _, _⟩ _ ⟨⟨e0, e1, _⟩, hI⟩=>by cases e0; cases e1; exact hr _ _ _ hI⟩)) <| hEnd)
def z0z_b1 (f_1:Sl) (p_2:Addr) (i_5 n_6 k_7:Int) (N1:Sl->Addr->Int->Int->Int->World->Prop) (N0:Sl->Addr->Int->World->Prop) (K:Pw.T0) (w:World):Prop :=
 cnd (decide (k_7 < (f_1.l:Int)))
 (let w2 := w.drew
 nz f_1.p fun a3=>(0 <= i_5/\i_5 < (f_1.l:Nat))/\∃ x4:Int, w2.cell? (a3.add (i_5.toNat * 1))=some (Value.int .i64 x4)/\cnd (decide (x4 >= (0:Int)))
 (nz f_1.p fun a5=>(0 <= k_7/\k_7 < (f_1.l:Nat))/\∃ x6:Int, w2.cell? (a5.add (k_7.toNat * 1))=some (Value.int .i64 x6)/\cnd (decide (x6 >= (0:Int)))
 (∃ x7:Sl, w2.cell? (p_2.add 1)=some (Value.slice x7.p x7.l x7.c)/\nz f_1.p fun a8=>(0 <= i_5/\i_5 < (f_1.l:Nat))/\∃ x9:Int, w2.cell? (a8.add (i_5.toNat * 1))=some (Value.int .i64 x9)/\nz x7.p fun a10=>(0 <= x9/\x9 < (x7.l:Nat))/\∃ x11:Int, w2.cell? ((a10.add (x9.toNat * 4)).add 1)=some (Value.int .i64 x11)/\∃ x12:Sl, w2.cell? (p_2.add 1)=some (Value.slice x12.p x12.l x12.c)/\nz f_1.p fun a13=>(0 <= k_7/\k_7 < (f_1.l:Nat))/\∃ x14:Int, w2.cell? (a13.add (k_7.toNat * 1))=some (Value.int .i64 x14)/\nz x12.p fun a15=>(0 <= x14/\x14 < (x12.l:Nat))/\∃ x16:Int, w2.cell? ((a15.add (x14.toNat * 4)).add 1)=some (Value.int .i64 x16)/\cnd (x11 == x16)
 (inR .i64 (n_6 + (1:Int))/\inR .i64 (k_7 + (1:Int))/\N1 f_1 p_2 i_5 (n_6 + (1:Int)) (k_7 + (1:Int)) w2)
 (inR .i64 (k_7 + (1:Int))/\N1 f_1 p_2 i_5 n_6 (k_7 + (1:Int)) w2))
 (inR .i64 (k_7 + (1:Int))/\N1 f_1 p_2 i_5 n_6 (k_7 + (1:Int)) w2))
 (inR .i64 (k_7 + (1:Int))/\N1 f_1 p_2 i_5 n_6 (k_7 + (1:Int)) w2))
 (∃ x17:Int, w.cell? (p_2.add 3)=some (Value.int .i64 x17)/\cnd (decide (x17 > (0:Int)))
 (∃ x18:Int, w.cell? (p_2.add 3)=some (Value.int .i64 x18)/\cnd (decide (n_6 > x18))
 (K true w)
 (inR .i64 (i_5 + (1:Int))/\N0 f_1 p_2 (i_5 + (1:Int)) w))
 (inR .i64 (i_5 + (1:Int))/\N0 f_1 p_2 (i_5 + (1:Int)) w))
def z0z_l1d (f_1:Sl) (p_2:Addr) (i_5 n_6 k_7:Int) (N0:Sl->Addr->Int->World->Prop) (K:Pw.T0) (w:World):Prop :=
 ∃ (I:Int->Int->World->Prop) (μ:Int->Int->World->Nat), I n_6 k_7 w/\∀ (n_61 k_71:Int) (w1:World), I n_61 k_71 w1 ->
 z0z_b1 f_1 p_2 i_5 n_61 k_71 (fun f_1' p_2' i_5' n_6' k_7' w'=>((f_1'=f_1/\p_2'=p_2/\i_5'=i_5/\True)/\I n_6' k_7' w')/\μ n_6' k_7' w' < μ n_61 k_71 w1) N0 K w1
structure z0z_l1 (f_1:Sl) (p_2:Addr) (i_5 n_6 k_7:Int) (N0:Sl->Addr->Int->World->Prop) (K:Pw.T0) (w:World):Prop where
 out:z0z_l1d f_1 p_2 i_5 n_6 k_7 N0 K w
def z0z_b0 (f_1:Sl) (p_2:Addr) (i_5:Int) (N0:Sl->Addr->Int->World->Prop) (K:Pw.T0) (w:World):Prop :=
 cnd (decide (i_5 < (f_1.l:Int)))
 (z0z_l1 f_1 p_2 i_5 (0:Int) (0:Int) N0 K w)
 (K false w)
def z0z_l0d (f_1:Sl) (p_2:Addr) (i_5:Int) (K:Pw.T0) (w:World):Prop :=
 ∃ (I:Int->World->Prop) (μ:Int->World->Nat), I i_5 w/\∀ (i_51:Int) (w1:World), I i_51 w1 ->
 z0z_b0 f_1 p_2 i_51 (fun f_1' p_2' i_5' w'=>((f_1'=f_1/\p_2'=p_2/\True)/\I i_5' w')/\μ i_5' w' < μ i_51 w1) K w1
structure z0z_l0 (f_1:Sl) (p_2:Addr) (i_5:Int) (K:Pw.T0) (w:World):Prop where
 out:z0z_l0d f_1 p_2 i_5 K w
def z0z_sd (p_0_0 p_0_1 p_0_2:Sl) (p_0_3 p_0_4:Int) (f_1:Sl) (K:Pw.T0) (w:World):Prop :=
 let w1 := w.alloc (Obj.cells #[(Value.slice p_0_0.p p_0_0.l p_0_0.c), (Value.slice p_0_1.p p_0_1.l p_0_1.c), (Value.slice p_0_2.p p_0_2.l p_0_2.c), (Value.int .i64 p_0_3), (Value.int .i64 p_0_4)] 28)
 z0z_l0 f_1 (Addr.mk w.heap.size 0 none) (0:Int) K w1
structure z0z_sh (p_0_0 p_0_1 p_0_2:Sl) (p_0_3 p_0_4:Int) (f_1:Sl) (K:Pw.T0) (w:World):Prop where
 out:z0z_sd p_0_0 p_0_1 p_0_2 p_0_3 p_0_4 f_1 K w
def z0z_L0 (Kv:VW):Cur [tL, tQ, tI] WP := fun f_1 p_2 i_5=>z0z_l0 f_1 p_2 i_5 (kk [tB] Kv)
def z0z_L1 (Kv:VW):Cur [tL, tQ, tI] WP->Cur [tL, tQ, tI, tI, tI] WP := fun N0 f_1 p_2 i_5 n_6 k_7=>z0z_l1 f_1 p_2 i_5 n_6 k_7 N0 (kk [tB] Kv)
noncomputable def z0z_S:Pw.Spec := fun vs w Kv=>un [.g 5, tL, tL, tL, tI, tI, tL] (fun p_0_0 p_0_1 p_0_2 p_0_3 p_0_4 f_1=>z0z_sh p_0_0 p_0_1 p_0_2 p_0_3 p_0_4 f_1 (kk [tB] Kv)) nF vs w
def z0z_A (Kv:VW):A := (qr 2 (qs (qr 1 (qb (A.loop [1, 2, 5] (uR0 [tL, tQ, tI] (z0z_L0 Kv)) (qs (qr 4 (qc ql ql)) (qs (qb (qr 1 (qs (qr 1 (qb (A.loop [1, 2, 5, 6, 7] (uR1 [tL, tQ, tI] [tL, tQ, tI, tI, tI] (z0z_L1 Kv)) (qs (qr 4 (qc ql ql)) (qs (qb (qs (A.drp (dp [0, 1, 2, 3, 4, 5] (DA.spl 25 (dp [6, 7, 8, 9, 10, 11, 12] (DA.spl 32 (dp [13, 14, 15, 16, 17, 18, 19, 20, 21, 22, 23, 24, 25, 26, 27, 28, 29, 30, 31, 32] DA.done) (DA.skp 13 (DA.skp 14 (DA.skp 15 (DA.skp 16 (DA.skp 17 (DA.skp 18 (DA.skp 19 (DA.skp 20 (DA.skp 21 (DA.skp 22 (DA.skp 23 (DA.skp 24 (DA.skp 25 (DA.skp 26 (DA.skp 27 (DA.skp 28 (DA.skp 29 (DA.skp 30 (DA.skp 31 (DA.pur 32 DA.done)))))))))))))))))))))) (DA.skp 6 (DA.skp 7 (DA.skp 8 (DA.skp 9 (DA.skp 10 (dp [11, 12] (DA.skp 13 (DA.skp 14 (DA.skp 15 (DA.skp 16 (DA.skp 17 (DA.skp 18 (DA.skp 19 (DA.skp 20 (DA.skp 21 (DA.skp 22 (DA.skp 23 (DA.skp 24 (DA.skp 25 (DA.skp 26 (DA.skp 27 (DA.skp 28 (DA.skp 29 (DA.skp 30 (DA.skp 31 (DA.pur 32 DA.done))))))))))))))))))))))))))))) (qc (qe 3) ql))) (qe 3)))))) (qs (A.reg (qn 4 (RA.spl 58 (qn 5 RA.done) (qk 4 (qn 1 RA.done))))) (qc (qr 1 ql) ql))))) (qe 3)))))) (qr 1 ql)))
theorem z0z_ok:Sound Tryz.prog 97 z0z_S := okS (x := z0z_A) (fun Kv p_0_0 p_0_1 p_0_2 p_0_3 p_0_4 f_1=>z0z_sd p_0_0 p_0_1 p_0_2 p_0_3 p_0_4 f_1 (kk [tB] Kv)) progMixed (Γ := []) trivial Tryz.call97 Tryz.func97 (fun Kv=>hStep (hLoop0 (L := z0z_L0 Kv) (fun N0 f_1 p_2 i_5=>z0z_b0 f_1 p_2 i_5 N0 (kk [tB] Kv)) (fun ⟨a0, a1, _, _⟩ _ h=>let ⟨I, μ, h0, hr⟩ := h.out; ⟨fun b0 b1 b2 w=>(b0=a0/\b1=a1/\True)/\I b2 w, fun _ _ b2 w=>μ b2 w, ⟨⟨rfl, rfl, trivial⟩, h0⟩, fun ⟨_, _, _, _⟩ _ ⟨⟨e0, e1, _⟩, hI⟩=>by cases e0; cases e1; exact hr _ _ hI⟩)) <| hStep (hLoop1 (L := z0z_L1 Kv) (fun N0 N1 f_1 p_2 i_5 n_6 k_7=>z0z_b1 f_1 p_2 i_5 n_6 k_7 N1 N0 (kk [tB] Kv)) (fun _ ⟨a0, a1, a2, _, _, _⟩ _ h=>let ⟨I, μ, h0, hr⟩ := h.out; ⟨fun b0 b1 b2 b3 b4 w=>(b0=a0/\b1=a1/\b2=a2/\True)/\I b3 b4 w, fun _ _ _ b3 b4 w=>μ b3 b4 w, ⟨⟨rfl, rfl, rfl, trivial⟩, h0⟩, fun ⟨_, _, _, _, _, _⟩ _ ⟨⟨e0, e1, e2, _⟩, hI⟩=>by cases e0; cases e1; cases e2; exact hr _ _ _ hI⟩)) <| hEnd)
def z0g_sd (p_0_0 p_0_1 p_0_2:Sl) (p_0_3 p_0_4:Int) (f_1:Sl) (K:Pw.T0) (w:World):Prop :=
 let w1 := w.alloc (Obj.cells #[(Value.slice p_0_0.p p_0_0.l p_0_0.c), (Value.slice p_0_1.p p_0_1.l p_0_1.c), (Value.slice p_0_2.p p_0_2.l p_0_2.c), (Value.int .i64 p_0_3), (Value.int .i64 p_0_4)] 28)
 ∃ x2:Sl, w1.cell? (Addr.mk w.heap.size 0 none)=some (Value.slice x2.p x2.l x2.c)/\∃ x3:Sl, w1.cell? (Addr.mk w.heap.size 1 none)=some (Value.slice x3.p x3.l x3.c)/\∃ x4:Sl, w1.cell? (Addr.mk w.heap.size 2 none)=some (Value.slice x4.p x4.l x4.c)/\∃ x5:Int, w1.cell? (Addr.mk w.heap.size 3 none)=some (Value.int .i64 x5)/\∃ x6:Int, w1.cell? (Addr.mk w.heap.size 4 none)=some (Value.int .i64 x6)/\z27_sh x2 x3 x4 x5 x6 f_1 (fun r8 w7=>let w9 := w7.drew
 ∃ S10:World->Prop, S10 w9/\cnd r8
 (∃ x11:Sl, (∀ w':World, S10 w'->w'.cell? (Addr.mk w.heap.size 0 none)=some (Value.slice x11.p x11.l x11.c))/\∃ x12:Sl, (∀ w':World, S10 w'->w'.cell? (Addr.mk w.heap.size 1 none)=some (Value.slice x12.p x12.l x12.c))/\∃ x13:Sl, (∀ w':World, S10 w'->w'.cell? (Addr.mk w.heap.size 2 none)=some (Value.slice x13.p x13.l x13.c))/\∃ x14:Int, (∀ w':World, S10 w'->w'.cell? (Addr.mk w.heap.size 3 none)=some (Value.int .i64 x14))/\∃ x15:Int, (∀ w':World, S10 w'->w'.cell? (Addr.mk w.heap.size 4 none)=some (Value.int .i64 x15))/\∃ x16:Int, (∀ w':World, S10 w'->w'.cell? (Addr.mk w.heap.size 4 none)=some (Value.int .i64 x16))/\z1q_sh x11 x12 x13 x14 x15 f_1 (fun r18 w17=>S10 w17/\cnd (decide (r18 <= x16))
 (∃ x19:Sl, (∀ w':World, S10 w'->w'.cell? (Addr.mk w.heap.size 0 none)=some (Value.slice x19.p x19.l x19.c))/\∃ x20:Sl, (∀ w':World, S10 w'->w'.cell? (Addr.mk w.heap.size 1 none)=some (Value.slice x20.p x20.l x20.c))/\∃ x21:Sl, (∀ w':World, S10 w'->w'.cell? (Addr.mk w.heap.size 2 none)=some (Value.slice x21.p x21.l x21.c))/\∃ x22:Int, (∀ w':World, S10 w'->w'.cell? (Addr.mk w.heap.size 3 none)=some (Value.int .i64 x22))/\∃ x23:Int, (∀ w':World, S10 w'->w'.cell? (Addr.mk w.heap.size 4 none)=some (Value.int .i64 x23))/\z0z_sh x19 x20 x21 x22 x23 f_1 (fun r25 w24=>S10 w24/\K (!r25) w24) w17)
 (K false w17)) w9)
 (K false w9)) w1
structure z0g_sh (p_0_0 p_0_1 p_0_2:Sl) (p_0_3 p_0_4:Int) (f_1:Sl) (K:Pw.T0) (w:World):Prop where
 out:z0g_sd p_0_0 p_0_1 p_0_2 p_0_3 p_0_4 f_1 K w
noncomputable def z0g_S:Pw.Spec := fun vs w Kv=>un [.g 5, tL, tL, tL, tI, tI, tL] (fun p_0_0 p_0_1 p_0_2 p_0_3 p_0_4 f_1=>z0g_sh p_0_0 p_0_1 p_0_2 p_0_3 p_0_4 f_1 (kk [tB] Kv)) nF vs w
def z0g_A (_:VW):A := (qr 2 (qr 4 (qs (A.drw (dp [0, 1] (DA.spl 10 (dp [2, 3, 5, 6] (DA.eff 4 (dp [7, 8, 9] (DA.spl 18 (dp [10, 11] (DA.eff 12 (dp [13, 14, 15] DA.done))) (DA.skp 10 (DA.skp 11 (DA.skp 12 (DA.skp 13 (dp [14, 15] DA.done))))))))) (DA.skp 2 (DA.skp 3 (DA.skp 5 (DA.skp 6 (DA.skp 4 (DA.skp 7 (dp [8, 9] (DA.skp 10 (DA.skp 11 (DA.skp 12 (DA.skp 13 (dp [14, 15] DA.done))))))))))))))) ql)))
theorem z0g_ok:Sound Tryz.prog 47 z0g_S := okS (x := z0g_A) (fun Kv p_0_0 p_0_1 p_0_2 p_0_3 p_0_4 f_1=>z0g_sd p_0_0 p_0_1 p_0_2 p_0_3 p_0_4 f_1 (kk [tB] Kv)) progMixed (Γ := [(41, z27_S), (96, z1q_S), (97, z0z_S)]) ⟨.inl z27_ok, .inl z1q_ok, .inl z0z_ok, trivial⟩ Tryz.call47 Tryz.func47 (fun _=>hEnd)
def z1u_sd (p_0_0 p_0_1 p_0_2:Sl) (p_0_3 p_0_4:Int) (f_1:Sl) (K:Pw.T1) (w:World):Prop :=
 let w1 := w.alloc (Obj.cells #[(Value.slice p_0_0.p p_0_0.l p_0_0.c), (Value.slice p_0_1.p p_0_1.l p_0_1.c), (Value.slice p_0_2.p p_0_2.l p_0_2.c), (Value.int .i64 p_0_3), (Value.int .i64 p_0_4)] 28)
 let w2 := w1.drew
 ∃ S3:World->Prop, S3 w2/\∃ x4:Sl, (∀ w':World, S3 w'->w'.cell? (Addr.mk w.heap.size 0 none)=some (Value.slice x4.p x4.l x4.c))/\∃ x5:Sl, (∀ w':World, S3 w'->w'.cell? (Addr.mk w.heap.size 1 none)=some (Value.slice x5.p x5.l x5.c))/\∃ x6:Sl, (∀ w':World, S3 w'->w'.cell? (Addr.mk w.heap.size 2 none)=some (Value.slice x6.p x6.l x6.c))/\∃ x7:Int, (∀ w':World, S3 w'->w'.cell? (Addr.mk w.heap.size 3 none)=some (Value.int .i64 x7))/\∃ x8:Int, (∀ w':World, S3 w'->w'.cell? (Addr.mk w.heap.size 4 none)=some (Value.int .i64 x8))/\∃ x9:Int, (∀ w':World, S3 w'->w'.cell? (Addr.mk w.heap.size 4 none)=some (Value.int .i64 x9))/\inR .i64 (x9 + (1:Int))/\∃ x10:Sl, (∀ w':World, S3 w'->w'.cell? (Addr.mk w.heap.size 0 none)=some (Value.slice x10.p x10.l x10.c))/\∃ x11:Sl, (∀ w':World, S3 w'->w'.cell? (Addr.mk w.heap.size 1 none)=some (Value.slice x11.p x11.l x11.c))/\∃ x12:Sl, (∀ w':World, S3 w'->w'.cell? (Addr.mk w.heap.size 2 none)=some (Value.slice x12.p x12.l x12.c))/\∃ x13:Int, (∀ w':World, S3 w'->w'.cell? (Addr.mk w.heap.size 3 none)=some (Value.int .i64 x13))/\∃ x14:Int, (∀ w':World, S3 w'->w'.cell? (Addr.mk w.heap.size 4 none)=some (Value.int .i64 x14))/\z1b_sh x4 x5 x6 x7 x8 f_1 (fun r16 w15=>S3 w15/\inR .i64 (r16 * (x9 + (1:Int)))/\z1q_sh x10 x11 x12 x13 x14 f_1 (fun r18 w17=>S3 w17/\inR .i64 ((r16 * (x9 + (1:Int))) - r18)/\K ((r16 * (x9 + (1:Int))) - r18) w17) w15) w2
structure z1u_sh (p_0_0 p_0_1 p_0_2:Sl) (p_0_3 p_0_4:Int) (f_1:Sl) (K:Pw.T1) (w:World):Prop where
 out:z1u_sd p_0_0 p_0_1 p_0_2 p_0_3 p_0_4 f_1 K w
noncomputable def z1u_S:Pw.Spec := fun vs w Kv=>un [.g 5, tL, tL, tL, tI, tI, tL] (fun p_0_0 p_0_1 p_0_2 p_0_3 p_0_4 f_1=>z1u_sh p_0_0 p_0_1 p_0_2 p_0_3 p_0_4 f_1 (kk [tI] Kv)) nF vs w
def z1u_A (_:VW):A := (qr 2 (qs (A.drw (dp [0, 1, 3, 4, 5, 7, 8] (DA.eff 2 (DA.pur 6 (DA.eff 9 (dp [10, 11] DA.done)))))) ql))
theorem z1u_ok:Sound Tryz.prog 146 z1u_S := okS (x := z1u_A) (fun Kv p_0_0 p_0_1 p_0_2 p_0_3 p_0_4 f_1=>z1u_sd p_0_0 p_0_1 p_0_2 p_0_3 p_0_4 f_1 (kk [tI] Kv)) progMixed (Γ := [(17, z1b_S), (96, z1q_S)]) ⟨.inl z1b_ok, .inl z1q_ok, trivial⟩ Tryz.call146 Tryz.func146 (fun _=>hEnd)
def z10_b0 (f_0 t_1:Sl) (i_5:Int) (N0:Sl->Sl->Int->World->Prop) (K:Pw.T0) (w:World):Prop :=
 cnd (decide (i_5 < (f_0.l:Int)))
 (cnd (decide (i_5 < (t_1.l:Int)))
 (let w1 := w.drew
 nz f_0.p fun a2=>(0 <= i_5/\i_5 < (f_0.l:Nat))/\∃ x3:Int, w1.cell? (a2.add (i_5.toNat * 1))=some (Value.int .i64 x3)/\nz t_1.p fun a4=>(0 <= i_5/\i_5 < (t_1.l:Nat))/\∃ x5:Int, w1.cell? (a4.add (i_5.toNat * 1))=some (Value.int .i64 x5)/\cnd (x3 != x5)
 (let w6 := w1.drew
 nz f_0.p fun a7=>(0 <= i_5/\i_5 < (f_0.l:Nat))/\∃ x8:Int, w6.cell? (a7.add (i_5.toNat * 1))=some (Value.int .i64 x8)/\nz t_1.p fun a9=>(0 <= i_5/\i_5 < (t_1.l:Nat))/\∃ x10:Int, w6.cell? (a9.add (i_5.toNat * 1))=some (Value.int .i64 x10)/\K (decide (x8 > x10)) w6)
 (inR .i64 (i_5 + (1:Int))/\N0 f_0 t_1 (i_5 + (1:Int)) w1))
 (K false w))
 (K false w)
def z10_l0d (f_0 t_1:Sl) (i_5:Int) (K:Pw.T0) (w:World):Prop :=
 ∃ (I:Int->World->Prop) (μ:Int->World->Nat), I i_5 w/\∀ (i_51:Int) (w1:World), I i_51 w1 ->
 z10_b0 f_0 t_1 i_51 (fun f_0' t_1' i_5' w'=>((f_0'=f_0/\t_1'=t_1/\True)/\I i_5' w')/\μ i_5' w' < μ i_51 w1) K w1
structure z10_l0 (f_0 t_1:Sl) (i_5:Int) (K:Pw.T0) (w:World):Prop where
 out:z10_l0d f_0 t_1 i_5 K w
def z10_sd (f_0 t_1:Sl) (K:Pw.T0) (w:World):Prop :=
 z10_l0 f_0 t_1 (0:Int) K w
structure z10_sh (f_0 t_1:Sl) (K:Pw.T0) (w:World):Prop where
 out:z10_sd f_0 t_1 K w
def z10_L0 (Kv:VW):Cur [tL, tL, tI] WP := fun f_0 t_1 i_5=>z10_l0 f_0 t_1 i_5 (kk [tB] Kv)
noncomputable def z10_S:Pw.Spec := fun vs w Kv=>un [tL, tL] (fun f_0 t_1=>z10_sh f_0 t_1 (kk [tB] Kv)) nF vs w
def z10_A (Kv:VW):A := (qr 1 (qs (qr 1 (qb (A.loop [0, 1, 5] (uR0 [tL, tL, tI] (z10_L0 Kv)) (qs (qs (A.reg (qn 5 (RA.spl 10 (qn 5 RA.done) (qk 4 (qn 1 RA.done))))) (qc ql ql)) (qs (qb (qs (A.drp (dp [0, 1, 2, 3, 4, 5, 6, 7, 8] DA.done)) (qc (qs (A.drp (dp [0, 1, 2, 3, 4, 5, 6, 7, 8, 9] DA.done)) ql) ql))) (qe 3)))))) (qr 1 ql)))
theorem z10_ok:Sound Tryz.prog 147 z10_S := okS (x := z10_A) (fun Kv f_0 t_1=>z10_sd f_0 t_1 (kk [tB] Kv)) progMixed (Γ := []) trivial Tryz.call147 Tryz.func147 (fun Kv=>hStep (hLoop0 (L := z10_L0 Kv) (fun N0 f_0 t_1 i_5=>z10_b0 f_0 t_1 i_5 N0 (kk [tB] Kv)) (fun ⟨a0, a1, _, _⟩ _ h=>let ⟨I, μ, h0, hr⟩ := h.out; ⟨fun b0 b1 b2 w=>(b0=a0/\b1=a1/\True)/\I b2 w, fun _ _ b2 w=>μ b2 w, ⟨⟨rfl, rfl, trivial⟩, h0⟩, fun ⟨_, _, _, _⟩ _ ⟨⟨e0, e1, _⟩, hI⟩=>by cases e0; cases e1; exact hr _ _ hI⟩)) <| hEnd)
def z1a_sd (p_0_0 p_0_1 p_0_2:Sl) (p_0_3 p_0_4:Int) (a_1 b_2:Sl) (K:Pw.T0) (w:World):Prop :=
 let w1 := w.alloc (Obj.cells #[(Value.slice p_0_0.p p_0_0.l p_0_0.c), (Value.slice p_0_1.p p_0_1.l p_0_1.c), (Value.slice p_0_2.p p_0_2.l p_0_2.c), (Value.int .i64 p_0_3), (Value.int .i64 p_0_4)] 28)
 ∃ x2:Sl, w1.cell? (Addr.mk w.heap.size 0 none)=some (Value.slice x2.p x2.l x2.c)/\∃ x3:Sl, w1.cell? (Addr.mk w.heap.size 1 none)=some (Value.slice x3.p x3.l x3.c)/\∃ x4:Sl, w1.cell? (Addr.mk w.heap.size 2 none)=some (Value.slice x4.p x4.l x4.c)/\∃ x5:Int, w1.cell? (Addr.mk w.heap.size 3 none)=some (Value.int .i64 x5)/\∃ x6:Int, w1.cell? (Addr.mk w.heap.size 4 none)=some (Value.int .i64 x6)/\z0g_sh x2 x3 x4 x5 x6 a_1 (fun r8 w7=>∃ x9:Sl, w7.cell? (Addr.mk w.heap.size 0 none)=some (Value.slice x9.p x9.l x9.c)/\∃ x10:Sl, w7.cell? (Addr.mk w.heap.size 1 none)=some (Value.slice x10.p x10.l x10.c)/\∃ x11:Sl, w7.cell? (Addr.mk w.heap.size 2 none)=some (Value.slice x11.p x11.l x11.c)/\∃ x12:Int, w7.cell? (Addr.mk w.heap.size 3 none)=some (Value.int .i64 x12)/\∃ x13:Int, w7.cell? (Addr.mk w.heap.size 4 none)=some (Value.int .i64 x13)/\z0g_sh x9 x10 x11 x12 x13 b_2 (fun r15 w14=>cnd (!r8)
 (K r8 w14)
 (cnd (!r15)
 (K r8 w14)
 (∃ x16:Sl, w14.cell? (Addr.mk w.heap.size 0 none)=some (Value.slice x16.p x16.l x16.c)/\∃ x17:Sl, w14.cell? (Addr.mk w.heap.size 1 none)=some (Value.slice x17.p x17.l x17.c)/\∃ x18:Sl, w14.cell? (Addr.mk w.heap.size 2 none)=some (Value.slice x18.p x18.l x18.c)/\∃ x19:Int, w14.cell? (Addr.mk w.heap.size 3 none)=some (Value.int .i64 x19)/\∃ x20:Int, w14.cell? (Addr.mk w.heap.size 4 none)=some (Value.int .i64 x20)/\z1u_sh x16 x17 x18 x19 x20 a_1 (fun r22 w21=>∃ x23:Sl, w21.cell? (Addr.mk w.heap.size 0 none)=some (Value.slice x23.p x23.l x23.c)/\∃ x24:Sl, w21.cell? (Addr.mk w.heap.size 1 none)=some (Value.slice x24.p x24.l x24.c)/\∃ x25:Sl, w21.cell? (Addr.mk w.heap.size 2 none)=some (Value.slice x25.p x25.l x25.c)/\∃ x26:Int, w21.cell? (Addr.mk w.heap.size 3 none)=some (Value.int .i64 x26)/\∃ x27:Int, w21.cell? (Addr.mk w.heap.size 4 none)=some (Value.int .i64 x27)/\z1u_sh x23 x24 x25 x26 x27 b_2 (fun r29 w28=>cnd (decide (r22 > r29))
 (K true w28)
 (cnd (r22 == r29)
 (z10_sh b_2 a_1 (fun r31 w30=>K r31 w30) w28)
 (K false w28))) w21) w14))) w7) w1
structure z1a_sh (p_0_0 p_0_1 p_0_2:Sl) (p_0_3 p_0_4:Int) (a_1 b_2:Sl) (K:Pw.T0) (w:World):Prop where
 out:z1a_sd p_0_0 p_0_1 p_0_2 p_0_3 p_0_4 a_1 b_2 K w
noncomputable def z1a_S:Pw.Spec := fun vs w Kv=>un [.g 5, tL, tL, tL, tI, tI, tL, tL] (fun p_0_0 p_0_1 p_0_2 p_0_3 p_0_4 a_1 b_2=>z1a_sh p_0_0 p_0_1 p_0_2 p_0_3 p_0_4 a_1 b_2 (kk [tB] Kv)) nF vs w
def z1a_A (_:VW):A := (qr 2 (qr 4 (qr 4 (qs (qs (A.reg (qn 3 (RA.spl 19 (qk 2 (qn 1 RA.done)) (qn 3 RA.done)))) (qc (qr 2 ql) ql)) (qr 4 (qr 4 (qs (A.reg (qn 4 (RA.spl 33 (qk 8 (qn 2 RA.done)) (qn 4 (RA.spl 37 (qn 6 RA.done) (qk 3 (qn 3 RA.done))))))) ql)))))))
theorem z1a_ok:Sound Tryz.prog 99 z1a_S := okS (x := z1a_A) (fun Kv p_0_0 p_0_1 p_0_2 p_0_3 p_0_4 a_1 b_2=>z1a_sd p_0_0 p_0_1 p_0_2 p_0_3 p_0_4 a_1 b_2 (kk [tB] Kv)) progMixed (Γ := [(47, z0g_S), (146, z1u_S), (147, z10_S)]) ⟨.inl z0g_ok, .inl z1u_ok, .inl z10_ok, trivial⟩ Tryz.call99 Tryz.func99 (fun _=>hEnd)
def z1d_k0d (f_1 t_3:Sl) (p_4 dual_6:Addr) (K:Pw.T0) (w:World):Prop :=
 ∃ x28:Sl, w.cell? p_4=some (Value.slice x28.p x28.l x28.c)/\∃ x29:Sl, w.cell? (p_4.add 1)=some (Value.slice x29.p x29.l x29.c)/\∃ x30:Sl, w.cell? (p_4.add 2)=some (Value.slice x30.p x30.l x30.c)/\∃ x31:Int, w.cell? (p_4.add 3)=some (Value.int .i64 x31)/\∃ x32:Int, w.cell? (p_4.add 4)=some (Value.int .i64 x32)/\∃ x33:Int, w.cell? dual_6=some (Value.int .i64 x33)/\∃ x34:Int, w.cell? (dual_6.add 1)=some (Value.int .i64 x34)/\z1t_sh x28 x29 x30 x31 x32 f_1 x33 x34 (fun r36 r37 w35=>∃ x38:Sl, w35.cell? p_4=some (Value.slice x38.p x38.l x38.c)/\∃ x39:Sl, w35.cell? (p_4.add 1)=some (Value.slice x39.p x39.l x39.c)/\∃ x40:Sl, w35.cell? (p_4.add 2)=some (Value.slice x40.p x40.l x40.c)/\∃ x41:Int, w35.cell? (p_4.add 3)=some (Value.int .i64 x41)/\∃ x42:Int, w35.cell? (p_4.add 4)=some (Value.int .i64 x42)/\z1u_sh x38 x39 x40 x41 x42 t_3 (fun r44 w43=>cnd r37
 (cnd (decide (r36 < r44))
 (K true w43)
 (cnd (r36 == r44)
 (z10_sh f_1 t_3 (fun r46 w45=>K r46 w45) w43)
 (K false w43)))
 (K false w43)) w35) w
structure z1d_k0 (f_1 t_3:Sl) (p_4 dual_6:Addr) (K:Pw.T0) (w:World):Prop where
 out:z1d_k0d f_1 t_3 p_4 dual_6 K w
def z1d_sd (p_0_0 p_0_1 p_0_2:Sl) (p_0_3 p_0_4:Int) (f_1:Sl) (dual_2_0 dual_2_1:Int) (t_3:Sl) (K:Pw.T0) (w:World):Prop :=
 let w1 := w.alloc (Obj.cells #[(Value.slice p_0_0.p p_0_0.l p_0_0.c), (Value.slice p_0_1.p p_0_1.l p_0_1.c), (Value.slice p_0_2.p p_0_2.l p_0_2.c), (Value.int .i64 p_0_3), (Value.int .i64 p_0_4)] 28)
 let w2 := w1.alloc (Obj.cells #[(Value.int .i64 dual_2_0), (Value.int .i64 dual_2_1)] 31)
 let w3 := w2.drew
 ∃ S4:World->Prop, S4 w3/\∃ x5:Sl, (∀ w':World, S4 w'->w'.cell? (Addr.mk w.heap.size 0 none)=some (Value.slice x5.p x5.l x5.c))/\∃ x6:Sl, (∀ w':World, S4 w'->w'.cell? (Addr.mk w.heap.size 1 none)=some (Value.slice x6.p x6.l x6.c))/\∃ x7:Sl, (∀ w':World, S4 w'->w'.cell? (Addr.mk w.heap.size 2 none)=some (Value.slice x7.p x7.l x7.c))/\∃ x8:Int, (∀ w':World, S4 w'->w'.cell? (Addr.mk w.heap.size 3 none)=some (Value.int .i64 x8))/\∃ x9:Int, (∀ w':World, S4 w'->w'.cell? (Addr.mk w.heap.size 4 none)=some (Value.int .i64 x9))/\z0z_sh x5 x6 x7 x8 x9 f_1 (fun r11 w10=>S4 w10/\cnd r11
 (K true w10)
 (∃ x12:Sl, (∀ w':World, S4 w'->w'.cell? (Addr.mk w.heap.size 0 none)=some (Value.slice x12.p x12.l x12.c))/\∃ x13:Sl, (∀ w':World, S4 w'->w'.cell? (Addr.mk w.heap.size 1 none)=some (Value.slice x13.p x13.l x13.c))/\∃ x14:Sl, (∀ w':World, S4 w'->w'.cell? (Addr.mk w.heap.size 2 none)=some (Value.slice x14.p x14.l x14.c))/\∃ x15:Int, (∀ w':World, S4 w'->w'.cell? (Addr.mk w.heap.size 3 none)=some (Value.int .i64 x15))/\∃ x16:Int, (∀ w':World, S4 w'->w'.cell? (Addr.mk w.heap.size 4 none)=some (Value.int .i64 x16))/\∃ x17:Int, (∀ w':World, S4 w'->w'.cell? (Addr.mk w.heap.size 4 none)=some (Value.int .i64 x17))/\z1q_sh x12 x13 x14 x15 x16 f_1 (fun r19 w18=>S4 w18/\cnd (decide (r19 > x17))
 (K true w18)
 (∃ x20:Sl, w18.cell? (Addr.mk w.heap.size 0 none)=some (Value.slice x20.p x20.l x20.c)/\cnd ((f_1.l:Int) == (x20.l:Int))
 (∃ x21:Sl, w18.cell? (Addr.mk w.heap.size 0 none)=some (Value.slice x21.p x21.l x21.c)/\∃ x22:Sl, w18.cell? (Addr.mk w.heap.size 1 none)=some (Value.slice x22.p x22.l x22.c)/\∃ x23:Sl, w18.cell? (Addr.mk w.heap.size 2 none)=some (Value.slice x23.p x23.l x23.c)/\∃ x24:Int, w18.cell? (Addr.mk w.heap.size 3 none)=some (Value.int .i64 x24)/\∃ x25:Int, w18.cell? (Addr.mk w.heap.size 4 none)=some (Value.int .i64 x25)/\z1a_sh x21 x22 x23 x24 x25 f_1 t_3 (fun r27 w26=>cnd (!r27)
 (K true w26)
 (z1d_k0 f_1 t_3 (Addr.mk w.heap.size 0 none) (Addr.mk w1.heap.size 0 none) K w26)) w18)
 (z1d_k0 f_1 t_3 (Addr.mk w.heap.size 0 none) (Addr.mk w1.heap.size 0 none) K w18))) w10)) w3
structure z1d_sh (p_0_0 p_0_1 p_0_2:Sl) (p_0_3 p_0_4:Int) (f_1:Sl) (dual_2_0 dual_2_1:Int) (t_3:Sl) (K:Pw.T0) (w:World):Prop where
 out:z1d_sd p_0_0 p_0_1 p_0_2 p_0_3 p_0_4 f_1 dual_2_0 dual_2_1 t_3 K w
def z1d_L0 (Kv:VW):Cur [tL, tL, tQ, tQ] WP := fun f_1 t_3 p_4 dual_6=>z1d_k0 f_1 t_3 p_4 dual_6 (kk [tB] Kv)
noncomputable def z1d_S:Pw.Spec := fun vs w Kv=>un [.g 5, tL, tL, tL, tI, tI, tL, .g 2, tI, tI, tL] (fun p_0_0 p_0_1 p_0_2 p_0_3 p_0_4 f_1 dual_2_0 dual_2_1 t_3=>z1d_sh p_0_0 p_0_1 p_0_2 p_0_3 p_0_4 f_1 dual_2_0 dual_2_1 t_3 (kk [tB] Kv)) nF vs w
def z1d_A (Kv:VW):A := (qr 3 (qs (qs (A.drw (dp [0, 1] (DA.eff 2 (DA.pur 3 (DA.spl 15 (DA.skp 4 (DA.skp 5 (DA.skp 7 (DA.skp 8 (DA.skp 6 (DA.skp 9 (DA.pur 10 DA.done))))))) (dp [4, 5, 7, 8] (DA.eff 6 (dp [9, 10] DA.done)))))))) (qc (qr 1 ql) ql)) (qs (qs (A.reg (qn 7 (RA.spl 29 (qn 6 RA.done) (qk 5 (qn 1 RA.done))))) (qc (qr 1 ql) ql)) (A.cut [1, 3, 4, 6] (uR0 [tL, tL, tQ, tQ] (z1d_L0 Kv)) (qr 9 (qr 4 (qs (A.reg (qn 2 (RA.spl 47 (qn 4 (RA.spl 51 (qk 8 (qn 3 RA.done)) (qn 4 (RA.spl 55 (qn 7 RA.done) (qk 3 (qn 4 RA.done)))))) (qk 13 (qn 2 RA.done))))) ql)))))))
theorem z1d_ok:Sound Tryz.prog 145 z1d_S := okS (x := z1d_A) (fun Kv p_0_0 p_0_1 p_0_2 p_0_3 p_0_4 f_1 dual_2_0 dual_2_1 t_3=>z1d_sd p_0_0 p_0_1 p_0_2 p_0_3 p_0_4 f_1 dual_2_0 dual_2_1 t_3 (kk [tB] Kv)) progMixed (Γ := [(40, z1t_S), (96, z1q_S), (97, z0z_S), (99, z1a_S), (146, z1u_S), (147, z10_S)]) ⟨.inl z1t_ok, .inl z1q_ok, .inl z0z_ok, .inl z1a_ok, .inl z1u_ok, .inl z10_ok, trivial⟩ Tryz.call145 Tryz.func145 (fun Kv=>hStep (hCut0 (F := z1d_L0 Kv) (G := fun f_1 t_3 p_4 dual_6=>z1d_k0d f_1 t_3 p_4 dual_6 (kk [tB] Kv))) <| hEnd)
def z12_b0 (k_1:Int) (p_2:Addr) (out_5:Sl) (i_6:Int) (N0:Int->Addr->Sl->Int->World->Prop) (K:Pw.T2) (w:World):Prop :=
 ∃ x3:Sl, w.cell? (p_2.add 1)=some (Value.slice x3.p x3.l x3.c)/\cnd (decide (i_6 < (x3.l:Int)))
 (let w4 := w.drew
 ∃ x5:Sl, w4.cell? (p_2.add 1)=some (Value.slice x5.p x5.l x5.c)/\nz x5.p fun a6=>(0 <= i_6/\i_6 < (x5.l:Nat))/\∃ x7:Int, w4.cell? (a6.add (i_6.toNat * 4))=some (Value.int .i64 x7)/\∃ x8:Sl, w4.cell? p_2=some (Value.slice x8.p x8.l x8.c)/\nz x8.p fun a9=>(0 <= k_1/\k_1 < (x8.l:Nat))/\∃ x10:Int, w4.cell? (a9.add (k_1.toNat * 1))=some (Value.int .i64 x10)/\cnd (x7 == x10)
 (let w11 := w4.alloc (Obj.cells #[(Value.int .i64 i_6)] 3)
 apS 1 8 [(Value.int .i64 0)] 3 out_5 (Sl.mk (some (Addr.mk w4.heap.size 0 none)) 1 1) w11 fun s12 w13=>inR .i64 (i_6 + (1:Int))/\N0 k_1 p_2 s12 (i_6 + (1:Int)) w13)
 (inR .i64 (i_6 + (1:Int))/\N0 k_1 p_2 out_5 (i_6 + (1:Int)) w4))
 (K out_5 w)
def z12_l0d (k_1:Int) (p_2:Addr) (out_5:Sl) (i_6:Int) (K:Pw.T2) (w:World):Prop :=
 ∃ (I:Sl->Int->World->Prop) (μ:Sl->Int->World->Nat), I out_5 i_6 w/\∀ (out_51:Sl) (i_61:Int) (w1:World), I out_51 i_61 w1 ->
 z12_b0 k_1 p_2 out_51 i_61 (fun k_1' p_2' out_5' i_6' w'=>((k_1'=k_1/\p_2'=p_2/\True)/\I out_5' i_6' w')/\μ out_5' i_6' w' < μ out_51 i_61 w1) K w1
structure z12_l0 (k_1:Int) (p_2:Addr) (out_5:Sl) (i_6:Int) (K:Pw.T2) (w:World):Prop where
 out:z12_l0d k_1 p_2 out_5 i_6 K w
def z12_sd (p_0_0 p_0_1 p_0_2:Sl) (p_0_3 p_0_4 k_1:Int) (K:Pw.T2) (w:World):Prop :=
 let w1 := w.alloc (Obj.cells #[(Value.slice p_0_0.p p_0_0.l p_0_0.c), (Value.slice p_0_1.p p_0_1.l p_0_1.c), (Value.slice p_0_2.p p_0_2.l p_0_2.c), (Value.int .i64 p_0_3), (Value.int .i64 p_0_4)] 28)
 let w2 := w1.alloc (Obj.cells #[(Value.int .i64 (-1))] 3)
 z12_l0 k_1 (Addr.mk w.heap.size 0 none) (Sl.mk (some (Addr.mk w1.heap.size 0 none)) 1 1) (0:Int) K w2
structure z12_sh (p_0_0 p_0_1 p_0_2:Sl) (p_0_3 p_0_4 k_1:Int) (K:Pw.T2) (w:World):Prop where
 out:z12_sd p_0_0 p_0_1 p_0_2 p_0_3 p_0_4 k_1 K w
def z12_L0 (Kv:VW):Cur [tI, tQ, tL, tI] WP := fun k_1 p_2 out_5 i_6=>z12_l0 k_1 p_2 out_5 i_6 (kk [tL] Kv)
noncomputable def z12_S:Pw.Spec := fun vs w Kv=>un [.g 5, tL, tL, tL, tI, tI, tI] (fun p_0_0 p_0_1 p_0_2 p_0_3 p_0_4 k_1=>z12_sh p_0_0 p_0_1 p_0_2 p_0_3 p_0_4 k_1 (kk [tL] Kv)) nF vs w
def z12_A (Kv:VW):A := (qr 2 (qr 2 (qs (qr 1 (qb (A.loop [1, 2, 5, 6] (uR0 [tI, tQ, tL, tI] (z12_L0 Kv)) (qs (qr 5 (qc ql ql)) (qs (qb (qs (A.drp (dp [0, 1, 2, 3, 4, 5, 6, 7, 8, 9, 10, 11] DA.done)) (qc (qe 5) ql))) (qe 3)))))) (qr 2 ql))))
theorem z12_ok:Sound Tryz.prog 100 z12_S := okS (x := z12_A) (fun Kv p_0_0 p_0_1 p_0_2 p_0_3 p_0_4 k_1=>z12_sd p_0_0 p_0_1 p_0_2 p_0_3 p_0_4 k_1 (kk [tL] Kv)) progMixed (Γ := []) trivial Tryz.call100 Tryz.func100 (fun Kv=>hStep (hLoop0 (L := z12_L0 Kv) (fun N0 k_1 p_2 out_5 i_6=>z12_b0 k_1 p_2 out_5 i_6 N0 (kk [tL] Kv)) (fun ⟨a0, a1, _, _, _⟩ _ h=>let ⟨I, μ, h0, hr⟩ := h.out; ⟨fun b0 b1 b2 b3 w=>(b0=a0/\b1=a1/\True)/\I b2 b3 w, fun _ _ b2 b3 w=>μ b2 b3 w, ⟨⟨rfl, rfl, trivial⟩, h0⟩, fun ⟨_, _, _, _, _⟩ _ ⟨⟨e0, e1, _⟩, hI⟩=>by cases e0; cases e1; exact hr _ _ _ hI⟩)) <| hEnd)
structure z28_sh (p_0_0 p_0_1 p_0_2:Sl) (p_0_3 p_0_4:Int) (r_1_0:Sl) (r_1_1 r_1_2:Int) (r_1_3:Sl) (n_2:Int) (f_3 seen_4:Sl) (K:Pw.T0) (w:World):Prop where
 out:Calls Tryz.prog 98 #[(Value.agg #[(Value.slice p_0_0.p p_0_0.l p_0_0.c), (Value.slice p_0_1.p p_0_1.l p_0_1.c), (Value.slice p_0_2.p p_0_2.l p_0_2.c), (Value.int .i64 p_0_3), (Value.int .i64 p_0_4)]), (Value.agg #[(Value.slice r_1_0.p r_1_0.l r_1_0.c), (Value.int .i64 r_1_1), (Value.int .i64 r_1_2), (Value.slice r_1_3.p r_1_3.l r_1_3.c)]), (Value.int .i64 n_2), (Value.slice f_3.p f_3.l f_3.c), (Value.slice seen_4.p seen_4.l seen_4.c)] w fun e w'=>∃ r0:Bool, e=.returned (Value.bool r0)/\K r0 w'
noncomputable def z28_S:Pw.Spec := fun vs w Kv =>
 match vs with
 | [.agg ⟨[.slice p_0_0p p_0_0l p_0_0c, .slice p_0_1p p_0_1l p_0_1c, .slice p_0_2p p_0_2l p_0_2c, .int .i64 p_0_3, .int .i64 p_0_4]⟩, .agg ⟨[.slice r_1_0p r_1_0l r_1_0c, .int .i64 r_1_1, .int .i64 r_1_2, .slice r_1_3p r_1_3l r_1_3c]⟩, .int .i64 n_2, .slice f_3p f_3l f_3c, .slice seen_4p seen_4l seen_4c]=>z28_sh ⟨p_0_0p, p_0_0l, p_0_0c⟩ ⟨p_0_1p, p_0_1l, p_0_1c⟩ ⟨p_0_2p, p_0_2l, p_0_2c⟩ p_0_3 p_0_4 ⟨r_1_0p, r_1_0l, r_1_0c⟩ r_1_1 r_1_2 ⟨r_1_3p, r_1_3l, r_1_3c⟩ n_2 ⟨f_3p, f_3l, f_3c⟩ ⟨seen_4p, seen_4l, seen_4c⟩ (fun r0 w'=>Kv (Value.bool r0) w') w
 | _=>False
theorem z28_okr:Sound Tryz.prog 98 z28_S := ⟨Tryz.call98, fun vs w Kv h=>by
  unfold z28_S at h
  split at h
  · exact h.out.mono fun e w' he=>by
      obtain ⟨_, he, hk⟩ := he
      exact ⟨_, he, hk⟩
  · exact h.elim⟩
def z28_b0 (n_2:Int) (f_3 seen_4:Sl) (p_5 r_6 x_11:Addr) (l_12:Sl) (i_13:Int) (N0:Int->Sl->Sl->Addr->Addr->Addr->Sl->Int->World->Prop) (K:Pw.T0) (w:World):Prop :=
 cnd (decide (i_13 < (l_12.l:Int)))
 (let w37 := w.drew
 ∃ S38:World->Prop, S38 w37/\∃ x39:Sl, (∀ w':World, S38 w'->w'.cell? (x_11.add 3)=some (Value.slice x39.p x39.l x39.c))/\nz x39.p fun a40=>(0 <= i_13/\i_13 < (x39.l:Nat))/\∃ x41:Int, (∀ w':World, S38 w'->w'.cell? (a40.add (i_13.toNat * 1))=some (Value.int .i64 x41))/\cnd (decide (x41 <= n_2))
 (K false w37)
 (∃ x42:Sl, (∀ w':World, S38 w'->w'.cell? p_5=some (Value.slice x42.p x42.l x42.c))/\∃ x43:Sl, (∀ w':World, S38 w'->w'.cell? (p_5.add 1)=some (Value.slice x43.p x43.l x43.c))/\∃ x44:Sl, (∀ w':World, S38 w'->w'.cell? (p_5.add 2)=some (Value.slice x44.p x44.l x44.c))/\∃ x45:Int, (∀ w':World, S38 w'->w'.cell? (p_5.add 3)=some (Value.int .i64 x45))/\∃ x46:Int, (∀ w':World, S38 w'->w'.cell? (p_5.add 4)=some (Value.int .i64 x46))/\∃ x47:Sl, (∀ w':World, S38 w'->w'.cell? r_6=some (Value.slice x47.p x47.l x47.c))/\∃ x48:Int, (∀ w':World, S38 w'->w'.cell? (r_6.add 1)=some (Value.int .i64 x48))/\∃ x49:Int, (∀ w':World, S38 w'->w'.cell? (r_6.add 2)=some (Value.int .i64 x49))/\∃ x50:Sl, (∀ w':World, S38 w'->w'.cell? (r_6.add 3)=some (Value.slice x50.p x50.l x50.c))/\∃ x51:Sl, (∀ w':World, S38 w'->w'.cell? (x_11.add 3)=some (Value.slice x51.p x51.l x51.c))/\nz x51.p fun a52=>(0 <= i_13/\i_13 < (x51.l:Nat))/\∃ x53:Int, (∀ w':World, S38 w'->w'.cell? (a52.add (i_13.toNat * 1))=some (Value.int .i64 x53))/\nz l_12.p fun a54=>(0 <= i_13/\i_13 < (l_12.l:Nat))/\∃ x55:Int, (∀ w':World, S38 w'->w'.cell? (a54.add (i_13.toNat * 1))=some (Value.int .i64 x55))/\(let w56 := w37.alloc (Obj.cells #[] 3)
 S38 w56/\(apS 1 8 [(Value.int .i64 0)] 3 (Sl.mk (some (Addr.mk w37.heap.size 0 none)) 0 0) f_3 w56 fun s57 w58=>S38 w58/\let w59 := w58.alloc (Obj.cells #[(Value.int .i64 x55)] 3)
 S38 w59/\apS 1 8 [(Value.int .i64 0)] 3 s57 (Sl.mk (some (Addr.mk w58.heap.size 0 none)) 1 1) w59 fun s60 w61=>S38 w61/\z28_sh x42 x43 x44 x45 x46 x47 x48 x49 x50 x53 s60 seen_4 (fun r63 w62=>S38 w62/\cnd (!r63)
 (K false w62)
 (inR .i64 (i_13 + (1:Int))/\N0 n_2 f_3 seen_4 p_5 r_6 x_11 l_12 (i_13 + (1:Int)) w62)) w61)
/\(let w64 := w56.alloc (Obj.cells #[(Value.int .i64 x55)] 3)
 S38 w64/\apS 1 8 [(Value.int .i64 0)] 3 (Sl.mk (some (Addr.mk w37.heap.size 0 none)) 0 0) f_3 w64 fun s65 w66=>S38 w66/\apS 1 8 [(Value.int .i64 0)] 3 s65 (Sl.mk (some (Addr.mk w56.heap.size 0 none)) 1 1) w66 fun s67 w68=>S38 w68/\z28_sh x42 x43 x44 x45 x46 x47 x48 x49 x50 x53 s67 seen_4 (fun r70 w69=>S38 w69/\cnd (!r70)
 (K false w69)
 (inR .i64 (i_13 + (1:Int))/\N0 n_2 f_3 seen_4 p_5 r_6 x_11 l_12 (i_13 + (1:Int)) w69)) w68))
/\(let w71 := w37.alloc (Obj.cells #[(Value.int .i64 x55)] 3)
 S38 w71/\let w72 := w71.alloc (Obj.cells #[] 3)
 S38 w72/\apS 1 8 [(Value.int .i64 0)] 3 (Sl.mk (some (Addr.mk w71.heap.size 0 none)) 0 0) f_3 w72 fun s73 w74=>S38 w74/\apS 1 8 [(Value.int .i64 0)] 3 s73 (Sl.mk (some (Addr.mk w37.heap.size 0 none)) 1 1) w74 fun s75 w76=>S38 w76/\z28_sh x42 x43 x44 x45 x46 x47 x48 x49 x50 x53 s75 seen_4 (fun r78 w77=>S38 w77/\cnd (!r78)
 (K false w77)
 (inR .i64 (i_13 + (1:Int))/\N0 n_2 f_3 seen_4 p_5 r_6 x_11 l_12 (i_13 + (1:Int)) w77)) w76)))
 (K true w)
def z28_l0d (n_2:Int) (f_3 seen_4:Sl) (p_5 r_6 x_11:Addr) (l_12:Sl) (i_13:Int) (K:Pw.T0) (w:World):Prop :=
 ∃ (I:Int->World->Prop) (μ:Int->World->Nat), I i_13 w/\∀ (i_131:Int) (w1:World), I i_131 w1 ->
 z28_b0 n_2 f_3 seen_4 p_5 r_6 x_11 l_12 i_131 (fun n_2' f_3' seen_4' p_5' r_6' x_11' l_12' i_13' w'=>((n_2'=n_2/\f_3'=f_3/\seen_4'=seen_4/\p_5'=p_5/\r_6'=r_6/\x_11'=x_11/\l_12'=l_12/\True)/\I i_13' w')/\μ i_13' w' < μ i_131 w1) K w1
structure z28_l0 (n_2:Int) (f_3 seen_4:Sl) (p_5 r_6 x_11:Addr) (l_12:Sl) (i_13:Int) (K:Pw.T0) (w:World):Prop where
 out:z28_l0d n_2 f_3 seen_4 p_5 r_6 x_11 l_12 i_13 K w
def z28_sd (p_0_0 p_0_1 p_0_2:Sl) (p_0_3 p_0_4:Int) (r_1_0:Sl) (r_1_1 r_1_2:Int) (r_1_3:Sl) (n_2:Int) (f_3 seen_4:Sl) (K:Pw.T0) (w:World):Prop :=
 let w1 := w.alloc (Obj.cells #[(Value.slice p_0_0.p p_0_0.l p_0_0.c), (Value.slice p_0_1.p p_0_1.l p_0_1.c), (Value.slice p_0_2.p p_0_2.l p_0_2.c), (Value.int .i64 p_0_3), (Value.int .i64 p_0_4)] 28)
 let w2 := w1.alloc (Obj.cells #[(Value.slice r_1_0.p r_1_0.l r_1_0.c), (Value.int .i64 r_1_1), (Value.int .i64 r_1_2), (Value.slice r_1_3.p r_1_3.l r_1_3.c)] 45)
 cnd (decide (n_2 < (0:Int)))
 (K false w2)
 (∃ x3:Sl, w2.cell? (Addr.mk w1.heap.size 3 none)=some (Value.slice x3.p x3.l x3.c)/\cnd (decide (n_2 >= (x3.l:Int)))
 (K false w2)
 (nz seen_4.p fun a4=>(0 <= n_2/\n_2 < (seen_4.l:Nat))/\∃ x5:Bool, w2.cell? (a4.add (n_2.toNat * 1))=some (Value.bool x5)/\cnd x5
 (K false w2)
 (nz seen_4.p fun a6=>(0 <= n_2/\n_2 < (seen_4.l:Nat))/\wrOk w2 (a6.add (n_2.toNat * 1))/\
 (let w7 := w2.setCell (a6.add (n_2.toNat * 1)) (Value.bool true)
 ∃ x8:Sl, w7.cell? (Addr.mk w1.heap.size 3 none)=some (Value.slice x8.p x8.l x8.c)/\nz x8.p fun a9=>(0 <= n_2/\n_2 < (x8.l:Nat))/\∃ x10:Int, w7.cell? (a9.add (n_2.toNat * 4))=some (Value.int .i64 x10)/\∃ x11:Int, w7.cell? ((a9.add (n_2.toNat * 4)).add 1)=some (Value.int .i64 x11)/\∃ x12:Int, w7.cell? ((a9.add (n_2.toNat * 4)).add 2)=some (Value.int .i64 x12)/\∃ x13:Sl, w7.cell? ((a9.add (n_2.toNat * 4)).add 3)=some (Value.slice x13.p x13.l x13.c)/\let w14 := w7.alloc (Obj.cells #[(Value.int .i64 0), (Value.int .i64 0), (Value.int .i64 0), (Value.slice none 0 0)] 55)
 stN w14 (Addr.mk w7.heap.size 0 none) [(Value.int .i64 x10), (Value.int .i64 x11), (Value.int .i64 x12), (Value.slice x13.p x13.l x13.c)] fun w15=>∃ x16:Sl, w15.cell? (Addr.mk w7.heap.size 3 none)=some (Value.slice x16.p x16.l x16.c)/\cnd ((x16.l:Int) == (0:Int))
 (∃ x17:Sl, w15.cell? (Addr.mk w.heap.size 0 none)=some (Value.slice x17.p x17.l x17.c)/\∃ x18:Sl, w15.cell? (Addr.mk w.heap.size 1 none)=some (Value.slice x18.p x18.l x18.c)/\∃ x19:Sl, w15.cell? (Addr.mk w.heap.size 2 none)=some (Value.slice x19.p x19.l x19.c)/\∃ x20:Int, w15.cell? (Addr.mk w.heap.size 3 none)=some (Value.int .i64 x20)/\∃ x21:Int, w15.cell? (Addr.mk w.heap.size 4 none)=some (Value.int .i64 x21)/\∃ x22:Int, w15.cell? (Addr.mk w7.heap.size 1 none)=some (Value.int .i64 x22)/\∃ x23:Int, w15.cell? (Addr.mk w7.heap.size 2 none)=some (Value.int .i64 x23)/\∃ x24:Sl, w15.cell? (Addr.mk w1.heap.size 0 none)=some (Value.slice x24.p x24.l x24.c)/\z1d_sh x17 x18 x19 x20 x21 f_3 x22 x23 x24 (fun r26 w25=>K r26 w25) w15)
 (∃ x27:Sl, w15.cell? (Addr.mk w.heap.size 0 none)=some (Value.slice x27.p x27.l x27.c)/\cnd (decide ((f_3.l:Int) >= (x27.l:Int)))
 (K false w15)
 (∃ x28:Int, w15.cell? (Addr.mk w7.heap.size 0 none)=some (Value.int .i64 x28)/\cnd (x28 != (f_3.l:Int))
 (K false w15)
 (∃ x29:Sl, w15.cell? (Addr.mk w.heap.size 0 none)=some (Value.slice x29.p x29.l x29.c)/\∃ x30:Sl, w15.cell? (Addr.mk w.heap.size 1 none)=some (Value.slice x30.p x30.l x30.c)/\∃ x31:Sl, w15.cell? (Addr.mk w.heap.size 2 none)=some (Value.slice x31.p x31.l x31.c)/\∃ x32:Int, w15.cell? (Addr.mk w.heap.size 3 none)=some (Value.int .i64 x32)/\∃ x33:Int, w15.cell? (Addr.mk w.heap.size 4 none)=some (Value.int .i64 x33)/\z12_sh x29 x30 x31 x32 x33 (f_3.l:Int) (fun r35 w34=>∃ x36:Sl, w34.cell? (Addr.mk w7.heap.size 3 none)=some (Value.slice x36.p x36.l x36.c)/\cnd ((x36.l:Int) != (r35.l:Int))
 (K false w34)
 (z28_l0 n_2 f_3 seen_4 (Addr.mk w.heap.size 0 none) (Addr.mk w1.heap.size 0 none) (Addr.mk w7.heap.size 0 none) r35 (0:Int) K w34)) w15)))))))
def z28_P0 (Kv:VW) (ρ:Rho) (vs:List Value) (w:World):Prop :=
 match ρ, vs with
 | _, [.int .i64 n_2, .slice f_3p f_3l f_3c, .slice seen_4p seen_4l seen_4c, .pointer (some p_5), .pointer (some r_6), .pointer (some x_11), .slice l_12p l_12l l_12c, .int .i64 i_13]=>z28_l0 n_2 ⟨f_3p, f_3l, f_3c⟩ ⟨seen_4p, seen_4l, seen_4c⟩ p_5 r_6 x_11 ⟨l_12p, l_12l, l_12c⟩ i_13 (fun r0 w'=>Kv (Value.bool r0) w') w
 | _, _=>False
noncomputable def z28_E:Pw.Env := [(98, z28_S), (100, z12_S), (145, z1d_S)]
noncomputable def z28_C:Code := (Tryz.f98.body).getD .skip
noncomputable def z28_A (Kv:VW):Pw.A :=
 (qr 3 (qs (qs (A.reg (qn 3 (RA.spl 16 (qk 5 (qn 2 (qk 4 (qn 1 RA.done)))) (qn 7 (RA.spl 23 (qk 4 (qn 1 RA.done)) (qn 5 RA.done)))))) (qc (qr 1 ql) ql)) (qr 4 (qr 7 (qs (qr 4 (qc (qr 8 ql) ql)) (qs (qs (A.reg (qn 7 (RA.spl 54 (qk 5 (qn 1 RA.done)) (qn 6 RA.done)))) (qc (qr 1 ql) ql)) (qr 5 (qs (qr 6 (qc (qr 1 ql) ql)) (qs (qr 1 (qb (A.loop [2, 3, 4, 5, 6, 11, 12, 13] (z28_P0 Kv) (qs (qr 4 (qc ql ql)) (qs (qb (qs (A.drw (dp [0, 1, 2, 3, 4, 5, 6, 7] (DA.spl 84 (DA.skp 8 (DA.skp 9 (DA.skp 10 (DA.skp 11 (DA.skp 12 (DA.skp 13 (DA.skp 14 (DA.skp 16 (DA.skp 18 (DA.skp 19 (DA.skp 20 (DA.skp 21 (DA.skp 24 (DA.skp 15 (DA.skp 17 (DA.skp 22 (DA.skp 23 (DA.skp 25 (DA.skp 26 (DA.pur 27 DA.done)))))))))))))))))))) (dp [8, 9, 10, 11, 12, 13, 14, 16, 18, 19, 20, 21, 24] (DA.two 15 (DA.two 17 (DA.eff 22 (DA.eff 23 (DA.eff 25 (dp [26, 27] DA.done)))) 22 (DA.eff 17 (DA.eff 23 (DA.eff 25 (dp [26, 27] DA.done))))) 22 (DA.eff 15 (DA.eff 17 (DA.eff 23 (DA.eff 25 (dp [26, 27] DA.done)))))))))) (qc (qr 1 ql) ql))) (qe 3)))))) (qr 1 ql))))))))))
noncomputable def z28_O (Kv:VW):List Ob := (obs Tryz.prog z28_E 105 (z28_A Kv) z28_C (fun _=>retQ Tryz.prog Tryz.f98.results Kv))
theorem z28_e (Kv:VW) (p_0_0p:Option Addr) (p_0_0l p_0_0c:Nat) (p_0_1p:Option Addr) (p_0_1l p_0_1c:Nat) (p_0_2p:Option Addr) (p_0_2l p_0_2c:Nat) (p_0_3 p_0_4:Int) (r_1_0p:Option Addr) (r_1_0l r_1_0c:Nat) (r_1_1 r_1_2:Int) (r_1_3p:Option Addr) (r_1_3l r_1_3c:Nat) (n_2:Int) (f_3p:Option Addr) (f_3l f_3c:Nat) (seen_4p:Option Addr) (seen_4l seen_4c:Nat) (w:World):z28_sd ⟨p_0_0p, p_0_0l, p_0_0c⟩ ⟨p_0_1p, p_0_1l, p_0_1c⟩ ⟨p_0_2p, p_0_2l, p_0_2c⟩ p_0_3 p_0_4 ⟨r_1_0p, r_1_0l, r_1_0c⟩ r_1_1 r_1_2 ⟨r_1_3p, r_1_3l, r_1_3c⟩ n_2 ⟨f_3p, f_3l, f_3c⟩ ⟨seen_4p, seen_4l, seen_4c⟩ (fun r0 w'=>Kv (Value.bool r0) w') w=W Tryz.prog z28_E 105 (z28_A Kv) z28_C [] (retQ Tryz.prog Tryz.f98.results Kv) [] (startS [(Value.agg #[(Value.slice p_0_0p p_0_0l p_0_0c), (Value.slice p_0_1p p_0_1l p_0_1c), (Value.slice p_0_2p p_0_2l p_0_2c), (Value.int .i64 p_0_3), (Value.int .i64 p_0_4)]), (Value.agg #[(Value.slice r_1_0p r_1_0l r_1_0c), (Value.int .i64 r_1_1), (Value.int .i64 r_1_2), (Value.slice r_1_3p r_1_3l r_1_3c)]), (Value.int .i64 n_2), (Value.slice f_3p f_3l f_3c), (Value.slice seen_4p seen_4l seen_4c)]) w := by kernel_rfl
theorem z28_e0 (Kv:VW) (N0:List Value->World->Prop) (ρ:Rho) (n_2:Int) (f_3p:Option Addr) (f_3l f_3c:Nat) (seen_4p:Option Addr) (seen_4l seen_4c:Nat) (p_5 r_6 x_11:Addr) (l_12p:Option Addr) (l_12l l_12c:Nat) (i_13:Int) (w:World):z28_b0 n_2 ⟨f_3p, f_3l, f_3c⟩ ⟨seen_4p, seen_4l, seen_4c⟩ p_5 r_6 x_11 ⟨l_12p, l_12l, l_12c⟩ i_13 (fun n_2' f_3' seen_4' p_5' r_6' x_11' l_12' i_13' w'=>N0 [(Value.int .i64 n_2'), (Value.slice f_3'.p f_3'.l f_3'.c), (Value.slice seen_4'.p seen_4'.l seen_4'.c), (Value.pointer (some p_5')), (Value.pointer (some r_6')), (Value.pointer (some x_11')), (Value.slice l_12'.p l_12'.l l_12'.c), (Value.int .i64 i_13')] w') (fun r0 w'=>Kv (Value.bool r0) w') w=goalAt Tryz.prog z28_E 105 (z28_O Kv) 0 (N0 :: ρ) [(Value.int .i64 n_2), (Value.slice f_3p f_3l f_3c), (Value.slice seen_4p seen_4l seen_4c), (Value.pointer (some p_5)), (Value.pointer (some r_6)), (Value.pointer (some x_11)), (Value.slice l_12p l_12l l_12c), (Value.int .i64 i_13)] w := by kernel_rfl
theorem z28_q0 (Kv:VW) (ρ:Rho) (vs:List Value) (w:World):labAt (z28_O Kv) 0 ρ vs w=z28_P0 Kv ρ vs w := by kernel_rfl
def z28_I0 (n_20:Int) (f_30 seen_40:Sl) (p_50 r_60 x_110:Addr) (l_120:Sl) (I:Int->World->Prop) (vs:List Value) (w:World):Prop :=
 match vs with
 | [.int .i64 n_2, .slice f_3p f_3l f_3c, .slice seen_4p seen_4l seen_4c, .pointer (some p_5), .pointer (some r_6), .pointer (some x_11), .slice l_12p l_12l l_12c, .int .i64 i_13]=>(n_2=n_20/\⟨f_3p, f_3l, f_3c⟩=f_30/\⟨seen_4p, seen_4l, seen_4c⟩=seen_40/\p_5=p_50/\r_6=r_60/\x_11=x_110/\⟨l_12p, l_12l, l_12c⟩=l_120/\True)/\I i_13 w
 | _=>False
def z28_M0 (μ:Int->World->Nat) (vs:List Value) (w:World):Nat :=
 match vs with
 | [.int .i64 n_2, .slice f_3p f_3l f_3c, .slice seen_4p seen_4l seen_4c, .pointer (some p_5), .pointer (some r_6), .pointer (some x_11), .slice l_12p l_12l l_12c, .int .i64 i_13]=>μ i_13 w
 | _=>0
theorem z28_h0 (Kv:VW):holdsAt Tryz.prog z28_E 105 (z28_O Kv) 0 := holdsAt_loop (by kernel_rfl) (fun ρ vs w h=>by
  rw [z28_q0] at h
  unfold z28_P0 at h
  split at h
  · rename_i ρt n_2 f_3p f_3l f_3c seen_4p seen_4l seen_4c p_5 r_6 x_11 l_12p l_12l l_12c i_13
    obtain ⟨I, μ, h0, hr⟩ := h.out
    refine ⟨z28_I0 n_2 ⟨f_3p, f_3l, f_3c⟩ ⟨seen_4p, seen_4l, seen_4c⟩ p_5 r_6 x_11 ⟨l_12p, l_12l, l_12c⟩ I, z28_M0 μ, ⟨⟨rfl, rfl, rfl, rfl, rfl, rfl, rfl, trivial⟩, h0⟩, fun vs w hI=>?_⟩
    unfold z28_I0 at hI
    split at hI
    · obtain ⟨⟨h0, h1, h2, h3, h4, h5, h6, _⟩, hI⟩ := hI
      cases h0; cases h1; cases h2; cases h3; cases h4; cases h5; cases h6
      rw [← z28_e0]
      exact hr _ _ hI
    · exact hI.elim
  · exact h.elim)
theorem z28_n (Kv:VW):obAt (z28_O Kv) 1=none := by kernel_rfl
theorem z28_h (Kv:VW):∀ k, holdsAt Tryz.prog z28_E 105 (z28_O Kv) k := fun k=>match k with
  | 0=>z28_h0 Kv
  | k + 1=>holdsAt_ge (z28_n Kv) (Nat.le_add_left _ _)
theorem z28_mk (p_0_0p:Option Addr) (p_0_0l p_0_0c:Nat) (p_0_1p:Option Addr) (p_0_1l p_0_1c:Nat) (p_0_2p:Option Addr) (p_0_2l p_0_2c:Nat) (p_0_3 p_0_4:Int) (r_1_0p:Option Addr) (r_1_0l r_1_0c:Nat) (r_1_1 r_1_2:Int) (r_1_3p:Option Addr) (r_1_3l r_1_3c:Nat) (n_2:Int) (f_3p:Option Addr) (f_3l f_3c:Nat) (seen_4p:Option Addr) (seen_4l seen_4c:Nat) {K:Bool->World->Prop} {w:World} (h:z28_sd ⟨p_0_0p, p_0_0l, p_0_0c⟩ ⟨p_0_1p, p_0_1l, p_0_1c⟩ ⟨p_0_2p, p_0_2l, p_0_2c⟩ p_0_3 p_0_4 ⟨r_1_0p, r_1_0l, r_1_0c⟩ r_1_1 r_1_2 ⟨r_1_3p, r_1_3l, r_1_3c⟩ n_2 ⟨f_3p, f_3l, f_3c⟩ ⟨seen_4p, seen_4l, seen_4c⟩ K w):z28_sh ⟨p_0_0p, p_0_0l, p_0_0c⟩ ⟨p_0_1p, p_0_1l, p_0_1c⟩ ⟨p_0_2p, p_0_2l, p_0_2c⟩ p_0_3 p_0_4 ⟨r_1_0p, r_1_0l, r_1_0c⟩ r_1_1 r_1_2 ⟨r_1_3p, r_1_3l, r_1_3c⟩ n_2 ⟨f_3p, f_3l, f_3c⟩ ⟨seen_4p, seen_4l, seen_4c⟩ K w := by
  have e:(fun r0 w'=>(fun v w'=>∃ r0:Bool, v=(Value.bool r0)/\K r0 w') (Value.bool r0) w')=K := by
    funext r0 w'
    apply propext
    constructor
    · rintro ⟨r0', hv, hk⟩
      cases hv
      exact hk
    · intro hk
      exact ⟨_, rfl, hk⟩
  have h':z28_sd ⟨p_0_0p, p_0_0l, p_0_0c⟩ ⟨p_0_1p, p_0_1l, p_0_1c⟩ ⟨p_0_2p, p_0_2l, p_0_2c⟩ p_0_3 p_0_4 ⟨r_1_0p, r_1_0l, r_1_0c⟩ r_1_1 r_1_2 ⟨r_1_3p, r_1_3l, r_1_3c⟩ n_2 ⟨f_3p, f_3l, f_3c⟩ ⟨seen_4p, seen_4l, seen_4c⟩ (fun r0 w'=>(fun v w'=>∃ r0:Bool, v=(Value.bool r0)/\K r0 w') (Value.bool r0) w') w := by rw [e]; exact h
  rw [z28_e (fun v w'=>∃ r0:Bool, v=(Value.bool r0)/\K r0 w')] at h'
  refine ⟨(calls_sound (Γ := z28_E) progMixed ⟨.inl z28_okr, .inl z12_ok, .inl z1d_ok, trivial⟩ Tryz.func98 (code := z28_C) (by kernel_rfl) (z28_A (fun v w'=>∃ r0:Bool, v=(Value.bool r0)/\K r0 w')) (fun v w'=>∃ r0:Bool, v=(Value.bool r0)/\K r0 w') (holds_all (z28_h (fun v w'=>∃ r0:Bool, v=(Value.bool r0)/\K r0 w'))) (Nat.le_of_ble_eq_true (by kernel_rfl)) h').mono fun e w' he=>?_⟩
  obtain ⟨v, rfl, _, rfl, hk⟩ := he
  exact ⟨_, rfl, hk⟩
def z1r_b0 (seen_6:Sl) (i_7:Int) (N0:Sl->Int->World->Prop) (K:Pw.T0) (w:World):Prop :=
 cnd (decide (i_7 < (seen_6.l:Int)))
 (nz seen_6.p fun a25=>(0 <= i_7/\i_7 < (seen_6.l:Nat))/\∃ x26:Bool, w.cell? (a25.add (i_7.toNat * 1))=some (Value.bool x26)/\cnd (!x26)
 (K false w)
 (inR .i64 (i_7 + (1:Int))/\N0 seen_6 (i_7 + (1:Int)) w))
 (K true w)
def z1r_l0d (seen_6:Sl) (i_7:Int) (K:Pw.T0) (w:World):Prop :=
 ∃ (I:Int->World->Prop) (μ:Int->World->Nat), I i_7 w/\∀ (i_71:Int) (w1:World), I i_71 w1 ->
 z1r_b0 seen_6 i_71 (fun seen_6' i_7' w'=>((seen_6'=seen_6/\True)/\I i_7' w')/\μ i_7' w' < μ i_71 w1) K w1
structure z1r_l0 (seen_6:Sl) (i_7:Int) (K:Pw.T0) (w:World):Prop where
 out:z1r_l0d seen_6 i_7 K w
def z1r_sd (p_0_0 p_0_1 p_0_2:Sl) (p_0_3 p_0_4:Int) (r_1_0:Sl) (r_1_1 r_1_2:Int) (r_1_3:Sl) (K:Pw.T0) (w:World):Prop :=
 let w1 := w.alloc (Obj.cells #[(Value.slice p_0_0.p p_0_0.l p_0_0.c), (Value.slice p_0_1.p p_0_1.l p_0_1.c), (Value.slice p_0_2.p p_0_2.l p_0_2.c), (Value.int .i64 p_0_3), (Value.int .i64 p_0_4)] 28)
 let w2 := w1.alloc (Obj.cells #[(Value.slice r_1_0.p r_1_0.l r_1_0.c), (Value.int .i64 r_1_1), (Value.int .i64 r_1_2), (Value.slice r_1_3.p r_1_3.l r_1_3.c)] 45)
 ∃ x3:Sl, w2.cell? (Addr.mk w.heap.size 0 none)=some (Value.slice x3.p x3.l x3.c)/\∃ x4:Sl, w2.cell? (Addr.mk w.heap.size 1 none)=some (Value.slice x4.p x4.l x4.c)/\∃ x5:Sl, w2.cell? (Addr.mk w.heap.size 2 none)=some (Value.slice x5.p x5.l x5.c)/\∃ x6:Int, w2.cell? (Addr.mk w.heap.size 3 none)=some (Value.int .i64 x6)/\∃ x7:Int, w2.cell? (Addr.mk w.heap.size 4 none)=some (Value.int .i64 x7)/\∃ x8:Sl, w2.cell? (Addr.mk w1.heap.size 0 none)=some (Value.slice x8.p x8.l x8.c)/\z0g_sh x3 x4 x5 x6 x7 x8 (fun r10 w9=>∃ x11:Sl, w9.cell? (Addr.mk w1.heap.size 3 none)=some (Value.slice x11.p x11.l x11.c)/\mkS 1 [(Value.bool false)] 4 (x11.l:Int) (x11.l:Int) w9 fun s12 w13=>cnd (!r10)
 (K false w13)
 (∃ x14:Sl, w13.cell? (Addr.mk w.heap.size 0 none)=some (Value.slice x14.p x14.l x14.c)/\∃ x15:Sl, w13.cell? (Addr.mk w.heap.size 1 none)=some (Value.slice x15.p x15.l x15.c)/\∃ x16:Sl, w13.cell? (Addr.mk w.heap.size 2 none)=some (Value.slice x16.p x16.l x16.c)/\∃ x17:Int, w13.cell? (Addr.mk w.heap.size 3 none)=some (Value.int .i64 x17)/\∃ x18:Int, w13.cell? (Addr.mk w.heap.size 4 none)=some (Value.int .i64 x18)/\∃ x19:Sl, w13.cell? (Addr.mk w1.heap.size 0 none)=some (Value.slice x19.p x19.l x19.c)/\∃ x20:Int, w13.cell? (Addr.mk w1.heap.size 1 none)=some (Value.int .i64 x20)/\∃ x21:Int, w13.cell? (Addr.mk w1.heap.size 2 none)=some (Value.int .i64 x21)/\∃ x22:Sl, w13.cell? (Addr.mk w1.heap.size 3 none)=some (Value.slice x22.p x22.l x22.c)/\z28_sh x14 x15 x16 x17 x18 x19 x20 x21 x22 (0:Int) (Sl.mk none 0 0) s12 (fun r24 w23=>cnd (!r24)
 (K false w23)
 (z1r_l0 s12 (0:Int) K w23)) w13)) w2
structure z1r_sh (p_0_0 p_0_1 p_0_2:Sl) (p_0_3 p_0_4:Int) (r_1_0:Sl) (r_1_1 r_1_2:Int) (r_1_3:Sl) (K:Pw.T0) (w:World):Prop where
 out:z1r_sd p_0_0 p_0_1 p_0_2 p_0_3 p_0_4 r_1_0 r_1_1 r_1_2 r_1_3 K w
def z1r_L0 (Kv:VW):Cur [tL, tI] WP := fun seen_6 i_7=>z1r_l0 seen_6 i_7 (kk [tB] Kv)
noncomputable def z1r_S:Pw.Spec := fun vs w Kv=>un [.g 5, tL, tL, tL, tI, tI, .g 4, tL, tI, tI, tL] (fun p_0_0 p_0_1 p_0_2 p_0_3 p_0_4 r_1_0 r_1_1 r_1_2 r_1_3=>z1r_sh p_0_0 p_0_1 p_0_2 p_0_3 p_0_4 r_1_0 r_1_1 r_1_2 r_1_3 (kk [tB] Kv)) nF vs w
def z1r_A (Kv:VW):A := (qr 3 (qr 5 (qr 5 (qs (qs (A.reg (qn 3 (RA.spl 18 (qk 5 (qn 1 RA.done)) (qn 6 RA.done)))) (qc (qr 1 ql) ql)) (qs (qr 1 (qb (A.loop [6, 7] (uR0 [tL, tI] (z1r_L0 Kv)) (qs (qr 4 (qc ql ql)) (qs (qb (qr 5 (qc (qr 1 ql) ql))) (qe 3)))))) (qr 1 ql))))))
theorem z1r_ok:Sound Tryz.prog 48 z1r_S := okS (x := z1r_A) (fun Kv p_0_0 p_0_1 p_0_2 p_0_3 p_0_4 r_1_0 r_1_1 r_1_2 r_1_3=>z1r_sd p_0_0 p_0_1 p_0_2 p_0_3 p_0_4 r_1_0 r_1_1 r_1_2 r_1_3 (kk [tB] Kv)) progMixed (Γ := [(47, z0g_S), (98, z28_S)]) ⟨.inl z0g_ok, .inl z28_okr, trivial⟩ Tryz.call48 Tryz.func48 (fun Kv=>hStep (hLoop0 (L := z1r_L0 Kv) (fun N0 seen_6 i_7=>z1r_b0 seen_6 i_7 N0 (kk [tB] Kv)) (fun ⟨a0, _, _⟩ _ h=>let ⟨I, μ, h0, hr⟩ := h.out; ⟨fun b0 b1 w=>(b0=a0/\True)/\I b1 w, fun _ b1 w=>μ b1 w, ⟨⟨rfl, trivial⟩, h0⟩, fun ⟨_, _, _⟩ _ ⟨⟨e0, _⟩, hI⟩=>by cases e0; exact hr _ _ hI⟩)) <| hEnd)
end Go.Proofs.YtfpobpjandjhjaaGreatDoor
