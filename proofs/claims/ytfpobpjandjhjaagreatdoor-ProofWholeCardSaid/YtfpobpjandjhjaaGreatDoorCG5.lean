/- The bodies' formulas, by program. -/
import Derived.Test.YtfpobpjandjhjaaGreatDoorProg
import Derived.KernelRfl
import Derived.Test.YtfpobpjandjhjaaGreatDoorPwY
import Derived.Test.YtfpobpjandjhjaaGreatDoorCG0
import Derived.Test.YtfpobpjandjhjaaGreatDoorCG1
import Derived.Test.YtfpobpjandjhjaaGreatDoorCG2
set_option maxRecDepth 20000
namespace Go.Proofs.YtfpobpjandjhjaaGreatDoor
open Go Pw
def z06_sd (m_0:Option Addr) (n_1:Int) (K:Pw.T1) (w:World):Prop :=
 let w1 := w.drew
 nz m_0 fun a2=>∃ x3:Int, w1.cell? (a2.add 1)=some (Value.int .i64 x3)/\nz m_0 fun a4=>∃ x5:Sl, w1.cell? a4=some (Value.slice x5.p x5.l x5.c)/\cnd (decide (x3 >= (x5.l:Int)))
 (K (0:Int) w1)
 (nz m_0 fun a6=>∃ x7:Int, w1.cell? (a6.add 1)=some (Value.int .i64 x7)/\inR .i64 (x7 + (1:Int))/\nz m_0 fun a8=>wrOk w1 (a8.add 1)/\
 (let w9 := w1.setCell (a8.add 1) (Value.int .i64 (x7 + (1:Int)))
 let w10 := w9.drew
 ∃ S11:World->Prop, S11 w10/\nz m_0 fun a12=>∃ x13:Sl, (∀ w':World, S11 w'->w'.cell? a12=some (Value.slice x13.p x13.l x13.c))/\nz m_0 fun a14=>∃ x15:Int, (∀ w':World, S11 w'->w'.cell? (a14.add 1)=some (Value.int .i64 x15))/\inR .i64 (x15 - (1:Int))/\nz x13.p fun a16=>(0 <= (x15 - (1:Int))/\(x15 - (1:Int)) < (x13.l:Nat))/\∃ x17:Int, (∀ w':World, S11 w'->w'.cell? (a16.add ((x15 - (1:Int)).toNat * 1))=some (Value.int .i64 x17))/\z2j_sh x17 n_1 (fun r19 w18=>S11 w18/\K r19 w18) w10))
structure z06_sh (m_0:Option Addr) (n_1:Int) (K:Pw.T1) (w:World):Prop where
 out:z06_sd m_0 n_1 K w
noncomputable def z06_S:Pw.Spec := fun vs w Kv=>un [tP, tI] (fun m_0 n_1=>z06_sh m_0 n_1 (kk [tI] Kv)) nF vs w
def z06_A (_:VW):A := (qr 1 (qs (qs (A.drp (dp [0, 1, 2, 3, 4, 5, 6, 7, 8, 9] DA.done)) (qc (qr 1 ql) ql)) (qr 8 (qs (A.drw (dp [0, 1, 2, 3, 4, 5, 6, 7, 8, 9, 10, 11] (DA.eff 12 (DA.pur 13 DA.done)))) ql))))
theorem z06_ok:Sound Tryz.prog 34 z06_S := okS (x := z06_A) (fun Kv m_0 n_1=>z06_sd m_0 n_1 (kk [tI] Kv)) progMixed (Γ := [(35, z2j_S)]) ⟨.inl z2j_ok, trivial⟩ Tryz.call34 Tryz.func34 (fun _=>hEnd)
def z26_b3 (t_2 m_3 p_4:Addr) (lots_5 deals_9 i_10:Int) (d_11:Addr) (set_12 k_13:Int) (N3:Addr->Addr->Addr->Int->Int->Int->Addr->Int->Int->World->Prop) (N2:Addr->Addr->Addr->Int->Int->Int->World->Prop) (K:Pw.T6) (w:World):Prop :=
 cnd (decide (k_13 < lots_5))
 (0 <= k_13/\cnd ((IntKind.wrap .i64 (((BitVec.ofInt (IntKind.bits .i64) (Int.fdiv set_12 (2 ^ (min k_13.toNat (IntKind.bits .i64)))) &&& BitVec.ofInt (IntKind.bits .i64) (1:Int))).toNat:Int)) == (1:Int))
 (let w50 := w.drew
 ∃ S51:World->Prop, S51 w50/\∃ x52:Sl, (∀ w':World, S51 w'->w'.cell? (d_11.add 1)=some (Value.slice x52.p x52.l x52.c))/\∃ x53:Sl, (∀ w':World, S51 w'->w'.cell? p_4=some (Value.slice x53.p x53.l x53.c))/\nz x53.p fun a54=>(0 <= k_13/\k_13 < (x53.l:Nat))/\∃ x55:Int, (∀ w':World, S51 w'->w'.cell? (a54.add (k_13.toNat * 1))=some (Value.int .i64 x55))/\let w56 := w50.alloc (Obj.cells #[(Value.int .i64 x55)] 3)
 S51 w56/\apS 1 8 [(Value.int .i64 0)] 3 x52 (Sl.mk (some (Addr.mk w50.heap.size 0 none)) 1 1) w56 fun s57 w58=>S51 w58/\wrOk w58 (d_11.add 1)/\
 (let w59 := w58.setCell (d_11.add 1) (Value.slice s57.p s57.l s57.c)
 inR .i64 (k_13 + (1:Int))/\N3 t_2 m_3 p_4 lots_5 deals_9 i_10 d_11 set_12 (k_13 + (1:Int)) w59))
 (inR .i64 (k_13 + (1:Int))/\N3 t_2 m_3 p_4 lots_5 deals_9 i_10 d_11 set_12 (k_13 + (1:Int)) w))
 (∃ x60:Sl, w.cell? (p_4.add 2)=some (Value.slice x60.p x60.l x60.c)/\∃ x61:Int, w.cell? d_11=some (Value.int .i64 x61)/\∃ x62:Sl, w.cell? (d_11.add 1)=some (Value.slice x62.p x62.l x62.c)/\∃ x63:Int, w.cell? (d_11.add 2)=some (Value.int .i64 x63)/\let w64 := w.alloc (Obj.cells #[(Value.int .i64 x61), (Value.slice x62.p x62.l x62.c), (Value.int .i64 x63)] 81)
 apS 3 40 [(Value.int .i64 0), (Value.slice none 0 0), (Value.int .i64 0)] 81 x60 (Sl.mk (some (Addr.mk w.heap.size 0 none)) 1 1) w64 fun s65 w66=>wrOk w66 (p_4.add 2)/\
 (let w67 := w66.setCell (p_4.add 2) (Value.slice s65.p s65.l s65.c)
 inR .i64 (i_10 + (1:Int))/\N2 t_2 m_3 p_4 lots_5 deals_9 (i_10 + (1:Int)) w67))
def z26_l3d (t_2 m_3 p_4:Addr) (lots_5 deals_9 i_10:Int) (d_11:Addr) (set_12 k_13:Int) (N2:Addr->Addr->Addr->Int->Int->Int->World->Prop) (K:Pw.T6) (w:World):Prop :=
 ∃ (I:Int->World->Prop) (μ:Int->World->Nat), I k_13 w/\∀ (k_131:Int) (w1:World), I k_131 w1 ->
 z26_b3 t_2 m_3 p_4 lots_5 deals_9 i_10 d_11 set_12 k_131 (fun t_2' m_3' p_4' lots_5' deals_9' i_10' d_11' set_12' k_13' w'=>((t_2'=t_2/\m_3'=m_3/\p_4'=p_4/\lots_5'=lots_5/\deals_9'=deals_9/\i_10'=i_10/\d_11'=d_11/\set_12'=set_12/\True)/\I k_13' w')/\μ k_13' w' < μ k_131 w1) N2 K w1
structure z26_l3 (t_2 m_3 p_4:Addr) (lots_5 deals_9 i_10:Int) (d_11:Addr) (set_12 k_13:Int) (N2:Addr->Addr->Addr->Int->Int->Int->World->Prop) (K:Pw.T6) (w:World):Prop where
 out:z26_l3d t_2 m_3 p_4 lots_5 deals_9 i_10 d_11 set_12 k_13 N2 K w
def z26_b2 (t_2 m_3 p_4:Addr) (lots_5 deals_9 i_10:Int) (N2:Addr->Addr->Addr->Int->Int->Int->World->Prop) (K:Pw.T6) (w:World):Prop :=
 cnd (decide (i_10 < deals_9))
 (z06_sh (some m_3) (4:Int) (fun r43 w42=>inR .i64 ((1:Int) + r43)/\z06_sh (some m_3) (6:Int) (fun r45 w44=>let w46 := w44.alloc (Obj.cells #[(Value.int .i64 0), (Value.slice none 0 0), (Value.int .i64 0)] 81)
 stN w46 (Addr.mk w44.heap.size 0 none) [(Value.int .i64 ((1:Int) + r43)), (Value.slice none 0 0), (Value.int .i64 r45)] fun w47=>0 <= lots_5/\inR .i64 ((IntKind.wrap .i64 ((1:Int) * 2 ^ (min lots_5.toNat (IntKind.bits .i64)))) - (1:Int))/\z06_sh (some m_3) ((IntKind.wrap .i64 ((1:Int) * 2 ^ (min lots_5.toNat (IntKind.bits .i64)))) - (1:Int)) (fun r49 w48=>inR .i64 ((1:Int) + r49)/\z26_l3 t_2 m_3 p_4 lots_5 deals_9 i_10 (Addr.mk w44.heap.size 0 none) ((1:Int) + r49) (0:Int) N2 K w48) w47) w42) w)
 (∃ x68:Sl, w.cell? p_4=some (Value.slice x68.p x68.l x68.c)/\∃ x69:Sl, w.cell? (p_4.add 1)=some (Value.slice x69.p x69.l x69.c)/\∃ x70:Sl, w.cell? (p_4.add 2)=some (Value.slice x70.p x70.l x70.c)/\∃ x71:Int, w.cell? (p_4.add 3)=some (Value.int .i64 x71)/\∃ x72:Int, w.cell? (p_4.add 4)=some (Value.int .i64 x72)/\stN w t_2 [(Value.slice x68.p x68.l x68.c), (Value.slice x69.p x69.l x69.c), (Value.slice x70.p x70.l x70.c), (Value.int .i64 x71), (Value.int .i64 x72)] fun w73=>∃ x74:Sl, w73.cell? t_2=some (Value.slice x74.p x74.l x74.c)/\∃ x75:Sl, w73.cell? (t_2.add 1)=some (Value.slice x75.p x75.l x75.c)/\∃ x76:Sl, w73.cell? (t_2.add 2)=some (Value.slice x76.p x76.l x76.c)/\∃ x77:Int, w73.cell? (t_2.add 3)=some (Value.int .i64 x77)/\∃ x78:Int, w73.cell? (t_2.add 4)=some (Value.int .i64 x78)/\K x74 x75 x76 x77 x78 w73)
def z26_l2d (t_2 m_3 p_4:Addr) (lots_5 deals_9 i_10:Int) (K:Pw.T6) (w:World):Prop :=
 ∃ (I:Int->World->Prop) (μ:Int->World->Nat), I i_10 w/\∀ (i_101:Int) (w1:World), I i_101 w1 ->
 z26_b2 t_2 m_3 p_4 lots_5 deals_9 i_101 (fun t_2' m_3' p_4' lots_5' deals_9' i_10' w'=>((t_2'=t_2/\m_3'=m_3/\p_4'=p_4/\lots_5'=lots_5/\deals_9'=deals_9/\True)/\I i_10' w')/\μ i_10' w' < μ i_101 w1) K w1
structure z26_l2 (t_2 m_3 p_4:Addr) (lots_5 deals_9 i_10:Int) (K:Pw.T6) (w:World):Prop where
 out:z26_l2d t_2 m_3 p_4 lots_5 deals_9 i_10 K w
def z26_b1 (t_2 m_3 p_4:Addr) (lots_5 choices_7 i_8:Int) (N1:Addr->Addr->Addr->Int->Int->Int->World->Prop) (K:Pw.T6) (w:World):Prop :=
 cnd (decide (i_8 < choices_7))
 (let w22 := w.drew
 ∃ S23:World->Prop, S23 w22/\∃ x24:Sl, (∀ w':World, S23 w'->w'.cell? (p_4.add 1)=some (Value.slice x24.p x24.l x24.c))/\∃ x25:Sl, (∀ w':World, S23 w'->w'.cell? p_4=some (Value.slice x25.p x25.l x25.c))/\z06_sh (some m_3) lots_5 (fun r27 w26=>S23 w26/\nz x25.p fun a28=>(0 <= r27/\r27 < (x25.l:Nat))/\∃ x29:Int, (∀ w':World, S23 w'->w'.cell? (a28.add (r27.toNat * 1))=some (Value.int .i64 x29))/\z06_sh (some m_3) (4:Int) (fun r31 w30=>S23 w30/\inR .i64 ((1:Int) + r31)/\z06_sh (some m_3) (12:Int) (fun r33 w32=>S23 w32/\z06_sh (some m_3) (6:Int) (fun r35 w34=>S23 w34/\let w36 := w34.alloc (Obj.cells #[(Value.int .i64 x29), (Value.int .i64 ((1:Int) + r31)), (Value.int .i64 r33), (Value.int .i64 r35)] 57)
 S23 w36/\apS 4 32 [(Value.int .i64 0), (Value.int .i64 0), (Value.int .i64 0), (Value.int .i64 0)] 57 x24 (Sl.mk (some (Addr.mk w34.heap.size 0 none)) 1 1) w36 fun s37 w38=>S23 w38/\wrOk w38 (p_4.add 1)/\
 (let w39 := w38.setCell (p_4.add 1) (Value.slice s37.p s37.l s37.c)
 inR .i64 (i_8 + (1:Int))/\N1 t_2 m_3 p_4 lots_5 choices_7 (i_8 + (1:Int)) w39)) w32) w30) w26) w22)
 (z06_sh (some m_3) (4:Int) (fun r41 w40=>z26_l2 t_2 m_3 p_4 lots_5 r41 (0:Int) K w40) w)
def z26_l1d (t_2 m_3 p_4:Addr) (lots_5 choices_7 i_8:Int) (K:Pw.T6) (w:World):Prop :=
 ∃ (I:Int->World->Prop) (μ:Int->World->Nat), I i_8 w/\∀ (i_81:Int) (w1:World), I i_81 w1 ->
 z26_b1 t_2 m_3 p_4 lots_5 choices_7 i_81 (fun t_2' m_3' p_4' lots_5' choices_7' i_8' w'=>((t_2'=t_2/\m_3'=m_3/\p_4'=p_4/\lots_5'=lots_5/\choices_7'=choices_7/\True)/\I i_8' w')/\μ i_8' w' < μ i_81 w1) K w1
structure z26_l1 (t_2 m_3 p_4:Addr) (lots_5 choices_7 i_8:Int) (K:Pw.T6) (w:World):Prop where
 out:z26_l1d t_2 m_3 p_4 lots_5 choices_7 i_8 K w
def z26_b0 (t_2 m_3 p_4:Addr) (lots_5 i_6:Int) (N0:Addr->Addr->Addr->Int->Int->World->Prop) (K:Pw.T6) (w:World):Prop :=
 cnd (decide (i_6 < lots_5))
 (let w11 := w.drew
 ∃ S12:World->Prop, S12 w11/\∃ x13:Sl, (∀ w':World, S12 w'->w'.cell? p_4=some (Value.slice x13.p x13.l x13.c))/\inR .i64 ((3:Int) * i_6)/\inR .i64 ((10:Int) + ((3:Int) * i_6))/\z06_sh (some m_3) (2:Int) (fun r15 w14=>S12 w14/\inR .i64 ((2:Int) * r15)/\inR .i64 (((10:Int) + ((3:Int) * i_6)) - ((2:Int) * r15))/\let w16 := w14.alloc (Obj.cells #[(Value.int .i64 (((10:Int) + ((3:Int) * i_6)) - ((2:Int) * r15)))] 3)
 S12 w16/\apS 1 8 [(Value.int .i64 0)] 3 x13 (Sl.mk (some (Addr.mk w14.heap.size 0 none)) 1 1) w16 fun s17 w18=>wrOk w18 p_4/\
 (let w19 := w18.setCell p_4 (Value.slice s17.p s17.l s17.c)
 inR .i64 (i_6 + (1:Int))/\N0 t_2 m_3 p_4 lots_5 (i_6 + (1:Int)) w19)) w11)
 (z06_sh (some m_3) (13:Int) (fun r21 w20=>z26_l1 t_2 m_3 p_4 lots_5 r21 (0:Int) K w20) w)
def z26_l0d (t_2 m_3 p_4:Addr) (lots_5 i_6:Int) (K:Pw.T6) (w:World):Prop :=
 ∃ (I:Int->World->Prop) (μ:Int->World->Nat), I i_6 w/\∀ (i_61:Int) (w1:World), I i_61 w1 ->
 z26_b0 t_2 m_3 p_4 lots_5 i_61 (fun t_2' m_3' p_4' lots_5' i_6' w'=>((t_2'=t_2/\m_3'=m_3/\p_4'=p_4/\lots_5'=lots_5/\True)/\I i_6' w')/\μ i_6' w' < μ i_61 w1) K w1
structure z26_l0 (t_2 m_3 p_4:Addr) (lots_5 i_6:Int) (K:Pw.T6) (w:World):Prop where
 out:z26_l0d t_2 m_3 p_4 lots_5 i_6 K w
def z26_sd (l_0:Sl) (K:Pw.T6) (w:World):Prop :=
 let w1 := w.alloc (Obj.cells #[(Value.slice none 0 0), (Value.slice none 0 0), (Value.slice none 0 0), (Value.int .i64 0), (Value.int .i64 0)] 28)
 let w2 := w1.alloc (Obj.cells #[(Value.slice l_0.p l_0.l l_0.c), (Value.int .i64 0)] 78)
 z06_sh (some (Addr.mk w1.heap.size 0 none)) (4:Int) (fun r4 w3=>z06_sh (some (Addr.mk w1.heap.size 0 none)) (30:Int) (fun r6 w5=>let w7 := w5.alloc (Obj.cells #[(Value.slice none 0 0), (Value.slice none 0 0), (Value.slice none 0 0), (Value.int .i64 0), (Value.int .i64 0)] 28)
 stN w7 (Addr.mk w5.heap.size 0 none) [(Value.slice none 0 0), (Value.slice none 0 0), (Value.slice none 0 0), (Value.int .i64 r4), (Value.int .i64 r6)] fun w8=>z06_sh (some (Addr.mk w1.heap.size 0 none)) (4:Int) (fun r10 w9=>inR .i64 ((1:Int) + r10)/\z26_l0 (Addr.mk w.heap.size 0 none) (Addr.mk w1.heap.size 0 none) (Addr.mk w5.heap.size 0 none) ((1:Int) + r10) (0:Int) K w9) w8) w3) w2
structure z26_sh (l_0:Sl) (K:Pw.T6) (w:World):Prop where
 out:z26_sd l_0 K w
def z26_L0 (Kv:VW):Cur [tQ, tQ, tQ, tI, tI] WP := fun t_2 m_3 p_4 lots_5 i_6=>z26_l0 t_2 m_3 p_4 lots_5 i_6 (kk [.g 5, tL, tL, tL, tI, tI] Kv)
def z26_L1 (Kv:VW):Cur [tQ, tQ, tQ, tI, tI, tI] WP := fun t_2 m_3 p_4 lots_5 choices_7 i_8=>z26_l1 t_2 m_3 p_4 lots_5 choices_7 i_8 (kk [.g 5, tL, tL, tL, tI, tI] Kv)
def z26_L2 (Kv:VW):Cur [tQ, tQ, tQ, tI, tI, tI] WP := fun t_2 m_3 p_4 lots_5 deals_9 i_10=>z26_l2 t_2 m_3 p_4 lots_5 deals_9 i_10 (kk [.g 5, tL, tL, tL, tI, tI] Kv)
def z26_L3 (Kv:VW):Cur [tQ, tQ, tQ, tI, tI, tI] WP->Cur [tQ, tQ, tQ, tI, tI, tI, tQ, tI, tI] WP := fun N2 t_2 m_3 p_4 lots_5 deals_9 i_10 d_11 set_12 k_13=>z26_l3 t_2 m_3 p_4 lots_5 deals_9 i_10 d_11 set_12 k_13 N2 (kk [.g 5, tL, tL, tL, tI, tI] Kv)
noncomputable def z26_S:Pw.Spec := fun vs w Kv=>un [tL] (fun l_0=>z26_sh l_0 (kk [.g 5, tL, tL, tL, tI, tI] Kv)) nF vs w
def z26_A (Kv:VW):A := (qr 1 (qr 4 (qr 7 (qr 4 (qs (qr 1 (qb (A.loop [2, 3, 4, 5, 6] (uR0 [tQ, tQ, tQ, tI, tI] (z26_L0 Kv)) (qs (qr 3 (qc ql ql)) (qs (qb (A.drw (dp [0, 1, 2, 3, 4, 5] (DA.eff 6 (dp [7, 8] (DA.eff 9 (DA.eff 10 (DA.pur 11 (DA.eff 12 DA.done))))))))) (qe 3)))))) (qr 3 (qs (qr 1 (qb (A.loop [2, 3, 4, 5, 7, 8] (uR0 [tQ, tQ, tQ, tI, tI, tI] (z26_L1 Kv)) (qs (qr 3 (qc ql ql)) (qs (qb (A.drw (dp [0, 1, 2, 3, 4, 5, 9, 12, 14] (DA.eff 6 (dp [7, 8] (DA.eff 10 (DA.pur 11 (DA.eff 13 (DA.eff 15 (DA.pur 16 (DA.eff 17 (DA.eff 18 (DA.pur 19 (DA.eff 20 DA.done)))))))))))))) (qe 3)))))) (qr 3 (qs (qr 1 (qb (A.loop [2, 3, 4, 5, 9, 10] (uR0 [tQ, tQ, tQ, tI, tI, tI] (z26_L2 Kv)) (qs (qr 3 (qc ql ql)) (qs (qb (qr 8 (qr 7 (qs (qr 1 (qb (A.loop [2, 3, 4, 5, 9, 10, 11, 12, 13] (uR1 [tQ, tQ, tQ, tI, tI, tI] [tQ, tQ, tQ, tI, tI, tI, tQ, tI, tI] (z26_L3 Kv)) (qs (qr 3 (qc ql ql)) (qs (qb (qr 5 (qc (A.drw (dp [0, 1, 2, 3, 4, 5, 6] (DA.eff 7 (DA.eff 8 (DA.pur 9 (DA.eff 10 DA.done)))))) ql))) (qe 3)))))) (qe 7))))) (qe 3)))))) (qr 2 ql))))))))))
theorem z26_ok:Sound Tryz.prog 11 z26_S := okS (x := z26_A) (fun Kv l_0=>z26_sd l_0 (kk [.g 5, tL, tL, tL, tI, tI] Kv)) progMixed (Γ := [(34, z06_S)]) ⟨.inl z06_ok, trivial⟩ Tryz.call11 Tryz.func11 (fun Kv=>hStep (hLoop0 (L := z26_L0 Kv) (fun N0 t_2 m_3 p_4 lots_5 i_6=>z26_b0 t_2 m_3 p_4 lots_5 i_6 N0 (kk [.g 5, tL, tL, tL, tI, tI] Kv)) (fun ⟨a0, a1, a2, a3, _, _⟩ _ h=>let ⟨I, μ, h0, hr⟩ := h.out; ⟨fun b0 b1 b2 b3 b4 w=>(b0=a0/\b1=a1/\b2=a2/\b3=a3/\True)/\I b4 w, fun _ _ _ _ b4 w=>μ b4 w, ⟨⟨rfl, rfl, rfl, rfl, trivial⟩, h0⟩, fun ⟨_, _, _, _, _, _⟩ _ ⟨⟨e0, e1, e2, e3, _⟩, hI⟩=>by cases e0; cases e1; cases e2; cases e3; exact hr _ _ hI⟩)) <| hStep (hLoop0 (L := z26_L1 Kv) (fun N1 t_2 m_3 p_4 lots_5 choices_7 i_8=>z26_b1 t_2 m_3 p_4 lots_5 choices_7 i_8 N1 (kk [.g 5, tL, tL, tL, tI, tI] Kv)) (fun ⟨a0, a1, a2, a3, a4, _, _⟩ _ h=>let ⟨I, μ, h0, hr⟩ := h.out; ⟨fun b0 b1 b2 b3 b4 b5 w=>(b0=a0/\b1=a1/\b2=a2/\b3=a3/\b4=a4/\True)/\I b5 w, fun _ _ _ _ _ b5 w=>μ b5 w, ⟨⟨rfl, rfl, rfl, rfl, rfl, trivial⟩, h0⟩, fun ⟨_, _, _, _, _, _, _⟩ _ ⟨⟨e0, e1, e2, e3, e4, _⟩, hI⟩=>by cases e0; cases e1; cases e2; cases e3; cases e4; exact hr _ _ hI⟩)) <| hStep (hLoop0 (L := z26_L2 Kv) (fun N2 t_2 m_3 p_4 lots_5 deals_9 i_10=>z26_b2 t_2 m_3 p_4 lots_5 deals_9 i_10 N2 (kk [.g 5, tL, tL, tL, tI, tI] Kv)) (fun ⟨a0, a1, a2, a3, a4, _, _⟩ _ h=>let ⟨I, μ, h0, hr⟩ := h.out; ⟨fun b0 b1 b2 b3 b4 b5 w=>(b0=a0/\b1=a1/\b2=a2/\b3=a3/\b4=a4/\True)/\I b5 w, fun _ _ _ _ _ b5 w=>μ b5 w, ⟨⟨rfl, rfl, rfl, rfl, rfl, trivial⟩, h0⟩, fun ⟨_, _, _, _, _, _, _⟩ _ ⟨⟨e0, e1, e2, e3, e4, _⟩, hI⟩=>by cases e0; cases e1; cases e2; cases e3; cases e4; exact hr _ _ hI⟩)) <| hStep (hLoop1 (L := z26_L3 Kv) (fun N2 N3 t_2 m_3 p_4 lots_5 deals_9 i_10 d_11 set_12 k_13=>z26_b3 t_2 m_3 p_4 lots_5 deals_9 i_10 d_11 set_12 k_13 N3 N2 (kk [.g 5, tL, tL, tL, tI, tI] Kv)) (fun _ ⟨a0, a1, a2, a3, a4, a5, a6, a7, _, _⟩ _ h=>let ⟨I, μ, h0, hr⟩ := h.out; ⟨fun b0 b1 b2 b3 b4 b5 b6 b7 b8 w=>(b0=a0/\b1=a1/\b2=a2/\b3=a3/\b4=a4/\b5=a5/\b6=a6/\b7=a7/\True)/\I b8 w, fun _ _ _ _ _ _ _ _ b8 w=>μ b8 w, ⟨⟨rfl, rfl, rfl, rfl, rfl, rfl, rfl, rfl, trivial⟩, h0⟩, fun ⟨_, _, _, _, _, _, _, _, _, _⟩ _ ⟨⟨e0, e1, e2, e3, e4, e5, e6, e7, _⟩, hI⟩=>by cases e0; cases e1; cases e2; cases e3; cases e4; cases e5; cases e6; cases e7; exact hr _ _ hI⟩)) <| hEnd)
def z0q_b0 (l_0:Sl) (n_1 i_5:Int) (N0:Sl->Int->Int->World->Prop) (K:Pw.T0) (w:World):Prop :=
 cnd (decide (i_5 < (l_0.l:Int)))
 (nz l_0.p fun a1=>(0 <= i_5/\i_5 < (l_0.l:Nat))/\∃ x2:Int, w.cell? (a1.add (i_5.toNat * 1))=some (Value.int .i64 x2)/\cnd (x2 == n_1)
 (K true w)
 (inR .i64 (i_5 + (1:Int))/\N0 l_0 n_1 (i_5 + (1:Int)) w))
 (K false w)
def z0q_l0d (l_0:Sl) (n_1 i_5:Int) (K:Pw.T0) (w:World):Prop :=
 ∃ (I:Int->World->Prop) (μ:Int->World->Nat), I i_5 w/\∀ (i_51:Int) (w1:World), I i_51 w1 ->
 z0q_b0 l_0 n_1 i_51 (fun l_0' n_1' i_5' w'=>((l_0'=l_0/\n_1'=n_1/\True)/\I i_5' w')/\μ i_5' w' < μ i_51 w1) K w1
structure z0q_l0 (l_0:Sl) (n_1 i_5:Int) (K:Pw.T0) (w:World):Prop where
 out:z0q_l0d l_0 n_1 i_5 K w
def z0q_sd (l_0:Sl) (n_1:Int) (K:Pw.T0) (w:World):Prop :=
 z0q_l0 l_0 n_1 (0:Int) K w
structure z0q_sh (l_0:Sl) (n_1:Int) (K:Pw.T0) (w:World):Prop where
 out:z0q_sd l_0 n_1 K w
def z0q_L0 (Kv:VW):Cur [tL, tI, tI] WP := fun l_0 n_1 i_5=>z0q_l0 l_0 n_1 i_5 (kk [tB] Kv)
noncomputable def z0q_S:Pw.Spec := fun vs w Kv=>un [tL, tI] (fun l_0 n_1=>z0q_sh l_0 n_1 (kk [tB] Kv)) nF vs w
def z0q_A (Kv:VW):A := (qr 1 (qs (qr 1 (qb (A.loop [0, 1, 5] (uR0 [tL, tI, tI] (z0q_L0 Kv)) (qs (qr 4 (qc ql ql)) (qs (qb (qr 6 (qc (qr 1 ql) ql))) (qe 3)))))) (qr 1 ql)))
theorem z0q_ok:Sound Tryz.prog 95 z0q_S := okS (x := z0q_A) (fun Kv l_0 n_1=>z0q_sd l_0 n_1 (kk [tB] Kv)) progMixed (Γ := []) trivial Tryz.call95 Tryz.func95 (fun Kv=>hStep (hLoop0 (L := z0q_L0 Kv) (fun N0 l_0 n_1 i_5=>z0q_b0 l_0 n_1 i_5 N0 (kk [tB] Kv)) (fun ⟨a0, a1, _, _⟩ _ h=>let ⟨I, μ, h0, hr⟩ := h.out; ⟨fun b0 b1 b2 w=>(b0=a0/\b1=a1/\True)/\I b2 w, fun _ _ b2 w=>μ b2 w, ⟨⟨rfl, rfl, trivial⟩, h0⟩, fun ⟨_, _, _, _⟩ _ ⟨⟨e0, e1, _⟩, hI⟩=>by cases e0; cases e1; exact hr _ _ hI⟩)) <| hEnd)
def z0j_b0 (l_0:Sl) (i_3:Int) (N0:Sl->Int->World->Prop) (K:Pw.T0) (w:World):Prop :=
 cnd (decide (i_3 < (l_0.l:Int)))
 (let w1 := w.drew
 ∃ S2:World->Prop, S2 w1/\(0 <= (0:Int)/\(0:Int) <= i_3/\i_3 <= (l_0.c:Nat))/\nz l_0.p fun a3=>(0 <= i_3/\i_3 < (l_0.l:Nat))/\∃ x4:Int, (∀ w':World, S2 w'->w'.cell? (a3.add (i_3.toNat * 1))=some (Value.int .i64 x4))/\z0q_sh (Sl.mk (subP l_0.p 0 l_0.c 1) (i_3.toNat - 0) (l_0.c - 0)) x4 (fun r6 w5=>cnd r6
 (K false w5)
 (inR .i64 (i_3 + (1:Int))/\N0 l_0 (i_3 + (1:Int)) w5)) w1)
 (K true w)
def z0j_l0d (l_0:Sl) (i_3:Int) (K:Pw.T0) (w:World):Prop :=
 ∃ (I:Int->World->Prop) (μ:Int->World->Nat), I i_3 w/\∀ (i_31:Int) (w1:World), I i_31 w1 ->
 z0j_b0 l_0 i_31 (fun l_0' i_3' w'=>((l_0'=l_0/\True)/\I i_3' w')/\μ i_3' w' < μ i_31 w1) K w1
structure z0j_l0 (l_0:Sl) (i_3:Int) (K:Pw.T0) (w:World):Prop where
 out:z0j_l0d l_0 i_3 K w
def z0j_sd (l_0:Sl) (K:Pw.T0) (w:World):Prop :=
 z0j_l0 l_0 (0:Int) K w
structure z0j_sh (l_0:Sl) (K:Pw.T0) (w:World):Prop where
 out:z0j_sd l_0 K w
def z0j_L0 (Kv:VW):Cur [tL, tI] WP := fun l_0 i_3=>z0j_l0 l_0 i_3 (kk [tB] Kv)
noncomputable def z0j_S:Pw.Spec := fun vs w Kv=>un [tL] (fun l_0=>z0j_sh l_0 (kk [tB] Kv)) nF vs w
def z0j_A (Kv:VW):A := (qr 1 (qs (qr 1 (qb (A.loop [0, 3] (uR0 [tL, tI] (z0j_L0 Kv)) (qs (qr 4 (qc ql ql)) (qs (qb (qs (A.drw (dp [0, 1, 2, 3, 4, 5, 6] (DA.eff 7 DA.done))) (qc (qr 1 ql) ql))) (qe 3)))))) (qr 1 ql)))
theorem z0j_ok:Sound Tryz.prog 93 z0j_S := okS (x := z0j_A) (fun Kv l_0=>z0j_sd l_0 (kk [tB] Kv)) progMixed (Γ := [(95, z0q_S)]) ⟨.inl z0q_ok, trivial⟩ Tryz.call93 Tryz.func93 (fun Kv=>hStep (hLoop0 (L := z0j_L0 Kv) (fun N0 l_0 i_3=>z0j_b0 l_0 i_3 N0 (kk [tB] Kv)) (fun ⟨a0, _, _⟩ _ h=>let ⟨I, μ, h0, hr⟩ := h.out; ⟨fun b0 b1 w=>(b0=a0/\True)/\I b1 w, fun _ b1 w=>μ b1 w, ⟨⟨rfl, trivial⟩, h0⟩, fun ⟨_, _, _⟩ _ ⟨⟨e0, _⟩, hI⟩=>by cases e0; exact hr _ _ hI⟩)) <| hEnd)
def z1g_sd (n_0 most_1:Int) (K:Pw.T0) (w:World):Prop :=
 cnd (decide (n_0 >= (0:Int)))
 (K (decide (n_0 <= most_1)) w)
 (K false w)
structure z1g_sh (n_0 most_1:Int) (K:Pw.T0) (w:World):Prop where
 out:z1g_sd n_0 most_1 K w
noncomputable def z1g_S:Pw.Spec := fun vs w Kv=>un [tI, tI] (fun n_0 most_1=>z1g_sh n_0 most_1 (kk [tB] Kv)) nF vs w
def z1g_A (_:VW):A := (qr 1 (qs (A.reg (qn 3 (RA.spl 7 (qn 5 RA.done) (qk 3 (qn 2 RA.done))))) ql))
theorem z1g_ok:Sound Tryz.prog 94 z1g_S := okS (x := z1g_A) (fun Kv n_0 most_1=>z1g_sd n_0 most_1 (kk [tB] Kv)) progMixed (Γ := []) trivial Tryz.call94 Tryz.func94 (fun _=>hEnd)
def z1u_b2 (p_1:Addr) (i_5:Int) (d_6:Addr) (k_7:Int) (N2:Addr->Int->Addr->Int->World->Prop) (N1:Addr->Int->World->Prop) (K:Pw.T0) (w:World):Prop :=
 ∃ x49:Sl, w.cell? (d_6.add 1)=some (Value.slice x49.p x49.l x49.c)/\cnd (decide (k_7 < (x49.l:Int)))
 (let w50 := w.drew
 ∃ S51:World->Prop, S51 w50/\∃ x52:Sl, (∀ w':World, S51 w'->w'.cell? p_1=some (Value.slice x52.p x52.l x52.c))/\∃ x53:Sl, (∀ w':World, S51 w'->w'.cell? (d_6.add 1)=some (Value.slice x53.p x53.l x53.c))/\nz x53.p fun a54=>(0 <= k_7/\k_7 < (x53.l:Nat))/\∃ x55:Int, (∀ w':World, S51 w'->w'.cell? (a54.add (k_7.toNat * 1))=some (Value.int .i64 x55))/\z0q_sh x52 x55 (fun r57 w56=>S51 w56/\cnd (!r57)
 (K false w56)
 (inR .i64 (k_7 + (1:Int))/\N2 p_1 i_5 d_6 (k_7 + (1:Int)) w56)) w50)
 (inR .i64 (i_5 + (1:Int))/\N1 p_1 (i_5 + (1:Int)) w)
def z1u_l2d (p_1:Addr) (i_5:Int) (d_6:Addr) (k_7:Int) (N1:Addr->Int->World->Prop) (K:Pw.T0) (w:World):Prop :=
 ∃ (I:Int->World->Prop) (μ:Int->World->Nat), I k_7 w/\∀ (k_71:Int) (w1:World), I k_71 w1 ->
 z1u_b2 p_1 i_5 d_6 k_71 (fun p_1' i_5' d_6' k_7' w'=>((p_1'=p_1/\i_5'=i_5/\d_6'=d_6/\True)/\I k_7' w')/\μ k_7' w' < μ k_71 w1) N1 K w1
structure z1u_l2 (p_1:Addr) (i_5:Int) (d_6:Addr) (k_7:Int) (N1:Addr->Int->World->Prop) (K:Pw.T0) (w:World):Prop where
 out:z1u_l2d p_1 i_5 d_6 k_7 N1 K w
def z1u_b1 (p_1:Addr) (i_5:Int) (N1:Addr->Int->World->Prop) (K:Pw.T0) (w:World):Prop :=
 ∃ x34:Sl, w.cell? (p_1.add 2)=some (Value.slice x34.p x34.l x34.c)/\cnd (decide (i_5 < (x34.l:Int)))
 (∃ x35:Sl, w.cell? (p_1.add 2)=some (Value.slice x35.p x35.l x35.c)/\nz x35.p fun a36=>(0 <= i_5/\i_5 < (x35.l:Nat))/\∃ x37:Int, w.cell? (a36.add (i_5.toNat * 3))=some (Value.int .i64 x37)/\∃ x38:Sl, w.cell? ((a36.add (i_5.toNat * 3)).add 1)=some (Value.slice x38.p x38.l x38.c)/\∃ x39:Int, w.cell? ((a36.add (i_5.toNat * 3)).add 2)=some (Value.int .i64 x39)/\let w40 := w.alloc (Obj.cells #[(Value.int .i64 0), (Value.slice none 0 0), (Value.int .i64 0)] 81)
 stN w40 (Addr.mk w.heap.size 0 none) [(Value.int .i64 x37), (Value.slice x38.p x38.l x38.c), (Value.int .i64 x39)] fun w41=>∃ x42:Sl, w41.cell? (Addr.mk w.heap.size 1 none)=some (Value.slice x42.p x42.l x42.c)/\cnd ((x42.l:Int) == (0:Int))
 (K false w41)
 (∃ x43:Sl, w41.cell? (Addr.mk w.heap.size 1 none)=some (Value.slice x43.p x43.l x43.c)/\z0j_sh x43 (fun r45 w44=>cnd (!r45)
 (K false w44)
 (∃ x46:Int, w44.cell? (Addr.mk w.heap.size 2 none)=some (Value.int .i64 x46)/\z1g_sh x46 (1000000000:Int) (fun r48 w47=>cnd (!r48)
 (K false w47)
 (z1u_l2 p_1 i_5 (Addr.mk w.heap.size 0 none) (0:Int) N1 K w47)) w44)) w41))
 (K true w)
def z1u_l1d (p_1:Addr) (i_5:Int) (K:Pw.T0) (w:World):Prop :=
 ∃ (I:Int->World->Prop) (μ:Int->World->Nat), I i_5 w/\∀ (i_51:Int) (w1:World), I i_51 w1 ->
 z1u_b1 p_1 i_51 (fun p_1' i_5' w'=>((p_1'=p_1/\True)/\I i_5' w')/\μ i_5' w' < μ i_51 w1) K w1
structure z1u_l1 (p_1:Addr) (i_5:Int) (K:Pw.T0) (w:World):Prop where
 out:z1u_l1d p_1 i_5 K w
def z1u_b0 (p_1:Addr) (i_3:Int) (N0:Addr->Int->World->Prop) (K:Pw.T0) (w:World):Prop :=
 ∃ x15:Sl, w.cell? (p_1.add 1)=some (Value.slice x15.p x15.l x15.c)/\cnd (decide (i_3 < (x15.l:Int)))
 (∃ x16:Sl, w.cell? (p_1.add 1)=some (Value.slice x16.p x16.l x16.c)/\nz x16.p fun a17=>(0 <= i_3/\i_3 < (x16.l:Nat))/\∃ x18:Int, w.cell? (a17.add (i_3.toNat * 4))=some (Value.int .i64 x18)/\∃ x19:Int, w.cell? ((a17.add (i_3.toNat * 4)).add 1)=some (Value.int .i64 x19)/\∃ x20:Int, w.cell? ((a17.add (i_3.toNat * 4)).add 2)=some (Value.int .i64 x20)/\∃ x21:Int, w.cell? ((a17.add (i_3.toNat * 4)).add 3)=some (Value.int .i64 x21)/\let w22 := w.alloc (Obj.cells #[(Value.int .i64 0), (Value.int .i64 0), (Value.int .i64 0), (Value.int .i64 0)] 57)
 stN w22 (Addr.mk w.heap.size 0 none) [(Value.int .i64 x18), (Value.int .i64 x19), (Value.int .i64 x20), (Value.int .i64 x21)] fun w23=>∃ x24:Sl, w23.cell? p_1=some (Value.slice x24.p x24.l x24.c)/\∃ x25:Int, w23.cell? (Addr.mk w.heap.size 0 none)=some (Value.int .i64 x25)/\z0q_sh x24 x25 (fun r27 w26=>cnd (!r27)
 (K false w26)
 (∃ x28:Int, w26.cell? (Addr.mk w.heap.size 2 none)=some (Value.int .i64 x28)/\z1g_sh x28 (1000000000:Int) (fun r30 w29=>cnd (!r30)
 (K false w29)
 (∃ x31:Int, w29.cell? (Addr.mk w.heap.size 3 none)=some (Value.int .i64 x31)/\z1g_sh x31 (1000000:Int) (fun r33 w32=>cnd (!r33)
 (K false w32)
 (inR .i64 (i_3 + (1:Int))/\N0 p_1 (i_3 + (1:Int)) w32)) w29)) w26)) w23)
 (z1u_l1 p_1 (0:Int) K w)
def z1u_l0d (p_1:Addr) (i_3:Int) (K:Pw.T0) (w:World):Prop :=
 ∃ (I:Int->World->Prop) (μ:Int->World->Nat), I i_3 w/\∀ (i_31:Int) (w1:World), I i_31 w1 ->
 z1u_b0 p_1 i_31 (fun p_1' i_3' w'=>((p_1'=p_1/\True)/\I i_3' w')/\μ i_3' w' < μ i_31 w1) K w1
structure z1u_l0 (p_1:Addr) (i_3:Int) (K:Pw.T0) (w:World):Prop where
 out:z1u_l0d p_1 i_3 K w
def z1u_sd (p_0_0 p_0_1 p_0_2:Sl) (p_0_3 p_0_4:Int) (K:Pw.T0) (w:World):Prop :=
 let w1 := w.alloc (Obj.cells #[(Value.slice p_0_0.p p_0_0.l p_0_0.c), (Value.slice p_0_1.p p_0_1.l p_0_1.c), (Value.slice p_0_2.p p_0_2.l p_0_2.c), (Value.int .i64 p_0_3), (Value.int .i64 p_0_4)] 28)
 ∃ x2:Sl, w1.cell? (Addr.mk w.heap.size 0 none)=some (Value.slice x2.p x2.l x2.c)/\cnd (decide ((x2.l:Int) < (1:Int)))
 (K false w1)
 (∃ x3:Sl, w1.cell? (Addr.mk w.heap.size 0 none)=some (Value.slice x3.p x3.l x3.c)/\cnd (decide ((x3.l:Int) > (12:Int)))
 (K false w1)
 (∃ x4:Sl, w1.cell? (Addr.mk w.heap.size 0 none)=some (Value.slice x4.p x4.l x4.c)/\z0j_sh x4 (fun r6 w5=>cnd (!r6)
 (K false w5)
 (∃ x7:Sl, w5.cell? (Addr.mk w.heap.size 1 none)=some (Value.slice x7.p x7.l x7.c)/\cnd (decide ((x7.l:Int) > (480:Int)))
 (K false w5)
 (∃ x8:Sl, w5.cell? (Addr.mk w.heap.size 2 none)=some (Value.slice x8.p x8.l x8.c)/\cnd (decide ((x8.l:Int) > (100:Int)))
 (K false w5)
 (∃ x9:Int, w5.cell? (Addr.mk w.heap.size 3 none)=some (Value.int .i64 x9)/\z1g_sh x9 (1000000000:Int) (fun r11 w10=>cnd (!r11)
 (K false w10)
 (∃ x12:Int, w10.cell? (Addr.mk w.heap.size 4 none)=some (Value.int .i64 x12)/\z1g_sh x12 (1000000000:Int) (fun r14 w13=>cnd (!r14)
 (K false w13)
 (z1u_l0 (Addr.mk w.heap.size 0 none) (0:Int) K w13)) w10)) w5)))) w1))
structure z1u_sh (p_0_0 p_0_1 p_0_2:Sl) (p_0_3 p_0_4:Int) (K:Pw.T0) (w:World):Prop where
 out:z1u_sd p_0_0 p_0_1 p_0_2 p_0_3 p_0_4 K w
def z1u_L0 (Kv:VW):Cur [tQ, tI] WP := fun p_1 i_3=>z1u_l0 p_1 i_3 (kk [tB] Kv)
def z1u_L1 (Kv:VW):Cur [tQ, tI] WP := fun p_1 i_5=>z1u_l1 p_1 i_5 (kk [tB] Kv)
def z1u_L2 (Kv:VW):Cur [tQ, tI] WP->Cur [tQ, tI, tQ, tI] WP := fun N1 p_1 i_5 d_6 k_7=>z1u_l2 p_1 i_5 d_6 k_7 N1 (kk [tB] Kv)
noncomputable def z1u_S:Pw.Spec := fun vs w Kv=>un [.g 5, tL, tL, tL, tI, tI] (fun p_0_0 p_0_1 p_0_2 p_0_3 p_0_4=>z1u_sh p_0_0 p_0_1 p_0_2 p_0_3 p_0_4 (kk [tB] Kv)) nF vs w
def z1u_A (Kv:VW):A := (qr 2 (qs (qs (A.reg (qn 5 (RA.spl 12 (qk 4 (qn 2 (qk 4 (qn 2 (qk 4 (qn 2 (qk 4 (qn 2 (qk 4 (qn 2 (qk 4 (qn 1 RA.done)))))))))))) (qn 6 (RA.spl 18 (qk 4 (qn 2 (qk 4 (qn 2 (qk 4 (qn 2 (qk 4 (qn 2 (qk 4 (qn 1 RA.done)))))))))) (qn 6 (RA.spl 24 (qk 4 (qn 2 (qk 4 (qn 2 (qk 4 (qn 2 (qk 4 (qn 1 RA.done)))))))) (qn 6 (RA.spl 30 (qk 4 (qn 2 (qk 4 (qn 2 (qk 4 (qn 1 RA.done)))))) (qn 6 (RA.spl 36 (qk 4 (qn 2 (qk 4 (qn 1 RA.done)))) (qn 6 (RA.spl 42 (qk 4 (qn 1 RA.done)) (qn 5 RA.done)))))))))))))) (qc (qr 1 ql) ql)) (qs (qr 1 (qb (A.loop [1, 3] (uR0 [tQ, tI] (z1u_L0 Kv)) (qs (qr 5 (qc ql ql)) (qs (qb (qr 7 (qs (A.reg (qn 7 (RA.spl 66 (qk 4 (qn 2 (qk 4 (qn 1 RA.done)))) (qn 6 (RA.spl 72 (qk 4 (qn 1 RA.done)) (qn 5 RA.done)))))) (qc (qr 1 ql) ql)))) (qe 3)))))) (qs (qr 1 (qb (A.loop [1, 5] (uR0 [tQ, tI] (z1u_L1 Kv)) (qs (qr 5 (qc ql ql)) (qs (qb (qr 7 (qs (qs (A.reg (qn 5 (RA.spl 94 (qk 4 (qn 2 (qk 4 (qn 1 RA.done)))) (qn 6 (RA.spl 100 (qk 4 (qn 1 RA.done)) (qn 5 RA.done)))))) (qc (qr 1 ql) ql)) (qr 1 (qb (A.loop [1, 5, 6, 7] (uR1 [tQ, tI] [tQ, tI, tQ, tI] (z1u_L2 Kv)) (qs (qr 5 (qc ql ql)) (qs (qb (qs (A.drw (dp [0, 1, 2, 3, 4, 5, 6] (DA.eff 7 (DA.pur 8 DA.done)))) (qc (qr 1 ql) ql))) (qe 3))))))))) (qe 3)))))) (qr 1 ql)))))
theorem z1u_ok:Sound Tryz.prog 46 z1u_S := okS (x := z1u_A) (fun Kv p_0_0 p_0_1 p_0_2 p_0_3 p_0_4=>z1u_sd p_0_0 p_0_1 p_0_2 p_0_3 p_0_4 (kk [tB] Kv)) progMixed (Γ := [(93, z0j_S), (94, z1g_S), (95, z0q_S)]) ⟨.inl z0j_ok, .inl z1g_ok, .inl z0q_ok, trivial⟩ Tryz.call46 Tryz.func46 (fun Kv=>hStep (hLoop0 (L := z1u_L0 Kv) (fun N0 p_1 i_3=>z1u_b0 p_1 i_3 N0 (kk [tB] Kv)) (fun ⟨a0, _, _⟩ _ h=>let ⟨I, μ, h0, hr⟩ := h.out; ⟨fun b0 b1 w=>(b0=a0/\True)/\I b1 w, fun _ b1 w=>μ b1 w, ⟨⟨rfl, trivial⟩, h0⟩, fun ⟨_, _, _⟩ _ ⟨⟨e0, _⟩, hI⟩=>by cases e0; exact hr _ _ hI⟩)) <| hStep (hLoop0 (L := z1u_L1 Kv) (fun N1 p_1 i_5=>z1u_b1 p_1 i_5 N1 (kk [tB] Kv)) (fun ⟨a0, _, _⟩ _ h=>let ⟨I, μ, h0, hr⟩ := h.out; ⟨fun b0 b1 w=>(b0=a0/\True)/\I b1 w, fun _ b1 w=>μ b1 w, ⟨⟨rfl, trivial⟩, h0⟩, fun ⟨_, _, _⟩ _ ⟨⟨e0, _⟩, hI⟩=>by cases e0; exact hr _ _ hI⟩)) <| hStep (hLoop1 (L := z1u_L2 Kv) (fun N1 N2 p_1 i_5 d_6 k_7=>z1u_b2 p_1 i_5 d_6 k_7 N2 N1 (kk [tB] Kv)) (fun _ ⟨a0, a1, a2, _, _⟩ _ h=>let ⟨I, μ, h0, hr⟩ := h.out; ⟨fun b0 b1 b2 b3 w=>(b0=a0/\b1=a1/\b2=a2/\True)/\I b3 w, fun _ _ _ b3 w=>μ b3 w, ⟨⟨rfl, rfl, rfl, trivial⟩, h0⟩, fun ⟨_, _, _, _, _⟩ _ ⟨⟨e0, e1, e2, _⟩, hI⟩=>by cases e0; cases e1; cases e2; exact hr _ _ hI⟩)) <| hEnd)
def z1e_b0 (f_1:Sl) (p_2:Addr) (i_5:Int) (N0:Sl->Addr->Int->World->Prop) (K:Pw.T0) (w:World):Prop :=
 cnd (decide (i_5 < (f_1.l:Int)))
 (let w3 := w.drew
 nz f_1.p fun a4=>(0 <= i_5/\i_5 < (f_1.l:Nat))/\∃ x5:Int, w3.cell? (a4.add (i_5.toNat * 1))=some (Value.int .i64 x5)/\cnd (decide (x5 < (-1:Int)))
 (K false w3)
 (nz f_1.p fun a6=>(0 <= i_5/\i_5 < (f_1.l:Nat))/\∃ x7:Int, w3.cell? (a6.add (i_5.toNat * 1))=some (Value.int .i64 x7)/\∃ x8:Sl, w3.cell? (p_2.add 1)=some (Value.slice x8.p x8.l x8.c)/\cnd (decide (x7 >= (x8.l:Int)))
 (K false w3)
 (nz f_1.p fun a9=>(0 <= i_5/\i_5 < (f_1.l:Nat))/\∃ x10:Int, w3.cell? (a9.add (i_5.toNat * 1))=some (Value.int .i64 x10)/\cnd (decide (x10 >= (0:Int)))
 (∃ x11:Sl, w3.cell? (p_2.add 1)=some (Value.slice x11.p x11.l x11.c)/\nz f_1.p fun a12=>(0 <= i_5/\i_5 < (f_1.l:Nat))/\∃ x13:Int, w3.cell? (a12.add (i_5.toNat * 1))=some (Value.int .i64 x13)/\nz x11.p fun a14=>(0 <= x13/\x13 < (x11.l:Nat))/\∃ x15:Int, w3.cell? (a14.add (x13.toNat * 4))=some (Value.int .i64 x15)/\∃ x16:Sl, w3.cell? p_2=some (Value.slice x16.p x16.l x16.c)/\nz x16.p fun a17=>(0 <= i_5/\i_5 < (x16.l:Nat))/\∃ x18:Int, w3.cell? (a17.add (i_5.toNat * 1))=some (Value.int .i64 x18)/\cnd (x15 != x18)
 (K false w3)
 (inR .i64 (i_5 + (1:Int))/\N0 f_1 p_2 (i_5 + (1:Int)) w3))
 (inR .i64 (i_5 + (1:Int))/\N0 f_1 p_2 (i_5 + (1:Int)) w3))))
 (K true w)
def z1e_l0d (f_1:Sl) (p_2:Addr) (i_5:Int) (K:Pw.T0) (w:World):Prop :=
 ∃ (I:Int->World->Prop) (μ:Int->World->Nat), I i_5 w/\∀ (i_51:Int) (w1:World), I i_51 w1 ->
 z1e_b0 f_1 p_2 i_51 (fun f_1' p_2' i_5' w'=>((f_1'=f_1/\p_2'=p_2/\True)/\I i_5' w')/\μ i_5' w' < μ i_51 w1) K w1
structure z1e_l0 (f_1:Sl) (p_2:Addr) (i_5:Int) (K:Pw.T0) (w:World):Prop where
 out:z1e_l0d f_1 p_2 i_5 K w
def z1e_sd (p_0_0 p_0_1 p_0_2:Sl) (p_0_3 p_0_4:Int) (f_1:Sl) (K:Pw.T0) (w:World):Prop :=
 let w1 := w.alloc (Obj.cells #[(Value.slice p_0_0.p p_0_0.l p_0_0.c), (Value.slice p_0_1.p p_0_1.l p_0_1.c), (Value.slice p_0_2.p p_0_2.l p_0_2.c), (Value.int .i64 p_0_3), (Value.int .i64 p_0_4)] 28)
 ∃ x2:Sl, w1.cell? (Addr.mk w.heap.size 0 none)=some (Value.slice x2.p x2.l x2.c)/\cnd (decide ((f_1.l:Int) > (x2.l:Int)))
 (K false w1)
 (z1e_l0 f_1 (Addr.mk w.heap.size 0 none) (0:Int) K w1)
structure z1e_sh (p_0_0 p_0_1 p_0_2:Sl) (p_0_3 p_0_4:Int) (f_1:Sl) (K:Pw.T0) (w:World):Prop where
 out:z1e_sd p_0_0 p_0_1 p_0_2 p_0_3 p_0_4 f_1 K w
def z1e_L0 (Kv:VW):Cur [tL, tQ, tI] WP := fun f_1 p_2 i_5=>z1e_l0 f_1 p_2 i_5 (kk [tB] Kv)
noncomputable def z1e_S:Pw.Spec := fun vs w Kv=>un [.g 5, tL, tL, tL, tI, tI, tL] (fun p_0_0 p_0_1 p_0_2 p_0_3 p_0_4 f_1=>z1e_sh p_0_0 p_0_1 p_0_2 p_0_3 p_0_4 f_1 (kk [tB] Kv)) nF vs w
def z1e_A (Kv:VW):A := (qr 2 (qs (qr 6 (qc (qr 1 ql) ql)) (qs (qr 1 (qb (A.loop [1, 2, 5] (uR0 [tL, tQ, tI] (z1e_L0 Kv)) (qs (qr 4 (qc ql ql)) (qs (qb (qs (A.drp (dp [0, 1, 2, 3, 4, 5] (DA.spl 23 (DA.skp 6 (DA.skp 7 (DA.skp 8 (DA.skp 9 (DA.skp 10 (DA.skp 11 (DA.skp 12 (DA.skp 13 (dp [14, 15] (DA.skp 16 (DA.skp 17 (DA.skp 18 (DA.skp 19 (DA.skp 20 (DA.skp 21 (DA.skp 22 (DA.skp 23 (DA.skp 24 (DA.skp 25 (DA.skp 26 (DA.skp 27 (DA.skp 28 (DA.skp 29 (DA.skp 30 (DA.skp 31 (DA.skp 32 (DA.skp 33 (DA.skp 34 (DA.skp 35 (DA.skp 36 (DA.skp 37 (DA.pur 38 DA.done)))))))))))))))))))))))))))))))) (dp [6, 7, 8, 9, 10, 11, 12, 13, 14, 15] (DA.spl 33 (DA.skp 16 (DA.skp 17 (DA.skp 18 (DA.skp 19 (DA.skp 20 (DA.skp 21 (DA.skp 22 (DA.skp 23 (DA.skp 24 (DA.skp 25 (DA.skp 26 (DA.skp 27 (DA.skp 28 (DA.skp 29 (DA.skp 30 (DA.skp 31 (DA.skp 32 (DA.skp 33 (DA.skp 34 (DA.skp 35 (DA.skp 36 (DA.skp 37 (DA.pur 38 DA.done))))))))))))))))))))))) (dp [16, 17, 18, 19, 20, 21] (DA.spl 39 (dp [22, 23, 24, 25, 26, 27, 28, 29, 30, 31, 32, 33, 34, 35, 36, 37, 38] DA.done) (DA.skp 22 (DA.skp 23 (DA.skp 24 (DA.skp 25 (DA.skp 26 (DA.skp 27 (DA.skp 28 (DA.skp 29 (DA.skp 30 (DA.skp 31 (DA.skp 32 (DA.skp 33 (DA.skp 34 (DA.skp 35 (DA.skp 36 (dp [37, 38] DA.done))))))))))))))))))))))) (qc (qr 1 ql) ql))) (qe 3)))))) (qr 1 ql))))
theorem z1e_ok:Sound Tryz.prog 82 z1e_S := okS (x := z1e_A) (fun Kv p_0_0 p_0_1 p_0_2 p_0_3 p_0_4 f_1=>z1e_sd p_0_0 p_0_1 p_0_2 p_0_3 p_0_4 f_1 (kk [tB] Kv)) progMixed (Γ := []) trivial Tryz.call82 Tryz.func82 (fun Kv=>hStep (hLoop0 (L := z1e_L0 Kv) (fun N0 f_1 p_2 i_5=>z1e_b0 f_1 p_2 i_5 N0 (kk [tB] Kv)) (fun ⟨a0, a1, _, _⟩ _ h=>let ⟨I, μ, h0, hr⟩ := h.out; ⟨fun b0 b1 b2 w=>(b0=a0/\b1=a1/\True)/\I b2 w, fun _ _ b2 w=>μ b2 w, ⟨⟨rfl, rfl, trivial⟩, h0⟩, fun ⟨_, _, _, _⟩ _ ⟨⟨e0, e1, _⟩, hI⟩=>by cases e0; cases e1; exact hr _ _ hI⟩)) <| hEnd)
def z0r_k2d (f_1:Sl) (p_3 d_5:Addr) (i_7:Int) (fine_8:Bool) (N0:Sl->Addr->Addr->Int->World->Prop) (K:Pw.T0) (w:World):Prop :=
 cnd (!fine_8)
 (K false w)
 (inR .i64 (i_7 + (1:Int))/\N0 f_1 p_3 d_5 (i_7 + (1:Int)) w)
structure z0r_k2 (f_1:Sl) (p_3 d_5:Addr) (i_7:Int) (fine_8:Bool) (N0:Sl->Addr->Addr->Int->World->Prop) (K:Pw.T0) (w:World):Prop where
 out:z0r_k2d f_1 p_3 d_5 i_7 fine_8 N0 K w
def z0r_b1 (f_1:Sl) (p_3 d_5:Addr) (i_7:Int) (fine_8:Bool) (k_9:Int) (N1:Sl->Addr->Addr->Int->Bool->Int->World->Prop) (N0:Sl->Addr->Addr->Int->World->Prop) (K:Pw.T0) (w:World):Prop :=
 ∃ x21:Sl, w.cell? (p_3.add 1)=some (Value.slice x21.p x21.l x21.c)/\cnd (decide (k_9 < (x21.l:Int)))
 (let w22 := w.drew
 cnd fine_8
 (inR .i64 (k_9 + (1:Int))/\N1 f_1 p_3 d_5 i_7 true (k_9 + (1:Int)) w22)
 (∃ x23:Sl, w22.cell? (p_3.add 1)=some (Value.slice x23.p x23.l x23.c)/\nz x23.p fun a24=>(0 <= k_9/\k_9 < (x23.l:Nat))/\∃ x25:Int, w22.cell? (a24.add (k_9.toNat * 4))=some (Value.int .i64 x25)/\∃ x26:Sl, w22.cell? p_3=some (Value.slice x26.p x26.l x26.c)/\nz x26.p fun a27=>(0 <= i_7/\i_7 < (x26.l:Nat))/\∃ x28:Int, w22.cell? (a27.add (i_7.toNat * 1))=some (Value.int .i64 x28)/\cnd (x25 == x28)
 (∃ x29:Sl, w22.cell? (p_3.add 1)=some (Value.slice x29.p x29.l x29.c)/\nz x29.p fun a30=>(0 <= k_9/\k_9 < (x29.l:Nat))/\∃ x31:Int, w22.cell? ((a30.add (k_9.toNat * 4)).add 1)=some (Value.int .i64 x31)/\∃ x32:Int, w22.cell? d_5=some (Value.int .i64 x32)/\inR .i64 (k_9 + (1:Int))/\N1 f_1 p_3 d_5 i_7 (x31 == x32) (k_9 + (1:Int)) w22)
 (inR .i64 (k_9 + (1:Int))/\N1 f_1 p_3 d_5 i_7 false (k_9 + (1:Int)) w22)))
 (z0r_k2 f_1 p_3 d_5 i_7 fine_8 N0 K w)
def z0r_l1d (f_1:Sl) (p_3 d_5:Addr) (i_7:Int) (fine_8:Bool) (k_9:Int) (N0:Sl->Addr->Addr->Int->World->Prop) (K:Pw.T0) (w:World):Prop :=
 ∃ (I:Bool->Int->World->Prop) (μ:Bool->Int->World->Nat), I fine_8 k_9 w/\∀ (fine_81:Bool) (k_91:Int) (w1:World), I fine_81 k_91 w1 ->
 z0r_b1 f_1 p_3 d_5 i_7 fine_81 k_91 (fun f_1' p_3' d_5' i_7' fine_8' k_9' w'=>((f_1'=f_1/\p_3'=p_3/\d_5'=d_5/\i_7'=i_7/\True)/\I fine_8' k_9' w')/\μ fine_8' k_9' w' < μ fine_81 k_91 w1) N0 K w1
structure z0r_l1 (f_1:Sl) (p_3 d_5:Addr) (i_7:Int) (fine_8:Bool) (k_9:Int) (N0:Sl->Addr->Addr->Int->World->Prop) (K:Pw.T0) (w:World):Prop where
 out:z0r_l1d f_1 p_3 d_5 i_7 fine_8 k_9 N0 K w
def z0r_b0 (f_1:Sl) (p_3 d_5:Addr) (i_7:Int) (N0:Sl->Addr->Addr->Int->World->Prop) (K:Pw.T0) (w:World):Prop :=
 ∃ x3:Sl, w.cell? p_3=some (Value.slice x3.p x3.l x3.c)/\cnd (decide (i_7 < (x3.l:Int)))
 (let w4 := w.drew
 ∃ S5:World->Prop, S5 w4/\∃ x6:Sl, (∀ w':World, S5 w'->w'.cell? (d_5.add 1)=some (Value.slice x6.p x6.l x6.c))/\∃ x7:Sl, (∀ w':World, S5 w'->w'.cell? p_3=some (Value.slice x7.p x7.l x7.c))/\nz x7.p fun a8=>(0 <= i_7/\i_7 < (x7.l:Nat))/\∃ x9:Int, (∀ w':World, S5 w'->w'.cell? (a8.add (i_7.toNat * 1))=some (Value.int .i64 x9))/\z0q_sh x6 x9 (fun r11 w10=>S5 w10/\cnd (!r11)
 (inR .i64 (i_7 + (1:Int))/\N0 f_1 p_3 d_5 (i_7 + (1:Int)) w10)
 (cnd (decide (i_7 < (f_1.l:Int)))
 (let w12 := w10.drew
 nz f_1.p fun a13=>(0 <= i_7/\i_7 < (f_1.l:Nat))/\∃ x14:Int, w12.cell? (a13.add (i_7.toNat * 1))=some (Value.int .i64 x14)/\cnd (decide (x14 >= (0:Int)))
 (∃ x15:Sl, w12.cell? (p_3.add 1)=some (Value.slice x15.p x15.l x15.c)/\nz f_1.p fun a16=>(0 <= i_7/\i_7 < (f_1.l:Nat))/\∃ x17:Int, w12.cell? (a16.add (i_7.toNat * 1))=some (Value.int .i64 x17)/\nz x15.p fun a18=>(0 <= x17/\x17 < (x15.l:Nat))/\∃ x19:Int, w12.cell? ((a18.add (x17.toNat * 4)).add 1)=some (Value.int .i64 x19)/\∃ x20:Int, w12.cell? d_5=some (Value.int .i64 x20)/\z0r_k2 f_1 p_3 d_5 i_7 (x19 == x20) N0 K w12)
 (z0r_k2 f_1 p_3 d_5 i_7 false N0 K w12))
 (z0r_l1 f_1 p_3 d_5 i_7 false (0:Int) N0 K w10))) w4)
 (K true w)
def z0r_l0d (f_1:Sl) (p_3 d_5:Addr) (i_7:Int) (K:Pw.T0) (w:World):Prop :=
 ∃ (I:Int->World->Prop) (μ:Int->World->Nat), I i_7 w/\∀ (i_71:Int) (w1:World), I i_71 w1 ->
 z0r_b0 f_1 p_3 d_5 i_71 (fun f_1' p_3' d_5' i_7' w'=>((f_1'=f_1/\p_3'=p_3/\d_5'=d_5/\True)/\I i_7' w')/\μ i_7' w' < μ i_71 w1) K w1
structure z0r_l0 (f_1:Sl) (p_3 d_5:Addr) (i_7:Int) (K:Pw.T0) (w:World):Prop where
 out:z0r_l0d f_1 p_3 d_5 i_7 K w
def z0r_sd (p_0_0 p_0_1 p_0_2:Sl) (p_0_3 p_0_4:Int) (f_1:Sl) (d_2_0:Int) (d_2_1:Sl) (d_2_2:Int) (K:Pw.T0) (w:World):Prop :=
 let w1 := w.alloc (Obj.cells #[(Value.slice p_0_0.p p_0_0.l p_0_0.c), (Value.slice p_0_1.p p_0_1.l p_0_1.c), (Value.slice p_0_2.p p_0_2.l p_0_2.c), (Value.int .i64 p_0_3), (Value.int .i64 p_0_4)] 28)
 let w2 := w1.alloc (Obj.cells #[(Value.int .i64 d_2_0), (Value.slice d_2_1.p d_2_1.l d_2_1.c), (Value.int .i64 d_2_2)] 81)
 z0r_l0 f_1 (Addr.mk w.heap.size 0 none) (Addr.mk w1.heap.size 0 none) (0:Int) K w2
structure z0r_sh (p_0_0 p_0_1 p_0_2:Sl) (p_0_3 p_0_4:Int) (f_1:Sl) (d_2_0:Int) (d_2_1:Sl) (d_2_2:Int) (K:Pw.T0) (w:World):Prop where
 out:z0r_sd p_0_0 p_0_1 p_0_2 p_0_3 p_0_4 f_1 d_2_0 d_2_1 d_2_2 K w
def z0r_L0 (Kv:VW):Cur [tL, tQ, tQ, tI] WP := fun f_1 p_3 d_5 i_7=>z0r_l0 f_1 p_3 d_5 i_7 (kk [tB] Kv)
def z0r_L1 (Kv:VW):Cur [tL, tQ, tQ, tI] WP->Cur [tL, tQ, tQ, tI, tB, tI] WP := fun N0 f_1 p_3 d_5 i_7 fine_8 k_9=>z0r_l1 f_1 p_3 d_5 i_7 fine_8 k_9 N0 (kk [tB] Kv)
def z0r_L2 (Kv:VW):Cur [tL, tQ, tQ, tI] WP->Cur [tL, tQ, tQ, tI, tB] WP := fun N0 f_1 p_3 d_5 i_7 fine_8=>z0r_k2 f_1 p_3 d_5 i_7 fine_8 N0 (kk [tB] Kv)
noncomputable def z0r_S:Pw.Spec := fun vs w Kv=>un [.g 5, tL, tL, tL, tI, tI, tL, .g 3, tI, tL, tI] (fun p_0_0 p_0_1 p_0_2 p_0_3 p_0_4 f_1 d_2_0 d_2_1 d_2_2=>z0r_sh p_0_0 p_0_1 p_0_2 p_0_3 p_0_4 f_1 d_2_0 d_2_1 d_2_2 (kk [tB] Kv)) nF vs w
def z0r_A (Kv:VW):A := (qr 3 (qs (qr 1 (qb (A.loop [1, 3, 5, 7] (uR0 [tL, tQ, tQ, tI] (z0r_L0 Kv)) (qs (qr 5 (qc ql ql)) (qs (qb (qs (qs (A.drw (dp [0, 1, 2, 3, 4, 5, 6] (DA.eff 7 (DA.pur 8 DA.done)))) (qc ql ql)) (qr 1 (qs (qr 4 (qc (A.drp (dp [0, 1, 2, 3, 4, 5] (DA.spl 35 (dp [6, 7, 8, 9, 10, 11, 12, 13, 14, 15, 16, 17, 18, 19] DA.done) (DA.skp 6 (DA.skp 7 (DA.skp 8 (DA.skp 9 (DA.skp 10 (DA.skp 11 (DA.skp 12 (DA.skp 13 (DA.skp 14 (DA.skp 15 (DA.skp 16 (DA.skp 17 (dp [18, 19] DA.done)))))))))))))))) (qr 1 (qb (A.loop [1, 3, 5, 7, 8, 9] (uR1 [tL, tQ, tQ, tI] [tL, tQ, tQ, tI, tB, tI] (z0r_L1 Kv)) (qs (qr 5 (qc ql ql)) (qs (qb (A.drp (dp [0, 1] (DA.spl 57 (DA.skp 2 (DA.skp 3 (DA.skp 4 (DA.skp 5 (DA.skp 6 (DA.skp 7 (DA.skp 8 (DA.skp 9 (DA.skp 10 (DA.skp 11 (DA.skp 12 (DA.skp 13 (DA.skp 14 (DA.skp 15 (DA.skp 16 (DA.skp 17 (DA.skp 18 (DA.skp 19 (DA.skp 20 (DA.skp 21 (DA.skp 22 (DA.skp 23 (DA.skp 24 (dp [25, 26] DA.done)))))))))))))))))))))))) (dp [2, 3, 4, 5, 6, 7, 8, 9, 10, 11, 12, 13, 14] (DA.spl 70 (dp [15, 16, 17, 18, 19, 20, 21, 22, 23, 24, 25, 26] DA.done) (DA.skp 15 (DA.skp 16 (DA.skp 17 (DA.skp 18 (DA.skp 19 (DA.skp 20 (DA.skp 21 (DA.skp 22 (DA.skp 23 (dp [24, 25, 26] DA.done)))))))))))))))) (qe 3)))))))) (A.cut [1, 3, 5, 7, 8] (uR1 [tL, tQ, tQ, tI] [tL, tQ, tQ, tI, tB] (z0r_L2 Kv)) (qr 2 (qc (qr 1 ql) ql))))))) (qe 3)))))) (qr 1 ql)))
theorem z0r_ok:Sound Tryz.prog 144 z0r_S := okS (x := z0r_A) (fun Kv p_0_0 p_0_1 p_0_2 p_0_3 p_0_4 f_1 d_2_0 d_2_1 d_2_2=>z0r_sd p_0_0 p_0_1 p_0_2 p_0_3 p_0_4 f_1 d_2_0 d_2_1 d_2_2 (kk [tB] Kv)) progMixed (Γ := [(95, z0q_S)]) ⟨.inl z0q_ok, trivial⟩ Tryz.call144 Tryz.func144 (fun Kv=>hStep (hLoop0 (L := z0r_L0 Kv) (fun N0 f_1 p_3 d_5 i_7=>z0r_b0 f_1 p_3 d_5 i_7 N0 (kk [tB] Kv)) (fun ⟨a0, a1, a2, _, _⟩ _ h=>let ⟨I, μ, h0, hr⟩ := h.out; ⟨fun b0 b1 b2 b3 w=>(b0=a0/\b1=a1/\b2=a2/\True)/\I b3 w, fun _ _ _ b3 w=>μ b3 w, ⟨⟨rfl, rfl, rfl, trivial⟩, h0⟩, fun ⟨_, _, _, _, _⟩ _ ⟨⟨e0, e1, e2, _⟩, hI⟩=>by cases e0; cases e1; cases e2; exact hr _ _ hI⟩)) <| hStep (hLoop1 (L := z0r_L1 Kv) (fun N0 N1 f_1 p_3 d_5 i_7 fine_8 k_9=>z0r_b1 f_1 p_3 d_5 i_7 fine_8 k_9 N1 N0 (kk [tB] Kv)) (fun _ ⟨a0, a1, a2, a3, _, _, _⟩ _ h=>let ⟨I, μ, h0, hr⟩ := h.out; ⟨fun b0 b1 b2 b3 b4 b5 w=>(b0=a0/\b1=a1/\b2=a2/\b3=a3/\True)/\I b4 b5 w, fun _ _ _ _ b4 b5 w=>μ b4 b5 w, ⟨⟨rfl, rfl, rfl, rfl, trivial⟩, h0⟩, fun ⟨_, _, _, _, _, _, _⟩ _ ⟨⟨e0, e1, e2, e3, _⟩, hI⟩=>by cases e0; cases e1; cases e2; cases e3; exact hr _ _ _ hI⟩)) <| hStep (hCut1 (F := z0r_L2 Kv) (G := fun N0 f_1 p_3 d_5 i_7 fine_8=>z0r_k2d f_1 p_3 d_5 i_7 fine_8 N0 (kk [tB] Kv))) <| hEnd)
def z28_b0 (f_1:Sl) (p_2:Addr) (out_5 i_6:Int) (N0:Sl->Addr->Int->Int->World->Prop) (K:Pw.T1) (w:World):Prop :=
 ∃ x2:Sl, w.cell? (p_2.add 2)=some (Value.slice x2.p x2.l x2.c)/\cnd (decide (i_6 < (x2.l:Int)))
 (let w3 := w.drew
 ∃ S4:World->Prop, S4 w3/\∃ x5:Sl, (∀ w':World, S4 w'->w'.cell? p_2=some (Value.slice x5.p x5.l x5.c))/\∃ x6:Sl, (∀ w':World, S4 w'->w'.cell? (p_2.add 1)=some (Value.slice x6.p x6.l x6.c))/\∃ x7:Sl, (∀ w':World, S4 w'->w'.cell? (p_2.add 2)=some (Value.slice x7.p x7.l x7.c))/\∃ x8:Int, (∀ w':World, S4 w'->w'.cell? (p_2.add 3)=some (Value.int .i64 x8))/\∃ x9:Int, (∀ w':World, S4 w'->w'.cell? (p_2.add 4)=some (Value.int .i64 x9))/\∃ x10:Sl, (∀ w':World, S4 w'->w'.cell? (p_2.add 2)=some (Value.slice x10.p x10.l x10.c))/\nz x10.p fun a11=>(0 <= i_6/\i_6 < (x10.l:Nat))/\∃ x12:Int, (∀ w':World, S4 w'->w'.cell? (a11.add (i_6.toNat * 3))=some (Value.int .i64 x12))/\∃ x13:Sl, (∀ w':World, S4 w'->w'.cell? ((a11.add (i_6.toNat * 3)).add 1)=some (Value.slice x13.p x13.l x13.c))/\∃ x14:Int, (∀ w':World, S4 w'->w'.cell? ((a11.add (i_6.toNat * 3)).add 2)=some (Value.int .i64 x14))/\z0r_sh x5 x6 x7 x8 x9 f_1 x12 x13 x14 (fun r16 w15=>S4 w15/\cnd r16
 (∃ x17:Sl, w15.cell? (p_2.add 2)=some (Value.slice x17.p x17.l x17.c)/\nz x17.p fun a18=>(0 <= i_6/\i_6 < (x17.l:Nat))/\∃ x19:Int, w15.cell? ((a18.add (i_6.toNat * 3)).add 2)=some (Value.int .i64 x19)/\inR .i64 (out_5 + x19)/\inR .i64 (i_6 + (1:Int))/\N0 f_1 p_2 (out_5 + x19) (i_6 + (1:Int)) w15)
 (inR .i64 (i_6 + (1:Int))/\N0 f_1 p_2 out_5 (i_6 + (1:Int)) w15)) w3)
 (K out_5 w)
def z28_l0d (f_1:Sl) (p_2:Addr) (out_5 i_6:Int) (K:Pw.T1) (w:World):Prop :=
 ∃ (I:Int->Int->World->Prop) (μ:Int->Int->World->Nat), I out_5 i_6 w/\∀ (out_51 i_61:Int) (w1:World), I out_51 i_61 w1 ->
 z28_b0 f_1 p_2 out_51 i_61 (fun f_1' p_2' out_5' i_6' w'=>((f_1'=f_1/\p_2'=p_2/\True)/\I out_5' i_6' w')/\μ out_5' i_6' w' < μ out_51 i_61 w1) K w1
structure z28_l0 (f_1:Sl) (p_2:Addr) (out_5 i_6:Int) (K:Pw.T1) (w:World):Prop where
 out:z28_l0d f_1 p_2 out_5 i_6 K w
def z28_sd (p_0_0 p_0_1 p_0_2:Sl) (p_0_3 p_0_4:Int) (f_1:Sl) (K:Pw.T1) (w:World):Prop :=
 let w1 := w.alloc (Obj.cells #[(Value.slice p_0_0.p p_0_0.l p_0_0.c), (Value.slice p_0_1.p p_0_1.l p_0_1.c), (Value.slice p_0_2.p p_0_2.l p_0_2.c), (Value.int .i64 p_0_3), (Value.int .i64 p_0_4)] 28)
 z28_l0 f_1 (Addr.mk w.heap.size 0 none) (0:Int) (0:Int) K w1
structure z28_sh (p_0_0 p_0_1 p_0_2:Sl) (p_0_3 p_0_4:Int) (f_1:Sl) (K:Pw.T1) (w:World):Prop where
 out:z28_sd p_0_0 p_0_1 p_0_2 p_0_3 p_0_4 f_1 K w
def z28_L0 (Kv:VW):Cur [tL, tQ, tI, tI] WP := fun f_1 p_2 out_5 i_6=>z28_l0 f_1 p_2 out_5 i_6 (kk [tI] Kv)
noncomputable def z28_S:Pw.Spec := fun vs w Kv=>un [.g 5, tL, tL, tL, tI, tI, tL] (fun p_0_0 p_0_1 p_0_2 p_0_3 p_0_4 f_1=>z28_sh p_0_0 p_0_1 p_0_2 p_0_3 p_0_4 f_1 (kk [tI] Kv)) nF vs w
def z28_A (Kv:VW):A := (qr 2 (qr 1 (qs (qr 1 (qb (A.loop [1, 2, 5, 6] (uR0 [tL, tQ, tI, tI] (z28_L0 Kv)) (qs (qr 5 (qc ql ql)) (qs (qb (qs (A.drw (dp [0, 1, 2, 3, 4, 5, 6] (DA.eff 7 (DA.pur 8 DA.done)))) (qr 1 (qc (qe 9) ql)))) (qe 3)))))) (qr 2 ql))))
theorem z28_ok:Sound Tryz.prog 87 z28_S := okS (x := z28_A) (fun Kv p_0_0 p_0_1 p_0_2 p_0_3 p_0_4 f_1=>z28_sd p_0_0 p_0_1 p_0_2 p_0_3 p_0_4 f_1 (kk [tI] Kv)) progMixed (Γ := [(144, z0r_S)]) ⟨.inl z0r_ok, trivial⟩ Tryz.call87 Tryz.func87 (fun Kv=>hStep (hLoop0 (L := z28_L0 Kv) (fun N0 f_1 p_2 out_5 i_6=>z28_b0 f_1 p_2 out_5 i_6 N0 (kk [tI] Kv)) (fun ⟨a0, a1, _, _, _⟩ _ h=>let ⟨I, μ, h0, hr⟩ := h.out; ⟨fun b0 b1 b2 b3 w=>(b0=a0/\b1=a1/\True)/\I b2 b3 w, fun _ _ b2 b3 w=>μ b2 b3 w, ⟨⟨rfl, rfl, trivial⟩, h0⟩, fun ⟨_, _, _, _, _⟩ _ ⟨⟨e0, e1, _⟩, hI⟩=>by cases e0; cases e1; exact hr _ _ _ hI⟩)) <| hEnd)
def z29_sd (p_0_0 p_0_1 p_0_2:Sl) (p_0_3 p_0_4:Int) (f_1:Sl) (K:Pw.T0) (w:World):Prop :=
 let w1 := w.alloc (Obj.cells #[(Value.slice p_0_0.p p_0_0.l p_0_0.c), (Value.slice p_0_1.p p_0_1.l p_0_1.c), (Value.slice p_0_2.p p_0_2.l p_0_2.c), (Value.int .i64 p_0_3), (Value.int .i64 p_0_4)] 28)
 ∃ x2:Sl, w1.cell? (Addr.mk w.heap.size 0 none)=some (Value.slice x2.p x2.l x2.c)/\∃ x3:Sl, w1.cell? (Addr.mk w.heap.size 1 none)=some (Value.slice x3.p x3.l x3.c)/\∃ x4:Sl, w1.cell? (Addr.mk w.heap.size 2 none)=some (Value.slice x4.p x4.l x4.c)/\∃ x5:Int, w1.cell? (Addr.mk w.heap.size 3 none)=some (Value.int .i64 x5)/\∃ x6:Int, w1.cell? (Addr.mk w.heap.size 4 none)=some (Value.int .i64 x6)/\z1u_sh x2 x3 x4 x5 x6 (fun r8 w7=>cnd r8
 (∃ x9:Sl, w7.cell? (Addr.mk w.heap.size 0 none)=some (Value.slice x9.p x9.l x9.c)/\∃ x10:Sl, w7.cell? (Addr.mk w.heap.size 1 none)=some (Value.slice x10.p x10.l x10.c)/\∃ x11:Sl, w7.cell? (Addr.mk w.heap.size 2 none)=some (Value.slice x11.p x11.l x11.c)/\∃ x12:Int, w7.cell? (Addr.mk w.heap.size 3 none)=some (Value.int .i64 x12)/\∃ x13:Int, w7.cell? (Addr.mk w.heap.size 4 none)=some (Value.int .i64 x13)/\z1e_sh x9 x10 x11 x12 x13 f_1 (fun r15 w14=>cnd r15
 (∃ x16:Sl, w14.cell? (Addr.mk w.heap.size 0 none)=some (Value.slice x16.p x16.l x16.c)/\K ((f_1.l:Int) == (x16.l:Int)) w14)
 (K false w14)) w7)
 (K false w7)) w1
structure z29_sh (p_0_0 p_0_1 p_0_2:Sl) (p_0_3 p_0_4:Int) (f_1:Sl) (K:Pw.T0) (w:World):Prop where
 out:z29_sd p_0_0 p_0_1 p_0_2 p_0_3 p_0_4 f_1 K w
noncomputable def z29_S:Pw.Spec := fun vs w Kv=>un [.g 5, tL, tL, tL, tI, tI, tL] (fun p_0_0 p_0_1 p_0_2 p_0_3 p_0_4 f_1=>z29_sh p_0_0 p_0_1 p_0_2 p_0_3 p_0_4 f_1 (kk [tB] Kv)) nF vs w
def z29_A (_:VW):A := (qr 2 (qr 3 (qs (A.reg (qn 2 (RA.spl 9 (qn 5 (RA.spl 14 (qn 8 RA.done) (qk 6 (qn 2 RA.done)))) (qk 3 (qn 2 (qk 6 (qn 2 RA.done))))))) ql)))
theorem z29_ok:Sound Tryz.prog 41 z29_S := okS (x := z29_A) (fun Kv p_0_0 p_0_1 p_0_2 p_0_3 p_0_4 f_1=>z29_sd p_0_0 p_0_1 p_0_2 p_0_3 p_0_4 f_1 (kk [tB] Kv)) progMixed (Γ := [(46, z1u_S), (82, z1e_S)]) ⟨.inl z1u_ok, .inl z1e_ok, trivial⟩ Tryz.call41 Tryz.func41 (fun _=>hEnd)
def z1d_b0 (f_1:Sl) (p_2:Addr) (out_6 i_7:Int) (N0:Sl->Addr->Int->Int->World->Prop) (K:Pw.T1) (w:World):Prop :=
 cnd (decide (i_7 < (f_1.l:Int)))
 (nz f_1.p fun a9=>(0 <= i_7/\i_7 < (f_1.l:Nat))/\∃ x10:Int, w.cell? (a9.add (i_7.toNat * 1))=some (Value.int .i64 x10)/\cnd (decide (x10 >= (0:Int)))
 (let w11 := w.drew
 ∃ x12:Sl, w11.cell? (p_2.add 1)=some (Value.slice x12.p x12.l x12.c)/\nz f_1.p fun a13=>(0 <= i_7/\i_7 < (f_1.l:Nat))/\∃ x14:Int, w11.cell? (a13.add (i_7.toNat * 1))=some (Value.int .i64 x14)/\nz x12.p fun a15=>(0 <= x14/\x14 < (x12.l:Nat))/\∃ x16:Int, w11.cell? ((a15.add (x14.toNat * 4)).add 3)=some (Value.int .i64 x16)/\inR .i64 (out_6 + x16)/\inR .i64 (i_7 + (1:Int))/\N0 f_1 p_2 (out_6 + x16) (i_7 + (1:Int)) w11)
 (inR .i64 (i_7 + (1:Int))/\N0 f_1 p_2 out_6 (i_7 + (1:Int)) w))
 (K out_6 w)
def z1d_l0d (f_1:Sl) (p_2:Addr) (out_6 i_7:Int) (K:Pw.T1) (w:World):Prop :=
 ∃ (I:Int->Int->World->Prop) (μ:Int->Int->World->Nat), I out_6 i_7 w/\∀ (out_61 i_71:Int) (w1:World), I out_61 i_71 w1 ->
 z1d_b0 f_1 p_2 out_61 i_71 (fun f_1' p_2' out_6' i_7' w'=>((f_1'=f_1/\p_2'=p_2/\True)/\I out_6' i_7' w')/\μ out_6' i_7' w' < μ out_61 i_71 w1) K w1
structure z1d_l0 (f_1:Sl) (p_2:Addr) (out_6 i_7:Int) (K:Pw.T1) (w:World):Prop where
 out:z1d_l0d f_1 p_2 out_6 i_7 K w
def z1d_sd (p_0_0 p_0_1 p_0_2:Sl) (p_0_3 p_0_4:Int) (f_1:Sl) (K:Pw.T1) (w:World):Prop :=
 let w1 := w.alloc (Obj.cells #[(Value.slice p_0_0.p p_0_0.l p_0_0.c), (Value.slice p_0_1.p p_0_1.l p_0_1.c), (Value.slice p_0_2.p p_0_2.l p_0_2.c), (Value.int .i64 p_0_3), (Value.int .i64 p_0_4)] 28)
 ∃ x2:Sl, w1.cell? (Addr.mk w.heap.size 0 none)=some (Value.slice x2.p x2.l x2.c)/\∃ x3:Sl, w1.cell? (Addr.mk w.heap.size 1 none)=some (Value.slice x3.p x3.l x3.c)/\∃ x4:Sl, w1.cell? (Addr.mk w.heap.size 2 none)=some (Value.slice x4.p x4.l x4.c)/\∃ x5:Int, w1.cell? (Addr.mk w.heap.size 3 none)=some (Value.int .i64 x5)/\∃ x6:Int, w1.cell? (Addr.mk w.heap.size 4 none)=some (Value.int .i64 x6)/\z29_sh x2 x3 x4 x5 x6 f_1 (fun r8 w7=>cnd (!r8)
 (K (0:Int) w7)
 (z1d_l0 f_1 (Addr.mk w.heap.size 0 none) (0:Int) (0:Int) K w7)) w1
structure z1d_sh (p_0_0 p_0_1 p_0_2:Sl) (p_0_3 p_0_4:Int) (f_1:Sl) (K:Pw.T1) (w:World):Prop where
 out:z1d_sd p_0_0 p_0_1 p_0_2 p_0_3 p_0_4 f_1 K w
def z1d_L0 (Kv:VW):Cur [tL, tQ, tI, tI] WP := fun f_1 p_2 out_6 i_7=>z1d_l0 f_1 p_2 out_6 i_7 (kk [tI] Kv)
noncomputable def z1d_S:Pw.Spec := fun vs w Kv=>un [.g 5, tL, tL, tL, tI, tI, tL] (fun p_0_0 p_0_1 p_0_2 p_0_3 p_0_4 f_1=>z1d_sh p_0_0 p_0_1 p_0_2 p_0_3 p_0_4 f_1 (kk [tI] Kv)) nF vs w
def z1d_A (Kv:VW):A := (qr 2 (qr 4 (qs (qr 2 (qc (qr 1 ql) ql)) (qr 1 (qs (qr 1 (qb (A.loop [1, 2, 6, 7] (uR0 [tL, tQ, tI, tI] (z1d_L0 Kv)) (qs (qr 4 (qc ql ql)) (qs (qb (qr 5 (qc (A.drp (dp [0, 1, 2, 3, 4, 5, 6, 7, 8, 9, 10, 11] DA.done)) ql))) (qe 3)))))) (qr 2 ql))))))
theorem z1d_ok:Sound Tryz.prog 17 z1d_S := okS (x := z1d_A) (fun Kv p_0_0 p_0_1 p_0_2 p_0_3 p_0_4 f_1=>z1d_sd p_0_0 p_0_1 p_0_2 p_0_3 p_0_4 f_1 (kk [tI] Kv)) progMixed (Γ := [(41, z29_S)]) ⟨.inl z29_ok, trivial⟩ Tryz.call17 Tryz.func17 (fun Kv=>hStep (hLoop0 (L := z1d_L0 Kv) (fun N0 f_1 p_2 out_6 i_7=>z1d_b0 f_1 p_2 out_6 i_7 N0 (kk [tI] Kv)) (fun ⟨a0, a1, _, _, _⟩ _ h=>let ⟨I, μ, h0, hr⟩ := h.out; ⟨fun b0 b1 b2 b3 w=>(b0=a0/\b1=a1/\True)/\I b2 b3 w, fun _ _ b2 b3 w=>μ b2 b3 w, ⟨⟨rfl, rfl, trivial⟩, h0⟩, fun ⟨_, _, _, _, _⟩ _ ⟨⟨e0, e1, _⟩, hI⟩=>by cases e0; cases e1; exact hr _ _ _ hI⟩)) <| hEnd)
def z1s_b0 (f_1:Sl) (p_2:Addr) (out_5 i_6:Int) (N0:Sl->Addr->Int->Int->World->Prop) (K:Pw.T1) (w:World):Prop :=
 cnd (decide (i_6 < (f_1.l:Int)))
 (nz f_1.p fun a2=>(0 <= i_6/\i_6 < (f_1.l:Nat))/\∃ x3:Int, w.cell? (a2.add (i_6.toNat * 1))=some (Value.int .i64 x3)/\cnd (decide (x3 >= (0:Int)))
 (let w4 := w.drew
 ∃ x5:Sl, w4.cell? (p_2.add 1)=some (Value.slice x5.p x5.l x5.c)/\nz f_1.p fun a6=>(0 <= i_6/\i_6 < (f_1.l:Nat))/\∃ x7:Int, w4.cell? (a6.add (i_6.toNat * 1))=some (Value.int .i64 x7)/\nz x5.p fun a8=>(0 <= x7/\x7 < (x5.l:Nat))/\∃ x9:Int, w4.cell? ((a8.add (x7.toNat * 4)).add 2)=some (Value.int .i64 x9)/\inR .i64 (out_5 + x9)/\inR .i64 (i_6 + (1:Int))/\N0 f_1 p_2 (out_5 + x9) (i_6 + (1:Int)) w4)
 (inR .i64 (i_6 + (1:Int))/\N0 f_1 p_2 out_5 (i_6 + (1:Int)) w))
 (∃ x10:Sl, w.cell? p_2=some (Value.slice x10.p x10.l x10.c)/\∃ x11:Sl, w.cell? (p_2.add 1)=some (Value.slice x11.p x11.l x11.c)/\∃ x12:Sl, w.cell? (p_2.add 2)=some (Value.slice x12.p x12.l x12.c)/\∃ x13:Int, w.cell? (p_2.add 3)=some (Value.int .i64 x13)/\∃ x14:Int, w.cell? (p_2.add 4)=some (Value.int .i64 x14)/\z28_sh x10 x11 x12 x13 x14 f_1 (fun r16 w15=>inR .i64 (out_5 - r16)/\K (max (0:Int) (out_5 - r16)) w15) w)
def z1s_l0d (f_1:Sl) (p_2:Addr) (out_5 i_6:Int) (K:Pw.T1) (w:World):Prop :=
 ∃ (I:Int->Int->World->Prop) (μ:Int->Int->World->Nat), I out_5 i_6 w/\∀ (out_51 i_61:Int) (w1:World), I out_51 i_61 w1 ->
 z1s_b0 f_1 p_2 out_51 i_61 (fun f_1' p_2' out_5' i_6' w'=>((f_1'=f_1/\p_2'=p_2/\True)/\I out_5' i_6' w')/\μ out_5' i_6' w' < μ out_51 i_61 w1) K w1
structure z1s_l0 (f_1:Sl) (p_2:Addr) (out_5 i_6:Int) (K:Pw.T1) (w:World):Prop where
 out:z1s_l0d f_1 p_2 out_5 i_6 K w
def z1s_sd (p_0_0 p_0_1 p_0_2:Sl) (p_0_3 p_0_4:Int) (f_1:Sl) (K:Pw.T1) (w:World):Prop :=
 let w1 := w.alloc (Obj.cells #[(Value.slice p_0_0.p p_0_0.l p_0_0.c), (Value.slice p_0_1.p p_0_1.l p_0_1.c), (Value.slice p_0_2.p p_0_2.l p_0_2.c), (Value.int .i64 p_0_3), (Value.int .i64 p_0_4)] 28)
 z1s_l0 f_1 (Addr.mk w.heap.size 0 none) (0:Int) (0:Int) K w1
structure z1s_sh (p_0_0 p_0_1 p_0_2:Sl) (p_0_3 p_0_4:Int) (f_1:Sl) (K:Pw.T1) (w:World):Prop where
 out:z1s_sd p_0_0 p_0_1 p_0_2 p_0_3 p_0_4 f_1 K w
def z1s_L0 (Kv:VW):Cur [tL, tQ, tI, tI] WP := fun f_1 p_2 out_5 i_6=>z1s_l0 f_1 p_2 out_5 i_6 (kk [tI] Kv)
noncomputable def z1s_S:Pw.Spec := fun vs w Kv=>un [.g 5, tL, tL, tL, tI, tI, tL] (fun p_0_0 p_0_1 p_0_2 p_0_3 p_0_4 f_1=>z1s_sh p_0_0 p_0_1 p_0_2 p_0_3 p_0_4 f_1 (kk [tI] Kv)) nF vs w
def z1s_A (Kv:VW):A := (qr 2 (qr 1 (qs (qr 1 (qb (A.loop [1, 2, 5, 6] (uR0 [tL, tQ, tI, tI] (z1s_L0 Kv)) (qs (qr 4 (qc ql ql)) (qs (qb (qr 5 (qc (A.drp (dp [0, 1, 2, 3, 4, 5, 6, 7, 8, 9, 10, 11] DA.done)) ql))) (qe 3)))))) (qr 7 ql))))
theorem z1s_ok:Sound Tryz.prog 96 z1s_S := okS (x := z1s_A) (fun Kv p_0_0 p_0_1 p_0_2 p_0_3 p_0_4 f_1=>z1s_sd p_0_0 p_0_1 p_0_2 p_0_3 p_0_4 f_1 (kk [tI] Kv)) progMixed (Γ := [(87, z28_S)]) ⟨.inl z28_ok, trivial⟩ Tryz.call96 Tryz.func96 (fun Kv=>hStep (hLoop0 (L := z1s_L0 Kv) (fun N0 f_1 p_2 out_5 i_6=>z1s_b0 f_1 p_2 out_5 i_6 N0 (kk [tI] Kv)) (fun ⟨a0, a1, _, _, _⟩ _ h=>let ⟨I, μ, h0, hr⟩ := h.out; ⟨fun b0 b1 b2 b3 w=>(b0=a0/\b1=a1/\True)/\I b2 b3 w, fun _ _ b2 b3 w=>μ b2 b3 w, ⟨⟨rfl, rfl, trivial⟩, h0⟩, fun ⟨_, _, _, _, _⟩ _ ⟨⟨e0, e1, _⟩, hI⟩=>by cases e0; cases e1; exact hr _ _ _ hI⟩)) <| hEnd)
def z11_b1 (f_1:Sl) (p_2:Addr) (i_5 n_6 k_7:Int) (N1:Sl->Addr->Int->Int->Int->World->Prop) (N0:Sl->Addr->Int->World->Prop) (K:Pw.T0) (w:World):Prop :=
 cnd (decide (k_7 < (f_1.l:Int)))
 (let w2 := w.drew
 nz f_1.p fun a3=>(0 <= i_5/\i_5 < (f_1.l:Nat))/\∃ x4:Int, w2.cell? (a3.add (i_5.toNat * 1))=some (Value.int .i64 x4)/\cnd (decide (x4 >= (0:Int)))
 (nz f_1.p fun a5=>(0 <= k_7/\k_7 < (f_1.l:Nat))/\∃ x6:Int, w2.cell? (a5.add (k_7.toNat * 1))=some (Value.int .i64 x6)/\cnd (decide (x6 >= (0:Int)))
 (∃ x7:Sl, w2.cell? (p_2.add 1)=some (Value.slice x7.p x7.l x7.c)/\nz f_1.p fun a8=>(0 <= i_5/\i_5 < (f_1.l:Nat))/\∃ x9:Int, w2.cell? (a8.add (i_5.toNat * 1))=some (Value.int .i64 x9)/\nz x7.p fun a10=>(0 <= x9/\x9 < (x7.l:Nat))/\∃ x11:Int, w2.cell? ((a10.add (x9.toNat * 4)).add 1)=some (Value.int .i64 x11)/\∃ x12:Sl, w2.cell? (p_2.add 1)=some (Value.slice x12.p x12.l x12.c)/\nz f_1.p fun a13=>(0 <= k_7/\k_7 < (f_1.l:Nat))/\∃ x14:Int, w2.cell? (a13.add (k_7.toNat * 1))=some (Value.int .i64 x14)/\nz x12.p fun a15=>(0 <= x14/\x14 < (x12.l:Nat))/\∃ x16:Int, w2.cell? ((a15.add (x14.toNat * 4)).add 1)=some (Value.int .i64 x16)/\cnd (x11 == x16)
 (inR .i64 (n_6 + (1:Int))/\inR .i64 (k_7 + (1:Int))/\N1 f_1 p_2 i_5 (n_6 + (1:Int)) (k_7 + (1:Int)) w2)
 (inR .i64 (k_7 + (1:Int))/\N1 f_1 p_2 i_5 n_6 (k_7 + (1:Int)) w2))
 (inR .i64 (k_7 + (1:Int))/\N1 f_1 p_2 i_5 n_6 (k_7 + (1:Int)) w2))
 (inR .i64 (k_7 + (1:Int))/\N1 f_1 p_2 i_5 n_6 (k_7 + (1:Int)) w2))
 (∃ x17:Int, w.cell? (p_2.add 3)=some (Value.int .i64 x17)/\cnd (decide (x17 > (0:Int)))
 (∃ x18:Int, w.cell? (p_2.add 3)=some (Value.int .i64 x18)/\cnd (decide (n_6 > x18))
 (K true w)
 (inR .i64 (i_5 + (1:Int))/\N0 f_1 p_2 (i_5 + (1:Int)) w))
 (inR .i64 (i_5 + (1:Int))/\N0 f_1 p_2 (i_5 + (1:Int)) w))
def z11_l1d (f_1:Sl) (p_2:Addr) (i_5 n_6 k_7:Int) (N0:Sl->Addr->Int->World->Prop) (K:Pw.T0) (w:World):Prop :=
 ∃ (I:Int->Int->World->Prop) (μ:Int->Int->World->Nat), I n_6 k_7 w/\∀ (n_61 k_71:Int) (w1:World), I n_61 k_71 w1 ->
 z11_b1 f_1 p_2 i_5 n_61 k_71 (fun f_1' p_2' i_5' n_6' k_7' w'=>((f_1'=f_1/\p_2'=p_2/\i_5'=i_5/\True)/\I n_6' k_7' w')/\μ n_6' k_7' w' < μ n_61 k_71 w1) N0 K w1
structure z11_l1 (f_1:Sl) (p_2:Addr) (i_5 n_6 k_7:Int) (N0:Sl->Addr->Int->World->Prop) (K:Pw.T0) (w:World):Prop where
 out:z11_l1d f_1 p_2 i_5 n_6 k_7 N0 K w
def z11_b0 (f_1:Sl) (p_2:Addr) (i_5:Int) (N0:Sl->Addr->Int->World->Prop) (K:Pw.T0) (w:World):Prop :=
 cnd (decide (i_5 < (f_1.l:Int)))
 (z11_l1 f_1 p_2 i_5 (0:Int) (0:Int) N0 K w)
 (K false w)
def z11_l0d (f_1:Sl) (p_2:Addr) (i_5:Int) (K:Pw.T0) (w:World):Prop :=
 ∃ (I:Int->World->Prop) (μ:Int->World->Nat), I i_5 w/\∀ (i_51:Int) (w1:World), I i_51 w1 ->
 z11_b0 f_1 p_2 i_51 (fun f_1' p_2' i_5' w'=>((f_1'=f_1/\p_2'=p_2/\True)/\I i_5' w')/\μ i_5' w' < μ i_51 w1) K w1
structure z11_l0 (f_1:Sl) (p_2:Addr) (i_5:Int) (K:Pw.T0) (w:World):Prop where
 out:z11_l0d f_1 p_2 i_5 K w
def z11_sd (p_0_0 p_0_1 p_0_2:Sl) (p_0_3 p_0_4:Int) (f_1:Sl) (K:Pw.T0) (w:World):Prop :=
 let w1 := w.alloc (Obj.cells #[(Value.slice p_0_0.p p_0_0.l p_0_0.c), (Value.slice p_0_1.p p_0_1.l p_0_1.c), (Value.slice p_0_2.p p_0_2.l p_0_2.c), (Value.int .i64 p_0_3), (Value.int .i64 p_0_4)] 28)
 z11_l0 f_1 (Addr.mk w.heap.size 0 none) (0:Int) K w1
structure z11_sh (p_0_0 p_0_1 p_0_2:Sl) (p_0_3 p_0_4:Int) (f_1:Sl) (K:Pw.T0) (w:World):Prop where
 out:z11_sd p_0_0 p_0_1 p_0_2 p_0_3 p_0_4 f_1 K w
def z11_L0 (Kv:VW):Cur [tL, tQ, tI] WP := fun f_1 p_2 i_5=>z11_l0 f_1 p_2 i_5 (kk [tB] Kv)
def z11_L1 (Kv:VW):Cur [tL, tQ, tI] WP->Cur [tL, tQ, tI, tI, tI] WP := fun N0 f_1 p_2 i_5 n_6 k_7=>z11_l1 f_1 p_2 i_5 n_6 k_7 N0 (kk [tB] Kv)
noncomputable def z11_S:Pw.Spec := fun vs w Kv=>un [.g 5, tL, tL, tL, tI, tI, tL] (fun p_0_0 p_0_1 p_0_2 p_0_3 p_0_4 f_1=>z11_sh p_0_0 p_0_1 p_0_2 p_0_3 p_0_4 f_1 (kk [tB] Kv)) nF vs w
def z11_A (Kv:VW):A := (qr 2 (qs (qr 1 (qb (A.loop [1, 2, 5] (uR0 [tL, tQ, tI] (z11_L0 Kv)) (qs (qr 4 (qc ql ql)) (qs (qb (qr 1 (qs (qr 1 (qb (A.loop [1, 2, 5, 6, 7] (uR1 [tL, tQ, tI] [tL, tQ, tI, tI, tI] (z11_L1 Kv)) (qs (qr 4 (qc ql ql)) (qs (qb (qs (A.drp (dp [0, 1, 2, 3, 4, 5] (DA.spl 25 (dp [6, 7, 8, 9, 10, 11, 12] (DA.spl 32 (dp [13, 14, 15, 16, 17, 18, 19, 20, 21, 22, 23, 24, 25, 26, 27, 28, 29, 30, 31, 32] DA.done) (DA.skp 13 (DA.skp 14 (DA.skp 15 (DA.skp 16 (DA.skp 17 (DA.skp 18 (DA.skp 19 (DA.skp 20 (DA.skp 21 (DA.skp 22 (DA.skp 23 (DA.skp 24 (DA.skp 25 (DA.skp 26 (DA.skp 27 (DA.skp 28 (DA.skp 29 (DA.skp 30 (DA.skp 31 (DA.pur 32 DA.done)))))))))))))))))))))) (DA.skp 6 (DA.skp 7 (DA.skp 8 (DA.skp 9 (DA.skp 10 (dp [11, 12] (DA.skp 13 (DA.skp 14 (DA.skp 15 (DA.skp 16 (DA.skp 17 (DA.skp 18 (DA.skp 19 (DA.skp 20 (DA.skp 21 (DA.skp 22 (DA.skp 23 (DA.skp 24 (DA.skp 25 (DA.skp 26 (DA.skp 27 (DA.skp 28 (DA.skp 29 (DA.skp 30 (DA.skp 31 (DA.pur 32 DA.done))))))))))))))))))))))))))))) (qc (qe 3) ql))) (qe 3)))))) (qs (A.reg (qn 4 (RA.spl 58 (qn 5 RA.done) (qk 4 (qn 1 RA.done))))) (qc (qr 1 ql) ql))))) (qe 3)))))) (qr 1 ql)))
theorem z11_ok:Sound Tryz.prog 97 z11_S := okS (x := z11_A) (fun Kv p_0_0 p_0_1 p_0_2 p_0_3 p_0_4 f_1=>z11_sd p_0_0 p_0_1 p_0_2 p_0_3 p_0_4 f_1 (kk [tB] Kv)) progMixed (Γ := []) trivial Tryz.call97 Tryz.func97 (fun Kv=>hStep (hLoop0 (L := z11_L0 Kv) (fun N0 f_1 p_2 i_5=>z11_b0 f_1 p_2 i_5 N0 (kk [tB] Kv)) (fun ⟨a0, a1, _, _⟩ _ h=>let ⟨I, μ, h0, hr⟩ := h.out; ⟨fun b0 b1 b2 w=>(b0=a0/\b1=a1/\True)/\I b2 w, fun _ _ b2 w=>μ b2 w, ⟨⟨rfl, rfl, trivial⟩, h0⟩, fun ⟨_, _, _, _⟩ _ ⟨⟨e0, e1, _⟩, hI⟩=>by cases e0; cases e1; exact hr _ _ hI⟩)) <| hStep (hLoop1 (L := z11_L1 Kv) (fun N0 N1 f_1 p_2 i_5 n_6 k_7=>z11_b1 f_1 p_2 i_5 n_6 k_7 N1 N0 (kk [tB] Kv)) (fun _ ⟨a0, a1, a2, _, _, _⟩ _ h=>let ⟨I, μ, h0, hr⟩ := h.out; ⟨fun b0 b1 b2 b3 b4 w=>(b0=a0/\b1=a1/\b2=a2/\True)/\I b3 b4 w, fun _ _ _ b3 b4 w=>μ b3 b4 w, ⟨⟨rfl, rfl, rfl, trivial⟩, h0⟩, fun ⟨_, _, _, _, _, _⟩ _ ⟨⟨e0, e1, e2, _⟩, hI⟩=>by cases e0; cases e1; cases e2; exact hr _ _ _ hI⟩)) <| hEnd)
def z0i_sd (p_0_0 p_0_1 p_0_2:Sl) (p_0_3 p_0_4:Int) (f_1:Sl) (K:Pw.T0) (w:World):Prop :=
 let w1 := w.alloc (Obj.cells #[(Value.slice p_0_0.p p_0_0.l p_0_0.c), (Value.slice p_0_1.p p_0_1.l p_0_1.c), (Value.slice p_0_2.p p_0_2.l p_0_2.c), (Value.int .i64 p_0_3), (Value.int .i64 p_0_4)] 28)
 ∃ x2:Sl, w1.cell? (Addr.mk w.heap.size 0 none)=some (Value.slice x2.p x2.l x2.c)/\∃ x3:Sl, w1.cell? (Addr.mk w.heap.size 1 none)=some (Value.slice x3.p x3.l x3.c)/\∃ x4:Sl, w1.cell? (Addr.mk w.heap.size 2 none)=some (Value.slice x4.p x4.l x4.c)/\∃ x5:Int, w1.cell? (Addr.mk w.heap.size 3 none)=some (Value.int .i64 x5)/\∃ x6:Int, w1.cell? (Addr.mk w.heap.size 4 none)=some (Value.int .i64 x6)/\z29_sh x2 x3 x4 x5 x6 f_1 (fun r8 w7=>let w9 := w7.drew
 ∃ S10:World->Prop, S10 w9/\cnd r8
 (∃ x11:Sl, (∀ w':World, S10 w'->w'.cell? (Addr.mk w.heap.size 0 none)=some (Value.slice x11.p x11.l x11.c))/\∃ x12:Sl, (∀ w':World, S10 w'->w'.cell? (Addr.mk w.heap.size 1 none)=some (Value.slice x12.p x12.l x12.c))/\∃ x13:Sl, (∀ w':World, S10 w'->w'.cell? (Addr.mk w.heap.size 2 none)=some (Value.slice x13.p x13.l x13.c))/\∃ x14:Int, (∀ w':World, S10 w'->w'.cell? (Addr.mk w.heap.size 3 none)=some (Value.int .i64 x14))/\∃ x15:Int, (∀ w':World, S10 w'->w'.cell? (Addr.mk w.heap.size 4 none)=some (Value.int .i64 x15))/\∃ x16:Int, (∀ w':World, S10 w'->w'.cell? (Addr.mk w.heap.size 4 none)=some (Value.int .i64 x16))/\z1s_sh x11 x12 x13 x14 x15 f_1 (fun r18 w17=>S10 w17/\cnd (decide (r18 <= x16))
 (∃ x19:Sl, (∀ w':World, S10 w'->w'.cell? (Addr.mk w.heap.size 0 none)=some (Value.slice x19.p x19.l x19.c))/\∃ x20:Sl, (∀ w':World, S10 w'->w'.cell? (Addr.mk w.heap.size 1 none)=some (Value.slice x20.p x20.l x20.c))/\∃ x21:Sl, (∀ w':World, S10 w'->w'.cell? (Addr.mk w.heap.size 2 none)=some (Value.slice x21.p x21.l x21.c))/\∃ x22:Int, (∀ w':World, S10 w'->w'.cell? (Addr.mk w.heap.size 3 none)=some (Value.int .i64 x22))/\∃ x23:Int, (∀ w':World, S10 w'->w'.cell? (Addr.mk w.heap.size 4 none)=some (Value.int .i64 x23))/\z11_sh x19 x20 x21 x22 x23 f_1 (fun r25 w24=>S10 w24/\K (!r25) w24) w17)
 (K false w17)) w9)
 (K false w9)) w1
structure z0i_sh (p_0_0 p_0_1 p_0_2:Sl) (p_0_3 p_0_4:Int) (f_1:Sl) (K:Pw.T0) (w:World):Prop where
 out:z0i_sd p_0_0 p_0_1 p_0_2 p_0_3 p_0_4 f_1 K w
noncomputable def z0i_S:Pw.Spec := fun vs w Kv=>un [.g 5, tL, tL, tL, tI, tI, tL] (fun p_0_0 p_0_1 p_0_2 p_0_3 p_0_4 f_1=>z0i_sh p_0_0 p_0_1 p_0_2 p_0_3 p_0_4 f_1 (kk [tB] Kv)) nF vs w
def z0i_A (_:VW):A := (qr 2 (qr 4 (qs (A.drw (dp [0, 1] (DA.spl 10 (dp [2, 3, 5, 6] (DA.eff 4 (dp [7, 8, 9] (DA.spl 18 (dp [10, 11] (DA.eff 12 (dp [13, 14, 15] DA.done))) (DA.skp 10 (DA.skp 11 (DA.skp 12 (DA.skp 13 (dp [14, 15] DA.done))))))))) (DA.skp 2 (DA.skp 3 (DA.skp 5 (DA.skp 6 (DA.skp 4 (DA.skp 7 (dp [8, 9] (DA.skp 10 (DA.skp 11 (DA.skp 12 (DA.skp 13 (dp [14, 15] DA.done))))))))))))))) ql)))
theorem z0i_ok:Sound Tryz.prog 47 z0i_S := okS (x := z0i_A) (fun Kv p_0_0 p_0_1 p_0_2 p_0_3 p_0_4 f_1=>z0i_sd p_0_0 p_0_1 p_0_2 p_0_3 p_0_4 f_1 (kk [tB] Kv)) progMixed (Γ := [(41, z29_S), (96, z1s_S), (97, z11_S)]) ⟨.inl z29_ok, .inl z1s_ok, .inl z11_ok, trivial⟩ Tryz.call47 Tryz.func47 (fun _=>hEnd)
def z1w_sd (p_0_0 p_0_1 p_0_2:Sl) (p_0_3 p_0_4:Int) (f_1:Sl) (K:Pw.T1) (w:World):Prop :=
 let w1 := w.alloc (Obj.cells #[(Value.slice p_0_0.p p_0_0.l p_0_0.c), (Value.slice p_0_1.p p_0_1.l p_0_1.c), (Value.slice p_0_2.p p_0_2.l p_0_2.c), (Value.int .i64 p_0_3), (Value.int .i64 p_0_4)] 28)
 let w2 := w1.drew
 ∃ S3:World->Prop, S3 w2/\∃ x4:Sl, (∀ w':World, S3 w'->w'.cell? (Addr.mk w.heap.size 0 none)=some (Value.slice x4.p x4.l x4.c))/\∃ x5:Sl, (∀ w':World, S3 w'->w'.cell? (Addr.mk w.heap.size 1 none)=some (Value.slice x5.p x5.l x5.c))/\∃ x6:Sl, (∀ w':World, S3 w'->w'.cell? (Addr.mk w.heap.size 2 none)=some (Value.slice x6.p x6.l x6.c))/\∃ x7:Int, (∀ w':World, S3 w'->w'.cell? (Addr.mk w.heap.size 3 none)=some (Value.int .i64 x7))/\∃ x8:Int, (∀ w':World, S3 w'->w'.cell? (Addr.mk w.heap.size 4 none)=some (Value.int .i64 x8))/\∃ x9:Int, (∀ w':World, S3 w'->w'.cell? (Addr.mk w.heap.size 4 none)=some (Value.int .i64 x9))/\inR .i64 (x9 + (1:Int))/\∃ x10:Sl, (∀ w':World, S3 w'->w'.cell? (Addr.mk w.heap.size 0 none)=some (Value.slice x10.p x10.l x10.c))/\∃ x11:Sl, (∀ w':World, S3 w'->w'.cell? (Addr.mk w.heap.size 1 none)=some (Value.slice x11.p x11.l x11.c))/\∃ x12:Sl, (∀ w':World, S3 w'->w'.cell? (Addr.mk w.heap.size 2 none)=some (Value.slice x12.p x12.l x12.c))/\∃ x13:Int, (∀ w':World, S3 w'->w'.cell? (Addr.mk w.heap.size 3 none)=some (Value.int .i64 x13))/\∃ x14:Int, (∀ w':World, S3 w'->w'.cell? (Addr.mk w.heap.size 4 none)=some (Value.int .i64 x14))/\z1d_sh x4 x5 x6 x7 x8 f_1 (fun r16 w15=>S3 w15/\inR .i64 (r16 * (x9 + (1:Int)))/\z1s_sh x10 x11 x12 x13 x14 f_1 (fun r18 w17=>S3 w17/\inR .i64 ((r16 * (x9 + (1:Int))) - r18)/\K ((r16 * (x9 + (1:Int))) - r18) w17) w15) w2
structure z1w_sh (p_0_0 p_0_1 p_0_2:Sl) (p_0_3 p_0_4:Int) (f_1:Sl) (K:Pw.T1) (w:World):Prop where
 out:z1w_sd p_0_0 p_0_1 p_0_2 p_0_3 p_0_4 f_1 K w
noncomputable def z1w_S:Pw.Spec := fun vs w Kv=>un [.g 5, tL, tL, tL, tI, tI, tL] (fun p_0_0 p_0_1 p_0_2 p_0_3 p_0_4 f_1=>z1w_sh p_0_0 p_0_1 p_0_2 p_0_3 p_0_4 f_1 (kk [tI] Kv)) nF vs w
def z1w_A (_:VW):A := (qr 2 (qs (A.drw (dp [0, 1, 3, 4, 5, 7, 8] (DA.eff 2 (DA.pur 6 (DA.eff 9 (dp [10, 11] DA.done)))))) ql))
theorem z1w_ok:Sound Tryz.prog 146 z1w_S := okS (x := z1w_A) (fun Kv p_0_0 p_0_1 p_0_2 p_0_3 p_0_4 f_1=>z1w_sd p_0_0 p_0_1 p_0_2 p_0_3 p_0_4 f_1 (kk [tI] Kv)) progMixed (Γ := [(17, z1d_S), (96, z1s_S)]) ⟨.inl z1d_ok, .inl z1s_ok, trivial⟩ Tryz.call146 Tryz.func146 (fun _=>hEnd)
def z12_b0 (f_0 t_1:Sl) (i_5:Int) (N0:Sl->Sl->Int->World->Prop) (K:Pw.T0) (w:World):Prop :=
 cnd (decide (i_5 < (f_0.l:Int)))
 (cnd (decide (i_5 < (t_1.l:Int)))
 (let w1 := w.drew
 nz f_0.p fun a2=>(0 <= i_5/\i_5 < (f_0.l:Nat))/\∃ x3:Int, w1.cell? (a2.add (i_5.toNat * 1))=some (Value.int .i64 x3)/\nz t_1.p fun a4=>(0 <= i_5/\i_5 < (t_1.l:Nat))/\∃ x5:Int, w1.cell? (a4.add (i_5.toNat * 1))=some (Value.int .i64 x5)/\cnd (x3 != x5)
 (let w6 := w1.drew
 nz f_0.p fun a7=>(0 <= i_5/\i_5 < (f_0.l:Nat))/\∃ x8:Int, w6.cell? (a7.add (i_5.toNat * 1))=some (Value.int .i64 x8)/\nz t_1.p fun a9=>(0 <= i_5/\i_5 < (t_1.l:Nat))/\∃ x10:Int, w6.cell? (a9.add (i_5.toNat * 1))=some (Value.int .i64 x10)/\K (decide (x8 > x10)) w6)
 (inR .i64 (i_5 + (1:Int))/\N0 f_0 t_1 (i_5 + (1:Int)) w1))
 (K false w))
 (K false w)
def z12_l0d (f_0 t_1:Sl) (i_5:Int) (K:Pw.T0) (w:World):Prop :=
 ∃ (I:Int->World->Prop) (μ:Int->World->Nat), I i_5 w/\∀ (i_51:Int) (w1:World), I i_51 w1 ->
 z12_b0 f_0 t_1 i_51 (fun f_0' t_1' i_5' w'=>((f_0'=f_0/\t_1'=t_1/\True)/\I i_5' w')/\μ i_5' w' < μ i_51 w1) K w1
structure z12_l0 (f_0 t_1:Sl) (i_5:Int) (K:Pw.T0) (w:World):Prop where
 out:z12_l0d f_0 t_1 i_5 K w
def z12_sd (f_0 t_1:Sl) (K:Pw.T0) (w:World):Prop :=
 z12_l0 f_0 t_1 (0:Int) K w
structure z12_sh (f_0 t_1:Sl) (K:Pw.T0) (w:World):Prop where
 out:z12_sd f_0 t_1 K w
def z12_L0 (Kv:VW):Cur [tL, tL, tI] WP := fun f_0 t_1 i_5=>z12_l0 f_0 t_1 i_5 (kk [tB] Kv)
noncomputable def z12_S:Pw.Spec := fun vs w Kv=>un [tL, tL] (fun f_0 t_1=>z12_sh f_0 t_1 (kk [tB] Kv)) nF vs w
def z12_A (Kv:VW):A := (qr 1 (qs (qr 1 (qb (A.loop [0, 1, 5] (uR0 [tL, tL, tI] (z12_L0 Kv)) (qs (qs (A.reg (qn 5 (RA.spl 10 (qn 5 RA.done) (qk 4 (qn 1 RA.done))))) (qc ql ql)) (qs (qb (qs (A.drp (dp [0, 1, 2, 3, 4, 5, 6, 7, 8] DA.done)) (qc (qs (A.drp (dp [0, 1, 2, 3, 4, 5, 6, 7, 8, 9] DA.done)) ql) ql))) (qe 3)))))) (qr 1 ql)))
theorem z12_ok:Sound Tryz.prog 147 z12_S := okS (x := z12_A) (fun Kv f_0 t_1=>z12_sd f_0 t_1 (kk [tB] Kv)) progMixed (Γ := []) trivial Tryz.call147 Tryz.func147 (fun Kv=>hStep (hLoop0 (L := z12_L0 Kv) (fun N0 f_0 t_1 i_5=>z12_b0 f_0 t_1 i_5 N0 (kk [tB] Kv)) (fun ⟨a0, a1, _, _⟩ _ h=>let ⟨I, μ, h0, hr⟩ := h.out; ⟨fun b0 b1 b2 w=>(b0=a0/\b1=a1/\True)/\I b2 w, fun _ _ b2 w=>μ b2 w, ⟨⟨rfl, rfl, trivial⟩, h0⟩, fun ⟨_, _, _, _⟩ _ ⟨⟨e0, e1, _⟩, hI⟩=>by cases e0; cases e1; exact hr _ _ hI⟩)) <| hEnd)
def z1c_sd (p_0_0 p_0_1 p_0_2:Sl) (p_0_3 p_0_4:Int) (a_1 b_2:Sl) (K:Pw.T0) (w:World):Prop :=
 let w1 := w.alloc (Obj.cells #[(Value.slice p_0_0.p p_0_0.l p_0_0.c), (Value.slice p_0_1.p p_0_1.l p_0_1.c), (Value.slice p_0_2.p p_0_2.l p_0_2.c), (Value.int .i64 p_0_3), (Value.int .i64 p_0_4)] 28)
 ∃ x2:Sl, w1.cell? (Addr.mk w.heap.size 0 none)=some (Value.slice x2.p x2.l x2.c)/\∃ x3:Sl, w1.cell? (Addr.mk w.heap.size 1 none)=some (Value.slice x3.p x3.l x3.c)/\∃ x4:Sl, w1.cell? (Addr.mk w.heap.size 2 none)=some (Value.slice x4.p x4.l x4.c)/\∃ x5:Int, w1.cell? (Addr.mk w.heap.size 3 none)=some (Value.int .i64 x5)/\∃ x6:Int, w1.cell? (Addr.mk w.heap.size 4 none)=some (Value.int .i64 x6)/\z0i_sh x2 x3 x4 x5 x6 a_1 (fun r8 w7=>∃ x9:Sl, w7.cell? (Addr.mk w.heap.size 0 none)=some (Value.slice x9.p x9.l x9.c)/\∃ x10:Sl, w7.cell? (Addr.mk w.heap.size 1 none)=some (Value.slice x10.p x10.l x10.c)/\∃ x11:Sl, w7.cell? (Addr.mk w.heap.size 2 none)=some (Value.slice x11.p x11.l x11.c)/\∃ x12:Int, w7.cell? (Addr.mk w.heap.size 3 none)=some (Value.int .i64 x12)/\∃ x13:Int, w7.cell? (Addr.mk w.heap.size 4 none)=some (Value.int .i64 x13)/\z0i_sh x9 x10 x11 x12 x13 b_2 (fun r15 w14=>cnd (!r8)
 (K r8 w14)
 (cnd (!r15)
 (K r8 w14)
 (∃ x16:Sl, w14.cell? (Addr.mk w.heap.size 0 none)=some (Value.slice x16.p x16.l x16.c)/\∃ x17:Sl, w14.cell? (Addr.mk w.heap.size 1 none)=some (Value.slice x17.p x17.l x17.c)/\∃ x18:Sl, w14.cell? (Addr.mk w.heap.size 2 none)=some (Value.slice x18.p x18.l x18.c)/\∃ x19:Int, w14.cell? (Addr.mk w.heap.size 3 none)=some (Value.int .i64 x19)/\∃ x20:Int, w14.cell? (Addr.mk w.heap.size 4 none)=some (Value.int .i64 x20)/\z1w_sh x16 x17 x18 x19 x20 a_1 (fun r22 w21=>∃ x23:Sl, w21.cell? (Addr.mk w.heap.size 0 none)=some (Value.slice x23.p x23.l x23.c)/\∃ x24:Sl, w21.cell? (Addr.mk w.heap.size 1 none)=some (Value.slice x24.p x24.l x24.c)/\∃ x25:Sl, w21.cell? (Addr.mk w.heap.size 2 none)=some (Value.slice x25.p x25.l x25.c)/\∃ x26:Int, w21.cell? (Addr.mk w.heap.size 3 none)=some (Value.int .i64 x26)/\∃ x27:Int, w21.cell? (Addr.mk w.heap.size 4 none)=some (Value.int .i64 x27)/\z1w_sh x23 x24 x25 x26 x27 b_2 (fun r29 w28=>cnd (decide (r22 > r29))
 (K true w28)
 (cnd (r22 == r29)
 (z12_sh b_2 a_1 (fun r31 w30=>K r31 w30) w28)
 (K false w28))) w21) w14))) w7) w1
structure z1c_sh (p_0_0 p_0_1 p_0_2:Sl) (p_0_3 p_0_4:Int) (a_1 b_2:Sl) (K:Pw.T0) (w:World):Prop where
 out:z1c_sd p_0_0 p_0_1 p_0_2 p_0_3 p_0_4 a_1 b_2 K w
noncomputable def z1c_S:Pw.Spec := fun vs w Kv=>un [.g 5, tL, tL, tL, tI, tI, tL, tL] (fun p_0_0 p_0_1 p_0_2 p_0_3 p_0_4 a_1 b_2=>z1c_sh p_0_0 p_0_1 p_0_2 p_0_3 p_0_4 a_1 b_2 (kk [tB] Kv)) nF vs w
def z1c_A (_:VW):A := (qr 2 (qr 4 (qr 4 (qs (qs (A.reg (qn 3 (RA.spl 19 (qk 2 (qn 1 RA.done)) (qn 3 RA.done)))) (qc (qr 2 ql) ql)) (qr 4 (qr 4 (qs (A.reg (qn 4 (RA.spl 33 (qk 8 (qn 2 RA.done)) (qn 4 (RA.spl 37 (qn 6 RA.done) (qk 3 (qn 3 RA.done))))))) ql)))))))
theorem z1c_ok:Sound Tryz.prog 99 z1c_S := okS (x := z1c_A) (fun Kv p_0_0 p_0_1 p_0_2 p_0_3 p_0_4 a_1 b_2=>z1c_sd p_0_0 p_0_1 p_0_2 p_0_3 p_0_4 a_1 b_2 (kk [tB] Kv)) progMixed (Γ := [(47, z0i_S), (146, z1w_S), (147, z12_S)]) ⟨.inl z0i_ok, .inl z1w_ok, .inl z12_ok, trivial⟩ Tryz.call99 Tryz.func99 (fun _=>hEnd)
def z14_b0 (k_1:Int) (p_2:Addr) (out_5:Sl) (i_6:Int) (N0:Int->Addr->Sl->Int->World->Prop) (K:Pw.T2) (w:World):Prop :=
 ∃ x3:Sl, w.cell? (p_2.add 1)=some (Value.slice x3.p x3.l x3.c)/\cnd (decide (i_6 < (x3.l:Int)))
 (let w4 := w.drew
 ∃ x5:Sl, w4.cell? (p_2.add 1)=some (Value.slice x5.p x5.l x5.c)/\nz x5.p fun a6=>(0 <= i_6/\i_6 < (x5.l:Nat))/\∃ x7:Int, w4.cell? (a6.add (i_6.toNat * 4))=some (Value.int .i64 x7)/\∃ x8:Sl, w4.cell? p_2=some (Value.slice x8.p x8.l x8.c)/\nz x8.p fun a9=>(0 <= k_1/\k_1 < (x8.l:Nat))/\∃ x10:Int, w4.cell? (a9.add (k_1.toNat * 1))=some (Value.int .i64 x10)/\cnd (x7 == x10)
 (let w11 := w4.alloc (Obj.cells #[(Value.int .i64 i_6)] 3)
 apS 1 8 [(Value.int .i64 0)] 3 out_5 (Sl.mk (some (Addr.mk w4.heap.size 0 none)) 1 1) w11 fun s12 w13=>inR .i64 (i_6 + (1:Int))/\N0 k_1 p_2 s12 (i_6 + (1:Int)) w13)
 (inR .i64 (i_6 + (1:Int))/\N0 k_1 p_2 out_5 (i_6 + (1:Int)) w4))
 (K out_5 w)
def z14_l0d (k_1:Int) (p_2:Addr) (out_5:Sl) (i_6:Int) (K:Pw.T2) (w:World):Prop :=
 ∃ (I:Sl->Int->World->Prop) (μ:Sl->Int->World->Nat), I out_5 i_6 w/\∀ (out_51:Sl) (i_61:Int) (w1:World), I out_51 i_61 w1 ->
 z14_b0 k_1 p_2 out_51 i_61 (fun k_1' p_2' out_5' i_6' w'=>((k_1'=k_1/\p_2'=p_2/\True)/\I out_5' i_6' w')/\μ out_5' i_6' w' < μ out_51 i_61 w1) K w1
structure z14_l0 (k_1:Int) (p_2:Addr) (out_5:Sl) (i_6:Int) (K:Pw.T2) (w:World):Prop where
 out:z14_l0d k_1 p_2 out_5 i_6 K w
def z14_sd (p_0_0 p_0_1 p_0_2:Sl) (p_0_3 p_0_4 k_1:Int) (K:Pw.T2) (w:World):Prop :=
 let w1 := w.alloc (Obj.cells #[(Value.slice p_0_0.p p_0_0.l p_0_0.c), (Value.slice p_0_1.p p_0_1.l p_0_1.c), (Value.slice p_0_2.p p_0_2.l p_0_2.c), (Value.int .i64 p_0_3), (Value.int .i64 p_0_4)] 28)
 let w2 := w1.alloc (Obj.cells #[(Value.int .i64 (-1))] 3)
 z14_l0 k_1 (Addr.mk w.heap.size 0 none) (Sl.mk (some (Addr.mk w1.heap.size 0 none)) 1 1) (0:Int) K w2
structure z14_sh (p_0_0 p_0_1 p_0_2:Sl) (p_0_3 p_0_4 k_1:Int) (K:Pw.T2) (w:World):Prop where
 out:z14_sd p_0_0 p_0_1 p_0_2 p_0_3 p_0_4 k_1 K w
def z14_L0 (Kv:VW):Cur [tI, tQ, tL, tI] WP := fun k_1 p_2 out_5 i_6=>z14_l0 k_1 p_2 out_5 i_6 (kk [tL] Kv)
noncomputable def z14_S:Pw.Spec := fun vs w Kv=>un [.g 5, tL, tL, tL, tI, tI, tI] (fun p_0_0 p_0_1 p_0_2 p_0_3 p_0_4 k_1=>z14_sh p_0_0 p_0_1 p_0_2 p_0_3 p_0_4 k_1 (kk [tL] Kv)) nF vs w
def z14_A (Kv:VW):A := (qr 2 (qr 2 (qs (qr 1 (qb (A.loop [1, 2, 5, 6] (uR0 [tI, tQ, tL, tI] (z14_L0 Kv)) (qs (qr 5 (qc ql ql)) (qs (qb (qs (A.drp (dp [0, 1, 2, 3, 4, 5, 6, 7, 8, 9, 10, 11] DA.done)) (qc (qe 5) ql))) (qe 3)))))) (qr 2 ql))))
theorem z14_ok:Sound Tryz.prog 100 z14_S := okS (x := z14_A) (fun Kv p_0_0 p_0_1 p_0_2 p_0_3 p_0_4 k_1=>z14_sd p_0_0 p_0_1 p_0_2 p_0_3 p_0_4 k_1 (kk [tL] Kv)) progMixed (Γ := []) trivial Tryz.call100 Tryz.func100 (fun Kv=>hStep (hLoop0 (L := z14_L0 Kv) (fun N0 k_1 p_2 out_5 i_6=>z14_b0 k_1 p_2 out_5 i_6 N0 (kk [tL] Kv)) (fun ⟨a0, a1, _, _, _⟩ _ h=>let ⟨I, μ, h0, hr⟩ := h.out; ⟨fun b0 b1 b2 b3 w=>(b0=a0/\b1=a1/\True)/\I b2 b3 w, fun _ _ b2 b3 w=>μ b2 b3 w, ⟨⟨rfl, rfl, trivial⟩, h0⟩, fun ⟨_, _, _, _, _⟩ _ ⟨⟨e0, e1, _⟩, hI⟩=>by cases e0; cases e1; exact hr _ _ _ hI⟩)) <| hEnd)
structure z2a_sh (p_0_0 p_0_1 p_0_2:Sl) (p_0_3 p_0_4:Int) (r_1_0:Sl) (r_1_1 r_1_2:Int) (r_1_3:Sl) (n_2:Int) (f_3 seen_4:Sl) (K:Pw.T0) (w:World):Prop where
 out:Calls Tryz.prog 98 #[(Value.agg #[(Value.slice p_0_0.p p_0_0.l p_0_0.c), (Value.slice p_0_1.p p_0_1.l p_0_1.c), (Value.slice p_0_2.p p_0_2.l p_0_2.c), (Value.int .i64 p_0_3), (Value.int .i64 p_0_4)]), (Value.agg #[(Value.slice r_1_0.p r_1_0.l r_1_0.c), (Value.int .i64 r_1_1), (Value.int .i64 r_1_2), (Value.slice r_1_3.p r_1_3.l r_1_3.c)]), (Value.int .i64 n_2), (Value.slice f_3.p f_3.l f_3.c), (Value.slice seen_4.p seen_4.l seen_4.c)] w fun e w'=>∃ r0:Bool, e=.returned (Value.bool r0)/\K r0 w'
noncomputable def z2a_S:Pw.Spec := fun vs w Kv =>
 match vs with
 | [.agg ⟨[.slice p_0_0p p_0_0l p_0_0c, .slice p_0_1p p_0_1l p_0_1c, .slice p_0_2p p_0_2l p_0_2c, .int .i64 p_0_3, .int .i64 p_0_4]⟩, .agg ⟨[.slice r_1_0p r_1_0l r_1_0c, .int .i64 r_1_1, .int .i64 r_1_2, .slice r_1_3p r_1_3l r_1_3c]⟩, .int .i64 n_2, .slice f_3p f_3l f_3c, .slice seen_4p seen_4l seen_4c]=>z2a_sh ⟨p_0_0p, p_0_0l, p_0_0c⟩ ⟨p_0_1p, p_0_1l, p_0_1c⟩ ⟨p_0_2p, p_0_2l, p_0_2c⟩ p_0_3 p_0_4 ⟨r_1_0p, r_1_0l, r_1_0c⟩ r_1_1 r_1_2 ⟨r_1_3p, r_1_3l, r_1_3c⟩ n_2 ⟨f_3p, f_3l, f_3c⟩ ⟨seen_4p, seen_4l, seen_4c⟩ (fun r0 w'=>Kv (Value.bool r0) w') w
 | _=>False
def z2a_b0 (n_2:Int) (f_3 seen_4:Sl) (p_5 r_6 x_11:Addr) (l_12:Sl) (i_13:Int) (N0:Int->Sl->Sl->Addr->Addr->Addr->Sl->Int->World->Prop) (K:Pw.T0) (w:World):Prop :=
 cnd (decide (i_13 < (l_12.l:Int)))
 (let w37 := w.drew
 ∃ S38:World->Prop, S38 w37/\∃ x39:Sl, (∀ w':World, S38 w'->w'.cell? (x_11.add 3)=some (Value.slice x39.p x39.l x39.c))/\nz x39.p fun a40=>(0 <= i_13/\i_13 < (x39.l:Nat))/\∃ x41:Int, (∀ w':World, S38 w'->w'.cell? (a40.add (i_13.toNat * 1))=some (Value.int .i64 x41))/\cnd (decide (x41 <= n_2))
 (K false w37)
 (∃ x42:Sl, (∀ w':World, S38 w'->w'.cell? p_5=some (Value.slice x42.p x42.l x42.c))/\∃ x43:Sl, (∀ w':World, S38 w'->w'.cell? (p_5.add 1)=some (Value.slice x43.p x43.l x43.c))/\∃ x44:Sl, (∀ w':World, S38 w'->w'.cell? (p_5.add 2)=some (Value.slice x44.p x44.l x44.c))/\∃ x45:Int, (∀ w':World, S38 w'->w'.cell? (p_5.add 3)=some (Value.int .i64 x45))/\∃ x46:Int, (∀ w':World, S38 w'->w'.cell? (p_5.add 4)=some (Value.int .i64 x46))/\∃ x47:Sl, (∀ w':World, S38 w'->w'.cell? r_6=some (Value.slice x47.p x47.l x47.c))/\∃ x48:Int, (∀ w':World, S38 w'->w'.cell? (r_6.add 1)=some (Value.int .i64 x48))/\∃ x49:Int, (∀ w':World, S38 w'->w'.cell? (r_6.add 2)=some (Value.int .i64 x49))/\∃ x50:Sl, (∀ w':World, S38 w'->w'.cell? (r_6.add 3)=some (Value.slice x50.p x50.l x50.c))/\∃ x51:Sl, (∀ w':World, S38 w'->w'.cell? (x_11.add 3)=some (Value.slice x51.p x51.l x51.c))/\nz x51.p fun a52=>(0 <= i_13/\i_13 < (x51.l:Nat))/\∃ x53:Int, (∀ w':World, S38 w'->w'.cell? (a52.add (i_13.toNat * 1))=some (Value.int .i64 x53))/\nz l_12.p fun a54=>(0 <= i_13/\i_13 < (l_12.l:Nat))/\∃ x55:Int, (∀ w':World, S38 w'->w'.cell? (a54.add (i_13.toNat * 1))=some (Value.int .i64 x55))/\(let w56 := w37.alloc (Obj.cells #[] 3)
 S38 w56/\(apS 1 8 [(Value.int .i64 0)] 3 (Sl.mk (some (Addr.mk w37.heap.size 0 none)) 0 0) f_3 w56 fun s57 w58=>S38 w58/\let w59 := w58.alloc (Obj.cells #[(Value.int .i64 x55)] 3)
 S38 w59/\apS 1 8 [(Value.int .i64 0)] 3 s57 (Sl.mk (some (Addr.mk w58.heap.size 0 none)) 1 1) w59 fun s60 w61=>S38 w61/\z2a_sh x42 x43 x44 x45 x46 x47 x48 x49 x50 x53 s60 seen_4 (fun r63 w62=>S38 w62/\cnd (!r63)
 (K false w62)
 (inR .i64 (i_13 + (1:Int))/\N0 n_2 f_3 seen_4 p_5 r_6 x_11 l_12 (i_13 + (1:Int)) w62)) w61)
/\(let w64 := w56.alloc (Obj.cells #[(Value.int .i64 x55)] 3)
 S38 w64/\apS 1 8 [(Value.int .i64 0)] 3 (Sl.mk (some (Addr.mk w37.heap.size 0 none)) 0 0) f_3 w64 fun s65 w66=>S38 w66/\apS 1 8 [(Value.int .i64 0)] 3 s65 (Sl.mk (some (Addr.mk w56.heap.size 0 none)) 1 1) w66 fun s67 w68=>S38 w68/\z2a_sh x42 x43 x44 x45 x46 x47 x48 x49 x50 x53 s67 seen_4 (fun r70 w69=>S38 w69/\cnd (!r70)
 (K false w69)
 (inR .i64 (i_13 + (1:Int))/\N0 n_2 f_3 seen_4 p_5 r_6 x_11 l_12 (i_13 + (1:Int)) w69)) w68))
/\(let w71 := w37.alloc (Obj.cells #[(Value.int .i64 x55)] 3)
 S38 w71/\let w72 := w71.alloc (Obj.cells #[] 3)
 S38 w72/\apS 1 8 [(Value.int .i64 0)] 3 (Sl.mk (some (Addr.mk w71.heap.size 0 none)) 0 0) f_3 w72 fun s73 w74=>S38 w74/\apS 1 8 [(Value.int .i64 0)] 3 s73 (Sl.mk (some (Addr.mk w37.heap.size 0 none)) 1 1) w74 fun s75 w76=>S38 w76/\z2a_sh x42 x43 x44 x45 x46 x47 x48 x49 x50 x53 s75 seen_4 (fun r78 w77=>S38 w77/\cnd (!r78)
 (K false w77)
 (inR .i64 (i_13 + (1:Int))/\N0 n_2 f_3 seen_4 p_5 r_6 x_11 l_12 (i_13 + (1:Int)) w77)) w76)))
 (K true w)
def z2a_l0d (n_2:Int) (f_3 seen_4:Sl) (p_5 r_6 x_11:Addr) (l_12:Sl) (i_13:Int) (K:Pw.T0) (w:World):Prop :=
 ∃ (I:Int->World->Prop) (μ:Int->World->Nat), I i_13 w/\∀ (i_131:Int) (w1:World), I i_131 w1 ->
 z2a_b0 n_2 f_3 seen_4 p_5 r_6 x_11 l_12 i_131 (fun n_2' f_3' seen_4' p_5' r_6' x_11' l_12' i_13' w'=>((n_2'=n_2/\f_3'=f_3/\seen_4'=seen_4/\p_5'=p_5/\r_6'=r_6/\x_11'=x_11/\l_12'=l_12/\True)/\I i_13' w')/\μ i_13' w' < μ i_131 w1) K w1
structure z2a_l0 (n_2:Int) (f_3 seen_4:Sl) (p_5 r_6 x_11:Addr) (l_12:Sl) (i_13:Int) (K:Pw.T0) (w:World):Prop where
 out:z2a_l0d n_2 f_3 seen_4 p_5 r_6 x_11 l_12 i_13 K w
def z2a_P0 (Kv:VW) (ρ:Rho) (vs:List Value) (w:World):Prop :=
 match ρ, vs with
 | _, [.int .i64 n_2, .slice f_3p f_3l f_3c, .slice seen_4p seen_4l seen_4c, .pointer (some p_5), .pointer (some r_6), .pointer (some x_11), .slice l_12p l_12l l_12c, .int .i64 i_13]=>z2a_l0 n_2 ⟨f_3p, f_3l, f_3c⟩ ⟨seen_4p, seen_4l, seen_4c⟩ p_5 r_6 x_11 ⟨l_12p, l_12l, l_12c⟩ i_13 (fun r0 w'=>Kv (Value.bool r0) w') w
 | _, _=>False
def z0p_b1 (p_1:Addr) (out_3 now_4:Int) (i_5 n_6 k_7:Int) (N1:Addr->Int->Int->Int->Int->Int->World->Prop) (N0:Addr->Int->Int->Int->World->Prop) (K:Pw.T1) (w:World):Prop :=
 ∃ x3:Sl, w.cell? (p_1.add 1)=some (Value.slice x3.p x3.l x3.c)/\cnd (decide (k_7 < (x3.l:Int)))
 (let w4 := w.drew
 ∃ x5:Sl, w4.cell? (p_1.add 1)=some (Value.slice x5.p x5.l x5.c)/\nz x5.p fun a6=>(0 <= k_7/\k_7 < (x5.l:Nat))/\∃ x7:Int, w4.cell? (a6.add (k_7.toNat * 4))=some (Value.int .i64 x7)/\∃ x8:Sl, w4.cell? p_1=some (Value.slice x8.p x8.l x8.c)/\nz x8.p fun a9=>(0 <= i_5/\i_5 < (x8.l:Nat))/\∃ x10:Int, w4.cell? (a9.add (i_5.toNat * 1))=some (Value.int .i64 x10)/\cnd (x7 == x10)
 (inR .i64 (n_6 + (1:Int))/\inR .i64 (k_7 + (1:Int))/\N1 p_1 out_3 now_4 i_5 (n_6 + (1:Int)) (k_7 + (1:Int)) w4)
 (inR .i64 (k_7 + (1:Int))/\N1 p_1 out_3 now_4 i_5 n_6 (k_7 + (1:Int)) w4))
 (inR .i64 (now_4 * n_6)/\inR .i64 (out_3 + (now_4 * n_6))/\inR .i64 (i_5 + (1:Int))/\N0 p_1 (out_3 + (now_4 * n_6)) (now_4 * n_6) (i_5 + (1:Int)) w)
def z0p_l1d (p_1:Addr) (out_3 now_4:Int) (i_5 n_6 k_7:Int) (N0:Addr->Int->Int->Int->World->Prop) (K:Pw.T1) (w:World):Prop :=
 ∃ (I:Int->Int->World->Prop) (μ:Int->Int->World->Nat), I n_6 k_7 w/\∀ (n_61 k_71:Int) (w1:World), I n_61 k_71 w1 ->
 z0p_b1 p_1 out_3 now_4 i_5 n_61 k_71 (fun p_1' out_3' now_4' i_5' n_6' k_7' w'=>((p_1'=p_1/\out_3'=out_3/\now_4'=now_4/\i_5'=i_5/\True)/\I n_6' k_7' w')/\μ n_6' k_7' w' < μ n_61 k_71 w1) N0 K w1
structure z0p_l1 (p_1:Addr) (out_3 now_4:Int) (i_5 n_6 k_7:Int) (N0:Addr->Int->Int->Int->World->Prop) (K:Pw.T1) (w:World):Prop where
 out:z0p_l1d p_1 out_3 now_4 i_5 n_6 k_7 N0 K w
def z0p_b0 (p_1:Addr) (out_3 now_4 i_5:Int) (N0:Addr->Int->Int->Int->World->Prop) (K:Pw.T1) (w:World):Prop :=
 ∃ x2:Sl, w.cell? p_1=some (Value.slice x2.p x2.l x2.c)/\cnd (decide (i_5 < (x2.l:Int)))
 (z0p_l1 p_1 out_3 now_4 i_5 (1:Int) (0:Int) N0 K w)
 (K out_3 w)
def z0p_l0d (p_1:Addr) (out_3 now_4 i_5:Int) (K:Pw.T1) (w:World):Prop :=
 ∃ (I:Int->Int->Int->World->Prop) (μ:Int->Int->Int->World->Nat), I out_3 now_4 i_5 w/\∀ (out_31 now_41 i_51:Int) (w1:World), I out_31 now_41 i_51 w1 ->
 z0p_b0 p_1 out_31 now_41 i_51 (fun p_1' out_3' now_4' i_5' w'=>((p_1'=p_1/\True)/\I out_3' now_4' i_5' w')/\μ out_3' now_4' i_5' w' < μ out_31 now_41 i_51 w1) K w1
structure z0p_l0 (p_1:Addr) (out_3 now_4 i_5:Int) (K:Pw.T1) (w:World):Prop where
 out:z0p_l0d p_1 out_3 now_4 i_5 K w
def z0p_sd (p_0_0 p_0_1 p_0_2:Sl) (p_0_3 p_0_4:Int) (K:Pw.T1) (w:World):Prop :=
 let w1 := w.alloc (Obj.cells #[(Value.slice p_0_0.p p_0_0.l p_0_0.c), (Value.slice p_0_1.p p_0_1.l p_0_1.c), (Value.slice p_0_2.p p_0_2.l p_0_2.c), (Value.int .i64 p_0_3), (Value.int .i64 p_0_4)] 28)
 z0p_l0 (Addr.mk w.heap.size 0 none) (1:Int) (1:Int) (0:Int) K w1
structure z0p_sh (p_0_0 p_0_1 p_0_2:Sl) (p_0_3 p_0_4:Int) (K:Pw.T1) (w:World):Prop where
 out:z0p_sd p_0_0 p_0_1 p_0_2 p_0_3 p_0_4 K w
def z0p_L0 (Kv:VW):Cur [tQ, tI, tI, tI] WP := fun p_1 out_3 now_4 i_5=>z0p_l0 p_1 out_3 now_4 i_5 (kk [tI] Kv)
def z0p_L1 (Kv:VW):Cur [tQ, tI, tI, tI] WP->Cur [tQ, tI, tI, tI, tI, tI] WP := fun N0 p_1 out_3 now_4 i_5 n_6 k_7=>z0p_l1 p_1 out_3 now_4 i_5 n_6 k_7 N0 (kk [tI] Kv)
noncomputable def z0p_S:Pw.Spec := fun vs w Kv=>un [.g 5, tL, tL, tL, tI, tI] (fun p_0_0 p_0_1 p_0_2 p_0_3 p_0_4=>z0p_sh p_0_0 p_0_1 p_0_2 p_0_3 p_0_4 (kk [tI] Kv)) nF vs w
def z0p_A (Kv:VW):A := (qr 2 (qr 1 (qr 1 (qs (qr 1 (qb (A.loop [1, 3, 4, 5] (uR0 [tQ, tI, tI, tI] (z0p_L0 Kv)) (qs (qr 5 (qc ql ql)) (qs (qb (qr 1 (qs (qr 1 (qb (A.loop [1, 3, 4, 5, 6, 7] (uR1 [tQ, tI, tI, tI] [tQ, tI, tI, tI, tI, tI] (z0p_L1 Kv)) (qs (qr 5 (qc ql ql)) (qs (qb (qs (A.drp (dp [0, 1, 2, 3, 4, 5, 6, 7, 8, 9, 10, 11] DA.done)) (qc (qe 3) ql))) (qe 3)))))) (qr 4 (qe 4))))) (qe 3)))))) (qr 2 ql)))))
theorem z0p_ok:Sound Tryz.prog 20 z0p_S := okS (x := z0p_A) (fun Kv p_0_0 p_0_1 p_0_2 p_0_3 p_0_4=>z0p_sd p_0_0 p_0_1 p_0_2 p_0_3 p_0_4 (kk [tI] Kv)) progMixed (Γ := []) trivial Tryz.call20 Tryz.func20 (fun Kv=>hStep (hLoop0 (L := z0p_L0 Kv) (fun N0 p_1 out_3 now_4 i_5=>z0p_b0 p_1 out_3 now_4 i_5 N0 (kk [tI] Kv)) (fun ⟨a0, _, _, _, _⟩ _ h=>let ⟨I, μ, h0, hr⟩ := h.out; ⟨fun b0 b1 b2 b3 w=>(b0=a0/\True)/\I b1 b2 b3 w, fun _ b1 b2 b3 w=>μ b1 b2 b3 w, ⟨⟨rfl, trivial⟩, h0⟩, fun ⟨_, _, _, _, _⟩ _ ⟨⟨e0, _⟩, hI⟩=>by cases e0; exact hr _ _ _ _ hI⟩)) <| hStep (hLoop1 (L := z0p_L1 Kv) (fun N0 N1 p_1 out_3 now_4 i_5 n_6 k_7=>z0p_b1 p_1 out_3 now_4 i_5 n_6 k_7 N1 N0 (kk [tI] Kv)) (fun _ ⟨a0, a1, a2, a3, _, _, _⟩ _ h=>let ⟨I, μ, h0, hr⟩ := h.out; ⟨fun b0 b1 b2 b3 b4 b5 w=>(b0=a0/\b1=a1/\b2=a2/\b3=a3/\True)/\I b4 b5 w, fun _ _ _ _ b4 b5 w=>μ b4 b5 w, ⟨⟨rfl, rfl, rfl, rfl, trivial⟩, h0⟩, fun ⟨_, _, _, _, _, _, _⟩ _ ⟨⟨e0, e1, e2, e3, _⟩, hI⟩=>by cases e0; cases e1; cases e2; cases e3; exact hr _ _ _ hI⟩)) <| hEnd)
structure z27_sh (p_0_0 p_0_1 p_0_2:Sl) (p_0_3 p_0_4:Int) (f_1 known_2:Sl) (K:Pw.T2) (w:World):Prop where
 out:Calls Tryz.prog 49 #[(Value.agg #[(Value.slice p_0_0.p p_0_0.l p_0_0.c), (Value.slice p_0_1.p p_0_1.l p_0_1.c), (Value.slice p_0_2.p p_0_2.l p_0_2.c), (Value.int .i64 p_0_3), (Value.int .i64 p_0_4)]), (Value.slice f_1.p f_1.l f_1.c), (Value.slice known_2.p known_2.l known_2.c)] w fun e w'=>∃ r0:Sl, e=.returned (Value.slice r0.p r0.l r0.c)/\K r0 w'
noncomputable def z27_S:Pw.Spec := fun vs w Kv =>
 match vs with
 | [.agg ⟨[.slice p_0_0p p_0_0l p_0_0c, .slice p_0_1p p_0_1l p_0_1c, .slice p_0_2p p_0_2l p_0_2c, .int .i64 p_0_3, .int .i64 p_0_4]⟩, .slice f_1p f_1l f_1c, .slice known_2p known_2l known_2c]=>z27_sh ⟨p_0_0p, p_0_0l, p_0_0c⟩ ⟨p_0_1p, p_0_1l, p_0_1c⟩ ⟨p_0_2p, p_0_2l, p_0_2c⟩ p_0_3 p_0_4 ⟨f_1p, f_1l, f_1c⟩ ⟨known_2p, known_2l, known_2c⟩ (fun r0 w'=>Kv (Value.slice r0.p r0.l r0.c) w') w
 | _=>False
theorem z27_okr:Sound Tryz.prog 49 z27_S := ⟨Tryz.call49, fun vs w Kv h=>by
  unfold z27_S at h
  split at h
  · exact h.out.mono fun e w' he=>by
      obtain ⟨_, he, hk⟩ := he
      exact ⟨_, he, hk⟩
  · exact h.elim⟩
def z27_b0 (f_1 known_2:Sl) (p_3:Addr) (l_8:Sl) (i_9:Int) (N0:Sl->Sl->Addr->Sl->Int->World->Prop) (K:Pw.T2) (w:World):Prop :=
 cnd (decide (i_9 < (l_8.l:Int)))
 (let w20 := w.drew
 ∃ S21:World->Prop, S21 w20/\∃ x22:Sl, (∀ w':World, S21 w'->w'.cell? p_3=some (Value.slice x22.p x22.l x22.c))/\∃ x23:Sl, (∀ w':World, S21 w'->w'.cell? (p_3.add 1)=some (Value.slice x23.p x23.l x23.c))/\∃ x24:Sl, (∀ w':World, S21 w'->w'.cell? (p_3.add 2)=some (Value.slice x24.p x24.l x24.c))/\∃ x25:Int, (∀ w':World, S21 w'->w'.cell? (p_3.add 3)=some (Value.int .i64 x25))/\∃ x26:Int, (∀ w':World, S21 w'->w'.cell? (p_3.add 4)=some (Value.int .i64 x26))/\nz l_8.p fun a27=>(0 <= i_9/\i_9 < (l_8.l:Nat))/\∃ x28:Int, (∀ w':World, S21 w'->w'.cell? (a27.add (i_9.toNat * 1))=some (Value.int .i64 x28))/\(let w29 := w20.alloc (Obj.cells #[] 3)
 S21 w29/\(apS 1 8 [(Value.int .i64 0)] 3 (Sl.mk (some (Addr.mk w20.heap.size 0 none)) 0 0) f_1 w29 fun s30 w31=>S21 w31/\let w32 := w31.alloc (Obj.cells #[(Value.int .i64 x28)] 3)
 S21 w32/\apS 1 8 [(Value.int .i64 0)] 3 s30 (Sl.mk (some (Addr.mk w31.heap.size 0 none)) 1 1) w32 fun s33 w34=>S21 w34/\z27_sh x22 x23 x24 x25 x26 s33 known_2 (fun r36 w35=>S21 w35/\inR .i64 (i_9 + (1:Int))/\N0 f_1 r36 p_3 l_8 (i_9 + (1:Int)) w35) w34)
/\(let w37 := w29.alloc (Obj.cells #[(Value.int .i64 x28)] 3)
 S21 w37/\apS 1 8 [(Value.int .i64 0)] 3 (Sl.mk (some (Addr.mk w20.heap.size 0 none)) 0 0) f_1 w37 fun s38 w39=>S21 w39/\apS 1 8 [(Value.int .i64 0)] 3 s38 (Sl.mk (some (Addr.mk w29.heap.size 0 none)) 1 1) w39 fun s40 w41=>S21 w41/\z27_sh x22 x23 x24 x25 x26 s40 known_2 (fun r43 w42=>S21 w42/\inR .i64 (i_9 + (1:Int))/\N0 f_1 r43 p_3 l_8 (i_9 + (1:Int)) w42) w41))
/\(let w44 := w20.alloc (Obj.cells #[(Value.int .i64 x28)] 3)
 S21 w44/\let w45 := w44.alloc (Obj.cells #[] 3)
 S21 w45/\apS 1 8 [(Value.int .i64 0)] 3 (Sl.mk (some (Addr.mk w44.heap.size 0 none)) 0 0) f_1 w45 fun s46 w47=>S21 w47/\apS 1 8 [(Value.int .i64 0)] 3 s46 (Sl.mk (some (Addr.mk w20.heap.size 0 none)) 1 1) w47 fun s48 w49=>S21 w49/\z27_sh x22 x23 x24 x25 x26 s48 known_2 (fun r51 w50=>S21 w50/\inR .i64 (i_9 + (1:Int))/\N0 f_1 r51 p_3 l_8 (i_9 + (1:Int)) w50) w49))
 (K known_2 w)
def z27_l0d (f_1 known_2:Sl) (p_3:Addr) (l_8:Sl) (i_9:Int) (K:Pw.T2) (w:World):Prop :=
 ∃ (I:Sl->Int->World->Prop) (μ:Sl->Int->World->Nat), I known_2 i_9 w/\∀ (known_21:Sl) (i_91:Int) (w1:World), I known_21 i_91 w1 ->
 z27_b0 f_1 known_21 p_3 l_8 i_91 (fun f_1' known_2' p_3' l_8' i_9' w'=>((f_1'=f_1/\p_3'=p_3/\l_8'=l_8/\True)/\I known_2' i_9' w')/\μ known_2' i_9' w' < μ known_21 i_91 w1) K w1
structure z27_l0 (f_1 known_2:Sl) (p_3:Addr) (l_8:Sl) (i_9:Int) (K:Pw.T2) (w:World):Prop where
 out:z27_l0d f_1 known_2 p_3 l_8 i_9 K w
def z27_sd (p_0_0 p_0_1 p_0_2:Sl) (p_0_3 p_0_4:Int) (f_1 known_2:Sl) (K:Pw.T2) (w:World):Prop :=
 let w1 := w.alloc (Obj.cells #[(Value.slice p_0_0.p p_0_0.l p_0_0.c), (Value.slice p_0_1.p p_0_1.l p_0_1.c), (Value.slice p_0_2.p p_0_2.l p_0_2.c), (Value.int .i64 p_0_3), (Value.int .i64 p_0_4)] 28)
 ∃ x2:Sl, w1.cell? (Addr.mk w.heap.size 0 none)=some (Value.slice x2.p x2.l x2.c)/\cnd ((f_1.l:Int) == (x2.l:Int))
 (∃ x3:Sl, w1.cell? (Addr.mk w.heap.size 0 none)=some (Value.slice x3.p x3.l x3.c)/\∃ x4:Sl, w1.cell? (Addr.mk w.heap.size 1 none)=some (Value.slice x4.p x4.l x4.c)/\∃ x5:Sl, w1.cell? (Addr.mk w.heap.size 2 none)=some (Value.slice x5.p x5.l x5.c)/\∃ x6:Int, w1.cell? (Addr.mk w.heap.size 3 none)=some (Value.int .i64 x6)/\∃ x7:Int, w1.cell? (Addr.mk w.heap.size 4 none)=some (Value.int .i64 x7)/\z1c_sh x3 x4 x5 x6 x7 f_1 known_2 (fun r9 w8=>cnd r9
 (let w10 := w8.alloc (Obj.cells #[] 3)
 apS 1 8 [(Value.int .i64 0)] 3 (Sl.mk (some (Addr.mk w8.heap.size 0 none)) 0 0) f_1 w10 fun s11 w12=>K s11 w12)
 (K known_2 w8)) w1)
 (∃ x13:Sl, w1.cell? (Addr.mk w.heap.size 0 none)=some (Value.slice x13.p x13.l x13.c)/\∃ x14:Sl, w1.cell? (Addr.mk w.heap.size 1 none)=some (Value.slice x14.p x14.l x14.c)/\∃ x15:Sl, w1.cell? (Addr.mk w.heap.size 2 none)=some (Value.slice x15.p x15.l x15.c)/\∃ x16:Int, w1.cell? (Addr.mk w.heap.size 3 none)=some (Value.int .i64 x16)/\∃ x17:Int, w1.cell? (Addr.mk w.heap.size 4 none)=some (Value.int .i64 x17)/\z14_sh x13 x14 x15 x16 x17 (f_1.l:Int) (fun r19 w18=>z27_l0 f_1 known_2 (Addr.mk w.heap.size 0 none) r19 (0:Int) K w18) w1)
def z27_P0 (Kv:VW) (ρ:Rho) (vs:List Value) (w:World):Prop :=
 match ρ, vs with
 | _, [.slice f_1p f_1l f_1c, .slice known_2p known_2l known_2c, .pointer (some p_3), .slice l_8p l_8l l_8c, .int .i64 i_9]=>z27_l0 ⟨f_1p, f_1l, f_1c⟩ ⟨known_2p, known_2l, known_2c⟩ p_3 ⟨l_8p, l_8l, l_8c⟩ i_9 (fun r0 w'=>Kv (Value.slice r0.p r0.l r0.c) w') w
 | _, _=>False
noncomputable def z27_E:Pw.Env := [(49, z27_S), (99, z1c_S), (100, z14_S)]
noncomputable def z27_C:Code := (Tryz.f49.body).getD .skip
noncomputable def z27_A (Kv:VW):Pw.A :=
 (qr 2 (qs (qr 6 (qc (qr 5 (qs (qr 1 (qc (qr 4 ql) ql)) (qr 2 ql))) ql)) (qr 5 (qs (qr 1 (qb (A.loop [1, 2, 3, 8, 9] (z27_P0 Kv) (qs (qr 4 (qc ql ql)) (qs (qb (A.drw (dp [0, 2, 4, 5, 6, 7, 10] (DA.two 1 (DA.two 3 (DA.eff 8 (DA.eff 9 (DA.eff 11 (DA.pur 12 DA.done)))) 8 (DA.eff 3 (DA.eff 9 (DA.eff 11 (DA.pur 12 DA.done))))) 8 (DA.eff 1 (DA.eff 3 (DA.eff 9 (DA.eff 11 (DA.pur 12 DA.done))))))))) (qe 3)))))) (qr 2 ql)))))
noncomputable def z27_O (Kv:VW):List Ob := (obs Tryz.prog z27_E 48 (z27_A Kv) z27_C (fun _=>retQ Tryz.prog Tryz.f49.results Kv))
theorem z27_e (Kv:VW) (p_0_0p:Option Addr) (p_0_0l p_0_0c:Nat) (p_0_1p:Option Addr) (p_0_1l p_0_1c:Nat) (p_0_2p:Option Addr) (p_0_2l p_0_2c:Nat) (p_0_3 p_0_4:Int) (f_1p:Option Addr) (f_1l f_1c:Nat) (known_2p:Option Addr) (known_2l known_2c:Nat) (w:World):z27_sd ⟨p_0_0p, p_0_0l, p_0_0c⟩ ⟨p_0_1p, p_0_1l, p_0_1c⟩ ⟨p_0_2p, p_0_2l, p_0_2c⟩ p_0_3 p_0_4 ⟨f_1p, f_1l, f_1c⟩ ⟨known_2p, known_2l, known_2c⟩ (fun r0 w'=>Kv (Value.slice r0.p r0.l r0.c) w') w=W Tryz.prog z27_E 48 (z27_A Kv) z27_C [] (retQ Tryz.prog Tryz.f49.results Kv) [] (startS [(Value.agg #[(Value.slice p_0_0p p_0_0l p_0_0c), (Value.slice p_0_1p p_0_1l p_0_1c), (Value.slice p_0_2p p_0_2l p_0_2c), (Value.int .i64 p_0_3), (Value.int .i64 p_0_4)]), (Value.slice f_1p f_1l f_1c), (Value.slice known_2p known_2l known_2c)]) w := by kernel_rfl
theorem z27_e0 (Kv:VW) (N0:List Value->World->Prop) (ρ:Rho) (f_1p:Option Addr) (f_1l f_1c:Nat) (known_2p:Option Addr) (known_2l known_2c:Nat) (p_3:Addr) (l_8p:Option Addr) (l_8l l_8c:Nat) (i_9:Int) (w:World):z27_b0 ⟨f_1p, f_1l, f_1c⟩ ⟨known_2p, known_2l, known_2c⟩ p_3 ⟨l_8p, l_8l, l_8c⟩ i_9 (fun f_1' known_2' p_3' l_8' i_9' w'=>N0 [(Value.slice f_1'.p f_1'.l f_1'.c), (Value.slice known_2'.p known_2'.l known_2'.c), (Value.pointer (some p_3')), (Value.slice l_8'.p l_8'.l l_8'.c), (Value.int .i64 i_9')] w') (fun r0 w'=>Kv (Value.slice r0.p r0.l r0.c) w') w=goalAt Tryz.prog z27_E 48 (z27_O Kv) 0 (N0 :: ρ) [(Value.slice f_1p f_1l f_1c), (Value.slice known_2p known_2l known_2c), (Value.pointer (some p_3)), (Value.slice l_8p l_8l l_8c), (Value.int .i64 i_9)] w := by kernel_rfl
theorem z27_q0 (Kv:VW) (ρ:Rho) (vs:List Value) (w:World):labAt (z27_O Kv) 0 ρ vs w=z27_P0 Kv ρ vs w := by kernel_rfl
def z27_I0 (f_10:Sl) (p_30:Addr) (l_80:Sl) (I:Sl->Int->World->Prop) (vs:List Value) (w:World):Prop :=
 match vs with
 | [.slice f_1p f_1l f_1c, .slice known_2p known_2l known_2c, .pointer (some p_3), .slice l_8p l_8l l_8c, .int .i64 i_9]=>(⟨f_1p, f_1l, f_1c⟩=f_10/\p_3=p_30/\⟨l_8p, l_8l, l_8c⟩=l_80/\True)/\I ⟨known_2p, known_2l, known_2c⟩ i_9 w
 | _=>False
def z27_M0 (μ:Sl->Int->World->Nat) (vs:List Value) (w:World):Nat :=
 match vs with
 | [.slice f_1p f_1l f_1c, .slice known_2p known_2l known_2c, .pointer (some p_3), .slice l_8p l_8l l_8c, .int .i64 i_9]=>μ ⟨known_2p, known_2l, known_2c⟩ i_9 w
 | _=>0
theorem z27_h0 (Kv:VW):holdsAt Tryz.prog z27_E 48 (z27_O Kv) 0 := holdsAt_loop (by kernel_rfl) (fun ρ vs w h=>by
  rw [z27_q0] at h
  unfold z27_P0 at h
  split at h
  · rename_i ρt f_1p f_1l f_1c known_2p known_2l known_2c p_3 l_8p l_8l l_8c i_9
    obtain ⟨I, μ, h0, hr⟩ := h.out
    refine ⟨z27_I0 ⟨f_1p, f_1l, f_1c⟩ p_3 ⟨l_8p, l_8l, l_8c⟩ I, z27_M0 μ, ⟨⟨rfl, rfl, rfl, trivial⟩, h0⟩, fun vs w hI=>?_⟩
    unfold z27_I0 at hI
    split at hI
    · obtain ⟨⟨h0, h1, h2, _⟩, hI⟩ := hI
      cases h0; cases h1; cases h2
      rw [← z27_e0]
      exact hr _ _ _ hI
    · exact hI.elim
  · exact h.elim)
theorem z27_n (Kv:VW):obAt (z27_O Kv) 1=none := by kernel_rfl
theorem z27_h (Kv:VW):∀ k, holdsAt Tryz.prog z27_E 48 (z27_O Kv) k := fun k=>match k with
  | 0=>z27_h0 Kv
  | k + 1=>holdsAt_ge (z27_n Kv) (Nat.le_add_left _ _)
theorem z27_mk (p_0_0p:Option Addr) (p_0_0l p_0_0c:Nat) (p_0_1p:Option Addr) (p_0_1l p_0_1c:Nat) (p_0_2p:Option Addr) (p_0_2l p_0_2c:Nat) (p_0_3 p_0_4:Int) (f_1p:Option Addr) (f_1l f_1c:Nat) (known_2p:Option Addr) (known_2l known_2c:Nat) {K:Sl->World->Prop} {w:World} (h:z27_sd ⟨p_0_0p, p_0_0l, p_0_0c⟩ ⟨p_0_1p, p_0_1l, p_0_1c⟩ ⟨p_0_2p, p_0_2l, p_0_2c⟩ p_0_3 p_0_4 ⟨f_1p, f_1l, f_1c⟩ ⟨known_2p, known_2l, known_2c⟩ K w):z27_sh ⟨p_0_0p, p_0_0l, p_0_0c⟩ ⟨p_0_1p, p_0_1l, p_0_1c⟩ ⟨p_0_2p, p_0_2l, p_0_2c⟩ p_0_3 p_0_4 ⟨f_1p, f_1l, f_1c⟩ ⟨known_2p, known_2l, known_2c⟩ K w := by
  have e:(fun r0 w'=>(fun v w'=>∃ r0:Sl, v=(Value.slice r0.p r0.l r0.c)/\K r0 w') (Value.slice r0.p r0.l r0.c) w')=K := by
    funext r0 w'
    apply propext
    constructor
    · rintro ⟨r0', hv, hk⟩
      rcases r0 with ⟨r0_1, r0_2, r0_3⟩; rcases r0' with ⟨r0_4, r0_5, r0_6⟩; cases hv
      exact hk
    · intro hk
      exact ⟨_, rfl, hk⟩
  have h':z27_sd ⟨p_0_0p, p_0_0l, p_0_0c⟩ ⟨p_0_1p, p_0_1l, p_0_1c⟩ ⟨p_0_2p, p_0_2l, p_0_2c⟩ p_0_3 p_0_4 ⟨f_1p, f_1l, f_1c⟩ ⟨known_2p, known_2l, known_2c⟩ (fun r0 w'=>(fun v w'=>∃ r0:Sl, v=(Value.slice r0.p r0.l r0.c)/\K r0 w') (Value.slice r0.p r0.l r0.c) w') w := by rw [e]; exact h
  rw [z27_e (fun v w'=>∃ r0:Sl, v=(Value.slice r0.p r0.l r0.c)/\K r0 w')] at h'
  refine ⟨(calls_sound (Γ := z27_E) progMixed ⟨.inl z27_okr, .inl z1c_ok, .inl z14_ok, trivial⟩ Tryz.func49 (code := z27_C) (by kernel_rfl) (z27_A (fun v w'=>∃ r0:Sl, v=(Value.slice r0.p r0.l r0.c)/\K r0 w')) (fun v w'=>∃ r0:Sl, v=(Value.slice r0.p r0.l r0.c)/\K r0 w') (holds_all (z27_h (fun v w'=>∃ r0:Sl, v=(Value.slice r0.p r0.l r0.c)/\K r0 w'))) (Nat.le_of_ble_eq_true (by kernel_rfl)) h').mono fun e w' he=>?_⟩
  obtain ⟨v, rfl, _, rfl, hk⟩ := he
  exact ⟨_, rfl, hk⟩
def z24_sd (p_0_0 p_0_1 p_0_2:Sl) (p_0_3 p_0_4:Int) (K:Pw.T2) (w:World):Prop :=
 let w1 := w.alloc (Obj.cells #[(Value.slice p_0_0.p p_0_0.l p_0_0.c), (Value.slice p_0_1.p p_0_1.l p_0_1.c), (Value.slice p_0_2.p p_0_2.l p_0_2.c), (Value.int .i64 p_0_3), (Value.int .i64 p_0_4)] 28)
 ∃ x2:Sl, w1.cell? (Addr.mk w.heap.size 0 none)=some (Value.slice x2.p x2.l x2.c)/\∃ x3:Sl, w1.cell? (Addr.mk w.heap.size 1 none)=some (Value.slice x3.p x3.l x3.c)/\∃ x4:Sl, w1.cell? (Addr.mk w.heap.size 2 none)=some (Value.slice x4.p x4.l x4.c)/\∃ x5:Int, w1.cell? (Addr.mk w.heap.size 3 none)=some (Value.int .i64 x5)/\∃ x6:Int, w1.cell? (Addr.mk w.heap.size 4 none)=some (Value.int .i64 x6)/\z27_sh x2 x3 x4 x5 x6 (Sl.mk none 0 0) (Sl.mk none 0 0) (fun r8 w7=>K r8 w7) w1
structure z24_sh (p_0_0 p_0_1 p_0_2:Sl) (p_0_3 p_0_4:Int) (K:Pw.T2) (w:World):Prop where
 out:z24_sd p_0_0 p_0_1 p_0_2 p_0_3 p_0_4 K w
noncomputable def z24_S:Pw.Spec := fun vs w Kv=>un [.g 5, tL, tL, tL, tI, tI] (fun p_0_0 p_0_1 p_0_2 p_0_3 p_0_4=>z24_sh p_0_0 p_0_1 p_0_2 p_0_3 p_0_4 (kk [tL] Kv)) nF vs w
def z24_A (_:VW):A := (qr 2 (qr 3 ql))
theorem z24_ok:Sound Tryz.prog 23 z24_S := okS (x := z24_A) (fun Kv p_0_0 p_0_1 p_0_2 p_0_3 p_0_4=>z24_sd p_0_0 p_0_1 p_0_2 p_0_3 p_0_4 (kk [tL] Kv)) progMixed (Γ := [(49, z27_S)]) ⟨.inl z27_okr, trivial⟩ Tryz.call23 Tryz.func23 (fun _=>hEnd)
def z25_b0 (a_0 b_1:Sl) (i_5:Int) (N0:Sl->Sl->Int->World->Prop) (K:Pw.T0) (w:World):Prop :=
 cnd (decide (i_5 < (a_0.l:Int)))
 (let w1 := w.drew
 nz a_0.p fun a2=>(0 <= i_5/\i_5 < (a_0.l:Nat))/\∃ x3:Int, w1.cell? (a2.add (i_5.toNat * 1))=some (Value.int .i64 x3)/\nz b_1.p fun a4=>(0 <= i_5/\i_5 < (b_1.l:Nat))/\∃ x5:Int, w1.cell? (a4.add (i_5.toNat * 1))=some (Value.int .i64 x5)/\cnd (x3 != x5)
 (K false w1)
 (inR .i64 (i_5 + (1:Int))/\N0 a_0 b_1 (i_5 + (1:Int)) w1))
 (K true w)
def z25_l0d (a_0 b_1:Sl) (i_5:Int) (K:Pw.T0) (w:World):Prop :=
 ∃ (I:Int->World->Prop) (μ:Int->World->Nat), I i_5 w/\∀ (i_51:Int) (w1:World), I i_51 w1 ->
 z25_b0 a_0 b_1 i_51 (fun a_0' b_1' i_5' w'=>((a_0'=a_0/\b_1'=b_1/\True)/\I i_5' w')/\μ i_5' w' < μ i_51 w1) K w1
structure z25_l0 (a_0 b_1:Sl) (i_5:Int) (K:Pw.T0) (w:World):Prop where
 out:z25_l0d a_0 b_1 i_5 K w
def z25_sd (a_0 b_1:Sl) (K:Pw.T0) (w:World):Prop :=
 cnd ((a_0.l:Int) != (b_1.l:Int))
 (K false w)
 (z25_l0 a_0 b_1 (0:Int) K w)
structure z25_sh (a_0 b_1:Sl) (K:Pw.T0) (w:World):Prop where
 out:z25_sd a_0 b_1 K w
def z25_L0 (Kv:VW):Cur [tL, tL, tI] WP := fun a_0 b_1 i_5=>z25_l0 a_0 b_1 i_5 (kk [tB] Kv)
noncomputable def z25_S:Pw.Spec := fun vs w Kv=>un [tL, tL] (fun a_0 b_1=>z25_sh a_0 b_1 (kk [tB] Kv)) nF vs w
def z25_A (Kv:VW):A := (qr 1 (qs (qr 5 (qc (qr 1 ql) ql)) (qs (qr 1 (qb (A.loop [0, 1, 5] (uR0 [tL, tL, tI] (z25_L0 Kv)) (qs (qr 4 (qc ql ql)) (qs (qb (qs (A.drp (dp [0, 1, 2, 3, 4, 5, 6, 7, 8] DA.done)) (qc (qr 1 ql) ql))) (qe 3)))))) (qr 1 ql))))
theorem z25_ok:Sound Tryz.prog 24 z25_S := okS (x := z25_A) (fun Kv a_0 b_1=>z25_sd a_0 b_1 (kk [tB] Kv)) progMixed (Γ := []) trivial Tryz.call24 Tryz.func24 (fun Kv=>hStep (hLoop0 (L := z25_L0 Kv) (fun N0 a_0 b_1 i_5=>z25_b0 a_0 b_1 i_5 N0 (kk [tB] Kv)) (fun ⟨a0, a1, _, _⟩ _ h=>let ⟨I, μ, h0, hr⟩ := h.out; ⟨fun b0 b1 b2 w=>(b0=a0/\b1=a1/\True)/\I b2 w, fun _ _ b2 w=>μ b2 w, ⟨⟨rfl, rfl, trivial⟩, h0⟩, fun ⟨_, _, _, _⟩ _ ⟨⟨e0, e1, _⟩, hI⟩=>by cases e0; cases e1; exact hr _ _ hI⟩)) <| hEnd)
end Go.Proofs.YtfpobpjandjhjaaGreatDoor
