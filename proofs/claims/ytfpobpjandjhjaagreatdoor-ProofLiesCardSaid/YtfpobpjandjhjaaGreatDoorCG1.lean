/- The bodies' formulas, by program. -/
import Derived.Test.YtfpobpjandjhjaaGreatDoorProg
import Derived.KernelRfl
import Derived.Test.YtfpobpjandjhjaaGreatDoorPwY
import Derived.Test.YtfpobpjandjhjaaGreatDoorCG0
set_option maxRecDepth 20000
namespace Go.Proofs.YtfpobpjandjhjaaGreatDoor
open Go Pw
def z2h_sd (n_0 m_1:Int) (K:Pw.T1) (w:World):Prop :=
 m_1 ≠ 0/\inR .i64 ((Int.tmod n_0 m_1) + m_1)/\m_1 ≠ 0/\K (Int.tmod ((Int.tmod n_0 m_1) + m_1) m_1) w
structure z2h_sh (n_0 m_1:Int) (K:Pw.T1) (w:World):Prop where
 out:z2h_sd n_0 m_1 K w
noncomputable def z2h_S:Pw.Spec := fun vs w Kv=>un [tI, tI] (fun n_0 m_1=>z2h_sh n_0 m_1 (kk [tI] Kv)) nF vs w
def z2h_A (_:VW):A := (qr 1 (qr 8 ql))
theorem z2h_ok:Sound Tryz.prog 35 z2h_S := okS (x := z2h_A) (fun Kv n_0 m_1=>z2h_sd n_0 m_1 (kk [tI] Kv)) progMixed (Γ := []) trivial Tryz.call35 Tryz.func35 (fun _=>hEnd)
def z1o_sd (n_0:Int) (K:Pw.T0) (w:World):Prop :=
 cnd (decide (n_0 > (-1000000000:Int)))
 (K (decide (n_0 < (1000000000:Int))) w)
 (K false w)
structure z1o_sh (n_0:Int) (K:Pw.T0) (w:World):Prop where
 out:z1o_sd n_0 K w
noncomputable def z1o_S:Pw.Spec := fun vs w Kv=>un [tI] (fun n_0=>z1o_sh n_0 (kk [tB] Kv)) nF vs w
def z1o_A (_:VW):A := (qr 1 (qs (A.reg (qn 3 (RA.spl 5 (qn 4 RA.done) (qk 2 (qn 2 RA.done))))) ql))
theorem z1o_ok:Sound Tryz.prog 134 z1o_S := okS (x := z1o_A) (fun Kv n_0=>z1o_sd n_0 (kk [tB] Kv)) progMixed (Γ := []) trivial Tryz.call134 Tryz.func134 (fun _=>hEnd)
def z1n_b1 (num_0 den_1:Int) (t_4:Addr) (a_5 b_6:Int) (N1:Int->Int->Addr->Int->Int->World->Prop) (K:Pw.T5) (w:World):Prop :=
 cnd (decide (b_6 > (0:Int)))
 (b_6 ≠ 0/\N1 num_0 den_1 t_4 b_6 (Int.tmod a_5 b_6) w)
 (let w2 := w.drew
 ∃ S3:World->Prop, S3 w2/\a_5 ≠ 0/\inR .i64 (Int.tdiv num_0 a_5)/\a_5 ≠ 0/\inR .i64 (Int.tdiv den_1 a_5)/\wrOk w2 t_4/\
 (let w4 := w2.setCell t_4 (Value.int .i64 (Int.tdiv num_0 a_5))
 wrOk w4 (t_4.add 1)/\
 (let w5 := w4.setCell (t_4.add 1) (Value.int .i64 (Int.tdiv den_1 a_5))
 ∃ x6:Int, w5.cell? t_4=some (Value.int .i64 x6)/\∃ x7:Int, w5.cell? (t_4.add 1)=some (Value.int .i64 x7)/\K x6 x7 w5)))
def z1n_l1d (num_0 den_1:Int) (t_4:Addr) (a_5 b_6:Int) (K:Pw.T5) (w:World):Prop :=
 ∃ (I:Int->Int->World->Prop) (μ:Int->Int->World->Nat), I a_5 b_6 w/\∀ (a_51 b_61:Int) (w1:World), I a_51 b_61 w1 ->
 z1n_b1 num_0 den_1 t_4 a_51 b_61 (fun num_0' den_1' t_4' a_5' b_6' w'=>((num_0'=num_0/\den_1'=den_1/\t_4'=t_4/\True)/\I a_5' b_6' w')/\μ a_5' b_6' w' < μ a_51 b_61 w1) K w1
structure z1n_l1 (num_0 den_1:Int) (t_4:Addr) (a_5 b_6:Int) (K:Pw.T5) (w:World):Prop where
 out:z1n_l1d num_0 den_1 t_4 a_5 b_6 K w
def z1n_k0d (num_0 den_1:Int) (t_4:Addr) (K:Pw.T5) (w:World):Prop :=
 inR .i64 (-num_0)/\z1n_l1 num_0 den_1 t_4 (max num_0 (-num_0)) den_1 K w
structure z1n_k0 (num_0 den_1:Int) (t_4:Addr) (K:Pw.T5) (w:World):Prop where
 out:z1n_k0d num_0 den_1 t_4 K w
def z1n_sd (num_0 den_1:Int) (K:Pw.T5) (w:World):Prop :=
 let w1 := w.alloc (Obj.cells #[(Value.int .i64 0), (Value.int .i64 0)] 31)
 cnd (decide (den_1 < (0:Int)))
 (inR .i64 (-num_0)/\inR .i64 (-den_1)/\z1n_k0 (-num_0) (-den_1) (Addr.mk w.heap.size 0 none) K w1)
 (z1n_k0 num_0 den_1 (Addr.mk w.heap.size 0 none) K w1)
structure z1n_sh (num_0 den_1:Int) (K:Pw.T5) (w:World):Prop where
 out:z1n_sd num_0 den_1 K w
def z1n_L0 (Kv:VW):Cur [tI, tI, tQ] WP := fun num_0 den_1 t_4=>z1n_k0 num_0 den_1 t_4 (kk [.g 2, tI, tI] Kv)
def z1n_L1 (Kv:VW):Cur [tI, tI, tQ, tI, tI] WP := fun num_0 den_1 t_4 a_5 b_6=>z1n_l1 num_0 den_1 t_4 a_5 b_6 (kk [.g 2, tI, tI] Kv)
noncomputable def z1n_S:Pw.Spec := fun vs w Kv=>un [tI, tI] (fun num_0 den_1=>z1n_sh num_0 den_1 (kk [.g 2, tI, tI] Kv)) nF vs w
def z1n_A (Kv:VW):A := (qr 1 (qs (qr 2 (qc (qr 3 (qe 3)) ql)) (A.cut [0, 1, 4] (uR0 [tI, tI, tQ] (z1n_L0 Kv)) (qr 5 (qr 2 (qs (qb (A.loop [0, 1, 4, 5, 6] (uR0 [tI, tI, tQ, tI, tI] (z1n_L1 Kv)) (qs (qr 2 (qc ql ql)) (qb (qr 4 (qr 2 (qe 2))))))) (qs (A.drw (dp [0, 1, 2, 3, 4, 5, 6] (DA.eff 7 DA.done))) ql)))))))
theorem z1n_ok:Sound Tryz.prog 135 z1n_S := okS (x := z1n_A) (fun Kv num_0 den_1=>z1n_sd num_0 den_1 (kk [.g 2, tI, tI] Kv)) progMixed (Γ := []) trivial Tryz.call135 Tryz.func135 (fun Kv=>hStep (hCut0 (F := z1n_L0 Kv) (G := fun num_0 den_1 t_4=>z1n_k0d num_0 den_1 t_4 (kk [.g 2, tI, tI] Kv))) <| hStep (hLoop0 (L := z1n_L1 Kv) (fun N1 num_0 den_1 t_4 a_5 b_6=>z1n_b1 num_0 den_1 t_4 a_5 b_6 N1 (kk [.g 2, tI, tI] Kv)) (fun ⟨a0, a1, a2, _, _, _⟩ _ h=>let ⟨I, μ, h0, hr⟩ := h.out; ⟨fun b0 b1 b2 b3 b4 w=>(b0=a0/\b1=a1/\b2=a2/\True)/\I b3 b4 w, fun _ _ _ b3 b4 w=>μ b3 b4 w, ⟨⟨rfl, rfl, rfl, trivial⟩, h0⟩, fun ⟨_, _, _, _, _, _⟩ _ ⟨⟨e0, e1, e2, _⟩, hI⟩=>by cases e0; cases e1; cases e2; exact hr _ _ _ hI⟩)) <| hEnd)
def z2w_b1 (n_0:Int) (t_2:Addr) (l_3:Sl) (m_4:Int) (N1:Int->Addr->Sl->Int->World->Prop) (K:Pw.T8) (w:World):Prop :=
 cnd (decide (m_4 > (0:Int)))
 ((65536:Int) ≠ 0/\let w2 := w.alloc (Obj.cells #[(Value.int .i64 (IntKind.wrap .i64 (Int.tmod m_4 (65536:Int))))] 3)
 apS 1 8 [(Value.int .i64 0)] 3 l_3 (Sl.mk (some (Addr.mk w.heap.size 0 none)) 1 1) w2 fun s3 w4=>(65536:Int) ≠ 0/\inR .u64 (Int.tdiv m_4 (65536:Int))/\N1 n_0 t_2 s3 (Int.tdiv m_4 (65536:Int)) w4)
 (wrOk w t_2/\
 (let w5 := w.setCell t_2 (Value.bool (decide (n_0 < (0:Int))))
 wrOk w5 (t_2.add 1)/\
 (let w6 := w5.setCell (t_2.add 1) (Value.slice l_3.p l_3.l l_3.c)
 ∃ x7:Bool, w6.cell? t_2=some (Value.bool x7)/\∃ x8:Sl, w6.cell? (t_2.add 1)=some (Value.slice x8.p x8.l x8.c)/\K x7 x8 w6)))
def z2w_l1d (n_0:Int) (t_2:Addr) (l_3:Sl) (m_4:Int) (K:Pw.T8) (w:World):Prop :=
 ∃ (I:Sl->Int->World->Prop) (μ:Sl->Int->World->Nat), I l_3 m_4 w/\∀ (l_31:Sl) (m_41:Int) (w1:World), I l_31 m_41 w1 ->
 z2w_b1 n_0 t_2 l_31 m_41 (fun n_0' t_2' l_3' m_4' w'=>((n_0'=n_0/\t_2'=t_2/\True)/\I l_3' m_4' w')/\μ l_3' m_4' w' < μ l_31 m_41 w1) K w1
structure z2w_l1 (n_0:Int) (t_2:Addr) (l_3:Sl) (m_4:Int) (K:Pw.T8) (w:World):Prop where
 out:z2w_l1d n_0 t_2 l_3 m_4 K w
def z2w_k0d (n_0:Int) (t_2:Addr) (l_3:Sl) (m_4:Int) (K:Pw.T8) (w:World):Prop :=
 z2w_l1 n_0 t_2 l_3 m_4 K w
structure z2w_k0 (n_0:Int) (t_2:Addr) (l_3:Sl) (m_4:Int) (K:Pw.T8) (w:World):Prop where
 out:z2w_k0d n_0 t_2 l_3 m_4 K w
def z2w_sd (n_0:Int) (K:Pw.T8) (w:World):Prop :=
 let w1 := w.alloc (Obj.cells #[(Value.bool false), (Value.slice none 0 0)] 181)
 cnd (decide (n_0 < (0:Int)))
 (z2w_k0 n_0 (Addr.mk w.heap.size 0 none) (Sl.mk none 0 0) (IntKind.wrap .u64 ((0:Int) - (IntKind.wrap .u64 n_0))) K w1)
 (z2w_k0 n_0 (Addr.mk w.heap.size 0 none) (Sl.mk none 0 0) (IntKind.wrap .u64 n_0) K w1)
structure z2w_sh (n_0:Int) (K:Pw.T8) (w:World):Prop where
 out:z2w_sd n_0 K w
def z2w_L0 (Kv:VW):Cur [tI, tQ, tL, tU] WP := fun n_0 t_2 l_3 m_4=>z2w_k0 n_0 t_2 l_3 m_4 (kk [.g 2, tB, tL] Kv)
def z2w_L1 (Kv:VW):Cur [tI, tQ, tL, tU] WP := fun n_0 t_2 l_3 m_4=>z2w_l1 n_0 t_2 l_3 m_4 (kk [.g 2, tB, tL] Kv)
noncomputable def z2w_S:Pw.Spec := fun vs w Kv=>un [tI] (fun n_0=>z2w_sh n_0 (kk [.g 2, tB, tL] Kv)) nF vs w
def z2w_A (Kv:VW):A := (qr 1 (qr 1 (qs (A.reg (qn 1 (RA.raw (qn 1 RA.done)))) (qs (qr 2 (qc (A.reg (qn 1 (RA.raw (qn 1 RA.done)))) ql)) (A.cut [0, 2, 3, 4] (uR0 [tI, tQ, tL, tU] (z2w_L0 Kv)) (qs (qb (A.loop [0, 2, 3, 4] (uR0 [tI, tQ, tL, tU] (z2w_L1 Kv)) (qs (qr 2 (qc ql ql)) (qb (qs (A.reg (qn 3 (RA.raw (qn 3 RA.done)))) (qe 3)))))) (qr 5 ql)))))))
theorem z2w_ok:Sound Tryz.prog 137 z2w_S := okS (x := z2w_A) (fun Kv n_0=>z2w_sd n_0 (kk [.g 2, tB, tL] Kv)) progMixed (Γ := []) trivial Tryz.call137 Tryz.func137 (fun Kv=>hStep (hCut0 (F := z2w_L0 Kv) (G := fun n_0 t_2 l_3 m_4=>z2w_k0d n_0 t_2 l_3 m_4 (kk [.g 2, tB, tL] Kv))) <| hStep (hLoop0 (L := z2w_L1 Kv) (fun N1 n_0 t_2 l_3 m_4=>z2w_b1 n_0 t_2 l_3 m_4 N1 (kk [.g 2, tB, tL] Kv)) (fun ⟨a0, a1, _, _, _⟩ _ h=>let ⟨I, μ, h0, hr⟩ := h.out; ⟨fun b0 b1 b2 b3 w=>(b0=a0/\b1=a1/\True)/\I b2 b3 w, fun _ _ b2 b3 w=>μ b2 b3 w, ⟨⟨rfl, rfl, trivial⟩, h0⟩, fun ⟨_, _, _, _, _⟩ _ ⟨⟨e0, e1, _⟩, hI⟩=>by cases e0; cases e1; exact hr _ _ _ hI⟩)) <| hEnd)
def z21_b0 (l_0:Sl) (N0:Sl->World->Prop) (K:Pw.T2) (w:World):Prop :=
 cnd (decide ((l_0.l:Int) > (0:Int)))
 (inR .i64 ((l_0.l:Int) - (1:Int))/\nz l_0.p fun a1=>(0 <= ((l_0.l:Int) - (1:Int))/\((l_0.l:Int) - (1:Int)) < (l_0.l:Nat))/\∃ x2:Int, w.cell? (a1.add (((l_0.l:Int) - (1:Int)).toNat * 1))=some (Value.int .i64 x2)/\cnd (x2 == (0:Int))
 (inR .i64 ((l_0.l:Int) - (1:Int))/\(0 <= (0:Int)/\(0:Int) <= ((l_0.l:Int) - (1:Int))/\((l_0.l:Int) - (1:Int)) <= (l_0.c:Nat))/\N0 (Sl.mk (subP l_0.p 0 l_0.c 1) (((l_0.l:Int) - (1:Int)).toNat - 0) (l_0.c - 0)) w)
 (K l_0 w))
 (K l_0 w)
def z21_l0d (l_0:Sl) (K:Pw.T2) (w:World):Prop :=
 ∃ (I:Sl->World->Prop) (μ:Sl->World->Nat), I l_0 w/\∀ (l_01:Sl) (w1:World), I l_01 w1 ->
 z21_b0 l_01 (fun l_0' w'=>((True)/\I l_0' w')/\μ l_0' w' < μ l_01 w1) K w1
structure z21_l0 (l_0:Sl) (K:Pw.T2) (w:World):Prop where
 out:z21_l0d l_0 K w
def z21_sd (l_0:Sl) (K:Pw.T2) (w:World):Prop :=
 z21_l0 l_0 K w
structure z21_sh (l_0:Sl) (K:Pw.T2) (w:World):Prop where
 out:z21_sd l_0 K w
def z21_L0 (Kv:VW):Cur [tL] WP := fun l_0=>z21_l0 l_0 (kk [tL] Kv)
noncomputable def z21_S:Pw.Spec := fun vs w Kv=>un [tL] (fun l_0=>z21_sh l_0 (kk [tL] Kv)) nF vs w
def z21_A (Kv:VW):A := (qr 1 (qs (qb (A.loop [0] (uR0 [tL] (z21_L0 Kv)) (qs (qs (A.reg (qn 4 (RA.spl 6 (qn 8 RA.done) (qk 7 (qn 1 RA.done))))) (qc ql ql)) (qb (qe 6))))) (qr 2 ql)))
theorem z21_ok:Sound Tryz.prog 142 z21_S := okS (x := z21_A) (fun Kv l_0=>z21_sd l_0 (kk [tL] Kv)) progMixed (Γ := []) trivial Tryz.call142 Tryz.func142 (fun Kv=>hStep (hLoop0 (L := z21_L0 Kv) (fun N0 l_0=>z21_b0 l_0 N0 (kk [tL] Kv)) (fun ⟨_, _⟩ _ h=>let ⟨I, μ, h0, hr⟩ := h.out; ⟨fun b0 w=>(True)/\I b0 w, fun b0 w=>μ b0 w, ⟨trivial, h0⟩, fun ⟨_, _⟩ _ ⟨_, hI⟩=>by exact hr _ _ hI⟩)) <| hEnd)
def z0y_b0 (a_0 b_1:Sl) (i_5:Int) (N0:Sl->Sl->Int->World->Prop) (K:Pw.T1) (w:World):Prop :=
 cnd (decide (i_5 >= (0:Int)))
 (let w1 := w.drew
 nz a_0.p fun a2=>(0 <= i_5/\i_5 < (a_0.l:Nat))/\∃ x3:Int, w1.cell? (a2.add (i_5.toNat * 1))=some (Value.int .i64 x3)/\nz b_1.p fun a4=>(0 <= i_5/\i_5 < (b_1.l:Nat))/\∃ x5:Int, w1.cell? (a4.add (i_5.toNat * 1))=some (Value.int .i64 x5)/\cnd (x3 != x5)
 (let w6 := w1.drew
 nz a_0.p fun a7=>(0 <= i_5/\i_5 < (a_0.l:Nat))/\∃ x8:Int, w6.cell? (a7.add (i_5.toNat * 1))=some (Value.int .i64 x8)/\nz b_1.p fun a9=>(0 <= i_5/\i_5 < (b_1.l:Nat))/\∃ x10:Int, w6.cell? (a9.add (i_5.toNat * 1))=some (Value.int .i64 x10)/\cnd (decide (x8 < x10))
 (K (-1:Int) w6)
 (K (1:Int) w6))
 (inR .i64 (i_5 - (1:Int))/\N0 a_0 b_1 (i_5 - (1:Int)) w1))
 (K (0:Int) w)
def z0y_l0d (a_0 b_1:Sl) (i_5:Int) (K:Pw.T1) (w:World):Prop :=
 ∃ (I:Int->World->Prop) (μ:Int->World->Nat), I i_5 w/\∀ (i_51:Int) (w1:World), I i_51 w1 ->
 z0y_b0 a_0 b_1 i_51 (fun a_0' b_1' i_5' w'=>((a_0'=a_0/\b_1'=b_1/\True)/\I i_5' w')/\μ i_5' w' < μ i_51 w1) K w1
structure z0y_l0 (a_0 b_1:Sl) (i_5:Int) (K:Pw.T1) (w:World):Prop where
 out:z0y_l0d a_0 b_1 i_5 K w
def z0y_sd (a_0 b_1:Sl) (K:Pw.T1) (w:World):Prop :=
 cnd ((a_0.l:Int) != (b_1.l:Int))
 (cnd (decide ((a_0.l:Int) < (b_1.l:Int)))
 (K (-1:Int) w)
 (K (1:Int) w))
 (inR .i64 ((a_0.l:Int) - (1:Int))/\z0y_l0 a_0 b_1 ((a_0.l:Int) - (1:Int)) K w)
structure z0y_sh (a_0 b_1:Sl) (K:Pw.T1) (w:World):Prop where
 out:z0y_sd a_0 b_1 K w
def z0y_L0 (Kv:VW):Cur [tL, tL, tI] WP := fun a_0 b_1 i_5=>z0y_l0 a_0 b_1 i_5 (kk [tI] Kv)
noncomputable def z0y_S:Pw.Spec := fun vs w Kv=>un [tL, tL] (fun a_0 b_1=>z0y_sh a_0 b_1 (kk [tI] Kv)) nF vs w
def z0y_A (Kv:VW):A := (qr 1 (qs (qr 5 (qc (qs (qr 5 (qc (qr 1 ql) ql)) (qr 1 ql)) ql)) (qs (qr 4 (qb (A.loop [0, 1, 5] (uR0 [tL, tL, tI] (z0y_L0 Kv)) (qs (qr 2 (qc ql ql)) (qs (qb (qs (A.drp (dp [0, 1, 2, 3, 4, 5, 6, 7, 8] DA.done)) (qc (qs (qs (A.drp (dp [0, 1, 2, 3, 4, 5, 6, 7, 8] DA.done)) (qc (qr 1 ql) ql)) (qr 1 ql)) ql))) (qe 3)))))) (qr 1 ql))))
theorem z0y_ok:Sound Tryz.prog 186 z0y_S := okS (x := z0y_A) (fun Kv a_0 b_1=>z0y_sd a_0 b_1 (kk [tI] Kv)) progMixed (Γ := []) trivial Tryz.call186 Tryz.func186 (fun Kv=>hStep (hLoop0 (L := z0y_L0 Kv) (fun N0 a_0 b_1 i_5=>z0y_b0 a_0 b_1 i_5 N0 (kk [tI] Kv)) (fun ⟨a0, a1, _, _⟩ _ h=>let ⟨I, μ, h0, hr⟩ := h.out; ⟨fun b0 b1 b2 w=>(b0=a0/\b1=a1/\True)/\I b2 w, fun _ _ b2 w=>μ b2 w, ⟨⟨rfl, rfl, trivial⟩, h0⟩, fun ⟨_, _, _, _⟩ _ ⟨⟨e0, e1, _⟩, hI⟩=>by cases e0; cases e1; exact hr _ _ hI⟩)) <| hEnd)
def z1p_b1 (a_0 b_1 out_5:Sl) (i_6 carry_7 k_8:Int) (N1:Sl->Sl->Sl->Int->Int->Int->World->Prop) (N0:Sl->Sl->Sl->Int->World->Prop) (K:Pw.T2) (w:World):Prop :=
 cnd (decide (k_8 < (b_1.l:Int)))
 (let w3 := w.drew
 inR .i64 (i_6 + k_8)/\nz out_5.p fun a4=>(0 <= (i_6 + k_8)/\(i_6 + k_8) < (out_5.l:Nat))/\∃ x5:Int, w3.cell? (a4.add ((i_6 + k_8).toNat * 1))=some (Value.int .i64 x5)/\nz a_0.p fun a6=>(0 <= i_6/\i_6 < (a_0.l:Nat))/\∃ x7:Int, w3.cell? (a6.add (i_6.toNat * 1))=some (Value.int .i64 x7)/\nz b_1.p fun a8=>(0 <= k_8/\k_8 < (b_1.l:Nat))/\∃ x9:Int, w3.cell? (a8.add (k_8.toNat * 1))=some (Value.int .i64 x9)/\inR .i64 (x7 * x9)/\inR .i64 (x5 + (x7 * x9))/\inR .i64 ((x5 + (x7 * x9)) + carry_7)/\inR .i64 (i_6 + k_8)/\(65536:Int) ≠ 0/\nz out_5.p fun a10=>(0 <= (i_6 + k_8)/\(i_6 + k_8) < (out_5.l:Nat))/\wrOk w3 (a10.add ((i_6 + k_8).toNat * 1))/\
 (let w11 := w3.setCell (a10.add ((i_6 + k_8).toNat * 1)) (Value.int .i64 (Int.tmod ((x5 + (x7 * x9)) + carry_7) (65536:Int)))
 (65536:Int) ≠ 0/\inR .i64 (Int.tdiv ((x5 + (x7 * x9)) + carry_7) (65536:Int))/\inR .i64 (k_8 + (1:Int))/\N1 a_0 b_1 out_5 i_6 (Int.tdiv ((x5 + (x7 * x9)) + carry_7) (65536:Int)) (k_8 + (1:Int)) w11))
 (inR .i64 (i_6 + (b_1.l:Int))/\nz out_5.p fun a12=>(0 <= (i_6 + (b_1.l:Int))/\(i_6 + (b_1.l:Int)) < (out_5.l:Nat))/\wrOk w (a12.add ((i_6 + (b_1.l:Int)).toNat * 1))/\
 (let w13 := w.setCell (a12.add ((i_6 + (b_1.l:Int)).toNat * 1)) (Value.int .i64 carry_7)
 inR .i64 (i_6 + (1:Int))/\N0 a_0 b_1 out_5 (i_6 + (1:Int)) w13))
def z1p_l1d (a_0 b_1 out_5:Sl) (i_6 carry_7 k_8:Int) (N0:Sl->Sl->Sl->Int->World->Prop) (K:Pw.T2) (w:World):Prop :=
 ∃ (I:Int->Int->World->Prop) (μ:Int->Int->World->Nat), I carry_7 k_8 w/\∀ (carry_71 k_81:Int) (w1:World), I carry_71 k_81 w1 ->
 z1p_b1 a_0 b_1 out_5 i_6 carry_71 k_81 (fun a_0' b_1' out_5' i_6' carry_7' k_8' w'=>((a_0'=a_0/\b_1'=b_1/\out_5'=out_5/\i_6'=i_6/\True)/\I carry_7' k_8' w')/\μ carry_7' k_8' w' < μ carry_71 k_81 w1) N0 K w1
structure z1p_l1 (a_0 b_1 out_5:Sl) (i_6 carry_7 k_8:Int) (N0:Sl->Sl->Sl->Int->World->Prop) (K:Pw.T2) (w:World):Prop where
 out:z1p_l1d a_0 b_1 out_5 i_6 carry_7 k_8 N0 K w
def z1p_b0 (a_0 b_1 out_5:Sl) (i_6:Int) (N0:Sl->Sl->Sl->Int->World->Prop) (K:Pw.T2) (w:World):Prop :=
 cnd (decide (i_6 < (a_0.l:Int)))
 (z1p_l1 a_0 b_1 out_5 i_6 (0:Int) (0:Int) N0 K w)
 (z21_sh out_5 (fun r15 w14=>K r15 w14) w)
def z1p_l0d (a_0 b_1 out_5:Sl) (i_6:Int) (K:Pw.T2) (w:World):Prop :=
 ∃ (I:Int->World->Prop) (μ:Int->World->Nat), I i_6 w/\∀ (i_61:Int) (w1:World), I i_61 w1 ->
 z1p_b0 a_0 b_1 out_5 i_61 (fun a_0' b_1' out_5' i_6' w'=>((a_0'=a_0/\b_1'=b_1/\out_5'=out_5/\True)/\I i_6' w')/\μ i_6' w' < μ i_61 w1) K w1
structure z1p_l0 (a_0 b_1 out_5:Sl) (i_6:Int) (K:Pw.T2) (w:World):Prop where
 out:z1p_l0d a_0 b_1 out_5 i_6 K w
def z1p_sd (a_0 b_1:Sl) (K:Pw.T2) (w:World):Prop :=
 inR .i64 ((a_0.l:Int) + (b_1.l:Int))/\mkS 8 [(Value.int .i64 0)] 3 ((a_0.l:Int) + (b_1.l:Int)) ((a_0.l:Int) + (b_1.l:Int)) w fun s1 w2=>z1p_l0 a_0 b_1 s1 (0:Int) K w2
structure z1p_sh (a_0 b_1:Sl) (K:Pw.T2) (w:World):Prop where
 out:z1p_sd a_0 b_1 K w
def z1p_L0 (Kv:VW):Cur [tL, tL, tL, tI] WP := fun a_0 b_1 out_5 i_6=>z1p_l0 a_0 b_1 out_5 i_6 (kk [tL] Kv)
def z1p_L1 (Kv:VW):Cur [tL, tL, tL, tI] WP->Cur [tL, tL, tL, tI, tI, tI] WP := fun N0 a_0 b_1 out_5 i_6 carry_7 k_8=>z1p_l1 a_0 b_1 out_5 i_6 carry_7 k_8 N0 (kk [tL] Kv)
noncomputable def z1p_S:Pw.Spec := fun vs w Kv=>un [tL, tL] (fun a_0 b_1=>z1p_sh a_0 b_1 (kk [tL] Kv)) nF vs w
def z1p_A (Kv:VW):A := (qr 1 (qr 7 (qs (qr 1 (qb (A.loop [0, 1, 5, 6] (uR0 [tL, tL, tL, tI] (z1p_L0 Kv)) (qs (qr 4 (qc ql ql)) (qs (qb (qr 1 (qs (qr 1 (qb (A.loop [0, 1, 5, 6, 7, 8] (uR1 [tL, tL, tL, tI] [tL, tL, tL, tI, tI, tI] (z1p_L1 Kv)) (qs (qr 4 (qc ql ql)) (qs (qb (qs (A.drp (dp [0, 1, 2, 3, 4, 5, 6, 7, 8, 9, 10, 11, 12, 13, 14, 15, 16, 17, 18] DA.done)) (qr 8 (qe 3)))) (qe 3)))))) (qe 8)))) (qe 3)))))) (qr 3 ql))))
theorem z1p_ok:Sound Tryz.prog 184 z1p_S := okS (x := z1p_A) (fun Kv a_0 b_1=>z1p_sd a_0 b_1 (kk [tL] Kv)) progMixed (Γ := [(142, z21_S)]) ⟨.inl z21_ok, trivial⟩ Tryz.call184 Tryz.func184 (fun Kv=>hStep (hLoop0 (L := z1p_L0 Kv) (fun N0 a_0 b_1 out_5 i_6=>z1p_b0 a_0 b_1 out_5 i_6 N0 (kk [tL] Kv)) (fun ⟨a0, a1, a2, _, _⟩ _ h=>let ⟨I, μ, h0, hr⟩ := h.out; ⟨fun b0 b1 b2 b3 w=>(b0=a0/\b1=a1/\b2=a2/\True)/\I b3 w, fun _ _ _ b3 w=>μ b3 w, ⟨⟨rfl, rfl, rfl, trivial⟩, h0⟩, fun ⟨_, _, _, _, _⟩ _ ⟨⟨e0, e1, e2, _⟩, hI⟩=>by cases e0; cases e1; cases e2; exact hr _ _ hI⟩)) <| hStep (hLoop1 (L := z1p_L1 Kv) (fun N0 N1 a_0 b_1 out_5 i_6 carry_7 k_8=>z1p_b1 a_0 b_1 out_5 i_6 carry_7 k_8 N1 N0 (kk [tL] Kv)) (fun _ ⟨a0, a1, a2, a3, _, _, _⟩ _ h=>let ⟨I, μ, h0, hr⟩ := h.out; ⟨fun b0 b1 b2 b3 b4 b5 w=>(b0=a0/\b1=a1/\b2=a2/\b3=a3/\True)/\I b4 b5 w, fun _ _ _ _ b4 b5 w=>μ b4 b5 w, ⟨⟨rfl, rfl, rfl, rfl, trivial⟩, h0⟩, fun ⟨_, _, _, _, _, _, _⟩ _ ⟨⟨e0, e1, e2, e3, _⟩, hI⟩=>by cases e0; cases e1; cases e2; cases e3; exact hr _ _ _ hI⟩)) <| hEnd)
def z2v_sd (a_0:Sl) (d_1:Int) (K:Pw.T2) (w:World):Prop :=
 let w1 := w.alloc (Obj.cells #[(Value.int .i64 d_1)] 3)
 z1p_sh a_0 (Sl.mk (some (Addr.mk w.heap.size 0 none)) 1 1) (fun r3 w2=>K r3 w2) w1
structure z2v_sh (a_0:Sl) (d_1:Int) (K:Pw.T2) (w:World):Prop where
 out:z2v_sd a_0 d_1 K w
noncomputable def z2v_S:Pw.Spec := fun vs w Kv=>un [tL, tI] (fun a_0 d_1=>z2v_sh a_0 d_1 (kk [tL] Kv)) nF vs w
def z2v_A (_:VW):A := (qr 1 (qr 5 ql))
theorem z2v_ok:Sound Tryz.prog 211 z2v_S := okS (x := z2v_A) (fun Kv a_0 d_1=>z2v_sd a_0 d_1 (kk [tL] Kv)) progMixed (Γ := [(184, z1p_S)]) ⟨.inl z1p_ok, trivial⟩ Tryz.call211 Tryz.func211 (fun _=>hEnd)
def z1m_k2d (a_0 b_1 out_5:Sl) (borrow_6 i_7 d_8:Int) (N0:Sl->Sl->Sl->Int->Int->World->Prop) (K:Pw.T2) (w:World):Prop :=
 let w5 := w.alloc (Obj.cells #[(Value.int .i64 d_8)] 3)
 apS 1 8 [(Value.int .i64 0)] 3 out_5 (Sl.mk (some (Addr.mk w.heap.size 0 none)) 1 1) w5 fun s6 w7=>inR .i64 (i_7 + (1:Int))/\N0 a_0 b_1 s6 borrow_6 (i_7 + (1:Int)) w7
structure z1m_k2 (a_0 b_1 out_5:Sl) (borrow_6 i_7 d_8:Int) (N0:Sl->Sl->Sl->Int->Int->World->Prop) (K:Pw.T2) (w:World):Prop where
 out:z1m_k2d a_0 b_1 out_5 borrow_6 i_7 d_8 N0 K w
def z1m_k1d (a_0 b_1 out_5:Sl) (i_7 d_8:Int) (N0:Sl->Sl->Sl->Int->Int->World->Prop) (K:Pw.T2) (w:World):Prop :=
 cnd (decide (d_8 < (0:Int)))
 (inR .i64 (d_8 + (65536:Int))/\z1m_k2 a_0 b_1 out_5 (1:Int) i_7 (d_8 + (65536:Int)) N0 K w)
 (z1m_k2 a_0 b_1 out_5 (0:Int) i_7 d_8 N0 K w)
structure z1m_k1 (a_0 b_1 out_5:Sl) (i_7 d_8:Int) (N0:Sl->Sl->Sl->Int->Int->World->Prop) (K:Pw.T2) (w:World):Prop where
 out:z1m_k1d a_0 b_1 out_5 i_7 d_8 N0 K w
def z1m_b0 (a_0 b_1 out_5:Sl) (borrow_6 i_7:Int) (N0:Sl->Sl->Sl->Int->Int->World->Prop) (K:Pw.T2) (w:World):Prop :=
 cnd (decide (i_7 < (a_0.l:Int)))
 (nz a_0.p fun a1=>(0 <= i_7/\i_7 < (a_0.l:Nat))/\∃ x2:Int, w.cell? (a1.add (i_7.toNat * 1))=some (Value.int .i64 x2)/\inR .i64 (x2 - borrow_6)/\cnd (decide (i_7 < (b_1.l:Int)))
 (nz b_1.p fun a3=>(0 <= i_7/\i_7 < (b_1.l:Nat))/\∃ x4:Int, w.cell? (a3.add (i_7.toNat * 1))=some (Value.int .i64 x4)/\inR .i64 ((x2 - borrow_6) - x4)/\z1m_k1 a_0 b_1 out_5 i_7 ((x2 - borrow_6) - x4) N0 K w)
 (z1m_k1 a_0 b_1 out_5 i_7 (x2 - borrow_6) N0 K w))
 (z21_sh out_5 (fun r9 w8=>K r9 w8) w)
def z1m_l0d (a_0 b_1 out_5:Sl) (borrow_6 i_7:Int) (K:Pw.T2) (w:World):Prop :=
 ∃ (I:Sl->Int->Int->World->Prop) (μ:Sl->Int->Int->World->Nat), I out_5 borrow_6 i_7 w/\∀ (out_51:Sl) (borrow_61 i_71:Int) (w1:World), I out_51 borrow_61 i_71 w1 ->
 z1m_b0 a_0 b_1 out_51 borrow_61 i_71 (fun a_0' b_1' out_5' borrow_6' i_7' w'=>((a_0'=a_0/\b_1'=b_1/\True)/\I out_5' borrow_6' i_7' w')/\μ out_5' borrow_6' i_7' w' < μ out_51 borrow_61 i_71 w1) K w1
structure z1m_l0 (a_0 b_1 out_5:Sl) (borrow_6 i_7:Int) (K:Pw.T2) (w:World):Prop where
 out:z1m_l0d a_0 b_1 out_5 borrow_6 i_7 K w
def z1m_sd (a_0 b_1:Sl) (K:Pw.T2) (w:World):Prop :=
 z1m_l0 a_0 b_1 (Sl.mk none 0 0) (0:Int) (0:Int) K w
structure z1m_sh (a_0 b_1:Sl) (K:Pw.T2) (w:World):Prop where
 out:z1m_sd a_0 b_1 K w
def z1m_L0 (Kv:VW):Cur [tL, tL, tL, tI, tI] WP := fun a_0 b_1 out_5 borrow_6 i_7=>z1m_l0 a_0 b_1 out_5 borrow_6 i_7 (kk [tL] Kv)
def z1m_L1 (Kv:VW):Cur [tL, tL, tL, tI, tI] WP->Cur [tL, tL, tL, tI, tI] WP := fun N0 a_0 b_1 out_5 i_7 d_8=>z1m_k1 a_0 b_1 out_5 i_7 d_8 N0 (kk [tL] Kv)
def z1m_L2 (Kv:VW):Cur [tL, tL, tL, tI, tI] WP->Cur [tL, tL, tL, tI, tI, tI] WP := fun N0 a_0 b_1 out_5 borrow_6 i_7 d_8=>z1m_k2 a_0 b_1 out_5 borrow_6 i_7 d_8 N0 (kk [tL] Kv)
noncomputable def z1m_S:Pw.Spec := fun vs w Kv=>un [tL, tL] (fun a_0 b_1=>z1m_sh a_0 b_1 (kk [tL] Kv)) nF vs w
def z1m_A (Kv:VW):A := (qr 1 (qr 1 (qr 1 (qs (qr 1 (qb (A.loop [0, 1, 5, 6, 7] (uR0 [tL, tL, tL, tI, tI] (z1m_L0 Kv)) (qs (qr 4 (qc ql ql)) (qs (qb (qr 7 (qs (qr 4 (qc (qe 7) ql)) (A.cut [0, 1, 5, 7, 8] (uR1 [tL, tL, tL, tI, tI] [tL, tL, tL, tI, tI] (z1m_L1 Kv)) (qr 1 (qs (qr 2 (qc (qr 3 (qe 1)) ql)) (A.cut [0, 1, 5, 6, 7, 8] (uR1 [tL, tL, tL, tI, tI] [tL, tL, tL, tI, tI, tI] (z1m_L2 Kv)) (qe 5)))))))) (qe 3)))))) (qr 3 ql)))))
theorem z1m_ok:Sound Tryz.prog 187 z1m_S := okS (x := z1m_A) (fun Kv a_0 b_1=>z1m_sd a_0 b_1 (kk [tL] Kv)) progMixed (Γ := [(142, z21_S)]) ⟨.inl z21_ok, trivial⟩ Tryz.call187 Tryz.func187 (fun Kv=>hStep (hLoop0 (L := z1m_L0 Kv) (fun N0 a_0 b_1 out_5 borrow_6 i_7=>z1m_b0 a_0 b_1 out_5 borrow_6 i_7 N0 (kk [tL] Kv)) (fun ⟨a0, a1, _, _, _, _⟩ _ h=>let ⟨I, μ, h0, hr⟩ := h.out; ⟨fun b0 b1 b2 b3 b4 w=>(b0=a0/\b1=a1/\True)/\I b2 b3 b4 w, fun _ _ b2 b3 b4 w=>μ b2 b3 b4 w, ⟨⟨rfl, rfl, trivial⟩, h0⟩, fun ⟨_, _, _, _, _, _⟩ _ ⟨⟨e0, e1, _⟩, hI⟩=>by cases e0; cases e1; exact hr _ _ _ _ hI⟩)) <| hStep (hCut1 (F := z1m_L1 Kv) (G := fun N0 a_0 b_1 out_5 i_7 d_8=>z1m_k1d a_0 b_1 out_5 i_7 d_8 N0 (kk [tL] Kv))) <| hStep (hCut1 (F := z1m_L2 Kv) (G := fun N0 a_0 b_1 out_5 borrow_6 i_7 d_8=>z1m_k2d a_0 b_1 out_5 borrow_6 i_7 d_8 N0 (kk [tL] Kv))) <| hEnd)
def z1y_b2 (a_0 b_1:Sl) (q_6 r_7:Sl) (i_8 low_9 high_10:Int) (N2:Sl->Sl->Sl->Sl->Int->Int->Int->World->Prop) (N0:Sl->Sl->Sl->Sl->Int->World->Prop) (K:Pw.T9) (w:World):Prop :=
 inR .i64 (high_10 - low_9)/\cnd (decide ((high_10 - low_9) > (1:Int)))
 (inR .i64 (low_9 + high_10)/\(2:Int) ≠ 0/\inR .i64 (Int.tdiv (low_9 + high_10) (2:Int))/\z2v_sh b_1 (Int.tdiv (low_9 + high_10) (2:Int)) (fun r13 w12=>z0y_sh r13 r_7 (fun r15 w14=>cnd (decide (r15 <= (0:Int)))
 (N2 a_0 b_1 q_6 r_7 i_8 (Int.tdiv (low_9 + high_10) (2:Int)) high_10 w14)
 (N2 a_0 b_1 q_6 r_7 i_8 low_9 (Int.tdiv (low_9 + high_10) (2:Int)) w14)) w12) w)
 (nz q_6.p fun a16=>(0 <= i_8/\i_8 < (q_6.l:Nat))/\wrOk w (a16.add (i_8.toNat * 1))/\
 (let w17 := w.setCell (a16.add (i_8.toNat * 1)) (Value.int .i64 low_9)
 z2v_sh b_1 low_9 (fun r19 w18=>z1m_sh r_7 r19 (fun r21 w20=>inR .i64 (i_8 - (1:Int))/\N0 a_0 b_1 q_6 r21 (i_8 - (1:Int)) w20) w18) w17))
def z1y_l2d (a_0 b_1:Sl) (q_6 r_7:Sl) (i_8 low_9 high_10:Int) (N0:Sl->Sl->Sl->Sl->Int->World->Prop) (K:Pw.T9) (w:World):Prop :=
 ∃ (I:Int->Int->World->Prop) (μ:Int->Int->World->Nat), I low_9 high_10 w/\∀ (low_91 high_101:Int) (w1:World), I low_91 high_101 w1 ->
 z1y_b2 a_0 b_1 q_6 r_7 i_8 low_91 high_101 (fun a_0' b_1' q_6' r_7' i_8' low_9' high_10' w'=>((a_0'=a_0/\b_1'=b_1/\q_6'=q_6/\r_7'=r_7/\i_8'=i_8/\True)/\I low_9' high_10' w')/\μ low_9' high_10' w' < μ low_91 high_101 w1) N0 K w1
structure z1y_l2 (a_0 b_1:Sl) (q_6 r_7:Sl) (i_8 low_9 high_10:Int) (N0:Sl->Sl->Sl->Sl->Int->World->Prop) (K:Pw.T9) (w:World):Prop where
 out:z1y_l2d a_0 b_1 q_6 r_7 i_8 low_9 high_10 N0 K w
def z1y_k1d (a_0 b_1:Sl) (q_6 r_7:Sl) (i_8 low_9 high_10:Int) (N0:Sl->Sl->Sl->Sl->Int->World->Prop) (K:Pw.T9) (w:World):Prop :=
 z1y_l2 a_0 b_1 q_6 r_7 i_8 low_9 high_10 N0 K w
structure z1y_k1 (a_0 b_1:Sl) (q_6 r_7:Sl) (i_8 low_9 high_10:Int) (N0:Sl->Sl->Sl->Sl->Int->World->Prop) (K:Pw.T9) (w:World):Prop where
 out:z1y_k1d a_0 b_1 q_6 r_7 i_8 low_9 high_10 N0 K w
def z1y_b0 (a_0 b_1:Sl) (q_6 r_7:Sl) (i_8:Int) (N0:Sl->Sl->Sl->Sl->Int->World->Prop) (K:Pw.T9) (w:World):Prop :=
 cnd (decide (i_8 >= (0:Int)))
 (nz a_0.p fun a3=>(0 <= i_8/\i_8 < (a_0.l:Nat))/\∃ x4:Int, w.cell? (a3.add (i_8.toNat * 1))=some (Value.int .i64 x4)/\let w5 := w.alloc (Obj.cells #[(Value.int .i64 x4)] 3)
 apS 1 8 [(Value.int .i64 0)] 3 (Sl.mk (some (Addr.mk w.heap.size 0 none)) 1 1) r_7 w5 fun s6 w7=>z21_sh s6 (fun r9 w8=>z0y_sh r9 b_1 (fun r11 w10=>cnd (decide (r11 < (0:Int)))
 (z1y_k1 a_0 b_1 q_6 r9 i_8 (0:Int) (1:Int) N0 K w10)
 (z1y_k1 a_0 b_1 q_6 r9 i_8 (0:Int) (65536:Int) N0 K w10)) w8) w7)
 (z21_sh q_6 (fun r23 w22=>K r23 r_7 w22) w)
def z1y_l0d (a_0 b_1:Sl) (q_6 r_7:Sl) (i_8:Int) (K:Pw.T9) (w:World):Prop :=
 ∃ (I:Sl->Int->World->Prop) (μ:Sl->Int->World->Nat), I r_7 i_8 w/\∀ (r_71:Sl) (i_81:Int) (w1:World), I r_71 i_81 w1 ->
 z1y_b0 a_0 b_1 q_6 r_71 i_81 (fun a_0' b_1' q_6' r_7' i_8' w'=>((a_0'=a_0/\b_1'=b_1/\q_6'=q_6/\True)/\I r_7' i_8' w')/\μ r_7' i_8' w' < μ r_71 i_81 w1) K w1
structure z1y_l0 (a_0 b_1:Sl) (q_6 r_7:Sl) (i_8:Int) (K:Pw.T9) (w:World):Prop where
 out:z1y_l0d a_0 b_1 q_6 r_7 i_8 K w
def z1y_sd (a_0 b_1:Sl) (K:Pw.T9) (w:World):Prop :=
 mkS 8 [(Value.int .i64 0)] 3 (a_0.l:Int) (a_0.l:Int) w fun s1 w2=>inR .i64 ((a_0.l:Int) - (1:Int))/\z1y_l0 a_0 b_1 s1 (Sl.mk none 0 0) ((a_0.l:Int) - (1:Int)) K w2
structure z1y_sh (a_0 b_1:Sl) (K:Pw.T9) (w:World):Prop where
 out:z1y_sd a_0 b_1 K w
def z1y_L0 (Kv:VW):Cur [tL, tL, tL, tL, tI] WP := fun a_0 b_1 q_6 r_7 i_8=>z1y_l0 a_0 b_1 q_6 r_7 i_8 (kk [.u 2, tL, tL] Kv)
def z1y_L1 (Kv:VW):Cur [tL, tL, tL, tL, tI] WP->Cur [tL, tL, tL, tL, tI, tI, tI] WP := fun N0 a_0 b_1 q_6 r_7 i_8 low_9 high_10=>z1y_k1 a_0 b_1 q_6 r_7 i_8 low_9 high_10 N0 (kk [.u 2, tL, tL] Kv)
def z1y_L2 (Kv:VW):Cur [tL, tL, tL, tL, tI] WP->Cur [tL, tL, tL, tL, tI, tI, tI] WP := fun N0 a_0 b_1 q_6 r_7 i_8 low_9 high_10=>z1y_l2 a_0 b_1 q_6 r_7 i_8 low_9 high_10 N0 (kk [.u 2, tL, tL] Kv)
noncomputable def z1y_S:Pw.Spec := fun vs w Kv=>un [tL, tL] (fun a_0 b_1=>z1y_sh a_0 b_1 (kk [.u 2, tL, tL] Kv)) nF vs w
def z1y_A (Kv:VW):A := (qr 2 (qr 4 (qr 1 (qs (qr 4 (qb (A.loop [0, 1, 6, 7, 8] (uR0 [tL, tL, tL, tL, tI] (z1y_L0 Kv)) (qs (qr 2 (qc ql ql)) (qs (qb (qr 9 (qr 1 (qr 1 (qs (qr 4 (qc (qe 1) ql)) (A.cut [0, 1, 6, 7, 8, 9, 10] (uR1 [tL, tL, tL, tL, tI] [tL, tL, tL, tL, tI, tI, tI] (z1y_L1 Kv)) (qs (qb (A.loop [0, 1, 6, 7, 8, 9, 10] (uR1 [tL, tL, tL, tL, tI] [tL, tL, tL, tL, tI, tI, tI] (z1y_L2 Kv)) (qs (qr 4 (qc ql ql)) (qb (qr 5 (qr 6 (qc (qe 2) (qe 2)))))))) (qr 5 (qe 6))))))))) (qe 3)))))) (qr 5 ql)))))
theorem z1y_ok:Sound Tryz.prog 182 z1y_S := okS (x := z1y_A) (fun Kv a_0 b_1=>z1y_sd a_0 b_1 (kk [.u 2, tL, tL] Kv)) progMixed (Γ := [(142, z21_S), (186, z0y_S), (187, z1m_S), (211, z2v_S)]) ⟨.inl z21_ok, .inl z0y_ok, .inl z1m_ok, .inl z2v_ok, trivial⟩ Tryz.call182 Tryz.func182 (fun Kv=>hStep (hLoop0 (L := z1y_L0 Kv) (fun N0 a_0 b_1 q_6 r_7 i_8=>z1y_b0 a_0 b_1 q_6 r_7 i_8 N0 (kk [.u 2, tL, tL] Kv)) (fun ⟨a0, a1, a2, _, _, _⟩ _ h=>let ⟨I, μ, h0, hr⟩ := h.out; ⟨fun b0 b1 b2 b3 b4 w=>(b0=a0/\b1=a1/\b2=a2/\True)/\I b3 b4 w, fun _ _ _ b3 b4 w=>μ b3 b4 w, ⟨⟨rfl, rfl, rfl, trivial⟩, h0⟩, fun ⟨_, _, _, _, _, _⟩ _ ⟨⟨e0, e1, e2, _⟩, hI⟩=>by cases e0; cases e1; cases e2; exact hr _ _ _ hI⟩)) <| hStep (hCut1 (F := z1y_L1 Kv) (G := fun N0 a_0 b_1 q_6 r_7 i_8 low_9 high_10=>z1y_k1d a_0 b_1 q_6 r_7 i_8 low_9 high_10 N0 (kk [.u 2, tL, tL] Kv))) <| hStep (hLoop1 (L := z1y_L2 Kv) (fun N0 N2 a_0 b_1 q_6 r_7 i_8 low_9 high_10=>z1y_b2 a_0 b_1 q_6 r_7 i_8 low_9 high_10 N2 N0 (kk [.u 2, tL, tL] Kv)) (fun _ ⟨a0, a1, a2, a3, a4, _, _, _⟩ _ h=>let ⟨I, μ, h0, hr⟩ := h.out; ⟨fun b0 b1 b2 b3 b4 b5 b6 w=>(b0=a0/\b1=a1/\b2=a2/\b3=a3/\b4=a4/\True)/\I b5 b6 w, fun _ _ _ _ _ b5 b6 w=>μ b5 b6 w, ⟨⟨rfl, rfl, rfl, rfl, rfl, trivial⟩, h0⟩, fun ⟨_, _, _, _, _, _, _, _⟩ _ ⟨⟨e0, e1, e2, e3, e4, _⟩, hI⟩=>by cases e0; cases e1; cases e2; cases e3; cases e4; exact hr _ _ _ hI⟩)) <| hEnd)
def z18_b0 (a_0 b_1:Sl) (N0:Sl->Sl->World->Prop) (K:Pw.T2) (w:World):Prop :=
 z21_sh b_1 (fun r2 w1=>cnd (decide ((r2.l:Int) > (0:Int)))
 (z21_sh a_0 (fun r4 w3=>z21_sh b_1 (fun r6 w5=>z1y_sh r4 r6 (fun r8 r9 w7=>N0 b_1 r9 w7) w5) w3) w1)
 (z21_sh a_0 (fun r11 w10=>K r11 w10) w1)) w
def z18_l0d (a_0 b_1:Sl) (K:Pw.T2) (w:World):Prop :=
 ∃ (I:Sl->Sl->World->Prop) (μ:Sl->Sl->World->Nat), I a_0 b_1 w/\∀ (a_01 b_11:Sl) (w1:World), I a_01 b_11 w1 ->
 z18_b0 a_01 b_11 (fun a_0' b_1' w'=>((True)/\I a_0' b_1' w')/\μ a_0' b_1' w' < μ a_01 b_11 w1) K w1
structure z18_l0 (a_0 b_1:Sl) (K:Pw.T2) (w:World):Prop where
 out:z18_l0d a_0 b_1 K w
def z18_sd (a_0 b_1:Sl) (K:Pw.T2) (w:World):Prop :=
 z18_l0 a_0 b_1 K w
structure z18_sh (a_0 b_1:Sl) (K:Pw.T2) (w:World):Prop where
 out:z18_sd a_0 b_1 K w
def z18_L0 (Kv:VW):Cur [tL, tL] WP := fun a_0 b_1=>z18_l0 a_0 b_1 (kk [tL] Kv)
noncomputable def z18_S:Pw.Spec := fun vs w Kv=>un [tL, tL] (fun a_0 b_1=>z18_sh a_0 b_1 (kk [tL] Kv)) nF vs w
def z18_A (Kv:VW):A := (qr 1 (qs (qb (A.loop [0, 1] (uR0 [tL, tL] (z18_L0 Kv)) (qs (qr 4 (qc ql ql)) (qb (qr 10 (qr 2 (qe 2))))))) (qr 3 ql)))
theorem z18_ok:Sound Tryz.prog 181 z18_S := okS (x := z18_A) (fun Kv a_0 b_1=>z18_sd a_0 b_1 (kk [tL] Kv)) progMixed (Γ := [(142, z21_S), (182, z1y_S)]) ⟨.inl z21_ok, .inl z1y_ok, trivial⟩ Tryz.call181 Tryz.func181 (fun Kv=>hStep (hLoop0 (L := z18_L0 Kv) (fun N0 a_0 b_1=>z18_b0 a_0 b_1 N0 (kk [tL] Kv)) (fun ⟨_, _, _⟩ _ h=>let ⟨I, μ, h0, hr⟩ := h.out; ⟨fun b0 b1 w=>(True)/\I b0 b1 w, fun b0 b1 w=>μ b0 b1 w, ⟨trivial, h0⟩, fun ⟨_, _, _⟩ _ ⟨_, hI⟩=>by exact hr _ _ _ hI⟩)) <| hEnd)
def z2k_k1d (m_5:Int) (K:Pw.T3) (w:World):Prop :=
 cnd (decide (m_5 >= (9223372036854775808:Int)))
 (K (0:Int) false w)
 (K (IntKind.wrap .i64 m_5) true w)
structure z2k_k1 (m_5:Int) (K:Pw.T3) (w:World):Prop where
 out:z2k_k1d m_5 K w
def z2k_b0 (a_1:Addr) (l_4:Sl) (m_5 i_6:Int) (N0:Addr->Sl->Int->Int->World->Prop) (K:Pw.T3) (w:World):Prop :=
 cnd (decide (i_6 >= (0:Int)))
 (nz l_4.p fun a5=>(0 <= i_6/\i_6 < (l_4.l:Nat))/\∃ x6:Int, w.cell? (a5.add (i_6.toNat * 1))=some (Value.int .i64 x6)/\N0 a_1 l_4 (IntKind.wrap .u64 ((IntKind.wrap .u64 (m_5 * (65536:Int))) + (IntKind.wrap .u64 x6))) (IntKind.wrap .i64 (i_6 - (1:Int))) w)
 (∃ x7:Bool, w.cell? a_1=some (Value.bool x7)/\cnd x7
 (cnd (decide (m_5 <= (9223372036854775808:Int)))
 (K (IntKind.wrap .i64 (IntKind.wrap .u64 ((0:Int) - m_5))) true w)
 (z2k_k1 m_5 K w))
 (z2k_k1 m_5 K w))
def z2k_l0d (a_1:Addr) (l_4:Sl) (m_5 i_6:Int) (K:Pw.T3) (w:World):Prop :=
 ∃ (I:Int->Int->World->Prop) (μ:Int->Int->World->Nat), I m_5 i_6 w/\∀ (m_51 i_61:Int) (w1:World), I m_51 i_61 w1 ->
 z2k_b0 a_1 l_4 m_51 i_61 (fun a_1' l_4' m_5' i_6' w'=>((a_1'=a_1/\l_4'=l_4/\True)/\I m_5' i_6' w')/\μ m_5' i_6' w' < μ m_51 i_61 w1) K w1
structure z2k_l0 (a_1:Addr) (l_4:Sl) (m_5 i_6:Int) (K:Pw.T3) (w:World):Prop where
 out:z2k_l0d a_1 l_4 m_5 i_6 K w
def z2k_sd (a_0_0:Bool) (a_0_1:Sl) (K:Pw.T3) (w:World):Prop :=
 let w1 := w.alloc (Obj.cells #[(Value.bool a_0_0), (Value.slice a_0_1.p a_0_1.l a_0_1.c)] 181)
 ∃ x2:Sl, w1.cell? (Addr.mk w.heap.size 1 none)=some (Value.slice x2.p x2.l x2.c)/\z21_sh x2 (fun r4 w3=>cnd (decide ((r4.l:Int) > (4:Int)))
 (K (0:Int) false w3)
 (z2k_l0 (Addr.mk w.heap.size 0 none) r4 (0:Int) (IntKind.wrap .i64 ((r4.l:Int) - (1:Int))) K w3)) w1
structure z2k_sh (a_0_0:Bool) (a_0_1:Sl) (K:Pw.T3) (w:World):Prop where
 out:z2k_sd a_0_0 a_0_1 K w
def z2k_L0 (Kv:VW):Cur [tQ, tL, tU, tI] WP := fun a_1 l_4 m_5 i_6=>z2k_l0 a_1 l_4 m_5 i_6 (kk [.u 2, tI, tB] Kv)
def z2k_L1 (Kv:VW):Cur [tU] WP := fun m_5=>z2k_k1 m_5 (kk [.u 2, tI, tB] Kv)
noncomputable def z2k_S:Pw.Spec := fun vs w Kv=>un [.g 2, tB, tL] (fun a_0_0 a_0_1=>z2k_sh a_0_0 a_0_1 (kk [.u 2, tI, tB] Kv)) nF vs w
def z2k_A (Kv:VW):A := (qr 3 (qr 4 (qs (qr 3 (qc (qr 2 ql) ql)) (qr 1 (qs (qs (A.reg (qn 2 (RA.raw (qn 1 RA.done)))) (qb (A.loop [1, 4, 5, 6] (uR0 [tQ, tL, tU, tI] (z2k_L0 Kv)) (qs (qr 2 (qc ql ql)) (qs (qb (A.reg (qn 1 (RA.raw (qn 4 (RA.raw (RA.raw (qn 1 RA.done)))))))) (A.reg (qn 1 (RA.raw (qn 1 RA.done))))))))) (qs (qs (A.reg (qn 3 (RA.spl 30 (qn 3 RA.done) (qk 2 (qn 1 RA.done))))) (qc (qs (A.reg (qn 1 (RA.raw (RA.raw (qn 2 RA.done))))) ql) ql)) (A.cut [5] (uR0 [tU] (z2k_L1 Kv)) (qs (qr 2 (qc (qr 2 ql) ql)) (qs (A.reg (qn 1 (RA.raw (qn 2 RA.done)))) ql)))))))))
theorem z2k_ok:Sound Tryz.prog 183 z2k_S := okS (x := z2k_A) (fun Kv a_0_0 a_0_1=>z2k_sd a_0_0 a_0_1 (kk [.u 2, tI, tB] Kv)) progMixed (Γ := [(142, z21_S)]) ⟨.inl z21_ok, trivial⟩ Tryz.call183 Tryz.func183 (fun Kv=>hStep (hLoop0 (L := z2k_L0 Kv) (fun N0 a_1 l_4 m_5 i_6=>z2k_b0 a_1 l_4 m_5 i_6 N0 (kk [.u 2, tI, tB] Kv)) (fun ⟨a0, a1, _, _, _⟩ _ h=>let ⟨I, μ, h0, hr⟩ := h.out; ⟨fun b0 b1 b2 b3 w=>(b0=a0/\b1=a1/\True)/\I b2 b3 w, fun _ _ b2 b3 w=>μ b2 b3 w, ⟨⟨rfl, rfl, trivial⟩, h0⟩, fun ⟨_, _, _, _, _⟩ _ ⟨⟨e0, e1, _⟩, hI⟩=>by cases e0; cases e1; exact hr _ _ _ hI⟩)) <| hStep (hCut0 (F := z2k_L1 Kv) (G := fun m_5=>z2k_k1d m_5 (kk [.u 2, tI, tB] Kv))) <| hEnd)
def z2u_sd (n_0:Int) (K:Pw.T5) (w:World):Prop :=
 let w1 := w.alloc (Obj.cells #[(Value.int .i64 0), (Value.int .i64 0)] 31)
 wrOk w1 (Addr.mk w.heap.size 0 none)/\
 (let w2 := w1.setCell (Addr.mk w.heap.size 0 none) (Value.int .i64 n_0)
 wrOk w2 (Addr.mk w.heap.size 1 none)/\
 (let w3 := w2.setCell (Addr.mk w.heap.size 1 none) (Value.int .i64 1)
 ∃ x4:Int, w3.cell? (Addr.mk w.heap.size 0 none)=some (Value.int .i64 x4)/\∃ x5:Int, w3.cell? (Addr.mk w.heap.size 1 none)=some (Value.int .i64 x5)/\K x4 x5 w3))
structure z2u_sh (n_0:Int) (K:Pw.T5) (w:World):Prop where
 out:z2u_sd n_0 K w
noncomputable def z2u_S:Pw.Spec := fun vs w Kv=>un [tI] (fun n_0=>z2u_sh n_0 (kk [.g 2, tI, tI] Kv)) nF vs w
def z2u_A (_:VW):A := (qr 1 (qr 3 ql))
theorem z2u_ok:Sound Tryz.prog 84 z2u_S := okS (x := z2u_A) (fun Kv n_0=>z2u_sd n_0 (kk [.g 2, tI, tI] Kv)) progMixed (Γ := []) trivial Tryz.call84 Tryz.func84 (fun _=>hEnd)
def z19_k1d (t_4:Addr) (K:Pw.T4) (w:World):Prop :=
 z2u_sh (0:Int) (fun r32_0 r32_1 w31=>wrOk w31 t_4/\
 (let w33 := w31.setCell t_4 (Value.int .i64 r32_0)
 wrOk w33 (t_4.add 1)/\
 (let w34 := w33.setCell (t_4.add 1) (Value.int .i64 r32_1)
 ∃ x35:Int, w34.cell? t_4=some (Value.int .i64 x35)/\∃ x36:Int, w34.cell? (t_4.add 1)=some (Value.int .i64 x36)/\K x35 x36 false w34))) w
structure z19_k1 (t_4:Addr) (K:Pw.T4) (w:World):Prop where
 out:z19_k1d t_4 K w
def z19_k0d (t_4:Addr) (y_9:Sl) (num_11:Int) (one_12:Bool) (K:Pw.T4) (w:World):Prop :=
 z2k_sh false y_9 (fun r29 r30 w28=>cnd (!one_12)
 (z19_k1 t_4 K w28)
 (cnd (!r30)
 (z19_k1 t_4 K w28)
 (wrOk w28 t_4/\
 (let w37 := w28.setCell t_4 (Value.int .i64 num_11)
 wrOk w37 (t_4.add 1)/\
 (let w38 := w37.setCell (t_4.add 1) (Value.int .i64 r29)
 ∃ x39:Int, w38.cell? t_4=some (Value.int .i64 x39)/\∃ x40:Int, w38.cell? (t_4.add 1)=some (Value.int .i64 x40)/\K x39 x40 true w38))))) w
structure z19_k0 (t_4:Addr) (y_9:Sl) (num_11:Int) (one_12:Bool) (K:Pw.T4) (w:World):Prop where
 out:z19_k0d t_4 y_9 num_11 one_12 K w
def z19_sd (n_0_0:Bool) (n_0_1:Sl) (d_1_0:Bool) (d_1_1:Sl) (K:Pw.T4) (w:World):Prop :=
 let w1 := w.alloc (Obj.cells #[(Value.bool n_0_0), (Value.slice n_0_1.p n_0_1.l n_0_1.c)] 181)
 let w2 := w1.alloc (Obj.cells #[(Value.bool d_1_0), (Value.slice d_1_1.p d_1_1.l d_1_1.c)] 181)
 let w3 := w2.alloc (Obj.cells #[(Value.int .i64 0), (Value.int .i64 0)] 31)
 ∃ x4:Sl, w3.cell? (Addr.mk w.heap.size 1 none)=some (Value.slice x4.p x4.l x4.c)/\∃ x5:Sl, w3.cell? (Addr.mk w1.heap.size 1 none)=some (Value.slice x5.p x5.l x5.c)/\z18_sh x4 x5 (fun r7 w6=>∃ x8:Sl, w6.cell? (Addr.mk w.heap.size 1 none)=some (Value.slice x8.p x8.l x8.c)/\z21_sh x8 (fun r10 w9=>z1y_sh r10 r7 (fun r12 r13 w11=>∃ x14:Sl, w11.cell? (Addr.mk w1.heap.size 1 none)=some (Value.slice x14.p x14.l x14.c)/\z21_sh x14 (fun r16 w15=>z1y_sh r16 r7 (fun r18 r19 w17=>∃ x20:Bool, w17.cell? (Addr.mk w.heap.size 0 none)=some (Value.bool x20)/\∃ x21:Bool, w17.cell? (Addr.mk w1.heap.size 0 none)=some (Value.bool x21)/\cnd (!(x20 == x21))
 (z2k_sh (decide ((r12.l:Int) > (0:Int))) r12 (fun r23 r24 w22=>z19_k0 (Addr.mk w2.heap.size 0 none) r18 r23 r24 K w22) w17)
 (z2k_sh false r12 (fun r26 r27 w25=>z19_k0 (Addr.mk w2.heap.size 0 none) r18 r26 r27 K w25) w17)) w15) w11) w9) w6) w3
structure z19_sh (n_0_0:Bool) (n_0_1:Sl) (d_1_0:Bool) (d_1_1:Sl) (K:Pw.T4) (w:World):Prop where
 out:z19_sd n_0_0 n_0_1 d_1_0 d_1_1 K w
def z19_L0 (Kv:VW):Cur [tQ, tL, tI, tB] WP := fun t_4 y_9 num_11 one_12=>z19_k0 t_4 y_9 num_11 one_12 (kk [.u 2, .g 2, tI, tI, tB] Kv)
def z19_L1 (Kv:VW):Cur [tQ] WP := fun t_4=>z19_k1 t_4 (kk [.u 2, .g 2, tI, tI, tB] Kv)
noncomputable def z19_S:Pw.Spec := fun vs w Kv=>un [.g 2, tB, tL, .g 2, tB, tL] (fun n_0_0 n_0_1 d_1_0 d_1_1=>z19_sh n_0_0 n_0_1 d_1_0 d_1_1 (kk [.u 2, .g 2, tI, tI, tB] Kv)) nF vs w
def z19_A (Kv:VW):A := (qr 4 (qr 6 (qr 10 (qr 10 (qs (A.reg (qn 6 (RA.spl 42 (qn 12 RA.done) (qk 3 (qn 9 RA.done))))) (A.cut [4, 9, 11, 12] (uR0 [tQ, tL, tI, tB] (z19_L0 Kv)) (qr 8 (qs (qs (A.reg (qn 3 (RA.spl 60 (qk 2 (qn 1 RA.done)) (qn 3 RA.done)))) (qc (A.cut [4] (uR0 [tQ] (z19_L1 Kv)) (qr 3 ql)) ql)) (qr 5 ql)))))))))
theorem z19_ok:Sound Tryz.prog 136 z19_S := okS (x := z19_A) (fun Kv n_0_0 n_0_1 d_1_0 d_1_1=>z19_sd n_0_0 n_0_1 d_1_0 d_1_1 (kk [.u 2, .g 2, tI, tI, tB] Kv)) progMixed (Γ := [(84, z2u_S), (142, z21_S), (181, z18_S), (182, z1y_S), (183, z2k_S)]) ⟨.inl z2u_ok, .inl z21_ok, .inl z18_ok, .inl z1y_ok, .inl z2k_ok, trivial⟩ Tryz.call136 Tryz.func136 (fun Kv=>hStep (hCut0 (F := z19_L0 Kv) (G := fun t_4 y_9 num_11 one_12=>z19_k0d t_4 y_9 num_11 one_12 (kk [.u 2, .g 2, tI, tI, tB] Kv))) <| hStep (hCut0 (F := z19_L1 Kv) (G := fun t_4=>z19_k1d t_4 (kk [.u 2, .g 2, tI, tI, tB] Kv))) <| hEnd)
def z1l_k1d (a_1 b_3:Addr) (ok_4:Bool) (K:Pw.T0) (w:World):Prop :=
 cnd ok_4
 (∃ x55:Int, w.cell? a_1=some (Value.int .i64 x55)/\∃ x56:Int, w.cell? (a_1.add 1)=some (Value.int .i64 x56)/\∃ x57:Int, w.cell? b_3=some (Value.int .i64 x57)/\∃ x58:Int, w.cell? (b_3.add 1)=some (Value.int .i64 x58)/\K (x55 == x57 && (x56 == x58 && true)) w)
 (K false w)
structure z1l_k1 (a_1 b_3:Addr) (ok_4:Bool) (K:Pw.T0) (w:World):Prop where
 out:z1l_k1d a_1 b_3 ok_4 K w
def z1l_k0d (a_1:Addr) (K:Pw.T0) (w:World):Prop :=
 let w17 := w.drew
 ∃ S18:World->Prop, S18 w17/\∃ x19:Int, (∀ w':World, S18 w'->w'.cell? a_1=some (Value.int .i64 x19))/\∃ x20:Int, (∀ w':World, S18 w'->w'.cell? (a_1.add 1)=some (Value.int .i64 x20))/\(z2w_sh x19 (fun r22_0 r22_1 w21=>S18 w21/\(z2w_sh x20 (fun r24_0 r24_1 w23=>S18 w23/\(z19_sh r22_0 r22_1 r24_0 r24_1 (fun r26_0 r26_1 r27 w25=>S18 w25/\let w28 := w25.alloc (Obj.cells #[(Value.int .i64 0), (Value.int .i64 0)] 31)
 S18 w28/\wrOk w28 (Addr.mk w25.heap.size 0 none)/\
 (let w29 := w28.setCell (Addr.mk w25.heap.size 0 none) (Value.int .i64 r26_0)
 wrOk w29 (Addr.mk w25.heap.size 1 none)/\
 (let w30 := w29.setCell (Addr.mk w25.heap.size 1 none) (Value.int .i64 r26_1)
 z1l_k1 a_1 (Addr.mk w25.heap.size 0 none) r27 K w30))) w23)
/\(let w31 := w23.alloc (Obj.cells #[(Value.int .i64 0), (Value.int .i64 0)] 31)
 S18 w31/\z19_sh r22_0 r22_1 r24_0 r24_1 (fun r33_0 r33_1 r34 w32=>S18 w32/\wrOk w32 (Addr.mk w23.heap.size 0 none)/\
 (let w35 := w32.setCell (Addr.mk w23.heap.size 0 none) (Value.int .i64 r33_0)
 wrOk w35 (Addr.mk w23.heap.size 1 none)/\
 (let w36 := w35.setCell (Addr.mk w23.heap.size 1 none) (Value.int .i64 r33_1)
 z1l_k1 a_1 (Addr.mk w23.heap.size 0 none) r34 K w36))) w31)) w21)
/\(let w37 := w21.alloc (Obj.cells #[(Value.int .i64 0), (Value.int .i64 0)] 31)
 S18 w37/\z2w_sh x20 (fun r39_0 r39_1 w38=>S18 w38/\z19_sh r22_0 r22_1 r39_0 r39_1 (fun r41_0 r41_1 r42 w40=>S18 w40/\wrOk w40 (Addr.mk w21.heap.size 0 none)/\
 (let w43 := w40.setCell (Addr.mk w21.heap.size 0 none) (Value.int .i64 r41_0)
 wrOk w43 (Addr.mk w21.heap.size 1 none)/\
 (let w44 := w43.setCell (Addr.mk w21.heap.size 1 none) (Value.int .i64 r41_1)
 z1l_k1 a_1 (Addr.mk w21.heap.size 0 none) r42 K w44))) w38) w37)) w17)
/\(let w45 := w17.alloc (Obj.cells #[(Value.int .i64 0), (Value.int .i64 0)] 31)
 S18 w45/\z2w_sh x19 (fun r47_0 r47_1 w46=>S18 w46/\z2w_sh x20 (fun r49_0 r49_1 w48=>S18 w48/\z19_sh r47_0 r47_1 r49_0 r49_1 (fun r51_0 r51_1 r52 w50=>S18 w50/\wrOk w50 (Addr.mk w17.heap.size 0 none)/\
 (let w53 := w50.setCell (Addr.mk w17.heap.size 0 none) (Value.int .i64 r51_0)
 wrOk w53 (Addr.mk w17.heap.size 1 none)/\
 (let w54 := w53.setCell (Addr.mk w17.heap.size 1 none) (Value.int .i64 r51_1)
 z1l_k1 a_1 (Addr.mk w17.heap.size 0 none) r52 K w54))) w48) w46) w45)
structure z1l_k0 (a_1:Addr) (K:Pw.T0) (w:World):Prop where
 out:z1l_k0d a_1 K w
def z1l_sd (a_0_0 a_0_1:Int) (K:Pw.T0) (w:World):Prop :=
 let w1 := w.alloc (Obj.cells #[(Value.int .i64 a_0_0), (Value.int .i64 a_0_1)] 31)
 ∃ x2:Int, w1.cell? (Addr.mk w.heap.size 1 none)=some (Value.int .i64 x2)/\cnd (decide (x2 < (1:Int)))
 (K false w1)
 (∃ x3:Int, w1.cell? (Addr.mk w.heap.size 0 none)=some (Value.int .i64 x3)/\z1o_sh x3 (fun r5 w4=>cnd r5
 (∃ x6:Int, w4.cell? (Addr.mk w.heap.size 1 none)=some (Value.int .i64 x6)/\z1o_sh x6 (fun r8 w7=>cnd r8
 (let w9 := w7.drew
 ∃ S10:World->Prop, S10 w9/\∃ x11:Int, (∀ w':World, S10 w'->w'.cell? (Addr.mk w.heap.size 0 none)=some (Value.int .i64 x11))/\∃ x12:Int, (∀ w':World, S10 w'->w'.cell? (Addr.mk w.heap.size 1 none)=some (Value.int .i64 x12))/\∃ x13:Int, (∀ w':World, S10 w'->w'.cell? (Addr.mk w.heap.size 0 none)=some (Value.int .i64 x13))/\∃ x14:Int, (∀ w':World, S10 w'->w'.cell? (Addr.mk w.heap.size 1 none)=some (Value.int .i64 x14))/\z1n_sh x11 x12 (fun r16_0 r16_1 w15=>S10 w15/\K (r16_0 == x13 && (r16_1 == x14 && true)) w15) w9)
 (z1l_k0 (Addr.mk w.heap.size 0 none) K w7)) w4)
 (z1l_k0 (Addr.mk w.heap.size 0 none) K w4)) w1)
structure z1l_sh (a_0_0 a_0_1:Int) (K:Pw.T0) (w:World):Prop where
 out:z1l_sd a_0_0 a_0_1 K w
def z1l_L0 (Kv:VW):Cur [tQ] WP := fun a_1=>z1l_k0 a_1 (kk [tB] Kv)
def z1l_L1 (Kv:VW):Cur [tQ, tQ, tB] WP := fun a_1 b_3 ok_4=>z1l_k1 a_1 b_3 ok_4 (kk [tB] Kv)
noncomputable def z1l_S:Pw.Spec := fun vs w Kv=>un [.g 2, tI, tI] (fun a_0_0 a_0_1=>z1l_sh a_0_0 a_0_1 (kk [tB] Kv)) nF vs w
def z1l_A (Kv:VW):A := (qr 2 (qs (qr 3 (qc (qr 1 ql) ql)) (qs (qs (A.reg (qn 4 (RA.spl 11 (qn 4 RA.done) (qk 3 (qn 1 RA.done))))) (qc (qs (A.drw (dp [0, 1, 2, 3, 5] (DA.eff 4 (dp [6, 7] DA.done)))) ql) ql)) (A.cut [1] (uR0 [tQ] (z1l_L0 Kv)) (qs (A.drw (dp [0, 1, 3, 4] (DA.two 2 (DA.two 5 (DA.two 6 (dp [7, 8, 9] (DA.eff 10 (DA.eff 11 (DA.pur 12 DA.done)))) 10 (DA.eff 6 (dp [7, 8, 9] (DA.eff 11 (DA.pur 12 DA.done))))) 10 (DA.eff 5 (DA.eff 6 (dp [7, 8, 9] (DA.eff 11 (DA.pur 12 DA.done)))))) 10 (DA.eff 2 (DA.eff 5 (DA.eff 6 (dp [7, 8, 9] (DA.eff 11 (DA.pur 12 DA.done))))))))) (A.cut [1, 3, 4] (uR0 [tQ, tQ, tB] (z1l_L1 Kv)) (qs (A.reg (qn 2 (RA.spl 34 (qn 5 RA.done) (qk 3 (qn 2 RA.done))))) ql)))))))
theorem z1l_ok:Sound Tryz.prog 81 z1l_S := okS (x := z1l_A) (fun Kv a_0_0 a_0_1=>z1l_sd a_0_0 a_0_1 (kk [tB] Kv)) progMixed (Γ := [(134, z1o_S), (135, z1n_S), (136, z19_S), (137, z2w_S)]) ⟨.inl z1o_ok, .inl z1n_ok, .inl z19_ok, .inl z2w_ok, trivial⟩ Tryz.call81 Tryz.func81 (fun Kv=>hStep (hCut0 (F := z1l_L0 Kv) (G := fun a_1=>z1l_k0d a_1 (kk [tB] Kv))) <| hStep (hCut0 (F := z1l_L1 Kv) (G := fun a_1 b_3 ok_4=>z1l_k1d a_1 b_3 ok_4 (kk [tB] Kv))) <| hEnd)
def z1x_sd (a_0_0 a_0_1:Int) (b_1_0 b_1_1:Int) (K:Pw.T0) (w:World):Prop :=
 let w1 := w.alloc (Obj.cells #[(Value.int .i64 a_0_0), (Value.int .i64 a_0_1)] 31)
 let w2 := w1.alloc (Obj.cells #[(Value.int .i64 b_1_0), (Value.int .i64 b_1_1)] 31)
 ∃ x3:Int, w2.cell? (Addr.mk w.heap.size 0 none)=some (Value.int .i64 x3)/\∃ x4:Int, w2.cell? (Addr.mk w.heap.size 1 none)=some (Value.int .i64 x4)/\z1l_sh x3 x4 (fun r6 w5=>∃ x7:Int, w5.cell? (Addr.mk w1.heap.size 0 none)=some (Value.int .i64 x7)/\∃ x8:Int, w5.cell? (Addr.mk w1.heap.size 1 none)=some (Value.int .i64 x8)/\z1l_sh x7 x8 (fun r10 w9=>cnd r6
 (K r10 w9)
 (K false w9)) w5) w2
structure z1x_sh (a_0_0 a_0_1:Int) (b_1_0 b_1_1:Int) (K:Pw.T0) (w:World):Prop where
 out:z1x_sd a_0_0 a_0_1 b_1_0 b_1_1 K w
noncomputable def z1x_S:Pw.Spec := fun vs w Kv=>un [.g 2, tI, tI, .g 2, tI, tI] (fun a_0_0 a_0_1 b_1_0 b_1_1=>z1x_sh a_0_0 a_0_1 b_1_0 b_1_1 (kk [tB] Kv)) nF vs w
def z1x_A (_:VW):A := (qr 3 (qr 3 (qr 3 (qs (A.reg (qn 2 (RA.spl 12 (qn 3 RA.done) (qk 1 (qn 2 RA.done))))) ql))))
theorem z1x_ok:Sound Tryz.prog 139 z1x_S := okS (x := z1x_A) (fun Kv a_0_0 a_0_1 b_1_0 b_1_1=>z1x_sd a_0_0 a_0_1 b_1_0 b_1_1 (kk [tB] Kv)) progMixed (Γ := [(81, z1l_S)]) ⟨.inl z1l_ok, trivial⟩ Tryz.call139 Tryz.func139 (fun _=>hEnd)
def z20_sd (a_0_0 a_0_1:Int) (b_1_0 b_1_1:Int) (K:Pw.T0) (w:World):Prop :=
 let w1 := w.alloc (Obj.cells #[(Value.int .i64 a_0_0), (Value.int .i64 a_0_1)] 31)
 let w2 := w1.alloc (Obj.cells #[(Value.int .i64 b_1_0), (Value.int .i64 b_1_1)] 31)
 ∃ x3:Int, w2.cell? (Addr.mk w.heap.size 0 none)=some (Value.int .i64 x3)/\z1o_sh x3 (fun r5 w4=>cnd r5
 (∃ x6:Int, w4.cell? (Addr.mk w.heap.size 1 none)=some (Value.int .i64 x6)/\z1o_sh x6 (fun r8 w7=>cnd r8
 (∃ x9:Int, w7.cell? (Addr.mk w1.heap.size 0 none)=some (Value.int .i64 x9)/\z1o_sh x9 (fun r11 w10=>cnd r11
 (∃ x12:Int, w10.cell? (Addr.mk w1.heap.size 1 none)=some (Value.int .i64 x12)/\z1o_sh x12 (fun r14 w13=>K r14 w13) w10)
 (K false w10)) w7)
 (K false w7)) w4)
 (K false w4)) w2
structure z20_sh (a_0_0 a_0_1:Int) (b_1_0 b_1_1:Int) (K:Pw.T0) (w:World):Prop where
 out:z20_sd a_0_0 a_0_1 b_1_0 b_1_1 K w
noncomputable def z20_S:Pw.Spec := fun vs w Kv=>un [.g 2, tI, tI, .g 2, tI, tI] (fun a_0_0 a_0_1 b_1_0 b_1_1=>z20_sh a_0_0 a_0_1 b_1_0 b_1_1 (kk [tB] Kv)) nF vs w
def z20_A (_:VW):A := (qr 3 (qs (A.reg (qn 4 (RA.spl 8 (qn 5 (RA.spl 13 (qn 5 (RA.spl 18 (qn 5 RA.done) (qk 3 (qn 2 RA.done)))) (qk 3 (qn 2 (qk 3 (qn 2 RA.done)))))) (qk 3 (qn 2 (qk 3 (qn 2 (qk 3 (qn 2 RA.done))))))))) ql))
theorem z20_ok:Sound Tryz.prog 143 z20_S := okS (x := z20_A) (fun Kv a_0_0 a_0_1 b_1_0 b_1_1=>z20_sd a_0_0 a_0_1 b_1_0 b_1_1 (kk [tB] Kv)) progMixed (Γ := [(134, z1o_S)]) ⟨.inl z1o_ok, trivial⟩ Tryz.call143 Tryz.func143 (fun _=>hEnd)
def z2l_sd (a_0_0:Bool) (a_0_1:Sl) (b_1_0:Bool) (b_1_1:Sl) (K:Pw.T8) (w:World):Prop :=
 let w1 := w.alloc (Obj.cells #[(Value.bool a_0_0), (Value.slice a_0_1.p a_0_1.l a_0_1.c)] 181)
 let w2 := w1.alloc (Obj.cells #[(Value.bool b_1_0), (Value.slice b_1_1.p b_1_1.l b_1_1.c)] 181)
 let w3 := w2.alloc (Obj.cells #[(Value.bool false), (Value.slice none 0 0)] 181)
 let w4 := w3.drew
 ∃ S5:World->Prop, S5 w4/\∃ x6:Bool, (∀ w':World, S5 w'->w'.cell? (Addr.mk w.heap.size 0 none)=some (Value.bool x6))/\∃ x7:Bool, (∀ w':World, S5 w'->w'.cell? (Addr.mk w1.heap.size 0 none)=some (Value.bool x7))/\∃ x8:Sl, (∀ w':World, S5 w'->w'.cell? (Addr.mk w.heap.size 1 none)=some (Value.slice x8.p x8.l x8.c))/\∃ x9:Sl, (∀ w':World, S5 w'->w'.cell? (Addr.mk w1.heap.size 1 none)=some (Value.slice x9.p x9.l x9.c))/\z1p_sh x8 x9 (fun r11 w10=>S5 w10/\wrOk w10 (Addr.mk w2.heap.size 0 none)/\
 (let w12 := w10.setCell (Addr.mk w2.heap.size 0 none) (Value.bool (!(x6 == x7)))
 wrOk w12 (Addr.mk w2.heap.size 1 none)/\
 (let w13 := w12.setCell (Addr.mk w2.heap.size 1 none) (Value.slice r11.p r11.l r11.c)
 ∃ x14:Bool, w13.cell? (Addr.mk w2.heap.size 0 none)=some (Value.bool x14)/\∃ x15:Sl, w13.cell? (Addr.mk w2.heap.size 1 none)=some (Value.slice x15.p x15.l x15.c)/\K x14 x15 w13))) w4
structure z2l_sh (a_0_0:Bool) (a_0_1:Sl) (b_1_0:Bool) (b_1_1:Sl) (K:Pw.T8) (w:World):Prop where
 out:z2l_sd a_0_0 a_0_1 b_1_0 b_1_1 K w
noncomputable def z2l_S:Pw.Spec := fun vs w Kv=>un [.g 2, tB, tL, .g 2, tB, tL] (fun a_0_0 a_0_1 b_1_0 b_1_1=>z2l_sh a_0_0 a_0_1 b_1_0 b_1_1 (kk [.g 2, tB, tL] Kv)) nF vs w
def z2l_A (_:VW):A := (qr 3 (qs (A.drw (dp [0, 1, 2, 3, 4, 5, 6, 7, 8] (DA.eff 9 (DA.pur 10 (DA.eff 11 DA.done))))) ql))
theorem z2l_ok:Sound Tryz.prog 140 z2l_S := okS (x := z2l_A) (fun Kv a_0_0 a_0_1 b_1_0 b_1_1=>z2l_sd a_0_0 a_0_1 b_1_0 b_1_1 (kk [.g 2, tB, tL] Kv)) progMixed (Γ := [(184, z1p_S)]) ⟨.inl z1p_ok, trivial⟩ Tryz.call140 Tryz.func140 (fun _=>hEnd)
def z2i_sd (a_0_0 a_0_1:Int) (b_1_0 b_1_1:Int) (K:Pw.T4) (w:World):Prop :=
 let w1 := w.alloc (Obj.cells #[(Value.int .i64 a_0_0), (Value.int .i64 a_0_1)] 31)
 let w2 := w1.alloc (Obj.cells #[(Value.int .i64 b_1_0), (Value.int .i64 b_1_1)] 31)
 let w3 := w2.alloc (Obj.cells #[(Value.int .i64 0), (Value.int .i64 0)] 31)
 ∃ x4:Int, w3.cell? (Addr.mk w.heap.size 0 none)=some (Value.int .i64 x4)/\∃ x5:Int, w3.cell? (Addr.mk w.heap.size 1 none)=some (Value.int .i64 x5)/\∃ x6:Int, w3.cell? (Addr.mk w1.heap.size 0 none)=some (Value.int .i64 x6)/\∃ x7:Int, w3.cell? (Addr.mk w1.heap.size 1 none)=some (Value.int .i64 x7)/\z1x_sh x4 x5 x6 x7 (fun r9 w8=>cnd (!r9)
 (z2u_sh (0:Int) (fun r11_0 r11_1 w10=>wrOk w10 (Addr.mk w2.heap.size 0 none)/\
 (let w12 := w10.setCell (Addr.mk w2.heap.size 0 none) (Value.int .i64 r11_0)
 wrOk w12 (Addr.mk w2.heap.size 1 none)/\
 (let w13 := w12.setCell (Addr.mk w2.heap.size 1 none) (Value.int .i64 r11_1)
 ∃ x14:Int, w13.cell? (Addr.mk w2.heap.size 0 none)=some (Value.int .i64 x14)/\∃ x15:Int, w13.cell? (Addr.mk w2.heap.size 1 none)=some (Value.int .i64 x15)/\K x14 x15 false w13))) w8)
 (∃ x16:Int, w8.cell? (Addr.mk w.heap.size 0 none)=some (Value.int .i64 x16)/\∃ x17:Int, w8.cell? (Addr.mk w.heap.size 1 none)=some (Value.int .i64 x17)/\∃ x18:Int, w8.cell? (Addr.mk w1.heap.size 0 none)=some (Value.int .i64 x18)/\∃ x19:Int, w8.cell? (Addr.mk w1.heap.size 1 none)=some (Value.int .i64 x19)/\z20_sh x16 x17 x18 x19 (fun r21 w20=>cnd r21
 (∃ x22:Int, w20.cell? (Addr.mk w.heap.size 0 none)=some (Value.int .i64 x22)/\∃ x23:Int, w20.cell? (Addr.mk w1.heap.size 0 none)=some (Value.int .i64 x23)/\inR .i64 (x22 * x23)/\∃ x24:Int, w20.cell? (Addr.mk w.heap.size 1 none)=some (Value.int .i64 x24)/\∃ x25:Int, w20.cell? (Addr.mk w1.heap.size 1 none)=some (Value.int .i64 x25)/\inR .i64 (x24 * x25)/\z1n_sh (x22 * x23) (x24 * x25) (fun r27_0 r27_1 w26=>wrOk w26 (Addr.mk w2.heap.size 0 none)/\
 (let w28 := w26.setCell (Addr.mk w2.heap.size 0 none) (Value.int .i64 r27_0)
 wrOk w28 (Addr.mk w2.heap.size 1 none)/\
 (let w29 := w28.setCell (Addr.mk w2.heap.size 1 none) (Value.int .i64 r27_1)
 ∃ x30:Int, w29.cell? (Addr.mk w2.heap.size 0 none)=some (Value.int .i64 x30)/\∃ x31:Int, w29.cell? (Addr.mk w2.heap.size 1 none)=some (Value.int .i64 x31)/\K x30 x31 true w29))) w20)
 (let w32 := w20.drew
 ∃ S33:World->Prop, S33 w32/\∃ x34:Int, (∀ w':World, S33 w'->w'.cell? (Addr.mk w.heap.size 0 none)=some (Value.int .i64 x34))/\∃ x35:Int, (∀ w':World, S33 w'->w'.cell? (Addr.mk w1.heap.size 0 none)=some (Value.int .i64 x35))/\∃ x36:Int, (∀ w':World, S33 w'->w'.cell? (Addr.mk w.heap.size 1 none)=some (Value.int .i64 x36))/\∃ x37:Int, (∀ w':World, S33 w'->w'.cell? (Addr.mk w1.heap.size 1 none)=some (Value.int .i64 x37))/\z2w_sh x34 (fun r39_0 r39_1 w38=>S33 w38/\z2w_sh x35 (fun r41_0 r41_1 w40=>S33 w40/\z2l_sh r39_0 r39_1 r41_0 r41_1 (fun r43_0 r43_1 w42=>S33 w42/\z2w_sh x36 (fun r45_0 r45_1 w44=>S33 w44/\z2w_sh x37 (fun r47_0 r47_1 w46=>S33 w46/\z2l_sh r45_0 r45_1 r47_0 r47_1 (fun r49_0 r49_1 w48=>S33 w48/\z19_sh r43_0 r43_1 r49_0 r49_1 (fun r51_0 r51_1 r52 w50=>S33 w50/\wrOk w50 (Addr.mk w2.heap.size 0 none)/\
 (let w53 := w50.setCell (Addr.mk w2.heap.size 0 none) (Value.int .i64 r51_0)
 wrOk w53 (Addr.mk w2.heap.size 1 none)/\
 (let w54 := w53.setCell (Addr.mk w2.heap.size 1 none) (Value.int .i64 r51_1)
 ∃ x55:Int, w54.cell? (Addr.mk w2.heap.size 0 none)=some (Value.int .i64 x55)/\∃ x56:Int, w54.cell? (Addr.mk w2.heap.size 1 none)=some (Value.int .i64 x56)/\K x55 x56 r52 w54))) w48) w46) w44) w42) w40) w38) w32)) w8)) w3
structure z2i_sh (a_0_0 a_0_1:Int) (b_1_0 b_1_1:Int) (K:Pw.T4) (w:World):Prop where
 out:z2i_sd a_0_0 a_0_1 b_1_0 b_1_1 K w
noncomputable def z2i_S:Pw.Spec := fun vs w Kv=>un [.g 2, tI, tI, .g 2, tI, tI] (fun a_0_0 a_0_1 b_1_0 b_1_1=>z2i_sh a_0_0 a_0_1 b_1_0 b_1_1 (kk [.u 2, .g 2, tI, tI, tB] Kv)) nF vs w
def z2i_A (_:VW):A := (qr 4 (qs (qr 4 (qc (qr 3 ql) ql)) (qs (qr 3 (qc (qr 13 ql) ql)) (qs (A.drw (dp [0, 1, 3, 4, 7, 8, 10, 11] (DA.eff 2 (DA.eff 5 (DA.eff 6 (DA.eff 9 (DA.eff 12 (DA.eff 13 (DA.eff 14 (dp [15, 16] (DA.eff 17 (DA.pur 18 DA.done)))))))))))) ql))))
theorem z2i_ok:Sound Tryz.prog 138 z2i_S := okS (x := z2i_A) (fun Kv a_0_0 a_0_1 b_1_0 b_1_1=>z2i_sd a_0_0 a_0_1 b_1_0 b_1_1 (kk [.u 2, .g 2, tI, tI, tB] Kv)) progMixed (Γ := [(84, z2u_S), (135, z1n_S), (136, z19_S), (137, z2w_S), (139, z1x_S), (140, z2l_S), (143, z20_S)]) ⟨.inl z2u_ok, .inl z1n_ok, .inl z19_ok, .inl z2w_ok, .inl z1x_ok, .inl z2l_ok, .inl z20_ok, trivial⟩ Tryz.call138 Tryz.func138 (fun _=>hEnd)
def z1z_k3d (a_0 b_1 out_5:Sl) (i_7 d_8:Int) (N0:Sl->Sl->Sl->Int->Int->World->Prop) (K:Pw.T2) (w:World):Prop :=
 (65536:Int) ≠ 0/\let w5 := w.alloc (Obj.cells #[(Value.int .i64 (Int.tmod d_8 (65536:Int)))] 3)
 apS 1 8 [(Value.int .i64 0)] 3 out_5 (Sl.mk (some (Addr.mk w.heap.size 0 none)) 1 1) w5 fun s6 w7=>(65536:Int) ≠ 0/\inR .i64 (Int.tdiv d_8 (65536:Int))/\inR .i64 (i_7 + (1:Int))/\N0 a_0 b_1 s6 (Int.tdiv d_8 (65536:Int)) (i_7 + (1:Int)) w7
structure z1z_k3 (a_0 b_1 out_5:Sl) (i_7 d_8:Int) (N0:Sl->Sl->Sl->Int->Int->World->Prop) (K:Pw.T2) (w:World):Prop where
 out:z1z_k3d a_0 b_1 out_5 i_7 d_8 N0 K w
def z1z_k2d (a_0 b_1 out_5:Sl) (i_7 d_8:Int) (N0:Sl->Sl->Sl->Int->Int->World->Prop) (K:Pw.T2) (w:World):Prop :=
 cnd (decide (i_7 < (b_1.l:Int)))
 (nz b_1.p fun a3=>(0 <= i_7/\i_7 < (b_1.l:Nat))/\∃ x4:Int, w.cell? (a3.add (i_7.toNat * 1))=some (Value.int .i64 x4)/\inR .i64 (d_8 + x4)/\z1z_k3 a_0 b_1 out_5 i_7 (d_8 + x4) N0 K w)
 (z1z_k3 a_0 b_1 out_5 i_7 d_8 N0 K w)
structure z1z_k2 (a_0 b_1 out_5:Sl) (i_7 d_8:Int) (N0:Sl->Sl->Sl->Int->Int->World->Prop) (K:Pw.T2) (w:World):Prop where
 out:z1z_k2d a_0 b_1 out_5 i_7 d_8 N0 K w
def z1z_k1d (a_0 b_1 out_5:Sl) (carry_6 i_7:Int) (N0:Sl->Sl->Sl->Int->Int->World->Prop) (K:Pw.T2) (w:World):Prop :=
 cnd (decide (i_7 < (a_0.l:Int)))
 (nz a_0.p fun a1=>(0 <= i_7/\i_7 < (a_0.l:Nat))/\∃ x2:Int, w.cell? (a1.add (i_7.toNat * 1))=some (Value.int .i64 x2)/\inR .i64 (carry_6 + x2)/\z1z_k2 a_0 b_1 out_5 i_7 (carry_6 + x2) N0 K w)
 (z1z_k2 a_0 b_1 out_5 i_7 carry_6 N0 K w)
structure z1z_k1 (a_0 b_1 out_5:Sl) (carry_6 i_7:Int) (N0:Sl->Sl->Sl->Int->Int->World->Prop) (K:Pw.T2) (w:World):Prop where
 out:z1z_k1d a_0 b_1 out_5 carry_6 i_7 N0 K w
def z1z_b0 (a_0 b_1 out_5:Sl) (carry_6 i_7:Int) (N0:Sl->Sl->Sl->Int->Int->World->Prop) (K:Pw.T2) (w:World):Prop :=
 cnd (decide (i_7 < (a_0.l:Int)))
 (z1z_k1 a_0 b_1 out_5 carry_6 i_7 N0 K w)
 (cnd (decide (i_7 < (b_1.l:Int)))
 (z1z_k1 a_0 b_1 out_5 carry_6 i_7 N0 K w)
 (cnd (decide (carry_6 > (0:Int)))
 (z1z_k1 a_0 b_1 out_5 carry_6 i_7 N0 K w)
 (K out_5 w)))
def z1z_l0d (a_0 b_1 out_5:Sl) (carry_6 i_7:Int) (K:Pw.T2) (w:World):Prop :=
 ∃ (I:Sl->Int->Int->World->Prop) (μ:Sl->Int->Int->World->Nat), I out_5 carry_6 i_7 w/\∀ (out_51:Sl) (carry_61 i_71:Int) (w1:World), I out_51 carry_61 i_71 w1 ->
 z1z_b0 a_0 b_1 out_51 carry_61 i_71 (fun a_0' b_1' out_5' carry_6' i_7' w'=>((a_0'=a_0/\b_1'=b_1/\True)/\I out_5' carry_6' i_7' w')/\μ out_5' carry_6' i_7' w' < μ out_51 carry_61 i_71 w1) K w1
structure z1z_l0 (a_0 b_1 out_5:Sl) (carry_6 i_7:Int) (K:Pw.T2) (w:World):Prop where
 out:z1z_l0d a_0 b_1 out_5 carry_6 i_7 K w
def z1z_sd (a_0 b_1:Sl) (K:Pw.T2) (w:World):Prop :=
 z1z_l0 a_0 b_1 (Sl.mk none 0 0) (0:Int) (0:Int) K w
structure z1z_sh (a_0 b_1:Sl) (K:Pw.T2) (w:World):Prop where
 out:z1z_sd a_0 b_1 K w
def z1z_L0 (Kv:VW):Cur [tL, tL, tL, tI, tI] WP := fun a_0 b_1 out_5 carry_6 i_7=>z1z_l0 a_0 b_1 out_5 carry_6 i_7 (kk [tL] Kv)
def z1z_L1 (Kv:VW):Cur [tL, tL, tL, tI, tI] WP->Cur [tL, tL, tL, tI, tI] WP := fun N0 a_0 b_1 out_5 carry_6 i_7=>z1z_k1 a_0 b_1 out_5 carry_6 i_7 N0 (kk [tL] Kv)
def z1z_L2 (Kv:VW):Cur [tL, tL, tL, tI, tI] WP->Cur [tL, tL, tL, tI, tI] WP := fun N0 a_0 b_1 out_5 i_7 d_8=>z1z_k2 a_0 b_1 out_5 i_7 d_8 N0 (kk [tL] Kv)
def z1z_L3 (Kv:VW):Cur [tL, tL, tL, tI, tI] WP->Cur [tL, tL, tL, tI, tI] WP := fun N0 a_0 b_1 out_5 i_7 d_8=>z1z_k3 a_0 b_1 out_5 i_7 d_8 N0 (kk [tL] Kv)
noncomputable def z1z_S:Pw.Spec := fun vs w Kv=>un [tL, tL] (fun a_0 b_1=>z1z_sh a_0 b_1 (kk [tL] Kv)) nF vs w
def z1z_A (Kv:VW):A := (qr 1 (qr 1 (qr 1 (qs (qr 1 (qb (A.loop [0, 1, 5, 6, 7] (uR0 [tL, tL, tL, tI, tI] (z1z_L0 Kv)) (qs (qs (A.reg (qn 5 (RA.spl 13 (qk 4 (qn 2 (qk 2 (qn 1 RA.done)))) (qn 6 (RA.spl 19 (qk 2 (qn 1 RA.done)) (qn 3 RA.done)))))) (qc ql ql)) (A.cut [0, 1, 5, 6, 7] (uR1 [tL, tL, tL, tI, tI] [tL, tL, tL, tI, tI] (z1z_L1 Kv)) (qs (qb (qr 2 (qs (qr 4 (qc (qe 7) ql)) (A.cut [0, 1, 5, 7, 8] (uR1 [tL, tL, tL, tI, tI] [tL, tL, tL, tI, tI] (z1z_L2 Kv)) (qs (qr 4 (qc (qe 7) ql)) (A.cut [0, 1, 5, 7, 8] (uR1 [tL, tL, tL, tI, tI] [tL, tL, tL, tI, tI] (z1z_L3 Kv)) (qr 6 (qe 3)))))))) (qe 3))))))) (qr 2 ql)))))
theorem z1z_ok:Sound Tryz.prog 185 z1z_S := okS (x := z1z_A) (fun Kv a_0 b_1=>z1z_sd a_0 b_1 (kk [tL] Kv)) progMixed (Γ := []) trivial Tryz.call185 Tryz.func185 (fun Kv=>hStep (hLoop0 (L := z1z_L0 Kv) (fun N0 a_0 b_1 out_5 carry_6 i_7=>z1z_b0 a_0 b_1 out_5 carry_6 i_7 N0 (kk [tL] Kv)) (fun ⟨a0, a1, _, _, _, _⟩ _ h=>let ⟨I, μ, h0, hr⟩ := h.out; ⟨fun b0 b1 b2 b3 b4 w=>(b0=a0/\b1=a1/\True)/\I b2 b3 b4 w, fun _ _ b2 b3 b4 w=>μ b2 b3 b4 w, ⟨⟨rfl, rfl, trivial⟩, h0⟩, fun ⟨_, _, _, _, _, _⟩ _ ⟨⟨e0, e1, _⟩, hI⟩=>by cases e0; cases e1; exact hr _ _ _ _ hI⟩)) <| hStep (hCut1 (F := z1z_L1 Kv) (G := fun N0 a_0 b_1 out_5 carry_6 i_7=>z1z_k1d a_0 b_1 out_5 carry_6 i_7 N0 (kk [tL] Kv))) <| hStep (hCut1 (F := z1z_L2 Kv) (G := fun N0 a_0 b_1 out_5 i_7 d_8=>z1z_k2d a_0 b_1 out_5 i_7 d_8 N0 (kk [tL] Kv))) <| hStep (hCut1 (F := z1z_L3 Kv) (G := fun N0 a_0 b_1 out_5 i_7 d_8=>z1z_k3d a_0 b_1 out_5 i_7 d_8 N0 (kk [tL] Kv))) <| hEnd)
def z2j_sd (a_0_0:Bool) (a_0_1:Sl) (b_1_0:Bool) (b_1_1:Sl) (K:Pw.T8) (w:World):Prop :=
 let w1 := w.alloc (Obj.cells #[(Value.bool a_0_0), (Value.slice a_0_1.p a_0_1.l a_0_1.c)] 181)
 let w2 := w1.alloc (Obj.cells #[(Value.bool b_1_0), (Value.slice b_1_1.p b_1_1.l b_1_1.c)] 181)
 let w3 := w2.alloc (Obj.cells #[(Value.bool false), (Value.slice none 0 0)] 181)
 ∃ x4:Bool, w3.cell? (Addr.mk w.heap.size 0 none)=some (Value.bool x4)/\∃ x5:Bool, w3.cell? (Addr.mk w1.heap.size 0 none)=some (Value.bool x5)/\cnd (x4 == x5)
 (let w6 := w3.drew
 ∃ S7:World->Prop, S7 w6/\∃ x8:Bool, (∀ w':World, S7 w'->w'.cell? (Addr.mk w.heap.size 0 none)=some (Value.bool x8))/\∃ x9:Sl, (∀ w':World, S7 w'->w'.cell? (Addr.mk w.heap.size 1 none)=some (Value.slice x9.p x9.l x9.c))/\∃ x10:Sl, (∀ w':World, S7 w'->w'.cell? (Addr.mk w1.heap.size 1 none)=some (Value.slice x10.p x10.l x10.c))/\z1z_sh x9 x10 (fun r12 w11=>S7 w11/\wrOk w11 (Addr.mk w2.heap.size 0 none)/\
 (let w13 := w11.setCell (Addr.mk w2.heap.size 0 none) (Value.bool x8)
 wrOk w13 (Addr.mk w2.heap.size 1 none)/\
 (let w14 := w13.setCell (Addr.mk w2.heap.size 1 none) (Value.slice r12.p r12.l r12.c)
 ∃ x15:Bool, w14.cell? (Addr.mk w2.heap.size 0 none)=some (Value.bool x15)/\∃ x16:Sl, w14.cell? (Addr.mk w2.heap.size 1 none)=some (Value.slice x16.p x16.l x16.c)/\K x15 x16 w14))) w6)
 (let w17 := w3.drew
 ∃ S18:World->Prop, S18 w17/\∃ x19:Sl, (∀ w':World, S18 w'->w'.cell? (Addr.mk w.heap.size 1 none)=some (Value.slice x19.p x19.l x19.c))/\∃ x20:Sl, (∀ w':World, S18 w'->w'.cell? (Addr.mk w1.heap.size 1 none)=some (Value.slice x20.p x20.l x20.c))/\z21_sh x19 (fun r22 w21=>S18 w21/\z21_sh x20 (fun r24 w23=>S18 w23/\z0y_sh r22 r24 (fun r26 w25=>S18 w25/\cnd (decide (r26 >= (0:Int)))
 (let w27 := w25.drew
 ∃ S28:World->Prop, S28 w27/\∃ x29:Bool, (∀ w':World, S28 w'->w'.cell? (Addr.mk w.heap.size 0 none)=some (Value.bool x29))/\∃ x30:Sl, (∀ w':World, S28 w'->w'.cell? (Addr.mk w.heap.size 1 none)=some (Value.slice x30.p x30.l x30.c))/\∃ x31:Sl, (∀ w':World, S28 w'->w'.cell? (Addr.mk w1.heap.size 1 none)=some (Value.slice x31.p x31.l x31.c))/\z1m_sh x30 x31 (fun r33 w32=>S28 w32/\wrOk w32 (Addr.mk w2.heap.size 0 none)/\
 (let w34 := w32.setCell (Addr.mk w2.heap.size 0 none) (Value.bool x29)
 wrOk w34 (Addr.mk w2.heap.size 1 none)/\
 (let w35 := w34.setCell (Addr.mk w2.heap.size 1 none) (Value.slice r33.p r33.l r33.c)
 ∃ x36:Bool, w35.cell? (Addr.mk w2.heap.size 0 none)=some (Value.bool x36)/\∃ x37:Sl, w35.cell? (Addr.mk w2.heap.size 1 none)=some (Value.slice x37.p x37.l x37.c)/\K x36 x37 w35))) w27)
 (let w38 := w25.drew
 ∃ S39:World->Prop, S39 w38/\∃ x40:Bool, (∀ w':World, S39 w'->w'.cell? (Addr.mk w1.heap.size 0 none)=some (Value.bool x40))/\∃ x41:Sl, (∀ w':World, S39 w'->w'.cell? (Addr.mk w1.heap.size 1 none)=some (Value.slice x41.p x41.l x41.c))/\∃ x42:Sl, (∀ w':World, S39 w'->w'.cell? (Addr.mk w.heap.size 1 none)=some (Value.slice x42.p x42.l x42.c))/\z1m_sh x41 x42 (fun r44 w43=>S39 w43/\wrOk w43 (Addr.mk w2.heap.size 0 none)/\
 (let w45 := w43.setCell (Addr.mk w2.heap.size 0 none) (Value.bool x40)
 wrOk w45 (Addr.mk w2.heap.size 1 none)/\
 (let w46 := w45.setCell (Addr.mk w2.heap.size 1 none) (Value.slice r44.p r44.l r44.c)
 ∃ x47:Bool, w46.cell? (Addr.mk w2.heap.size 0 none)=some (Value.bool x47)/\∃ x48:Sl, w46.cell? (Addr.mk w2.heap.size 1 none)=some (Value.slice x48.p x48.l x48.c)/\K x47 x48 w46))) w38)) w23) w21) w17)
structure z2j_sh (a_0_0:Bool) (a_0_1:Sl) (b_1_0:Bool) (b_1_1:Sl) (K:Pw.T8) (w:World):Prop where
 out:z2j_sd a_0_0 a_0_1 b_1_0 b_1_1 K w
noncomputable def z2j_S:Pw.Spec := fun vs w Kv=>un [.g 2, tB, tL, .g 2, tB, tL] (fun a_0_0 a_0_1 b_1_0 b_1_1=>z2j_sh a_0_0 a_0_1 b_1_0 b_1_1 (kk [.g 2, tB, tL] Kv)) nF vs w
def z2j_A (_:VW):A := (qr 3 (qs (qr 5 (qc (qs (A.drw (dp [0, 1, 2, 3, 4, 5] (DA.eff 6 (DA.pur 7 (DA.eff 8 DA.done))))) ql) ql)) (qs (qs (A.drw (dp [0, 1, 3, 4] (DA.eff 2 (DA.eff 5 (DA.eff 6 (DA.pur 7 DA.done)))))) (qc (qs (A.drw (dp [0, 1, 2, 3, 4, 5] (DA.eff 6 (DA.pur 7 (DA.eff 8 DA.done))))) ql) ql)) (qs (A.drw (dp [0, 1, 2, 3, 4, 5] (DA.eff 6 (DA.pur 7 (DA.eff 8 DA.done))))) ql))))
theorem z2j_ok:Sound Tryz.prog 141 z2j_S := okS (x := z2j_A) (fun Kv a_0_0 a_0_1 b_1_0 b_1_1=>z2j_sd a_0_0 a_0_1 b_1_0 b_1_1 (kk [.g 2, tB, tL] Kv)) progMixed (Γ := [(142, z21_S), (185, z1z_S), (186, z0y_S), (187, z1m_S)]) ⟨.inl z21_ok, .inl z1z_ok, .inl z0y_ok, .inl z1m_ok, trivial⟩ Tryz.call141 Tryz.func141 (fun _=>hEnd)
def z2f_sd (a_0_0 a_0_1:Int) (b_1_0 b_1_1:Int) (K:Pw.T4) (w:World):Prop :=
 let w1 := w.alloc (Obj.cells #[(Value.int .i64 a_0_0), (Value.int .i64 a_0_1)] 31)
 let w2 := w1.alloc (Obj.cells #[(Value.int .i64 b_1_0), (Value.int .i64 b_1_1)] 31)
 let w3 := w2.alloc (Obj.cells #[(Value.int .i64 0), (Value.int .i64 0)] 31)
 ∃ x4:Int, w3.cell? (Addr.mk w.heap.size 0 none)=some (Value.int .i64 x4)/\∃ x5:Int, w3.cell? (Addr.mk w.heap.size 1 none)=some (Value.int .i64 x5)/\∃ x6:Int, w3.cell? (Addr.mk w1.heap.size 0 none)=some (Value.int .i64 x6)/\∃ x7:Int, w3.cell? (Addr.mk w1.heap.size 1 none)=some (Value.int .i64 x7)/\z1x_sh x4 x5 x6 x7 (fun r9 w8=>cnd (!r9)
 (z2u_sh (0:Int) (fun r11_0 r11_1 w10=>wrOk w10 (Addr.mk w2.heap.size 0 none)/\
 (let w12 := w10.setCell (Addr.mk w2.heap.size 0 none) (Value.int .i64 r11_0)
 wrOk w12 (Addr.mk w2.heap.size 1 none)/\
 (let w13 := w12.setCell (Addr.mk w2.heap.size 1 none) (Value.int .i64 r11_1)
 ∃ x14:Int, w13.cell? (Addr.mk w2.heap.size 0 none)=some (Value.int .i64 x14)/\∃ x15:Int, w13.cell? (Addr.mk w2.heap.size 1 none)=some (Value.int .i64 x15)/\K x14 x15 false w13))) w8)
 (∃ x16:Int, w8.cell? (Addr.mk w.heap.size 0 none)=some (Value.int .i64 x16)/\∃ x17:Int, w8.cell? (Addr.mk w.heap.size 1 none)=some (Value.int .i64 x17)/\∃ x18:Int, w8.cell? (Addr.mk w1.heap.size 0 none)=some (Value.int .i64 x18)/\∃ x19:Int, w8.cell? (Addr.mk w1.heap.size 1 none)=some (Value.int .i64 x19)/\z20_sh x16 x17 x18 x19 (fun r21 w20=>cnd r21
 (∃ x22:Int, w20.cell? (Addr.mk w.heap.size 0 none)=some (Value.int .i64 x22)/\∃ x23:Int, w20.cell? (Addr.mk w1.heap.size 1 none)=some (Value.int .i64 x23)/\inR .i64 (x22 * x23)/\∃ x24:Int, w20.cell? (Addr.mk w1.heap.size 0 none)=some (Value.int .i64 x24)/\∃ x25:Int, w20.cell? (Addr.mk w.heap.size 1 none)=some (Value.int .i64 x25)/\inR .i64 (x24 * x25)/\inR .i64 ((x22 * x23) + (x24 * x25))/\∃ x26:Int, w20.cell? (Addr.mk w.heap.size 1 none)=some (Value.int .i64 x26)/\∃ x27:Int, w20.cell? (Addr.mk w1.heap.size 1 none)=some (Value.int .i64 x27)/\inR .i64 (x26 * x27)/\z1n_sh ((x22 * x23) + (x24 * x25)) (x26 * x27) (fun r29_0 r29_1 w28=>wrOk w28 (Addr.mk w2.heap.size 0 none)/\
 (let w30 := w28.setCell (Addr.mk w2.heap.size 0 none) (Value.int .i64 r29_0)
 wrOk w30 (Addr.mk w2.heap.size 1 none)/\
 (let w31 := w30.setCell (Addr.mk w2.heap.size 1 none) (Value.int .i64 r29_1)
 ∃ x32:Int, w31.cell? (Addr.mk w2.heap.size 0 none)=some (Value.int .i64 x32)/\∃ x33:Int, w31.cell? (Addr.mk w2.heap.size 1 none)=some (Value.int .i64 x33)/\K x32 x33 true w31))) w20)
 (let w34 := w20.drew
 ∃ S35:World->Prop, S35 w34/\∃ x36:Int, (∀ w':World, S35 w'->w'.cell? (Addr.mk w.heap.size 0 none)=some (Value.int .i64 x36))/\∃ x37:Int, (∀ w':World, S35 w'->w'.cell? (Addr.mk w1.heap.size 1 none)=some (Value.int .i64 x37))/\∃ x38:Int, (∀ w':World, S35 w'->w'.cell? (Addr.mk w1.heap.size 0 none)=some (Value.int .i64 x38))/\∃ x39:Int, (∀ w':World, S35 w'->w'.cell? (Addr.mk w.heap.size 1 none)=some (Value.int .i64 x39))/\∃ x40:Int, (∀ w':World, S35 w'->w'.cell? (Addr.mk w.heap.size 1 none)=some (Value.int .i64 x40))/\∃ x41:Int, (∀ w':World, S35 w'->w'.cell? (Addr.mk w1.heap.size 1 none)=some (Value.int .i64 x41))/\z2w_sh x36 (fun r43_0 r43_1 w42=>S35 w42/\z2w_sh x37 (fun r45_0 r45_1 w44=>S35 w44/\z2l_sh r43_0 r43_1 r45_0 r45_1 (fun r47_0 r47_1 w46=>S35 w46/\z2w_sh x38 (fun r49_0 r49_1 w48=>S35 w48/\z2w_sh x39 (fun r51_0 r51_1 w50=>S35 w50/\z2l_sh r49_0 r49_1 r51_0 r51_1 (fun r53_0 r53_1 w52=>S35 w52/\z2j_sh r47_0 r47_1 r53_0 r53_1 (fun r55_0 r55_1 w54=>S35 w54/\z2w_sh x40 (fun r57_0 r57_1 w56=>S35 w56/\z2w_sh x41 (fun r59_0 r59_1 w58=>S35 w58/\z2l_sh r57_0 r57_1 r59_0 r59_1 (fun r61_0 r61_1 w60=>S35 w60/\z19_sh r55_0 r55_1 r61_0 r61_1 (fun r63_0 r63_1 r64 w62=>S35 w62/\wrOk w62 (Addr.mk w2.heap.size 0 none)/\
 (let w65 := w62.setCell (Addr.mk w2.heap.size 0 none) (Value.int .i64 r63_0)
 wrOk w65 (Addr.mk w2.heap.size 1 none)/\
 (let w66 := w65.setCell (Addr.mk w2.heap.size 1 none) (Value.int .i64 r63_1)
 ∃ x67:Int, w66.cell? (Addr.mk w2.heap.size 0 none)=some (Value.int .i64 x67)/\∃ x68:Int, w66.cell? (Addr.mk w2.heap.size 1 none)=some (Value.int .i64 x68)/\K x67 x68 r64 w66))) w60) w58) w56) w54) w52) w50) w48) w46) w44) w42) w34)) w8)) w3
structure z2f_sh (a_0_0 a_0_1:Int) (b_1_0 b_1_1:Int) (K:Pw.T4) (w:World):Prop where
 out:z2f_sd a_0_0 a_0_1 b_1_0 b_1_1 K w
noncomputable def z2f_S:Pw.Spec := fun vs w Kv=>un [.g 2, tI, tI, .g 2, tI, tI] (fun a_0_0 a_0_1 b_1_0 b_1_1=>z2f_sh a_0_0 a_0_1 b_1_0 b_1_1 (kk [.u 2, .g 2, tI, tI, tB] Kv)) nF vs w
def z2f_A (_:VW):A := (qr 4 (qs (qr 4 (qc (qr 3 ql) ql)) (qs (qr 3 (qc (qr 19 ql) ql)) (qs (A.drw (dp [0, 1, 3, 4, 7, 8, 10, 11, 15, 16, 18, 19] (DA.eff 2 (DA.eff 5 (DA.eff 6 (DA.eff 9 (DA.eff 12 (DA.eff 13 (DA.eff 14 (DA.eff 17 (DA.eff 20 (DA.eff 21 (DA.eff 22 (dp [23, 24] (DA.eff 25 (DA.pur 26 DA.done)))))))))))))))) ql))))
theorem z2f_ok:Sound Tryz.prog 86 z2f_S := okS (x := z2f_A) (fun Kv a_0_0 a_0_1 b_1_0 b_1_1=>z2f_sd a_0_0 a_0_1 b_1_0 b_1_1 (kk [.u 2, .g 2, tI, tI, tB] Kv)) progMixed (Γ := [(84, z2u_S), (135, z1n_S), (136, z19_S), (137, z2w_S), (139, z1x_S), (140, z2l_S), (141, z2j_S), (143, z20_S)]) ⟨.inl z2u_ok, .inl z1n_ok, .inl z19_ok, .inl z2w_ok, .inl z1x_ok, .inl z2l_ok, .inl z2j_ok, .inl z20_ok, trivial⟩ Tryz.call86 Tryz.func86 (fun _=>hEnd)
def z2g_k1d (d_6:Addr) (K:Pw.T1) (w:World):Prop :=
 ∃ x94:Sl, w.cell? (d_6.add 1)=some (Value.slice x94.p x94.l x94.c)/\z21_sh x94 (fun r96 w95=>cnd ((r96.l:Int) == (0:Int))
 (K (0:Int) w95)
 (∃ x97:Bool, w95.cell? d_6=some (Value.bool x97)/\cnd x97
 (K (-1:Int) w95)
 (K (1:Int) w95))) w
structure z2g_k1 (d_6:Addr) (K:Pw.T1) (w:World):Prop where
 out:z2g_k1d d_6 K w
def z2g_k0d (a_2 b_3 x_5:Addr) (K:Pw.T1) (w:World):Prop :=
 ∃ x43:Bool, w.cell? x_5=some (Value.bool x43)/\wrOk w x_5/\
 (let w44 := w.setCell x_5 (Value.bool (!x43))
 let w45 := w44.drew
 ∃ S46:World->Prop, S46 w45/\∃ x47:Int, (∀ w':World, S46 w'->w'.cell? a_2=some (Value.int .i64 x47))/\∃ x48:Int, (∀ w':World, S46 w'->w'.cell? (b_3.add 1)=some (Value.int .i64 x48))/\∃ x49:Bool, (∀ w':World, S46 w'->w'.cell? x_5=some (Value.bool x49))/\∃ x50:Sl, (∀ w':World, S46 w'->w'.cell? (x_5.add 1)=some (Value.slice x50.p x50.l x50.c))/\(z2w_sh x47 (fun r52_0 r52_1 w51=>S46 w51/\(z2w_sh x48 (fun r54_0 r54_1 w53=>S46 w53/\(z2l_sh r52_0 r52_1 r54_0 r54_1 (fun r56_0 r56_1 w55=>S46 w55/\(z2j_sh r56_0 r56_1 x49 x50 (fun r58_0 r58_1 w57=>S46 w57/\let w59 := w57.alloc (Obj.cells #[(Value.bool false), (Value.slice none 0 0)] 181)
 S46 w59/\wrOk w59 (Addr.mk w57.heap.size 0 none)/\
 (let w60 := w59.setCell (Addr.mk w57.heap.size 0 none) (Value.bool r58_0)
 wrOk w60 (Addr.mk w57.heap.size 1 none)/\
 (let w61 := w60.setCell (Addr.mk w57.heap.size 1 none) (Value.slice r58_1.p r58_1.l r58_1.c)
 z2g_k1 (Addr.mk w57.heap.size 0 none) K w61))) w55)
/\(let w62 := w55.alloc (Obj.cells #[(Value.bool false), (Value.slice none 0 0)] 181)
 S46 w62/\z2j_sh r56_0 r56_1 x49 x50 (fun r64_0 r64_1 w63=>S46 w63/\wrOk w63 (Addr.mk w55.heap.size 0 none)/\
 (let w65 := w63.setCell (Addr.mk w55.heap.size 0 none) (Value.bool r64_0)
 wrOk w65 (Addr.mk w55.heap.size 1 none)/\
 (let w66 := w65.setCell (Addr.mk w55.heap.size 1 none) (Value.slice r64_1.p r64_1.l r64_1.c)
 z2g_k1 (Addr.mk w55.heap.size 0 none) K w66))) w62)) w53)
/\(let w67 := w53.alloc (Obj.cells #[(Value.bool false), (Value.slice none 0 0)] 181)
 S46 w67/\z2l_sh r52_0 r52_1 r54_0 r54_1 (fun r69_0 r69_1 w68=>S46 w68/\z2j_sh r69_0 r69_1 x49 x50 (fun r71_0 r71_1 w70=>S46 w70/\wrOk w70 (Addr.mk w53.heap.size 0 none)/\
 (let w72 := w70.setCell (Addr.mk w53.heap.size 0 none) (Value.bool r71_0)
 wrOk w72 (Addr.mk w53.heap.size 1 none)/\
 (let w73 := w72.setCell (Addr.mk w53.heap.size 1 none) (Value.slice r71_1.p r71_1.l r71_1.c)
 z2g_k1 (Addr.mk w53.heap.size 0 none) K w73))) w68) w67)) w51)
/\(let w74 := w51.alloc (Obj.cells #[(Value.bool false), (Value.slice none 0 0)] 181)
 S46 w74/\z2w_sh x48 (fun r76_0 r76_1 w75=>S46 w75/\z2l_sh r52_0 r52_1 r76_0 r76_1 (fun r78_0 r78_1 w77=>S46 w77/\z2j_sh r78_0 r78_1 x49 x50 (fun r80_0 r80_1 w79=>S46 w79/\wrOk w79 (Addr.mk w51.heap.size 0 none)/\
 (let w81 := w79.setCell (Addr.mk w51.heap.size 0 none) (Value.bool r80_0)
 wrOk w81 (Addr.mk w51.heap.size 1 none)/\
 (let w82 := w81.setCell (Addr.mk w51.heap.size 1 none) (Value.slice r80_1.p r80_1.l r80_1.c)
 z2g_k1 (Addr.mk w51.heap.size 0 none) K w82))) w77) w75) w74)) w45)
/\(let w83 := w45.alloc (Obj.cells #[(Value.bool false), (Value.slice none 0 0)] 181)
 S46 w83/\z2w_sh x47 (fun r85_0 r85_1 w84=>S46 w84/\z2w_sh x48 (fun r87_0 r87_1 w86=>S46 w86/\z2l_sh r85_0 r85_1 r87_0 r87_1 (fun r89_0 r89_1 w88=>S46 w88/\z2j_sh r89_0 r89_1 x49 x50 (fun r91_0 r91_1 w90=>S46 w90/\wrOk w90 (Addr.mk w45.heap.size 0 none)/\
 (let w92 := w90.setCell (Addr.mk w45.heap.size 0 none) (Value.bool r91_0)
 wrOk w92 (Addr.mk w45.heap.size 1 none)/\
 (let w93 := w92.setCell (Addr.mk w45.heap.size 1 none) (Value.slice r91_1.p r91_1.l r91_1.c)
 z2g_k1 (Addr.mk w45.heap.size 0 none) K w93))) w88) w86) w84) w83))
structure z2g_k0 (a_2 b_3 x_5:Addr) (K:Pw.T1) (w:World):Prop where
 out:z2g_k0d a_2 b_3 x_5 K w
def z2g_sd (a_0_0 a_0_1:Int) (b_1_0 b_1_1:Int) (K:Pw.T1) (w:World):Prop :=
 let w1 := w.alloc (Obj.cells #[(Value.int .i64 a_0_0), (Value.int .i64 a_0_1)] 31)
 let w2 := w1.alloc (Obj.cells #[(Value.int .i64 b_1_0), (Value.int .i64 b_1_1)] 31)
 ∃ x3:Int, w2.cell? (Addr.mk w.heap.size 0 none)=some (Value.int .i64 x3)/\∃ x4:Int, w2.cell? (Addr.mk w.heap.size 1 none)=some (Value.int .i64 x4)/\∃ x5:Int, w2.cell? (Addr.mk w1.heap.size 0 none)=some (Value.int .i64 x5)/\∃ x6:Int, w2.cell? (Addr.mk w1.heap.size 1 none)=some (Value.int .i64 x6)/\z1x_sh x3 x4 x5 x6 (fun r8 w7=>cnd (!r8)
 (K (0:Int) w7)
 (let w9 := w7.drew
 ∃ S10:World->Prop, S10 w9/\∃ x11:Int, (∀ w':World, S10 w'->w'.cell? (Addr.mk w1.heap.size 0 none)=some (Value.int .i64 x11))/\∃ x12:Int, (∀ w':World, S10 w'->w'.cell? (Addr.mk w.heap.size 1 none)=some (Value.int .i64 x12))/\(z2w_sh x11 (fun r14_0 r14_1 w13=>S10 w13/\(z2w_sh x12 (fun r16_0 r16_1 w15=>S10 w15/\(z2l_sh r14_0 r14_1 r16_0 r16_1 (fun r18_0 r18_1 w17=>S10 w17/\let w19 := w17.alloc (Obj.cells #[(Value.bool false), (Value.slice none 0 0)] 181)
 S10 w19/\wrOk w19 (Addr.mk w17.heap.size 0 none)/\
 (let w20 := w19.setCell (Addr.mk w17.heap.size 0 none) (Value.bool r18_0)
 wrOk w20 (Addr.mk w17.heap.size 1 none)/\
 (let w21 := w20.setCell (Addr.mk w17.heap.size 1 none) (Value.slice r18_1.p r18_1.l r18_1.c)
 z2g_k0 (Addr.mk w.heap.size 0 none) (Addr.mk w1.heap.size 0 none) (Addr.mk w17.heap.size 0 none) K w21))) w15)
/\(let w22 := w15.alloc (Obj.cells #[(Value.bool false), (Value.slice none 0 0)] 181)
 S10 w22/\z2l_sh r14_0 r14_1 r16_0 r16_1 (fun r24_0 r24_1 w23=>S10 w23/\wrOk w23 (Addr.mk w15.heap.size 0 none)/\
 (let w25 := w23.setCell (Addr.mk w15.heap.size 0 none) (Value.bool r24_0)
 wrOk w25 (Addr.mk w15.heap.size 1 none)/\
 (let w26 := w25.setCell (Addr.mk w15.heap.size 1 none) (Value.slice r24_1.p r24_1.l r24_1.c)
 z2g_k0 (Addr.mk w.heap.size 0 none) (Addr.mk w1.heap.size 0 none) (Addr.mk w15.heap.size 0 none) K w26))) w22)) w13)
/\(let w27 := w13.alloc (Obj.cells #[(Value.bool false), (Value.slice none 0 0)] 181)
 S10 w27/\z2w_sh x12 (fun r29_0 r29_1 w28=>S10 w28/\z2l_sh r14_0 r14_1 r29_0 r29_1 (fun r31_0 r31_1 w30=>S10 w30/\wrOk w30 (Addr.mk w13.heap.size 0 none)/\
 (let w32 := w30.setCell (Addr.mk w13.heap.size 0 none) (Value.bool r31_0)
 wrOk w32 (Addr.mk w13.heap.size 1 none)/\
 (let w33 := w32.setCell (Addr.mk w13.heap.size 1 none) (Value.slice r31_1.p r31_1.l r31_1.c)
 z2g_k0 (Addr.mk w.heap.size 0 none) (Addr.mk w1.heap.size 0 none) (Addr.mk w13.heap.size 0 none) K w33))) w28) w27)) w9)
/\(let w34 := w9.alloc (Obj.cells #[(Value.bool false), (Value.slice none 0 0)] 181)
 S10 w34/\z2w_sh x11 (fun r36_0 r36_1 w35=>S10 w35/\z2w_sh x12 (fun r38_0 r38_1 w37=>S10 w37/\z2l_sh r36_0 r36_1 r38_0 r38_1 (fun r40_0 r40_1 w39=>S10 w39/\wrOk w39 (Addr.mk w9.heap.size 0 none)/\
 (let w41 := w39.setCell (Addr.mk w9.heap.size 0 none) (Value.bool r40_0)
 wrOk w41 (Addr.mk w9.heap.size 1 none)/\
 (let w42 := w41.setCell (Addr.mk w9.heap.size 1 none) (Value.slice r40_1.p r40_1.l r40_1.c)
 z2g_k0 (Addr.mk w.heap.size 0 none) (Addr.mk w1.heap.size 0 none) (Addr.mk w9.heap.size 0 none) K w42))) w37) w35) w34))) w2
structure z2g_sh (a_0_0 a_0_1:Int) (b_1_0 b_1_1:Int) (K:Pw.T1) (w:World):Prop where
 out:z2g_sd a_0_0 a_0_1 b_1_0 b_1_1 K w
def z2g_L0 (Kv:VW):Cur [tQ, tQ, tQ] WP := fun a_2 b_3 x_5=>z2g_k0 a_2 b_3 x_5 (kk [tI] Kv)
def z2g_L1 (Kv:VW):Cur [tQ] WP := fun d_6=>z2g_k1 d_6 (kk [tI] Kv)
noncomputable def z2g_S:Pw.Spec := fun vs w Kv=>un [.g 2, tI, tI, .g 2, tI, tI] (fun a_0_0 a_0_1 b_1_0 b_1_1=>z2g_sh a_0_0 a_0_1 b_1_0 b_1_1 (kk [tI] Kv)) nF vs w
def z2g_A (Kv:VW):A := (qr 3 (qs (qr 4 (qc (qr 1 ql) ql)) (qs (A.drw (dp [0, 1, 3, 4] (DA.two 2 (DA.two 5 (DA.two 6 (DA.eff 7 (DA.eff 8 DA.done)) 7 (DA.eff 6 (DA.eff 8 DA.done))) 7 (DA.eff 5 (DA.eff 6 (DA.eff 8 DA.done)))) 7 (DA.eff 2 (DA.eff 5 (DA.eff 6 (DA.eff 8 DA.done))))))) (A.cut [2, 3, 5] (uR0 [tQ, tQ, tQ] (z2g_L0 Kv)) (qr 5 (qs (A.drw (dp [0, 1, 3, 4, 7] (DA.two 2 (DA.two 5 (DA.two 6 (DA.two 8 (DA.eff 9 (DA.eff 10 DA.done)) 9 (DA.eff 8 (DA.eff 10 DA.done))) 9 (DA.eff 6 (DA.eff 8 (DA.eff 10 DA.done)))) 9 (DA.eff 5 (DA.eff 6 (DA.eff 8 (DA.eff 10 DA.done))))) 9 (DA.eff 2 (DA.eff 5 (DA.eff 6 (DA.eff 8 (DA.eff 10 DA.done)))))))) (A.cut [6] (uR0 [tQ] (z2g_L1 Kv)) (qs (qb (qr 6 (qc (qr 1 ql) (qr 3 (qc (qr 1 ql) ql))))) (qr 1 ql)))))))))
theorem z2g_ok:Sound Tryz.prog 85 z2g_S := okS (x := z2g_A) (fun Kv a_0_0 a_0_1 b_1_0 b_1_1=>z2g_sd a_0_0 a_0_1 b_1_0 b_1_1 (kk [tI] Kv)) progMixed (Γ := [(137, z2w_S), (139, z1x_S), (140, z2l_S), (141, z2j_S), (142, z21_S)]) ⟨.inl z2w_ok, .inl z1x_ok, .inl z2l_ok, .inl z2j_ok, .inl z21_ok, trivial⟩ Tryz.call85 Tryz.func85 (fun Kv=>hStep (hCut0 (F := z2g_L0 Kv) (G := fun a_2 b_3 x_5=>z2g_k0d a_2 b_3 x_5 (kk [tI] Kv))) <| hStep (hCut0 (F := z2g_L1 Kv) (G := fun d_6=>z2g_k1d d_6 (kk [tI] Kv))) <| hEnd)
def z1k_sd (a_0_0 a_0_1:Int) (K:Pw.T1) (w:World):Prop :=
 let w1 := w.alloc (Obj.cells #[(Value.int .i64 a_0_0), (Value.int .i64 a_0_1)] 31)
 ∃ x2:Int, w1.cell? (Addr.mk w.heap.size 0 none)=some (Value.int .i64 x2)/\∃ x3:Int, w1.cell? (Addr.mk w.heap.size 1 none)=some (Value.int .i64 x3)/\z1l_sh x2 x3 (fun r5 w4=>cnd (!r5)
 (K (0:Int) w4)
 (∃ x6:Int, w4.cell? (Addr.mk w.heap.size 0 none)=some (Value.int .i64 x6)/\∃ x7:Int, w4.cell? (Addr.mk w.heap.size 1 none)=some (Value.int .i64 x7)/\x7 ≠ 0/\inR .i64 (Int.tdiv x6 x7)/\∃ x8:Int, w4.cell? (Addr.mk w.heap.size 0 none)=some (Value.int .i64 x8)/\∃ x9:Int, w4.cell? (Addr.mk w.heap.size 1 none)=some (Value.int .i64 x9)/\x9 ≠ 0/\cnd (decide ((Int.tmod x8 x9) < (0:Int)))
 (inR .i64 ((Int.tdiv x6 x7) - (1:Int))/\K ((Int.tdiv x6 x7) - (1:Int)) w4)
 (K (Int.tdiv x6 x7) w4))) w1
structure z1k_sh (a_0_0 a_0_1:Int) (K:Pw.T1) (w:World):Prop where
 out:z1k_sd a_0_0 a_0_1 K w
noncomputable def z1k_S:Pw.Spec := fun vs w Kv=>un [.g 2, tI, tI] (fun a_0_0 a_0_1=>z1k_sh a_0_0 a_0_1 (kk [tI] Kv)) nF vs w
def z1k_A (_:VW):A := (qr 2 (qr 3 (qs (qr 2 (qc (qr 1 ql) ql)) (qr 6 (qs (qr 6 (qc (qe 3) ql)) (qr 2 ql))))))
theorem z1k_ok:Sound Tryz.prog 88 z1k_S := okS (x := z1k_A) (fun Kv a_0_0 a_0_1=>z1k_sd a_0_0 a_0_1 (kk [tI] Kv)) progMixed (Γ := [(81, z1l_S)]) ⟨.inl z1l_ok, trivial⟩ Tryz.call88 Tryz.func88 (fun _=>hEnd)
end Go.Proofs.YtfpobpjandjhjaaGreatDoor
