/- The bodies' formulas, by program. -/
import Derived.Test.YtfpobpjandjhjaaGreatDoorProg
import Derived.KernelRfl
import Derived.Test.YtfpobpjandjhjaaGreatDoorPwY
import Derived.Test.YtfpobpjandjhjaaGreatDoorCG0
import Derived.Test.YtfpobpjandjhjaaGreatDoorCG2
import Derived.Test.YtfpobpjandjhjaaGreatDoorCG5
import Derived.Test.YtfpobpjandjhjaaGreatDoorPG1
import Derived.Test.YtfpobpjandjhjaaGreatDoorPG2
import Derived.Test.YtfpobpjandjhjaaGreatDoorPG3
import Derived.Test.YtfpobpjandjhjaaGreatDoorPG4
import Derived.Test.YtfpobpjandjhjaaGreatDoorPG5
import Derived.Test.YtfpobpjandjhjaaGreatDoorPG7
set_option maxRecDepth 20000
namespace Go.Proofs.YtfpobpjandjhjaaGreatDoor
open Go Pw
def z1c_k1d (n_0:Int) (s_3:ByteArray) (m_4 d_5:Int) (N0:Int->ByteArray->Int->World->Prop) (K:Pw.T6) (w:World):Prop :=
 inR .i64 ((48:Int) + d_5)/\inR .u8 ((48:Int) + d_5)/\let w1 := w.alloc (Obj.cells #[(Value.int .u8 ((48:Int) + d_5))] 5)
 btsS (Sl.mk (some (Addr.mk w.heap.size 0 none)) 1 1) w1 fun s2=>(((s2.size + s_3.size:Nat):Int) <= maxI)/\(10:Int) ≠ 0/\inR .i64 (Int.tdiv m_4 (10:Int))/\N0 n_0 (s2 ++ s_3) (Int.tdiv m_4 (10:Int)) w1
structure z1c_k1 (n_0:Int) (s_3:ByteArray) (m_4 d_5:Int) (N0:Int->ByteArray->Int->World->Prop) (K:Pw.T6) (w:World):Prop where
 out:z1c_k1d n_0 s_3 m_4 d_5 N0 K w
def z1c_b0 (n_0:Int) (s_3:ByteArray) (m_4:Int) (N0:Int->ByteArray->Int->World->Prop) (K:Pw.T6) (w:World):Prop :=
 cnd (m_4 != (0:Int))
 ((10:Int) ≠ 0/\cnd (decide ((Int.tmod m_4 (10:Int)) < (0:Int)))
 (inR .i64 (-(Int.tmod m_4 (10:Int)))/\z1c_k1 n_0 s_3 m_4 (-(Int.tmod m_4 (10:Int))) N0 K w)
 (z1c_k1 n_0 s_3 m_4 (Int.tmod m_4 (10:Int)) N0 K w))
 (cnd (decide (n_0 < (0:Int)))
 (((((str [45]).size + s_3.size:Nat):Int) <= maxI)/\K ((str [45]) ++ s_3) w)
 (K s_3 w))
def z1c_l0d (n_0:Int) (s_3:ByteArray) (m_4:Int) (K:Pw.T6) (w:World):Prop :=
 ∃ (I:ByteArray->Int->World->Prop) (μ:ByteArray->Int->World->Nat), I s_3 m_4 w/\∀ (s_31:ByteArray) (m_41:Int) (w1:World), I s_31 m_41 w1 ->
 z1c_b0 n_0 s_31 m_41 (fun n_0' s_3' m_4' w'=>((n_0'=n_0/\True)/\I s_3' m_4' w')/\μ s_3' m_4' w' < μ s_31 m_41 w1) K w1
structure z1c_l0 (n_0:Int) (s_3:ByteArray) (m_4:Int) (K:Pw.T6) (w:World):Prop where
 out:z1c_l0d n_0 s_3 m_4 K w
def z1c_sd (n_0:Int) (K:Pw.T6) (w:World):Prop :=
 cnd (n_0 == (0:Int))
 (K (str [48]) w)
 (z1c_l0 n_0 (str []) n_0 K w)
structure z1c_sh (n_0:Int) (K:Pw.T6) (w:World):Prop where
 out:z1c_sd n_0 K w
def z1c_L0 (Kv:VW):Cur [tI, tS, tI] WP := fun n_0 s_3 m_4=>z1c_l0 n_0 s_3 m_4 (kk [tS] Kv)
def z1c_L1 (Kv:VW):Cur [tI, tS, tI] WP->Cur [tI, tS, tI, tI] WP := fun N0 n_0 s_3 m_4 d_5=>z1c_k1 n_0 s_3 m_4 d_5 N0 (kk [tS] Kv)
noncomputable def z1c_S:Pw.Spec := fun vs w Kv=>un [tI] (fun n_0=>z1c_sh n_0 (kk [tS] Kv)) nF vs w
def z1c_A (Kv:VW):A := (qr 1 (qs (qr 2 (qc (qr 1 ql) ql)) (qr 1 (qs (qr 2 (qb (A.loop [0, 3, 4] (uR0 [tI, tS, tI] (z1c_L0 Kv)) (qs (qr 2 (qc ql ql)) (qs (qb (qr 3 (qs (qr 2 (qc (qe 3) ql)) (A.cut [0, 3, 4, 5] (uR1 [tI, tS, tI] [tI, tS, tI, tI] (z1c_L1 Kv)) (qe 8))))) (qe 3)))))) (qs (qr 2 (qc (qr 3 ql) ql)) (qr 2 ql))))))
theorem z1c_ok:Sound Tryz.prog 65 z1c_S := okS (x := z1c_A) (fun Kv n_0=>z1c_sd n_0 (kk [tS] Kv)) progMixed (Γ := []) trivial Tryz.call65 Tryz.func65 (fun Kv=>hStep (hLoop0 (L := z1c_L0 Kv) (fun N0 n_0 s_3 m_4=>z1c_b0 n_0 s_3 m_4 N0 (kk [tS] Kv)) (fun ⟨a0, _, _, _⟩ _ h=>let ⟨I, μ, h0, hr⟩ := h.out; ⟨fun b0 b1 b2 w=>(b0=a0/\True)/\I b1 b2 w, fun _ b1 b2 w=>μ b1 b2 w, ⟨⟨rfl, trivial⟩, h0⟩, fun ⟨_, _, _, _⟩ _ ⟨⟨e0, _⟩, hI⟩=>by cases e0; exact hr _ _ _ hI⟩)) <| hStep (hCut1 (F := z1c_L1 Kv) (G := fun N0 n_0 s_3 m_4 d_5=>z1c_k1d n_0 s_3 m_4 d_5 N0 (kk [tS] Kv))) <| hEnd)
def z2p_b0 (l_0:Sl) (s_3:ByteArray) (k_4:Int) (N0:Sl->ByteArray->Int->World->Prop) (K:Pw.T6) (w:World):Prop :=
 cnd (decide (k_4 < (l_0.l:Int)))
 ((((s_3.size + (str [32]).size:Nat):Int) <= maxI)/\nz l_0.p fun a1=>(0 <= k_4/\k_4 < (l_0.l:Nat))/\∃ x2:Int, w.cell? (a1.add (k_4.toNat * 1))=some (Value.int .i64 x2)/\z1c_sh x2 (fun r4 w3=>((((s_3 ++ (str [32])).size + r4.size:Nat):Int) <= maxI)/\inR .i64 (k_4 + (1:Int))/\N0 l_0 ((s_3 ++ (str [32])) ++ r4) (k_4 + (1:Int)) w3) w)
 (K s_3 w)
def z2p_l0d (l_0:Sl) (s_3:ByteArray) (k_4:Int) (K:Pw.T6) (w:World):Prop :=
 ∃ (I:ByteArray->Int->World->Prop) (μ:ByteArray->Int->World->Nat), I s_3 k_4 w/\∀ (s_31:ByteArray) (k_41:Int) (w1:World), I s_31 k_41 w1 ->
 z2p_b0 l_0 s_31 k_41 (fun l_0' s_3' k_4' w'=>((l_0'=l_0/\True)/\I s_3' k_4' w')/\μ s_3' k_4' w' < μ s_31 k_41 w1) K w1
structure z2p_l0 (l_0:Sl) (s_3:ByteArray) (k_4:Int) (K:Pw.T6) (w:World):Prop where
 out:z2p_l0d l_0 s_3 k_4 K w
def z2p_sd (l_0:Sl) (K:Pw.T6) (w:World):Prop :=
 z2p_l0 l_0 (str []) (0:Int) K w
structure z2p_sh (l_0:Sl) (K:Pw.T6) (w:World):Prop where
 out:z2p_sd l_0 K w
def z2p_L0 (Kv:VW):Cur [tL, tS, tI] WP := fun l_0 s_3 k_4=>z2p_l0 l_0 s_3 k_4 (kk [tS] Kv)
noncomputable def z2p_S:Pw.Spec := fun vs w Kv=>un [tL] (fun l_0=>z2p_sh l_0 (kk [tS] Kv)) nF vs w
def z2p_A (Kv:VW):A := (qr 1 (qr 1 (qs (qr 1 (qb (A.loop [0, 3, 4] (uR0 [tL, tS, tI] (z2p_L0 Kv)) (qs (qr 4 (qc ql ql)) (qs (qb (qe 9)) (qe 3)))))) (qr 2 ql))))
theorem z2p_ok:Sound Tryz.prog 64 z2p_S := okS (x := z2p_A) (fun Kv l_0=>z2p_sd l_0 (kk [tS] Kv)) progMixed (Γ := [(65, z1c_S)]) ⟨.inl z1c_ok, trivial⟩ Tryz.call64 Tryz.func64 (fun Kv=>hStep (hLoop0 (L := z2p_L0 Kv) (fun N0 l_0 s_3 k_4=>z2p_b0 l_0 s_3 k_4 N0 (kk [tS] Kv)) (fun ⟨a0, _, _, _⟩ _ h=>let ⟨I, μ, h0, hr⟩ := h.out; ⟨fun b0 b1 b2 w=>(b0=a0/\True)/\I b1 b2 w, fun _ b1 b2 w=>μ b1 b2 w, ⟨⟨rfl, trivial⟩, h0⟩, fun ⟨_, _, _, _⟩ _ ⟨⟨e0, _⟩, hI⟩=>by cases e0; exact hr _ _ _ hI⟩)) <| hEnd)
def z1q_b1 (r_1:Addr) (s_3:ByteArray) (k_4:Int) (N1:Addr->ByteArray->Int->World->Prop) (K:Pw.T6) (w:World):Prop :=
 ∃ x17:Sl, w.cell? (r_1.add 3)=some (Value.slice x17.p x17.l x17.c)/\cnd (decide (k_4 < (x17.l:Int)))
 (∃ x18:Sl, w.cell? (r_1.add 3)=some (Value.slice x18.p x18.l x18.c)/\nz x18.p fun a19=>(0 <= k_4/\k_4 < (x18.l:Nat))/\∃ x20:Int, w.cell? (a19.add (k_4.toNat * 4))=some (Value.int .i64 x20)/\∃ x21:Int, w.cell? ((a19.add (k_4.toNat * 4)).add 1)=some (Value.int .i64 x21)/\∃ x22:Int, w.cell? ((a19.add (k_4.toNat * 4)).add 2)=some (Value.int .i64 x22)/\∃ x23:Sl, w.cell? ((a19.add (k_4.toNat * 4)).add 3)=some (Value.slice x23.p x23.l x23.c)/\let w24 := w.alloc (Obj.cells #[(Value.int .i64 0), (Value.int .i64 0), (Value.int .i64 0), (Value.slice none 0 0)] 55)
 stN w24 (Addr.mk w.heap.size 0 none) [(Value.int .i64 x20), (Value.int .i64 x21), (Value.int .i64 x22), (Value.slice x23.p x23.l x23.c)] fun w25=>let w26 := w25.drew
 ∃ S27:World->Prop, S27 w26/\(((s_3.size + (str [110, 111, 100, 101, 32]).size:Nat):Int) <= maxI)/\∃ x28:Int, (∀ w':World, S27 w'->w'.cell? (Addr.mk w.heap.size 0 none)=some (Value.int .i64 x28))/\∃ x29:Int, (∀ w':World, S27 w'->w'.cell? (Addr.mk w.heap.size 1 none)=some (Value.int .i64 x29))/\∃ x30:Int, (∀ w':World, S27 w'->w'.cell? (Addr.mk w.heap.size 2 none)=some (Value.int .i64 x30))/\∃ x31:Sl, (∀ w':World, S27 w'->w'.cell? (Addr.mk w.heap.size 3 none)=some (Value.slice x31.p x31.l x31.c))/\z1c_sh x28 (fun r33 w32=>S27 w32/\((((s_3 ++ (str [110, 111, 100, 101, 32])).size + r33.size:Nat):Int) <= maxI)/\(((((s_3 ++ (str [110, 111, 100, 101, 32])) ++ r33).size + (str [32]).size:Nat):Int) <= maxI)/\z1c_sh x29 (fun r35 w34=>S27 w34/\((((((s_3 ++ (str [110, 111, 100, 101, 32])) ++ r33) ++ (str [32])).size + r35.size:Nat):Int) <= maxI)/\(((((((s_3 ++ (str [110, 111, 100, 101, 32])) ++ r33) ++ (str [32])) ++ r35).size + (str [47]).size:Nat):Int) <= maxI)/\z1c_sh x30 (fun r37 w36=>S27 w36/\((((((((s_3 ++ (str [110, 111, 100, 101, 32])) ++ r33) ++ (str [32])) ++ r35) ++ (str [47])).size + r37.size:Nat):Int) <= maxI)/\z2p_sh x31 (fun r39 w38=>S27 w38/\(((((((((s_3 ++ (str [110, 111, 100, 101, 32])) ++ r33) ++ (str [32])) ++ r35) ++ (str [47])) ++ r37).size + r39.size:Nat):Int) <= maxI)/\((((((((((s_3 ++ (str [110, 111, 100, 101, 32])) ++ r33) ++ (str [32])) ++ r35) ++ (str [47])) ++ r37) ++ r39).size + (str [10]).size:Nat):Int) <= maxI)/\inR .i64 (k_4 + (1:Int))/\N1 r_1 ((((((((s_3 ++ (str [110, 111, 100, 101, 32])) ++ r33) ++ (str [32])) ++ r35) ++ (str [47])) ++ r37) ++ r39) ++ (str [10])) (k_4 + (1:Int)) w38) w36) w34) w32) w26)
 (K s_3 w)
def z1q_l1d (r_1:Addr) (s_3:ByteArray) (k_4:Int) (K:Pw.T6) (w:World):Prop :=
 ∃ (I:ByteArray->Int->World->Prop) (μ:ByteArray->Int->World->Nat), I s_3 k_4 w/\∀ (s_31:ByteArray) (k_41:Int) (w1:World), I s_31 k_41 w1 ->
 z1q_b1 r_1 s_31 k_41 (fun r_1' s_3' k_4' w'=>((r_1'=r_1/\True)/\I s_3' k_4' w')/\μ s_3' k_4' w' < μ s_31 k_41 w1) K w1
structure z1q_l1 (r_1:Addr) (s_3:ByteArray) (k_4:Int) (K:Pw.T6) (w:World):Prop where
 out:z1q_l1d r_1 s_3 k_4 K w
def z1q_k0d (r_1:Addr) (s_3:ByteArray) (K:Pw.T6) (w:World):Prop :=
 z1q_l1 r_1 s_3 (0:Int) K w
structure z1q_k0 (r_1:Addr) (s_3:ByteArray) (K:Pw.T6) (w:World):Prop where
 out:z1q_k0d r_1 s_3 K w
def z1q_sd (r_0_0:Sl) (r_0_1 r_0_2:Int) (r_0_3:Sl) (K:Pw.T6) (w:World):Prop :=
 let w1 := w.alloc (Obj.cells #[(Value.slice r_0_0.p r_0_0.l r_0_0.c), (Value.int .i64 r_0_1), (Value.int .i64 r_0_2), (Value.slice r_0_3.p r_0_3.l r_0_3.c)] 45)
 let w2 := w1.drew
 ∃ S3:World->Prop, S3 w2/\∃ x4:Sl, (∀ w':World, S3 w'->w'.cell? (Addr.mk w.heap.size 0 none)=some (Value.slice x4.p x4.l x4.c))/\∃ x5:Int, (∀ w':World, S3 w'->w'.cell? (Addr.mk w.heap.size 1 none)=some (Value.int .i64 x5))/\∃ x6:Int, (∀ w':World, S3 w'->w'.cell? (Addr.mk w.heap.size 2 none)=some (Value.int .i64 x6))/\(z2p_sh x4 (fun r8 w7=>S3 w7/\((((str [116, 97, 107, 101]).size + r8.size:Nat):Int) <= maxI)/\(((((str [116, 97, 107, 101]) ++ r8).size + (str [10, 112, 111, 105, 110, 116, 115]).size:Nat):Int) <= maxI)/\let w9 := w7.alloc (Obj.cells #[(Value.int .i64 x5), (Value.int .i64 x6)] 3)
 S3 w9/\z2p_sh (Sl.mk (some (Addr.mk w7.heap.size 0 none)) 2 2) (fun r11 w10=>S3 w10/\((((((str [116, 97, 107, 101]) ++ r8) ++ (str [10, 112, 111, 105, 110, 116, 115])).size + r11.size:Nat):Int) <= maxI)/\(((((((str [116, 97, 107, 101]) ++ r8) ++ (str [10, 112, 111, 105, 110, 116, 115])) ++ r11).size + (str [10]).size:Nat):Int) <= maxI)/\z1q_k0 (Addr.mk w.heap.size 0 none) (((((str [116, 97, 107, 101]) ++ r8) ++ (str [10, 112, 111, 105, 110, 116, 115])) ++ r11) ++ (str [10])) K w10) w9) w2)
/\(let w12 := w2.alloc (Obj.cells #[(Value.int .i64 x5), (Value.int .i64 x6)] 3)
 S3 w12/\z2p_sh x4 (fun r14 w13=>S3 w13/\((((str [116, 97, 107, 101]).size + r14.size:Nat):Int) <= maxI)/\(((((str [116, 97, 107, 101]) ++ r14).size + (str [10, 112, 111, 105, 110, 116, 115]).size:Nat):Int) <= maxI)/\z2p_sh (Sl.mk (some (Addr.mk w2.heap.size 0 none)) 2 2) (fun r16 w15=>S3 w15/\((((((str [116, 97, 107, 101]) ++ r14) ++ (str [10, 112, 111, 105, 110, 116, 115])).size + r16.size:Nat):Int) <= maxI)/\(((((((str [116, 97, 107, 101]) ++ r14) ++ (str [10, 112, 111, 105, 110, 116, 115])) ++ r16).size + (str [10]).size:Nat):Int) <= maxI)/\z1q_k0 (Addr.mk w.heap.size 0 none) (((((str [116, 97, 107, 101]) ++ r14) ++ (str [10, 112, 111, 105, 110, 116, 115])) ++ r16) ++ (str [10])) K w15) w13) w12)
structure z1q_sh (r_0_0:Sl) (r_0_1 r_0_2:Int) (r_0_3:Sl) (K:Pw.T6) (w:World):Prop where
 out:z1q_sd r_0_0 r_0_1 r_0_2 r_0_3 K w
def z1q_L0 (Kv:VW):Cur [tQ, tS] WP := fun r_1 s_3=>z1q_k0 r_1 s_3 (kk [tS] Kv)
def z1q_L1 (Kv:VW):Cur [tQ, tS, tI] WP := fun r_1 s_3 k_4=>z1q_l1 r_1 s_3 k_4 (kk [tS] Kv)
noncomputable def z1q_S:Pw.Spec := fun vs w Kv=>un [.g 4, tL, tI, tI, tL] (fun r_0_0 r_0_1 r_0_2 r_0_3=>z1q_sh r_0_0 r_0_1 r_0_2 r_0_3 (kk [tS] Kv)) nF vs w
def z1q_A (Kv:VW):A := (qr 2 (qs (A.drw (dp [0, 1, 5, 6, 7, 8] (DA.two 2 (dp [3, 4] (DA.eff 9 (DA.eff 10 (dp [11, 12, 13] DA.done)))) 9 (DA.eff 2 (dp [3, 4] (DA.eff 10 (dp [11, 12, 13] DA.done))))))) (A.cut [1, 3] (uR0 [tQ, tS] (z1q_L0 Kv)) (qs (qr 1 (qb (A.loop [1, 3, 4] (uR0 [tQ, tS, tI] (z1q_L1 Kv)) (qs (qr 5 (qc ql ql)) (qs (qb (qr 7 (A.drw (dp [0, 1, 2, 3, 7, 8, 9, 13, 14, 15, 18, 19] (DA.eff 4 (dp [5, 6] (DA.eff 10 (dp [11, 12] (DA.eff 16 (DA.pur 17 (DA.eff 20 (dp [21, 22, 23] DA.done)))))))))))) (qe 3)))))) (qr 2 ql)))))
theorem z1q_ok:Sound Tryz.prog 29 z1q_S := okS (x := z1q_A) (fun Kv r_0_0 r_0_1 r_0_2 r_0_3=>z1q_sd r_0_0 r_0_1 r_0_2 r_0_3 (kk [tS] Kv)) progMixed (Γ := [(64, z2p_S), (65, z1c_S)]) ⟨.inl z2p_ok, .inl z1c_ok, trivial⟩ Tryz.call29 Tryz.func29 (fun Kv=>hStep (hCut0 (F := z1q_L0 Kv) (G := fun r_1 s_3=>z1q_k0d r_1 s_3 (kk [tS] Kv))) <| hStep (hLoop0 (L := z1q_L1 Kv) (fun N1 r_1 s_3 k_4=>z1q_b1 r_1 s_3 k_4 N1 (kk [tS] Kv)) (fun ⟨a0, _, _, _⟩ _ h=>let ⟨I, μ, h0, hr⟩ := h.out; ⟨fun b0 b1 b2 w=>(b0=a0/\True)/\I b1 b2 w, fun _ b1 b2 w=>μ b1 b2 w, ⟨⟨rfl, trivial⟩, h0⟩, fun ⟨_, _, _, _⟩ _ ⟨⟨e0, _⟩, hI⟩=>by cases e0; exact hr _ _ _ hI⟩)) <| hEnd)
def z0c_sd (r_0:Option Addr) (x_1:ByteArray) (K:Pw.T0) (w:World):Prop :=
 let w1 := w.drew
 nz r_0 fun a2=>∃ x3:Bool, w1.cell? (a2.add 2)=some (Value.bool x3)/\cnd x3
 (K false w1)
 (nz r_0 fun a4=>∃ x5:Int, w1.cell? (a4.add 1)=some (Value.int .i64 x5)/\inR .i64 (x5 + (x_1.size:Int))/\nz r_0 fun a6=>∃ x7:ByteArray, w1.cell? a6=some (Value.string x7)/\cnd (decide ((x5 + (x_1.size:Int)) > (x7.size:Int)))
 (K false w1)
 (nz r_0 fun a8=>∃ x9:ByteArray, w1.cell? a8=some (Value.string x9)/\nz r_0 fun a10=>∃ x11:Int, w1.cell? (a10.add 1)=some (Value.int .i64 x11)/\nz r_0 fun a12=>∃ x13:Int, w1.cell? (a12.add 1)=some (Value.int .i64 x13)/\inR .i64 (x13 + (x_1.size:Int))/\(0 <= x11/\x11 <= (x13 + (x_1.size:Int))/\(x13 + (x_1.size:Int)) <= (x9.size:Nat))/\cnd (!decide ((x9.extract x11.toNat (x13 + (x_1.size:Int)).toNat)=x_1))
 (K false w1)
 (nz r_0 fun a14=>∃ x15:Int, w1.cell? (a14.add 1)=some (Value.int .i64 x15)/\inR .i64 (x15 + (x_1.size:Int))/\nz r_0 fun a16=>wrOk w1 (a16.add 1)/\
 (let w17 := w1.setCell (a16.add 1) (Value.int .i64 (x15 + (x_1.size:Int)))
 K true w17))))
structure z0c_sh (r_0:Option Addr) (x_1:ByteArray) (K:Pw.T0) (w:World):Prop where
 out:z0c_sd r_0 x_1 K w
noncomputable def z0c_S:Pw.Spec := fun vs w Kv=>un [tP, tS] (fun r_0 x_1=>z0c_sh r_0 x_1 (kk [tB] Kv)) nF vs w
def z0c_A (_:VW):A := (qr 1 (qs (qs (A.drp (dp [0, 1, 2, 3, 4] (DA.spl 9 (DA.skp 5 (DA.skp 6 (DA.skp 7 (DA.skp 8 (DA.skp 9 (DA.skp 10 (DA.skp 11 (DA.skp 12 (DA.skp 13 (DA.skp 14 (DA.skp 15 (DA.skp 16 (DA.skp 17 (dp [18, 19] (DA.skp 20 (DA.skp 21 (DA.skp 22 (DA.skp 23 (DA.skp 24 (DA.skp 25 (DA.skp 26 (DA.skp 27 (DA.skp 28 (DA.skp 29 (DA.skp 30 (DA.skp 31 (DA.skp 32 (DA.skp 33 (DA.skp 34 (DA.skp 35 (DA.skp 36 (DA.skp 37 (DA.pur 38 DA.done))))))))))))))))))))))))))))))))) (dp [5, 6, 7, 8, 9, 10, 11, 12, 13, 14, 15, 16, 17, 18, 19] (DA.spl 24 (DA.skp 20 (DA.skp 21 (DA.skp 22 (DA.skp 23 (DA.skp 24 (DA.skp 25 (DA.skp 26 (DA.skp 27 (DA.skp 28 (DA.skp 29 (DA.skp 30 (DA.skp 31 (DA.skp 32 (DA.skp 33 (DA.skp 34 (DA.skp 35 (DA.skp 36 (DA.skp 37 (DA.pur 38 DA.done))))))))))))))))))) (dp [20, 21, 22, 23, 24, 25, 26, 27, 28, 29, 30, 31, 32, 33, 34, 35, 36, 37, 38] DA.done)))))) (qc (qr 1 ql) ql)) (qr 11 (qr 1 ql))))
theorem z0c_ok:Sound Tryz.prog 122 z0c_S := okS (x := z0c_A) (fun Kv r_0 x_1=>z0c_sd r_0 x_1 (kk [tB] Kv)) progMixed (Γ := []) trivial Tryz.call122 Tryz.func122 (fun _=>hEnd)
def z0b_sd (r_0:Option Addr) (x_1:ByteArray) (K:Pw.T10) (w:World):Prop :=
 z0c_sh r_0 x_1 (fun r2 w1=>cnd (!r2)
 (nz r_0 fun a3=>wrOk w1 (a3.add 2)/\
 (let w4 := w1.setCell (a3.add 2) (Value.bool true)
 K w4))
 (K w1)) w
structure z0b_sh (r_0:Option Addr) (x_1:ByteArray) (K:Pw.T10) (w:World):Prop where
 out:z0b_sd r_0 x_1 K w
noncomputable def z0b_S:Pw.Spec := fun vs w Kv=>un [tP, tS] (fun r_0 x_1=>z0b_sh r_0 x_1 (kk [.u 0] Kv)) nF vs w
def z0b_A (_:VW):A := (qr 4 (qc (qe 4) ql))
theorem z0b_ok:Sound Tryz.prog 66 z0b_S := okS (x := z0b_A) (fun Kv r_0 x_1=>z0b_sd r_0 x_1 (kk [.u 0] Kv)) progMixed (Γ := [(122, z0c_S)]) ⟨.inl z0c_ok, trivial⟩ Tryz.call66 Tryz.func66 (fun _=>hEnd)
def z04_k2d (r_0:Option Addr) (from_3 n_5:Int) (K:Pw.T1) (w:World):Prop :=
 let w27 := w.drew
 ∃ S28:World->Prop, S28 w27/\nz r_0 fun a29=>∃ x30:ByteArray, (∀ w':World, S28 w'->w'.cell? a29=some (Value.string x30))/\nz r_0 fun a31=>∃ x32:Int, (∀ w':World, S28 w'->w'.cell? (a31.add 1)=some (Value.int .i64 x32))/\(0 <= from_3/\from_3 <= x32/\x32 <= (x30.size:Nat))/\z1c_sh n_5 (fun r34 w33=>S28 w33/\cnd (!decide (r34=(x30.extract from_3.toNat x32.toNat)))
 (nz r_0 fun a35=>wrOk w33 (a35.add 2)/\
 (let w36 := w33.setCell (a35.add 2) (Value.bool true)
 K n_5 w36))
 (K n_5 w33)) w27
structure z04_k2 (r_0:Option Addr) (from_3 n_5:Int) (K:Pw.T1) (w:World):Prop where
 out:z04_k2d r_0 from_3 n_5 K w
def z04_k1d (r_0:Option Addr) (from_3:Int) (minus_4:Bool) (n_5:Int) (K:Pw.T1) (w:World):Prop :=
 cnd (!minus_4)
 (z04_k2 r_0 from_3 (IntKind.wrap .i64 ((0:Int) - n_5)) K w)
 (z04_k2 r_0 from_3 n_5 K w)
structure z04_k1 (r_0:Option Addr) (from_3:Int) (minus_4:Bool) (n_5:Int) (K:Pw.T1) (w:World):Prop where
 out:z04_k1d r_0 from_3 minus_4 n_5 K w
def z04_b0 (r_0:Option Addr) (from_3:Int) (minus_4:Bool) (n_5 k_6:Int) (N0:Option Addr->Int->Bool->Int->Int->World->Prop) (K:Pw.T1) (w:World):Prop :=
 let w5 := w.drew
 nz r_0 fun a6=>∃ x7:Int, w5.cell? (a6.add 1)=some (Value.int .i64 x7)/\nz r_0 fun a8=>∃ x9:ByteArray, w5.cell? a8=some (Value.string x9)/\cnd (decide (x7 < (x9.size:Int)))
 (nz r_0 fun a10=>∃ x11:ByteArray, w5.cell? a10=some (Value.string x11)/\nz r_0 fun a12=>∃ x13:Int, w5.cell? (a12.add 1)=some (Value.int .i64 x13)/\(0 <= x13/\x13 < (x11.size:Nat))/\cnd (decide (((x11.data.toList.getD x13.toNat 0).toNat:Int) >= (48:Int)))
 (nz r_0 fun a14=>∃ x15:ByteArray, w5.cell? a14=some (Value.string x15)/\nz r_0 fun a16=>∃ x17:Int, w5.cell? (a16.add 1)=some (Value.int .i64 x17)/\(0 <= x17/\x17 < (x15.size:Nat))/\cnd (decide (((x15.data.toList.getD x17.toNat 0).toNat:Int) <= (57:Int)))
 (cnd (decide (k_6 < (19:Int)))
 (let w18 := w5.drew
 nz r_0 fun a19=>∃ x20:ByteArray, w18.cell? a19=some (Value.string x20)/\nz r_0 fun a21=>∃ x22:Int, w18.cell? (a21.add 1)=some (Value.int .i64 x22)/\(0 <= x22/\x22 < (x20.size:Nat))/\inR .i64 (IntKind.wrap .u8 (((x20.data.toList.getD x22.toNat 0).toNat:Int) - (48:Int)))/\nz r_0 fun a23=>∃ x24:Int, w18.cell? (a23.add 1)=some (Value.int .i64 x24)/\nz r_0 fun a25=>wrOk w18 (a25.add 1)/\
 (let w26 := w18.setCell (a25.add 1) (Value.int .i64 (IntKind.wrap .i64 (x24 + (1:Int))))
 N0 r_0 from_3 minus_4 (IntKind.wrap .i64 ((IntKind.wrap .i64 ((10:Int) * n_5)) - (IntKind.wrap .u8 (((x20.data.toList.getD x22.toNat 0).toNat:Int) - (48:Int))))) (IntKind.wrap .i64 (k_6 + (1:Int))) w26))
 (z04_k1 r_0 from_3 minus_4 n_5 K w5))
 (z04_k1 r_0 from_3 minus_4 n_5 K w5))
 (z04_k1 r_0 from_3 minus_4 n_5 K w5))
 (z04_k1 r_0 from_3 minus_4 n_5 K w5)
def z04_l0d (r_0:Option Addr) (from_3:Int) (minus_4:Bool) (n_5 k_6:Int) (K:Pw.T1) (w:World):Prop :=
 ∃ (I:Int->Int->World->Prop) (μ:Int->Int->World->Nat), I n_5 k_6 w/\∀ (n_51 k_61:Int) (w1:World), I n_51 k_61 w1 ->
 z04_b0 r_0 from_3 minus_4 n_51 k_61 (fun r_0' from_3' minus_4' n_5' k_6' w'=>((r_0'=r_0/\from_3'=from_3/\minus_4'=minus_4/\True)/\I n_5' k_6' w')/\μ n_5' k_6' w' < μ n_51 k_61 w1) K w1
structure z04_l0 (r_0:Option Addr) (from_3:Int) (minus_4:Bool) (n_5 k_6:Int) (K:Pw.T1) (w:World):Prop where
 out:z04_l0d r_0 from_3 minus_4 n_5 k_6 K w
def z04_sd (r_0:Option Addr) (K:Pw.T1) (w:World):Prop :=
 nz r_0 fun a1=>∃ x2:Int, w.cell? (a1.add 1)=some (Value.int .i64 x2)/\z0c_sh r_0 (str [45]) (fun r4 w3=>z04_l0 r_0 x2 r4 (0:Int) (0:Int) K w3) w
structure z04_sh (r_0:Option Addr) (K:Pw.T1) (w:World):Prop where
 out:z04_sd r_0 K w
def z04_L0 (Kv:VW):Cur [tP, tI, tB, tI, tI] WP := fun r_0 from_3 minus_4 n_5 k_6=>z04_l0 r_0 from_3 minus_4 n_5 k_6 (kk [tI] Kv)
def z04_L1 (Kv:VW):Cur [tP, tI, tB, tI] WP := fun r_0 from_3 minus_4 n_5=>z04_k1 r_0 from_3 minus_4 n_5 (kk [tI] Kv)
def z04_L2 (Kv:VW):Cur [tP, tI, tI] WP := fun r_0 from_3 n_5=>z04_k2 r_0 from_3 n_5 (kk [tI] Kv)
noncomputable def z04_S:Pw.Spec := fun vs w Kv=>un [tP] (fun r_0=>z04_sh r_0 (kk [tI] Kv)) nF vs w
def z04_A (Kv:VW):A := (qr 1 (qr 5 (qr 3 (qr 1 (qs (qr 1 (qb (A.loop [0, 3, 4, 5, 6] (uR0 [tP, tI, tB, tI, tI] (z04_L0 Kv)) (qs (qs (A.drp (dp [0, 1, 2, 3, 4, 5, 6, 7, 8, 9, 10] (DA.spl 23 (dp [11, 12, 13, 14, 15, 16, 17, 18, 19, 20, 21, 22] (DA.spl 35 (dp [23, 24, 25, 26, 27, 28, 29, 30, 31, 32, 33, 34] (DA.spl 47 (dp [35, 36, 37] DA.done) (DA.skp 35 (DA.skp 36 (DA.pur 37 DA.done))))) (DA.skp 23 (DA.skp 24 (DA.skp 25 (DA.skp 26 (DA.skp 27 (DA.skp 28 (DA.skp 29 (DA.skp 30 (DA.skp 31 (DA.skp 32 (dp [33, 34] (DA.skp 35 (DA.skp 36 (DA.pur 37 DA.done)))))))))))))))) (DA.skp 11 (DA.skp 12 (DA.skp 13 (DA.skp 14 (DA.skp 15 (DA.skp 16 (DA.skp 17 (DA.skp 18 (DA.skp 19 (DA.skp 20 (dp [21, 22] (DA.skp 23 (DA.skp 24 (DA.skp 25 (DA.skp 26 (DA.skp 27 (DA.skp 28 (DA.skp 29 (DA.skp 30 (DA.skp 31 (DA.skp 32 (dp [33, 34] (DA.skp 35 (DA.skp 36 (DA.pur 37 DA.done)))))))))))))))))))))))))))) (qc ql ql)) (qs (qb (qs (A.drp (DA.pur 0 (DA.prw 1 (dp [2, 3, 4, 5, 6, 7, 8, 9, 10] (DA.prw 11 (DA.pur 12 (DA.prw 13 (DA.pur 14 DA.done)))))))) (A.reg (qn 4 (RA.raw (qn 3 RA.done)))))) (A.reg (qn 1 (RA.raw (qn 1 RA.done))))))))) (A.cut [0, 3, 4, 5] (uR0 [tP, tI, tB, tI] (z04_L1 Kv)) (qs (qr 2 (qc (A.reg (qn 1 (RA.raw (qn 1 RA.done)))) ql)) (A.cut [0, 3, 5] (uR0 [tP, tI, tI] (z04_L2 Kv)) (qs (qs (A.drw (dp [0, 2, 3, 4, 5, 6, 7, 8, 9, 10, 11] (DA.eff 1 (DA.pur 12 DA.done)))) (qc (qe 4) ql)) (qr 2 ql))))))))))
theorem z04_ok:Sound Tryz.prog 68 z04_S := okS (x := z04_A) (fun Kv r_0=>z04_sd r_0 (kk [tI] Kv)) progMixed (Γ := [(65, z1c_S), (122, z0c_S)]) ⟨.inl z1c_ok, .inl z0c_ok, trivial⟩ Tryz.call68 Tryz.func68 (fun Kv=>hStep (hLoop0 (L := z04_L0 Kv) (fun N0 r_0 from_3 minus_4 n_5 k_6=>z04_b0 r_0 from_3 minus_4 n_5 k_6 N0 (kk [tI] Kv)) (fun ⟨a0, a1, a2, _, _, _⟩ _ h=>let ⟨I, μ, h0, hr⟩ := h.out; ⟨fun b0 b1 b2 b3 b4 w=>(b0=a0/\b1=a1/\b2=a2/\True)/\I b3 b4 w, fun _ _ _ b3 b4 w=>μ b3 b4 w, ⟨⟨rfl, rfl, rfl, trivial⟩, h0⟩, fun ⟨_, _, _, _, _, _⟩ _ ⟨⟨e0, e1, e2, _⟩, hI⟩=>by cases e0; cases e1; cases e2; exact hr _ _ _ hI⟩)) <| hStep (hCut0 (F := z04_L1 Kv) (G := fun r_0 from_3 minus_4 n_5=>z04_k1d r_0 from_3 minus_4 n_5 (kk [tI] Kv))) <| hStep (hCut0 (F := z04_L2 Kv) (G := fun r_0 from_3 n_5=>z04_k2d r_0 from_3 n_5 (kk [tI] Kv))) <| hEnd)
def z01_b0 (r_0:Option Addr) (out_3:Sl) (N0:Option Addr->Sl->World->Prop) (K:Pw.T2) (w:World):Prop :=
 z0c_sh r_0 (str [32]) (fun r2 w1=>cnd r2
 (z04_sh r_0 (fun r4 w3=>let w5 := w3.alloc (Obj.cells #[(Value.int .i64 r4)] 3)
 apS 1 8 [(Value.int .i64 0)] 3 out_3 (Sl.mk (some (Addr.mk w3.heap.size 0 none)) 1 1) w5 fun s6 w7=>N0 r_0 s6 w7) w1)
 (K out_3 w1)) w
def z01_l0d (r_0:Option Addr) (out_3:Sl) (K:Pw.T2) (w:World):Prop :=
 ∃ (I:Sl->World->Prop) (μ:Sl->World->Nat), I out_3 w/\∀ (out_31:Sl) (w1:World), I out_31 w1 ->
 z01_b0 r_0 out_31 (fun r_0' out_3' w'=>((r_0'=r_0/\True)/\I out_3' w')/\μ out_3' w' < μ out_31 w1) K w1
structure z01_l0 (r_0:Option Addr) (out_3:Sl) (K:Pw.T2) (w:World):Prop where
 out:z01_l0d r_0 out_3 K w
def z01_sd (r_0:Option Addr) (K:Pw.T2) (w:World):Prop :=
 z01_l0 r_0 (Sl.mk none 0 0) K w
structure z01_sh (r_0:Option Addr) (K:Pw.T2) (w:World):Prop where
 out:z01_sd r_0 K w
def z01_L0 (Kv:VW):Cur [tP, tL] WP := fun r_0 out_3=>z01_l0 r_0 out_3 (kk [tL] Kv)
noncomputable def z01_S:Pw.Spec := fun vs w Kv=>un [tP] (fun r_0=>z01_sh r_0 (kk [tL] Kv)) nF vs w
def z01_A (Kv:VW):A := (qr 1 (qr 1 (qs (qb (A.loop [0, 3] (uR0 [tP, tL] (z01_L0 Kv)) (qs (qr 2 (qc ql ql)) (qb (qe 6))))) (qr 2 ql))))
theorem z01_ok:Sound Tryz.prog 67 z01_S := okS (x := z01_A) (fun Kv r_0=>z01_sd r_0 (kk [tL] Kv)) progMixed (Γ := [(68, z04_S), (122, z0c_S)]) ⟨.inl z04_ok, .inl z0c_ok, trivial⟩ Tryz.call67 Tryz.func67 (fun Kv=>hStep (hLoop0 (L := z01_L0 Kv) (fun N0 r_0 out_3=>z01_b0 r_0 out_3 N0 (kk [tL] Kv)) (fun ⟨a0, _, _⟩ _ h=>let ⟨I, μ, h0, hr⟩ := h.out; ⟨fun b0 b1 w=>(b0=a0/\True)/\I b1 w, fun _ b1 w=>μ b1 w, ⟨⟨rfl, trivial⟩, h0⟩, fun ⟨_, _, _⟩ _ ⟨⟨e0, _⟩, hI⟩=>by cases e0; exact hr _ _ hI⟩)) <| hEnd)
def z1p_k1d (t_2 r_4 out_5:Addr) (K:Pw.T7) (w:World):Prop :=
 ∃ x45:Bool, w.cell? (r_4.add 2)=some (Value.bool x45)/\cnd x45
 (stN w t_2 [(Value.slice none 0 0), (Value.int .i64 0), (Value.int .i64 0), (Value.slice none 0 0)] fun w46=>∃ x47:Sl, w46.cell? t_2=some (Value.slice x47.p x47.l x47.c)/\∃ x48:Int, w46.cell? (t_2.add 1)=some (Value.int .i64 x48)/\∃ x49:Int, w46.cell? (t_2.add 2)=some (Value.int .i64 x49)/\∃ x50:Sl, w46.cell? (t_2.add 3)=some (Value.slice x50.p x50.l x50.c)/\K x47 x48 x49 x50 (11:Int) w46)
 (∃ x51:Sl, w.cell? out_5=some (Value.slice x51.p x51.l x51.c)/\∃ x52:Int, w.cell? (out_5.add 1)=some (Value.int .i64 x52)/\∃ x53:Int, w.cell? (out_5.add 2)=some (Value.int .i64 x53)/\∃ x54:Sl, w.cell? (out_5.add 3)=some (Value.slice x54.p x54.l x54.c)/\stN w t_2 [(Value.slice x51.p x51.l x51.c), (Value.int .i64 x52), (Value.int .i64 x53), (Value.slice x54.p x54.l x54.c)] fun w55=>∃ x56:Sl, w55.cell? t_2=some (Value.slice x56.p x56.l x56.c)/\∃ x57:Int, w55.cell? (t_2.add 1)=some (Value.int .i64 x57)/\∃ x58:Int, w55.cell? (t_2.add 2)=some (Value.int .i64 x58)/\∃ x59:Sl, w55.cell? (t_2.add 3)=some (Value.slice x59.p x59.l x59.c)/\K x56 x57 x58 x59 (0:Int) w55)
structure z1p_k1 (t_2 r_4 out_5:Addr) (K:Pw.T7) (w:World):Prop where
 out:z1p_k1d t_2 r_4 out_5 K w
def z1p_b0 (s_0:ByteArray) (t_2 r_4 out_5:Addr) (N0:ByteArray->Addr->Addr->Addr->World->Prop) (K:Pw.T7) (w:World):Prop :=
 ∃ x17:Bool, w.cell? (r_4.add 2)=some (Value.bool x17)/\cnd (!x17)
 (∃ x18:Int, w.cell? (r_4.add 1)=some (Value.int .i64 x18)/\cnd (decide (x18 < (s_0.size:Int)))
 (let w19 := w.alloc (Obj.cells #[(Value.int .i64 0), (Value.int .i64 0), (Value.int .i64 0), (Value.slice none 0 0)] 55)
 z0b_sh (some r_4) (str [110, 111, 100, 101, 32]) (fun w20=>z04_sh (some r_4) (fun r22 w21=>wrOk w21 (Addr.mk w.heap.size 0 none)/\
 (let w23 := w21.setCell (Addr.mk w.heap.size 0 none) (Value.int .i64 r22)
 z0b_sh (some r_4) (str [32]) (fun w24=>z04_sh (some r_4) (fun r26 w25=>wrOk w25 (Addr.mk w.heap.size 1 none)/\
 (let w27 := w25.setCell (Addr.mk w.heap.size 1 none) (Value.int .i64 r26)
 z0b_sh (some r_4) (str [47]) (fun w28=>z04_sh (some r_4) (fun r30 w29=>wrOk w29 (Addr.mk w.heap.size 2 none)/\
 (let w31 := w29.setCell (Addr.mk w.heap.size 2 none) (Value.int .i64 r30)
 z01_sh (some r_4) (fun r33 w32=>wrOk w32 (Addr.mk w.heap.size 3 none)/\
 (let w34 := w32.setCell (Addr.mk w.heap.size 3 none) (Value.slice r33.p r33.l r33.c)
 z0b_sh (some r_4) (str [10]) (fun w35=>∃ x36:Sl, w35.cell? (out_5.add 3)=some (Value.slice x36.p x36.l x36.c)/\∃ x37:Int, w35.cell? (Addr.mk w.heap.size 0 none)=some (Value.int .i64 x37)/\∃ x38:Int, w35.cell? (Addr.mk w.heap.size 1 none)=some (Value.int .i64 x38)/\∃ x39:Int, w35.cell? (Addr.mk w.heap.size 2 none)=some (Value.int .i64 x39)/\∃ x40:Sl, w35.cell? (Addr.mk w.heap.size 3 none)=some (Value.slice x40.p x40.l x40.c)/\let w41 := w35.alloc (Obj.cells #[(Value.int .i64 x37), (Value.int .i64 x38), (Value.int .i64 x39), (Value.slice x40.p x40.l x40.c)] 55)
 apS 4 48 [(Value.int .i64 0), (Value.int .i64 0), (Value.int .i64 0), (Value.slice none 0 0)] 55 x36 (Sl.mk (some (Addr.mk w35.heap.size 0 none)) 1 1) w41 fun s42 w43=>wrOk w43 (out_5.add 3)/\
 (let w44 := w43.setCell (out_5.add 3) (Value.slice s42.p s42.l s42.c)
 N0 s_0 t_2 r_4 out_5 w44)) w34)) w31)) w28) w27)) w24) w23)) w20) w19)
 (z1p_k1 t_2 r_4 out_5 K w))
 (z1p_k1 t_2 r_4 out_5 K w)
def z1p_l0d (s_0:ByteArray) (t_2 r_4 out_5:Addr) (K:Pw.T7) (w:World):Prop :=
 ∃ (I:World->Prop) (μ:World->Nat), I w/\∀ (w1:World), I w1 ->
 z1p_b0 s_0 t_2 r_4 out_5 (fun s_0' t_2' r_4' out_5' w'=>((s_0'=s_0/\t_2'=t_2/\r_4'=r_4/\out_5'=out_5/\True)/\I w')/\μ w' < μ w1) K w1
structure z1p_l0 (s_0:ByteArray) (t_2 r_4 out_5:Addr) (K:Pw.T7) (w:World):Prop where
 out:z1p_l0d s_0 t_2 r_4 out_5 K w
def z1p_sd (s_0:ByteArray) (K:Pw.T7) (w:World):Prop :=
 let w1 := w.alloc (Obj.cells #[(Value.slice none 0 0), (Value.int .i64 0), (Value.int .i64 0), (Value.slice none 0 0)] 45)
 let w2 := w1.alloc (Obj.cells #[(Value.string s_0), (Value.int .i64 0), (Value.bool false)] 119)
 let w3 := w2.alloc (Obj.cells #[(Value.slice none 0 0), (Value.int .i64 0), (Value.int .i64 0), (Value.slice none 0 0)] 45)
 z0b_sh (some (Addr.mk w1.heap.size 0 none)) (str [116, 97, 107, 101]) (fun w4=>z01_sh (some (Addr.mk w1.heap.size 0 none)) (fun r6 w5=>wrOk w5 (Addr.mk w2.heap.size 0 none)/\
 (let w7 := w5.setCell (Addr.mk w2.heap.size 0 none) (Value.slice r6.p r6.l r6.c)
 z0b_sh (some (Addr.mk w1.heap.size 0 none)) (str [10, 112, 111, 105, 110, 116, 115, 32]) (fun w8=>z04_sh (some (Addr.mk w1.heap.size 0 none)) (fun r10 w9=>wrOk w9 (Addr.mk w2.heap.size 1 none)/\
 (let w11 := w9.setCell (Addr.mk w2.heap.size 1 none) (Value.int .i64 r10)
 z0b_sh (some (Addr.mk w1.heap.size 0 none)) (str [32]) (fun w12=>z04_sh (some (Addr.mk w1.heap.size 0 none)) (fun r14 w13=>wrOk w13 (Addr.mk w2.heap.size 2 none)/\
 (let w15 := w13.setCell (Addr.mk w2.heap.size 2 none) (Value.int .i64 r14)
 z0b_sh (some (Addr.mk w1.heap.size 0 none)) (str [10]) (fun w16=>z1p_l0 s_0 (Addr.mk w.heap.size 0 none) (Addr.mk w1.heap.size 0 none) (Addr.mk w2.heap.size 0 none) K w16) w15)) w12) w11)) w8) w7)) w4) w3
structure z1p_sh (s_0:ByteArray) (K:Pw.T7) (w:World):Prop where
 out:z1p_sd s_0 K w
def z1p_L0 (Kv:VW):Cur [tS, tQ, tQ, tQ] WP := fun s_0 t_2 r_4 out_5=>z1p_l0 s_0 t_2 r_4 out_5 (kk [.u 2, .g 4, tL, tI, tI, tL, tI] Kv)
def z1p_L1 (Kv:VW):Cur [tQ, tQ, tQ] WP := fun t_2 r_4 out_5=>z1p_k1 t_2 r_4 out_5 (kk [.u 2, .g 4, tL, tI, tI, tL, tI] Kv)
noncomputable def z1p_S:Pw.Spec := fun vs w Kv=>un [tS] (fun s_0=>z1p_sh s_0 (kk [.u 2, .g 4, tL, tI, tI, tL, tI] Kv)) nF vs w
def z1p_A (Kv:VW):A := (qr 2 (qr 4 (qr 1 (qr 2 (qr 4 (qr 2 (qr 4 (qr 2 (qr 4 (qr 2 (qs (qb (A.loop [0, 2, 4, 5] (uR0 [tS, tQ, tQ, tQ] (z1p_L0 Kv)) (qs (qs (A.reg (qn 6 (RA.spl 32 (qn 8 RA.done) (qk 7 (qn 1 RA.done))))) (qc ql ql)) (qb (qr 1 (qr 2 (qr 4 (qr 2 (qr 5 (qr 2 (qr 5 (qr 4 (qr 2 (qe 7)))))))))))))) (A.cut [2, 4, 5] (uR0 [tQ, tQ, tQ] (z1p_L1 Kv)) (qs (qr 4 (qc (qr 3 ql) ql)) (qr 3 ql))))))))))))))
theorem z1p_ok:Sound Tryz.prog 32 z1p_S := okS (x := z1p_A) (fun Kv s_0=>z1p_sd s_0 (kk [.u 2, .g 4, tL, tI, tI, tL, tI] Kv)) progMixed (Γ := [(66, z0b_S), (67, z01_S), (68, z04_S)]) ⟨.inl z0b_ok, .inl z01_ok, .inl z04_ok, trivial⟩ Tryz.call32 Tryz.func32 (fun Kv=>hStep (hLoop0 (L := z1p_L0 Kv) (fun N0 s_0 t_2 r_4 out_5=>z1p_b0 s_0 t_2 r_4 out_5 N0 (kk [.u 2, .g 4, tL, tI, tI, tL, tI] Kv)) (fun ⟨a0, a1, a2, a3, _⟩ _ h=>let ⟨I, μ, h0, hr⟩ := h.out; ⟨fun b0 b1 b2 b3 w=>(b0=a0/\b1=a1/\b2=a2/\b3=a3/\True)/\I w, fun _ _ _ _ w=>μ w, ⟨⟨rfl, rfl, rfl, rfl, trivial⟩, h0⟩, fun ⟨_, _, _, _, _⟩ _ ⟨⟨e0, e1, e2, e3, _⟩, hI⟩=>by cases e0; cases e1; cases e2; cases e3; exact hr _ hI⟩)) <| hStep (hCut0 (F := z1p_L1 Kv) (G := fun t_2 r_4 out_5=>z1p_k1d t_2 r_4 out_5 (kk [.u 2, .g 4, tL, tI, tI, tL, tI] Kv))) <| hEnd)
end Go.Proofs.YtfpobpjandjhjaaGreatDoor
