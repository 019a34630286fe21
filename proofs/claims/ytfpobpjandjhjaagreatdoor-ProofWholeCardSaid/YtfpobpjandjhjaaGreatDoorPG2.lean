/- The bodies' formulas, by program. -/
import Derived.Test.YtfpobpjandjhjaaGreatDoorProg
import Derived.KernelRfl
import Derived.Test.YtfpobpjandjhjaaGreatDoorPwY
import Derived.Test.YtfpobpjandjhjaaGreatDoorCG0
import Derived.Test.YtfpobpjandjhjaaGreatDoorCG1
import Derived.Test.YtfpobpjandjhjaaGreatDoorCG2
import Derived.Test.YtfpobpjandjhjaaGreatDoorCG5
import Derived.Test.YtfpobpjandjhjaaGreatDoorPG1
set_option maxRecDepth 20000
namespace Go.Proofs.YtfpobpjandjhjaaGreatDoor
open Go Pw
def z2c_b1 (r_1 t_2 out_3:Addr) (k_4:Int) (N1:Addr->Addr->Addr->Int->World->Prop) (K:Pw.T7) (w:World):Prop :=
 ∃ x22:Sl, w.cell? (r_1.add 3)=some (Value.slice x22.p x22.l x22.c)/\cnd (decide (k_4 < (x22.l:Int)))
 (∃ x23:Sl, w.cell? (r_1.add 3)=some (Value.slice x23.p x23.l x23.c)/\nz x23.p fun a24=>(0 <= k_4/\k_4 < (x23.l:Nat))/\∃ x25:Int, w.cell? (a24.add (k_4.toNat * 4))=some (Value.int .i64 x25)/\∃ x26:Int, w.cell? ((a24.add (k_4.toNat * 4)).add 1)=some (Value.int .i64 x26)/\∃ x27:Int, w.cell? ((a24.add (k_4.toNat * 4)).add 2)=some (Value.int .i64 x27)/\∃ x28:Sl, w.cell? ((a24.add (k_4.toNat * 4)).add 3)=some (Value.slice x28.p x28.l x28.c)/\let w29 := w.alloc (Obj.cells #[(Value.int .i64 0), (Value.int .i64 0), (Value.int .i64 0), (Value.slice none 0 0)] 55)
 stN w29 (Addr.mk w.heap.size 0 none) [(Value.int .i64 x25), (Value.int .i64 x26), (Value.int .i64 x27), (Value.slice x28.p x28.l x28.c)] fun w30=>let w31 := w30.alloc (Obj.cells #[] 3)
 ∃ x32:Sl, w31.cell? (Addr.mk w.heap.size 3 none)=some (Value.slice x32.p x32.l x32.c)/\apS 1 8 [(Value.int .i64 0)] 3 (Sl.mk (some (Addr.mk w30.heap.size 0 none)) 0 0) x32 w31 fun s33 w34=>wrOk w34 (Addr.mk w.heap.size 3 none)/\
 (let w35 := w34.setCell (Addr.mk w.heap.size 3 none) (Value.slice s33.p s33.l s33.c)
 ∃ x36:Sl, w35.cell? (out_3.add 3)=some (Value.slice x36.p x36.l x36.c)/\∃ x37:Int, w35.cell? (Addr.mk w.heap.size 0 none)=some (Value.int .i64 x37)/\∃ x38:Int, w35.cell? (Addr.mk w.heap.size 1 none)=some (Value.int .i64 x38)/\∃ x39:Int, w35.cell? (Addr.mk w.heap.size 2 none)=some (Value.int .i64 x39)/\∃ x40:Sl, w35.cell? (Addr.mk w.heap.size 3 none)=some (Value.slice x40.p x40.l x40.c)/\let w41 := w35.alloc (Obj.cells #[(Value.int .i64 x37), (Value.int .i64 x38), (Value.int .i64 x39), (Value.slice x40.p x40.l x40.c)] 55)
 apS 4 48 [(Value.int .i64 0), (Value.int .i64 0), (Value.int .i64 0), (Value.slice none 0 0)] 55 x36 (Sl.mk (some (Addr.mk w35.heap.size 0 none)) 1 1) w41 fun s42 w43=>wrOk w43 (out_3.add 3)/\
 (let w44 := w43.setCell (out_3.add 3) (Value.slice s42.p s42.l s42.c)
 inR .i64 (k_4 + (1:Int))/\N1 r_1 t_2 out_3 (k_4 + (1:Int)) w44)))
 (∃ x45:Sl, w.cell? out_3=some (Value.slice x45.p x45.l x45.c)/\∃ x46:Int, w.cell? (out_3.add 1)=some (Value.int .i64 x46)/\∃ x47:Int, w.cell? (out_3.add 2)=some (Value.int .i64 x47)/\∃ x48:Sl, w.cell? (out_3.add 3)=some (Value.slice x48.p x48.l x48.c)/\stN w t_2 [(Value.slice x45.p x45.l x45.c), (Value.int .i64 x46), (Value.int .i64 x47), (Value.slice x48.p x48.l x48.c)] fun w49=>∃ x50:Sl, w49.cell? t_2=some (Value.slice x50.p x50.l x50.c)/\∃ x51:Int, w49.cell? (t_2.add 1)=some (Value.int .i64 x51)/\∃ x52:Int, w49.cell? (t_2.add 2)=some (Value.int .i64 x52)/\∃ x53:Sl, w49.cell? (t_2.add 3)=some (Value.slice x53.p x53.l x53.c)/\K x50 x51 x52 x53 w49)
def z2c_l1d (r_1 t_2 out_3:Addr) (k_4:Int) (K:Pw.T7) (w:World):Prop :=
 ∃ (I:Int->World->Prop) (μ:Int->World->Nat), I k_4 w/\∀ (k_41:Int) (w1:World), I k_41 w1 ->
 z2c_b1 r_1 t_2 out_3 k_41 (fun r_1' t_2' out_3' k_4' w'=>((r_1'=r_1/\t_2'=t_2/\out_3'=out_3/\True)/\I k_4' w')/\μ k_4' w' < μ k_41 w1) K w1
structure z2c_l1 (r_1 t_2 out_3:Addr) (k_4:Int) (K:Pw.T7) (w:World):Prop where
 out:z2c_l1d r_1 t_2 out_3 k_4 K w
def z2c_k0d (r_1 t_2 out_3:Addr) (K:Pw.T7) (w:World):Prop :=
 z2c_l1 r_1 t_2 out_3 (0:Int) K w
structure z2c_k0 (r_1 t_2 out_3:Addr) (K:Pw.T7) (w:World):Prop where
 out:z2c_k0d r_1 t_2 out_3 K w
def z2c_sd (r_0_0:Sl) (r_0_1 r_0_2:Int) (r_0_3:Sl) (K:Pw.T7) (w:World):Prop :=
 let w1 := w.alloc (Obj.cells #[(Value.slice r_0_0.p r_0_0.l r_0_0.c), (Value.int .i64 r_0_1), (Value.int .i64 r_0_2), (Value.slice r_0_3.p r_0_3.l r_0_3.c)] 45)
 let w2 := w1.alloc (Obj.cells #[(Value.slice none 0 0), (Value.int .i64 0), (Value.int .i64 0), (Value.slice none 0 0)] 45)
 let w3 := w2.drew
 ∃ S4:World->Prop, S4 w3/\∃ x5:Sl, (∀ w':World, S4 w'->w'.cell? (Addr.mk w.heap.size 0 none)=some (Value.slice x5.p x5.l x5.c))/\∃ x6:Int, (∀ w':World, S4 w'->w'.cell? (Addr.mk w.heap.size 1 none)=some (Value.int .i64 x6))/\∃ x7:Int, (∀ w':World, S4 w'->w'.cell? (Addr.mk w.heap.size 2 none)=some (Value.int .i64 x7))/\(let w8 := w3.alloc (Obj.cells #[] 3)
 S4 w8/\(apS 1 8 [(Value.int .i64 0)] 3 (Sl.mk (some (Addr.mk w3.heap.size 0 none)) 0 0) x5 w8 fun s9 w10=>S4 w10/\let w11 := w10.alloc (Obj.cells #[(Value.slice none 0 0), (Value.int .i64 0), (Value.int .i64 0), (Value.slice none 0 0)] 45)
 S4 w11/\stN w11 (Addr.mk w10.heap.size 0 none) [(Value.slice s9.p s9.l s9.c), (Value.int .i64 x6), (Value.int .i64 x7), (Value.slice none 0 0)] fun w12=>z2c_k0 (Addr.mk w.heap.size 0 none) (Addr.mk w1.heap.size 0 none) (Addr.mk w10.heap.size 0 none) K w12)
/\(let w13 := w8.alloc (Obj.cells #[(Value.slice none 0 0), (Value.int .i64 0), (Value.int .i64 0), (Value.slice none 0 0)] 45)
 S4 w13/\apS 1 8 [(Value.int .i64 0)] 3 (Sl.mk (some (Addr.mk w3.heap.size 0 none)) 0 0) x5 w13 fun s14 w15=>S4 w15/\stN w15 (Addr.mk w8.heap.size 0 none) [(Value.slice s14.p s14.l s14.c), (Value.int .i64 x6), (Value.int .i64 x7), (Value.slice none 0 0)] fun w16=>z2c_k0 (Addr.mk w.heap.size 0 none) (Addr.mk w1.heap.size 0 none) (Addr.mk w8.heap.size 0 none) K w16))
/\(let w17 := w3.alloc (Obj.cells #[(Value.slice none 0 0), (Value.int .i64 0), (Value.int .i64 0), (Value.slice none 0 0)] 45)
 S4 w17/\let w18 := w17.alloc (Obj.cells #[] 3)
 S4 w18/\apS 1 8 [(Value.int .i64 0)] 3 (Sl.mk (some (Addr.mk w17.heap.size 0 none)) 0 0) x5 w18 fun s19 w20=>S4 w20/\stN w20 (Addr.mk w3.heap.size 0 none) [(Value.slice s19.p s19.l s19.c), (Value.int .i64 x6), (Value.int .i64 x7), (Value.slice none 0 0)] fun w21=>z2c_k0 (Addr.mk w.heap.size 0 none) (Addr.mk w1.heap.size 0 none) (Addr.mk w3.heap.size 0 none) K w21)
structure z2c_sh (r_0_0:Sl) (r_0_1 r_0_2:Int) (r_0_3:Sl) (K:Pw.T7) (w:World):Prop where
 out:z2c_sd r_0_0 r_0_1 r_0_2 r_0_3 K w
def z2c_L0 (Kv:VW):Cur [tQ, tQ, tQ] WP := fun r_1 t_2 out_3=>z2c_k0 r_1 t_2 out_3 (kk [.g 4, tL, tI, tI, tL] Kv)
def z2c_L1 (Kv:VW):Cur [tQ, tQ, tQ, tI] WP := fun r_1 t_2 out_3 k_4=>z2c_l1 r_1 t_2 out_3 k_4 (kk [.g 4, tL, tI, tI, tL] Kv)
noncomputable def z2c_S:Pw.Spec := fun vs w Kv=>un [.g 4, tL, tI, tI, tL] (fun r_0_0 r_0_1 r_0_2 r_0_3=>z2c_sh r_0_0 r_0_1 r_0_2 r_0_3 (kk [.g 4, tL, tI, tI, tL] Kv)) nF vs w
def z2c_A (Kv:VW):A := (qr 2 (qs (A.drw (dp [1, 2, 4, 5, 6, 7] (DA.two 0 (DA.two 3 (DA.pur 8 (DA.eff 9 (DA.eff 10 DA.done))) 9 (DA.eff 3 (DA.pur 8 (DA.eff 10 DA.done)))) 9 (DA.eff 0 (DA.eff 3 (DA.pur 8 (DA.eff 10 DA.done))))))) (A.cut [1, 2, 3] (uR0 [tQ, tQ, tQ] (z2c_L0 Kv)) (qs (qr 1 (qb (A.loop [1, 2, 3, 4] (uR0 [tQ, tQ, tQ, tI] (z2c_L1 Kv)) (qs (qr 5 (qc ql ql)) (qs (qb (qr 7 (qr 6 (qe 7)))) (qe 3)))))) (qr 2 ql)))))
theorem z2c_ok:Sound Tryz.prog 33 z2c_S := okS (x := z2c_A) (fun Kv r_0_0 r_0_1 r_0_2 r_0_3=>z2c_sd r_0_0 r_0_1 r_0_2 r_0_3 (kk [.g 4, tL, tI, tI, tL] Kv)) progMixed (Γ := []) trivial Tryz.call33 Tryz.func33 (fun Kv=>hStep (hCut0 (F := z2c_L0 Kv) (G := fun r_1 t_2 out_3=>z2c_k0d r_1 t_2 out_3 (kk [.g 4, tL, tI, tI, tL] Kv))) <| hStep (hLoop0 (L := z2c_L1 Kv) (fun N1 r_1 t_2 out_3 k_4=>z2c_b1 r_1 t_2 out_3 k_4 N1 (kk [.g 4, tL, tI, tI, tL] Kv)) (fun ⟨a0, a1, a2, _, _⟩ _ h=>let ⟨I, μ, h0, hr⟩ := h.out; ⟨fun b0 b1 b2 b3 w=>(b0=a0/\b1=a1/\b2=a2/\True)/\I b3 w, fun _ _ _ b3 w=>μ b3 w, ⟨⟨rfl, rfl, rfl, trivial⟩, h0⟩, fun ⟨_, _, _, _, _⟩ _ ⟨⟨e0, e1, e2, _⟩, hI⟩=>by cases e0; cases e1; cases e2; exact hr _ _ hI⟩)) <| hEnd)
def z2o_sd (n_0 m_1:Int) (K:Pw.T1) (w:World):Prop :=
 m_1 ≠ 0/\inR .i64 ((Int.tmod n_0 m_1) + m_1)/\m_1 ≠ 0/\K (Int.tmod ((Int.tmod n_0 m_1) + m_1) m_1) w
structure z2o_sh (n_0 m_1:Int) (K:Pw.T1) (w:World):Prop where
 out:z2o_sd n_0 m_1 K w
noncomputable def z2o_S:Pw.Spec := fun vs w Kv=>un [tI, tI] (fun n_0 m_1=>z2o_sh n_0 m_1 (kk [tI] Kv)) nF vs w
def z2o_A (_:VW):A := (qr 1 (qr 8 ql))
theorem z2o_ok:Sound Tryz.prog 31 z2o_S := okS (x := z2o_A) (fun Kv n_0 m_1=>z2o_sd n_0 m_1 (kk [tI] Kv)) progMixed (Γ := []) trivial Tryz.call31 Tryz.func31 (fun _=>hEnd)
end Go.Proofs.YtfpobpjandjhjaaGreatDoor
