/- The bodies' formulas, by program. -/
import Derived.Test.YtfpobpjandjhjaaGreatDoorProg
import Derived.KernelRfl
import Derived.Test.YtfpobpjandjhjaaGreatDoorPwY
import Derived.Test.YtfpobpjandjhjaaGreatDoorCG0
import Derived.Test.YtfpobpjandjhjaaGreatDoorCG1
import Derived.Test.YtfpobpjandjhjaaGreatDoorCG2
import Derived.Test.YtfpobpjandjhjaaGreatDoorCG5
import Derived.Test.YtfpobpjandjhjaaGreatDoorPG1
import Derived.Test.YtfpobpjandjhjaaGreatDoorPG2
import Derived.Test.YtfpobpjandjhjaaGreatDoorPG3
import Derived.Test.YtfpobpjandjhjaaGreatDoorPG4
import Derived.Test.YtfpobpjandjhjaaGreatDoorPW2
set_option maxRecDepth 20000
namespace Go.Proofs.YtfpobpjandjhjaaGreatDoor
open Go Pw
def z05_k2d (f_0:Sl) (t_1 t_2 t_3:Addr) (n_6 c_7 k_8:Int) (N0:Sl->Addr->Addr->Addr->Int->Int->World->Prop) (K:Pw.T1) (w:World):Prop :=
 let w45 := w.drew
 ∃ S46:World->Prop, S46 w45/\∃ x47:Sl, (∀ w':World, S46 w'->w'.cell? t_1=some (Value.slice x47.p x47.l x47.c))/\∃ x48:Sl, (∀ w':World, S46 w'->w'.cell? t_1=some (Value.slice x48.p x48.l x48.c))/\nz x48.p fun a49=>(0 <= n_6/\n_6 < (x48.l:Nat))/\∃ x50:Sl, (∀ w':World, S46 w'->w'.cell? ((a49.add (n_6.toNat * 4)).add 3)=some (Value.slice x50.p x50.l x50.c))/\let w51 := w45.alloc (Obj.cells #[(Value.int .i64 k_8)] 3)
 S46 w51/\apS 1 8 [(Value.int .i64 0)] 3 x50 (Sl.mk (some (Addr.mk w45.heap.size 0 none)) 1 1) w51 fun s52 w53=>S46 w53/\nz x47.p fun a54=>(0 <= n_6/\n_6 < (x47.l:Nat))/\wrOk w53 ((a54.add (n_6.toNat * 4)).add 3)/\
 (let w55 := w53.setCell ((a54.add (n_6.toNat * 4)).add 3) (Value.slice s52.p s52.l s52.c)
 inR .i64 (c_7 + (1:Int))/\N0 f_0 t_1 t_2 t_3 n_6 (c_7 + (1:Int)) w55)
structure z05_k2 (f_0:Sl) (t_1 t_2 t_3:Addr) (n_6 c_7 k_8:Int) (N0:Sl->Addr->Addr->Addr->Int->Int->World->Prop) (K:Pw.T1) (w:World):Prop where
 out:z05_k2d f_0 t_1 t_2 t_3 n_6 c_7 k_8 N0 K w
def z05_k1d (f_0:Sl) (t_1 t_2 t_3:Addr) (n_6 c_7:Int) (N0:Sl->Addr->Addr->Addr->Int->Int->World->Prop) (K:Pw.T1) (w:World):Prop :=
 let w16 := w.drew
 ∃ S17:World->Prop, S17 w16/\∃ x18:Value, (∀ w':World, S17 w'->w'.cell? t_3=some x18)/\(let w19 := w16.alloc (Obj.cells #[] 3)
 S17 w19/\(apS 1 8 [(Value.int .i64 0)] 3 (Sl.mk (some (Addr.mk w16.heap.size 0 none)) 0 0) f_0 w19 fun s20 w21=>S17 w21/\let w22 := w21.alloc (Obj.cells #[(Value.int .i64 c_7)] 3)
 S17 w22/\apS 1 8 [(Value.int .i64 0)] 3 s20 (Sl.mk (some (Addr.mk w21.heap.size 0 none)) 1 1) w22 fun s23 w24=>S17 w24/\CallV Tryz.prog x18 [(Value.slice s23.p s23.l s23.c)] w24 fun u25 w26=>∃ x27:Int, u25=(Value.int .i64 x27)/\z05_k2 f_0 t_1 t_2 t_3 n_6 c_7 x27 N0 K w26)
/\(let w28 := w19.alloc (Obj.cells #[(Value.int .i64 c_7)] 3)
 S17 w28/\apS 1 8 [(Value.int .i64 0)] 3 (Sl.mk (some (Addr.mk w16.heap.size 0 none)) 0 0) f_0 w28 fun s29 w30=>S17 w30/\apS 1 8 [(Value.int .i64 0)] 3 s29 (Sl.mk (some (Addr.mk w19.heap.size 0 none)) 1 1) w30 fun s31 w32=>S17 w32/\CallV Tryz.prog x18 [(Value.slice s31.p s31.l s31.c)] w32 fun u33 w34=>∃ x35:Int, u33=(Value.int .i64 x35)/\z05_k2 f_0 t_1 t_2 t_3 n_6 c_7 x35 N0 K w34))
/\(let w36 := w16.alloc (Obj.cells #[(Value.int .i64 c_7)] 3)
 S17 w36/\let w37 := w36.alloc (Obj.cells #[] 3)
 S17 w37/\apS 1 8 [(Value.int .i64 0)] 3 (Sl.mk (some (Addr.mk w36.heap.size 0 none)) 0 0) f_0 w37 fun s38 w39=>S17 w39/\apS 1 8 [(Value.int .i64 0)] 3 s38 (Sl.mk (some (Addr.mk w16.heap.size 0 none)) 1 1) w39 fun s40 w41=>S17 w41/\CallV Tryz.prog x18 [(Value.slice s40.p s40.l s40.c)] w41 fun u42 w43=>∃ x44:Int, u42=(Value.int .i64 x44)/\z05_k2 f_0 t_1 t_2 t_3 n_6 c_7 x44 N0 K w43)
structure z05_k1 (f_0:Sl) (t_1 t_2 t_3:Addr) (n_6 c_7:Int) (N0:Sl->Addr->Addr->Addr->Int->Int->World->Prop) (K:Pw.T1) (w:World):Prop where
 out:z05_k1d f_0 t_1 t_2 t_3 n_6 c_7 N0 K w
def z05_b0 (f_0:Sl) (t_1 t_2 t_3:Addr) (n_6 c_7:Int) (N0:Sl->Addr->Addr->Addr->Int->Int->World->Prop) (K:Pw.T1) (w:World):Prop :=
 ∃ x8:Sl, w.cell? (t_2.add 1)=some (Value.slice x8.p x8.l x8.c)/\cnd (decide (c_7 < (x8.l:Int)))
 (let w9 := w.drew
 cnd (decide (c_7 < (0:Int)))
 (z05_k1 f_0 t_1 t_2 t_3 n_6 c_7 N0 K w9)
 (∃ x10:Sl, w9.cell? (t_2.add 1)=some (Value.slice x10.p x10.l x10.c)/\nz x10.p fun a11=>(0 <= c_7/\c_7 < (x10.l:Nat))/\∃ x12:Int, w9.cell? (a11.add (c_7.toNat * 4))=some (Value.int .i64 x12)/\∃ x13:Sl, w9.cell? t_2=some (Value.slice x13.p x13.l x13.c)/\nz x13.p fun a14=>(0 <= (f_0.l:Int)/\(f_0.l:Int) < (x13.l:Nat))/\∃ x15:Int, w9.cell? (a14.add ((f_0.l:Int).toNat * 1))=some (Value.int .i64 x15)/\cnd (x12 == x15)
 (z05_k1 f_0 t_1 t_2 t_3 n_6 c_7 N0 K w9)
 (inR .i64 (c_7 + (1:Int))/\N0 f_0 t_1 t_2 t_3 n_6 (c_7 + (1:Int)) w9)))
 (K n_6 w)
def z05_l0d (f_0:Sl) (t_1 t_2 t_3:Addr) (n_6 c_7:Int) (K:Pw.T1) (w:World):Prop :=
 ∃ (I:Int->World->Prop) (μ:Int->World->Nat), I c_7 w/\∀ (c_71:Int) (w1:World), I c_71 w1 ->
 z05_b0 f_0 t_1 t_2 t_3 n_6 c_71 (fun f_0' t_1' t_2' t_3' n_6' c_7' w'=>((f_0'=f_0/\t_1'=t_1/\t_2'=t_2/\t_3'=t_3/\n_6'=n_6/\True)/\I c_7' w')/\μ c_7' w' < μ c_71 w1) K w1
structure z05_l0 (f_0:Sl) (t_1 t_2 t_3:Addr) (n_6 c_7:Int) (K:Pw.T1) (w:World):Prop where
 out:z05_l0d f_0 t_1 t_2 t_3 n_6 c_7 K w
def z05_sd (f_0:Sl) (t_1 t_2 t_3:Addr) (K:Pw.T1) (w:World):Prop :=
 ∃ x1:Sl, w.cell? t_1=some (Value.slice x1.p x1.l x1.c)/\∃ x2:Sl, w.cell? t_1=some (Value.slice x2.p x2.l x2.c)/\let w3 := w.alloc (Obj.cells #[(Value.int .i64 (f_0.l:Int)), (Value.int .i64 0), (Value.int .i64 1), (Value.slice none 0 0)] 55)
 apS 4 48 [(Value.int .i64 0), (Value.int .i64 0), (Value.int .i64 0), (Value.slice none 0 0)] 55 x2 (Sl.mk (some (Addr.mk w.heap.size 0 none)) 1 1) w3 fun s4 w5=>wrOk w5 t_1/\
 (let w6 := w5.setCell t_1 (Value.slice s4.p s4.l s4.c)
 ∃ x7:Sl, w6.cell? t_2=some (Value.slice x7.p x7.l x7.c)/\cnd ((f_0.l:Int) == (x7.l:Int))
 (K (x1.l:Int) w6)
 (z05_l0 f_0 t_1 t_2 t_3 (x1.l:Int) (-1:Int) K w6))
structure z05_sh (f_0:Sl) (t_1 t_2 t_3:Addr) (K:Pw.T1) (w:World):Prop where
 out:z05_sd f_0 t_1 t_2 t_3 K w
def z05_L0 (Kv:VW):Cur [tL, tQ, tQ, tQ, tI, tI] WP := fun f_0 t_1 t_2 t_3 n_6 c_7=>z05_l0 f_0 t_1 t_2 t_3 n_6 c_7 (kk [tI] Kv)
def z05_L1 (Kv:VW):Cur [tL, tQ, tQ, tQ, tI, tI] WP->Cur [tL, tQ, tQ, tQ, tI, tI] WP := fun N0 f_0 t_1 t_2 t_3 n_6 c_7=>z05_k1 f_0 t_1 t_2 t_3 n_6 c_7 N0 (kk [tI] Kv)
def z05_L2 (Kv:VW):Cur [tL, tQ, tQ, tQ, tI, tI] WP->Cur [tL, tQ, tQ, tQ, tI, tI, tI] WP := fun N0 f_0 t_1 t_2 t_3 n_6 c_7 k_8=>z05_k2 f_0 t_1 t_2 t_3 n_6 c_7 k_8 N0 (kk [tI] Kv)
noncomputable def z05_S:Pw.Spec := fun vs w Kv=>un [tL, tQ, tQ, tQ] (fun f_0 t_1 t_2 t_3=>z05_sh f_0 t_1 t_2 t_3 (kk [tI] Kv)) nF vs w
def z05_A (Kv:VW):A := (qr 1 (qr 3 (qr 8 (qs (qr 6 (qc (qr 2 ql) ql)) (qs (qr 1 (qb (A.loop [0, 1, 2, 3, 6, 7] (uR0 [tL, tQ, tQ, tQ, tI, tI] (z05_L0 Kv)) (qs (qr 5 (qc ql ql)) (qs (qb (qs (A.drp (dp [0, 1, 2] (DA.spl 34 (DA.skp 3 (DA.skp 4 (DA.skp 5 (DA.skp 6 (DA.skp 7 (DA.skp 8 (DA.skp 9 (DA.skp 10 (DA.skp 11 (DA.skp 12 (DA.skp 13 (DA.skp 14 (DA.skp 15 (DA.pur 16 DA.done)))))))))))))) (dp [3, 4, 5, 6, 7, 8, 9, 10, 11, 12, 13, 14, 15, 16] DA.done)))) (qc (A.cut [0, 1, 2, 3, 6, 7] (uR1 [tL, tQ, tQ, tQ, tI, tI] [tL, tQ, tQ, tQ, tI, tI] (z05_L1 Kv)) (qs (A.drw (dp [0, 2, 4] (DA.two 1 (DA.two 3 (DA.eff 5 (DA.eff 6 (DA.dyn 7 (Value.int .i64 0) (DA.pur 8 DA.done)))) 5 (DA.eff 3 (DA.eff 6 (DA.dyn 7 (Value.int .i64 0) (DA.pur 8 DA.done))))) 5 (DA.eff 1 (DA.eff 3 (DA.eff 6 (DA.dyn 7 (Value.int .i64 0) (DA.pur 8 DA.done)))))))) (A.cut [0, 1, 2, 3, 6, 7, 8] (uR1 [tL, tQ, tQ, tQ, tI, tI] [tL, tQ, tQ, tQ, tI, tI, tI] (z05_L2 Kv)) (A.drw (dp [0, 1, 2, 3, 4, 5, 6, 7] (DA.eff 8 (DA.eff 9 (dp [10, 11] (DA.eff 12 DA.done))))))))) ql))) (qe 3)))))) (qr 2 ql))))))
theorem z05_ok:Sound Tryz.prog 22 z05_S := okS (x := z05_A) (fun Kv f_0 t_1 t_2 t_3=>z05_sd f_0 t_1 t_2 t_3 (kk [tI] Kv)) progMixed (Γ := []) trivial Tryz.call22 Tryz.func22 (fun Kv=>hStep (hLoop0 (L := z05_L0 Kv) (fun N0 f_0 t_1 t_2 t_3 n_6 c_7=>z05_b0 f_0 t_1 t_2 t_3 n_6 c_7 N0 (kk [tI] Kv)) (fun ⟨a0, a1, a2, a3, a4, _, _⟩ _ h=>let ⟨I, μ, h0, hr⟩ := h.out; ⟨fun b0 b1 b2 b3 b4 b5 w=>(b0=a0/\b1=a1/\b2=a2/\b3=a3/\b4=a4/\True)/\I b5 w, fun _ _ _ _ _ b5 w=>μ b5 w, ⟨⟨rfl, rfl, rfl, rfl, rfl, trivial⟩, h0⟩, fun ⟨_, _, _, _, _, _, _⟩ _ ⟨⟨e0, e1, e2, e3, e4, _⟩, hI⟩=>by cases e0; cases e1; cases e2; cases e3; cases e4; exact hr _ _ hI⟩)) <| hStep (hCut1 (F := z05_L1 Kv) (G := fun N0 f_0 t_1 t_2 t_3 n_6 c_7=>z05_k1d f_0 t_1 t_2 t_3 n_6 c_7 N0 (kk [tI] Kv))) <| hStep (hCut1 (F := z05_L2 Kv) (G := fun N0 f_0 t_1 t_2 t_3 n_6 c_7 k_8=>z05_k2d f_0 t_1 t_2 t_3 n_6 c_7 k_8 N0 (kk [tI] Kv))) <| hEnd)
def z0d_k1d (f_1:Sl) (head_5:Bool) (p_6:Addr) (best_9:Sl) (r_10:Addr) (K:Pw.T0) (w:World):Prop :=
 ∃ x47:Int, w.cell? (r_10.add 1)=some (Value.int .i64 x47)/\wrOk w (r_10.add 2)/\
 (let w48 := w.setCell (r_10.add 2) (Value.int .i64 x47)
 ∃ x49:Sl, w48.cell? r_10=some (Value.slice x49.p x49.l x49.c)/\∃ x50:Int, w48.cell? (r_10.add 1)=some (Value.int .i64 x50)/\∃ x51:Int, w48.cell? (r_10.add 2)=some (Value.int .i64 x51)/\∃ x52:Sl, w48.cell? (r_10.add 3)=some (Value.slice x52.p x52.l x52.c)/\let w53 := w48.alloc (Obj.cells #[(Value.slice none 0 0), (Value.int .i64 0), (Value.int .i64 0), (Value.slice none 0 0)] 45)
 stN w53 (Addr.mk w48.heap.size 0 none) [(Value.slice x49.p x49.l x49.c), (Value.int .i64 x50), (Value.int .i64 x51), (Value.slice x52.p x52.l x52.c)] fun w54=>let w55 := w54.drew
 ∃ S56:World->Prop, S56 w55/\∃ x57:Sl, (∀ w':World, S56 w'->w'.cell? p_6=some (Value.slice x57.p x57.l x57.c))/\∃ x58:Sl, (∀ w':World, S56 w'->w'.cell? (p_6.add 1)=some (Value.slice x58.p x58.l x58.c))/\∃ x59:Sl, (∀ w':World, S56 w'->w'.cell? (p_6.add 2)=some (Value.slice x59.p x59.l x59.c))/\∃ x60:Int, (∀ w':World, S56 w'->w'.cell? (p_6.add 3)=some (Value.int .i64 x60))/\∃ x61:Int, (∀ w':World, S56 w'->w'.cell? (p_6.add 4)=some (Value.int .i64 x61))/\let w62 := w55.alloc (Obj.cells #[] 3)
 S56 w62/\apS 1 8 [(Value.int .i64 0)] 3 (Sl.mk (some (Addr.mk w55.heap.size 0 none)) 0 0) f_1 w62 fun s63 w64=>S56 w64/\apZ 1 8 [(Value.int .i64 0)] 3 s63 (12:Int) w64 fun s65 w66=>S56 w66/\z18_sh x57 x58 x59 x60 x61 s65 (fun r68 w67=>wrOk w67 (Addr.mk w48.heap.size 0 none)/\
 (let w69 := w67.setCell (Addr.mk w48.heap.size 0 none) (Value.slice r68.p r68.l r68.c)
 ∃ x70:Sl, w69.cell? p_6=some (Value.slice x70.p x70.l x70.c)/\∃ x71:Sl, w69.cell? (p_6.add 1)=some (Value.slice x71.p x71.l x71.c)/\∃ x72:Sl, w69.cell? (p_6.add 2)=some (Value.slice x72.p x72.l x72.c)/\∃ x73:Int, w69.cell? (p_6.add 3)=some (Value.int .i64 x73)/\∃ x74:Int, w69.cell? (p_6.add 4)=some (Value.int .i64 x74)/\∃ x75:Sl, w69.cell? (Addr.mk w48.heap.size 0 none)=some (Value.slice x75.p x75.l x75.c)/\z1d_sh x70 x71 x72 x73 x74 x75 (fun r77 w76=>wrOk w76 (Addr.mk w48.heap.size 1 none)/\
 (let w78 := w76.setCell (Addr.mk w48.heap.size 1 none) (Value.int .i64 r77)
 ∃ x79:Int, w78.cell? (Addr.mk w48.heap.size 1 none)=some (Value.int .i64 x79)/\wrOk w78 (Addr.mk w48.heap.size 2 none)/\
 (let w80 := w78.setCell (Addr.mk w48.heap.size 2 none) (Value.int .i64 x79)
 ∃ x81:Sl, w80.cell? (Addr.mk w48.heap.size 0 none)=some (Value.slice x81.p x81.l x81.c)/\z25_sh x81 best_9 (fun r83 w82=>cnd head_5
 (∃ x84:Sl, w82.cell? p_6=some (Value.slice x84.p x84.l x84.c)/\∃ x85:Sl, w82.cell? (p_6.add 1)=some (Value.slice x85.p x85.l x85.c)/\∃ x86:Sl, w82.cell? (p_6.add 2)=some (Value.slice x86.p x86.l x86.c)/\∃ x87:Int, w82.cell? (p_6.add 3)=some (Value.int .i64 x87)/\∃ x88:Int, w82.cell? (p_6.add 4)=some (Value.int .i64 x88)/\∃ x89:Sl, w82.cell? r_10=some (Value.slice x89.p x89.l x89.c)/\∃ x90:Int, w82.cell? (r_10.add 1)=some (Value.int .i64 x90)/\∃ x91:Int, w82.cell? (r_10.add 2)=some (Value.int .i64 x91)/\∃ x92:Sl, w82.cell? (r_10.add 3)=some (Value.slice x92.p x92.l x92.c)/\z3w_sh x84 x85 x86 x87 x88 x89 x90 x91 x92 (fun r94 w93=>cnd (r94 == (0:Int))
 (∃ x95:Sl, w93.cell? p_6=some (Value.slice x95.p x95.l x95.c)/\∃ x96:Sl, w93.cell? (p_6.add 1)=some (Value.slice x96.p x96.l x96.c)/\∃ x97:Sl, w93.cell? (p_6.add 2)=some (Value.slice x97.p x97.l x97.c)/\∃ x98:Int, w93.cell? (p_6.add 3)=some (Value.int .i64 x98)/\∃ x99:Int, w93.cell? (p_6.add 4)=some (Value.int .i64 x99)/\∃ x100:Sl, w93.cell? (Addr.mk w48.heap.size 0 none)=some (Value.slice x100.p x100.l x100.c)/\∃ x101:Int, w93.cell? (Addr.mk w48.heap.size 1 none)=some (Value.int .i64 x101)/\∃ x102:Int, w93.cell? (Addr.mk w48.heap.size 2 none)=some (Value.int .i64 x102)/\∃ x103:Sl, w93.cell? (Addr.mk w48.heap.size 3 none)=some (Value.slice x103.p x103.l x103.c)/\z3w_sh x95 x96 x97 x98 x99 x100 x101 x102 x103 (fun r105 w104=>K ((r105 == (0:Int)) == r83) w104) w93)
 (K false w93)) w82)
 (K false w82)) w80))) w69)) w66)
structure z0d_k1 (f_1:Sl) (head_5:Bool) (p_6:Addr) (best_9:Sl) (r_10:Addr) (K:Pw.T0) (w:World):Prop where
 out:z0d_k1d f_1 head_5 p_6 best_9 r_10 K w
def z0d_k0d (f_1:Sl) (head_5:Bool) (p_6:Addr) (K:Pw.T0) (w:World):Prop :=
 let w17 := w.alloc (Obj.cells #[(Value.slice none 0 0)] 43)
 let w18 := w17.alloc (Obj.cells #[Value.nilFunc] 53)
 wrOk w18 (Addr.mk w17.heap.size 0 none)/\
 (let w19 := w18.setCell (Addr.mk w17.heap.size 0 none) (Value.func (.func 22) #[] #[(Value.pointer (some (Addr.mk w.heap.size 0 none))), (Value.pointer (some p_6)), (Value.pointer (some (Addr.mk w17.heap.size 0 none)))])
 ∃ x20:Value, w19.cell? (Addr.mk w17.heap.size 0 none)=some x20/\CallV Tryz.prog x20 [(Value.slice none 0 0)] w19 fun u21 w22=>∃ x23:Int, u21=(Value.int .i64 x23)/\∃ x24:Sl, w22.cell? p_6=some (Value.slice x24.p x24.l x24.c)/\∃ x25:Sl, w22.cell? (p_6.add 1)=some (Value.slice x25.p x25.l x25.c)/\∃ x26:Sl, w22.cell? (p_6.add 2)=some (Value.slice x26.p x26.l x26.c)/\∃ x27:Int, w22.cell? (p_6.add 3)=some (Value.int .i64 x27)/\∃ x28:Int, w22.cell? (p_6.add 4)=some (Value.int .i64 x28)/\z24_sh x24 x25 x26 x27 x28 (fun r30 w29=>let w31 := w29.drew
 ∃ S32:World->Prop, S32 w31/\∃ x33:Sl, (∀ w':World, S32 w'->w'.cell? p_6=some (Value.slice x33.p x33.l x33.c))/\∃ x34:Sl, (∀ w':World, S32 w'->w'.cell? (p_6.add 1)=some (Value.slice x34.p x34.l x34.c))/\∃ x35:Sl, (∀ w':World, S32 w'->w'.cell? (p_6.add 2)=some (Value.slice x35.p x35.l x35.c))/\∃ x36:Int, (∀ w':World, S32 w'->w'.cell? (p_6.add 3)=some (Value.int .i64 x36))/\∃ x37:Int, (∀ w':World, S32 w'->w'.cell? (p_6.add 4)=some (Value.int .i64 x37))/\∃ x38:Sl, (∀ w':World, S32 w'->w'.cell? (Addr.mk w.heap.size 0 none)=some (Value.slice x38.p x38.l x38.c))/\(z1d_sh x33 x34 x35 x36 x37 r30 (fun r40 w39=>S32 w39/\let w41 := w39.alloc (Obj.cells #[(Value.slice none 0 0), (Value.int .i64 0), (Value.int .i64 0), (Value.slice none 0 0)] 45)
 S32 w41/\stN w41 (Addr.mk w39.heap.size 0 none) [(Value.slice r30.p r30.l r30.c), (Value.int .i64 r40), (Value.int .i64 0), (Value.slice x38.p x38.l x38.c)] fun w42=>z0d_k1 f_1 head_5 p_6 r30 (Addr.mk w39.heap.size 0 none) K w42) w31)
/\(let w43 := w31.alloc (Obj.cells #[(Value.slice none 0 0), (Value.int .i64 0), (Value.int .i64 0), (Value.slice none 0 0)] 45)
 S32 w43/\z1d_sh x33 x34 x35 x36 x37 r30 (fun r45 w44=>S32 w44/\stN w44 (Addr.mk w31.heap.size 0 none) [(Value.slice r30.p r30.l r30.c), (Value.int .i64 r45), (Value.int .i64 0), (Value.slice x38.p x38.l x38.c)] fun w46=>z0d_k1 f_1 head_5 p_6 r30 (Addr.mk w31.heap.size 0 none) K w46) w43)) w22)
structure z0d_k0 (f_1:Sl) (head_5:Bool) (p_6:Addr) (K:Pw.T0) (w:World):Prop where
 out:z0d_k0d f_1 head_5 p_6 K w
def z0d_sd (l_0 f_1:Sl) (K:Pw.T0) (w:World):Prop :=
 z19_sh (fun r2 w1=>z26_sh l_0 (fun r4_0 r4_1 r4_2 r4_3 r4_4 w3=>let w5 := w3.alloc (Obj.cells #[(Value.slice none 0 0), (Value.slice none 0 0), (Value.slice none 0 0), (Value.int .i64 0), (Value.int .i64 0)] 28)
 stN w5 (Addr.mk w3.heap.size 0 none) [(Value.slice r4_0.p r4_0.l r4_0.c), (Value.slice r4_1.p r4_1.l r4_1.c), (Value.slice r4_2.p r4_2.l r4_2.c), (Value.int .i64 r4_3), (Value.int .i64 r4_4)] fun w6=>∃ x7:Sl, w6.cell? (Addr.mk w3.heap.size 0 none)=some (Value.slice x7.p x7.l x7.c)/\∃ x8:Sl, w6.cell? (Addr.mk w3.heap.size 1 none)=some (Value.slice x8.p x8.l x8.c)/\∃ x9:Sl, w6.cell? (Addr.mk w3.heap.size 2 none)=some (Value.slice x9.p x9.l x9.c)/\∃ x10:Int, w6.cell? (Addr.mk w3.heap.size 3 none)=some (Value.int .i64 x10)/\∃ x11:Int, w6.cell? (Addr.mk w3.heap.size 4 none)=some (Value.int .i64 x11)/\z0p_sh x7 x8 x9 x10 x11 (fun r13 w12=>cnd (decide (r13 > (400:Int)))
 (z0z_sh (fun r15_0 r15_1 r15_2 r15_3 r15_4 w14=>stN w14 (Addr.mk w3.heap.size 0 none) [(Value.slice r15_0.p r15_0.l r15_0.c), (Value.slice r15_1.p r15_1.l r15_1.c), (Value.slice r15_2.p r15_2.l r15_2.c), (Value.int .i64 r15_3), (Value.int .i64 r15_4)] fun w16=>z0d_k0 f_1 r2 (Addr.mk w3.heap.size 0 none) K w16) w12)
 (z0d_k0 f_1 r2 (Addr.mk w3.heap.size 0 none) K w12)) w6) w1) w
structure z0d_sh (l_0 f_1:Sl) (K:Pw.T0) (w:World):Prop where
 out:z0d_sd l_0 f_1 K w
def z0d_L0 (Kv:VW):Cur [tL, tB, tQ] WP := fun f_1 head_5 p_6=>z0d_k0 f_1 head_5 p_6 (kk [tB] Kv)
def z0d_L1 (Kv:VW):Cur [tL, tB, tQ, tL, tQ] WP := fun f_1 head_5 p_6 best_9 r_10=>z0d_k1 f_1 head_5 p_6 best_9 r_10 (kk [tB] Kv)
noncomputable def z0d_S:Pw.Spec := fun vs w Kv=>un [tL, tL] (fun l_0 f_1=>z0d_sh l_0 f_1 (kk [tB] Kv)) nF vs w
def z0d_A (Kv:VW):A := (qr 1 (qr 2 (qr 4 (qs (qr 3 (qc (qe 2) ql)) (A.cut [1, 5, 6] (uR0 [tL, tB, tQ] (z0d_L0 Kv)) (qr 1 (qr 1 (qr 2 (qs (A.reg (qn 1 (RA.dyn (Value.int .i64 0) RA.done))) (qr 3 (qs (A.drw (dp [0, 1, 2, 4] (DA.two 3 (DA.pur 5 (DA.eff 6 (DA.eff 7 DA.done))) 6 (DA.eff 3 (DA.pur 5 (DA.eff 7 DA.done)))))) (A.cut [1, 5, 6, 9, 10] (uR0 [tL, tB, tQ, tL, tQ] (z0d_L1 Kv)) (qr 4 (qr 3 (qs (A.drw (dp [0, 2] (DA.eff 1 (DA.eff 3 (DA.eff 4 (DA.eff 5 (DA.pur 6 (DA.eff 7 DA.done)))))))) (qr 6 (qr 4 (qr 5 (qs (A.reg (qn 2 (RA.spl 55 (qn 6 (RA.spl 61 (qn 8 RA.done) (qk 6 (qn 2 RA.done)))) (qk 4 (qn 2 (qk 6 (qn 2 RA.done))))))) ql)))))))))))))))))))
theorem z0d_ok:Sound Tryz.prog 5 z0d_S := okS (x := z0d_A) (fun Kv l_0 f_1=>z0d_sd l_0 f_1 (kk [tB] Kv)) progMixed (Γ := [(10, z19_S), (11, z26_S), (12, z18_S), (17, z1d_S), (18, z3w_S), (20, z0p_S), (21, z0z_S), (23, z24_S), (24, z25_S)]) ⟨.inl z19_ok, .inl z26_ok, .inl z18_ok, .inl z1d_ok, .inl z3w_ok, .inl z0p_ok, .inl z0z_ok, .inl z24_ok, .inl z25_ok, trivial⟩ Tryz.call5 Tryz.func5 (fun Kv=>hStep (hCut0 (F := z0d_L0 Kv) (G := fun f_1 head_5 p_6=>z0d_k0d f_1 head_5 p_6 (kk [tB] Kv))) <| hStep (hCut0 (F := z0d_L1 Kv) (G := fun f_1 head_5 p_6 best_9 r_10=>z0d_k1d f_1 head_5 p_6 best_9 r_10 (kk [tB] Kv))) <| hEnd)
end Go.Proofs.YtfpobpjandjhjaaGreatDoor
