/- The bodies' formulas, by program. -/
import Derived.Test.YtfpobpjandjhjaaGreatDoorProg
import Derived.KernelRfl
import Derived.Test.YtfpobpjandjhjaaGreatDoorPwY
import Derived.Test.YtfpobpjandjhjaaGreatDoorCG0
import Derived.Test.YtfpobpjandjhjaaGreatDoorCG1
import Derived.Test.YtfpobpjandjhjaaGreatDoorCG2
import Derived.Test.YtfpobpjandjhjaaGreatDoorCG3
import Derived.Test.YtfpobpjandjhjaaGreatDoorCG4
import Derived.Test.YtfpobpjandjhjaaGreatDoorCG5
import Derived.Test.YtfpobpjandjhjaaGreatDoorPG1
import Derived.Test.YtfpobpjandjhjaaGreatDoorPG2
import Derived.Test.YtfpobpjandjhjaaGreatDoorPG3
import Derived.Test.YtfpobpjandjhjaaGreatDoorPG4
set_option maxRecDepth 20000
namespace Go.Proofs.YtfpobpjandjhjaaGreatDoor
open Go Pw
def z0g_k1d (t_2 r_3:Addr)(K:Pw.T9)(w:World):Prop :=
 ∃ x26:Sl,w.cell? r_3=some (Value.slice x26.p x26.l x26.c)/\∃ x27:Int,w.cell? (r_3.add 1)=some (Value.int .i64 x27)/\∃ x28:Int,w.cell? (r_3.add 2)=some (Value.int .i64 x28)/\∃ x29:Sl,w.cell? (r_3.add 3)=some (Value.slice x29.p x29.l x29.c)/\stN w t_2 [(Value.slice x26.p x26.l x26.c),(Value.int .i64 x27),(Value.int .i64 x28),(Value.slice x29.p x29.l x29.c)] fun w30=>∃ x31:Sl,w30.cell? t_2=some (Value.slice x31.p x31.l x31.c)/\∃ x32:Int,w30.cell? (t_2.add 1)=some (Value.int .i64 x32)/\∃ x33:Int,w30.cell? (t_2.add 2)=some (Value.int .i64 x33)/\∃ x34:Sl,w30.cell? (t_2.add 3)=some (Value.slice x34.p x34.l x34.c)/\K x31 x32 x33 x34 w30
structure z0g_k1 (t_2 r_3:Addr)(K:Pw.T9)(w:World):Prop where
 out:z0g_k1d t_2 r_3 K w
def z0g_b0 (x_1 t_2 r_3:Addr)(k_4:Int)(N0:Addr->Addr->Addr->Int->World->Prop)(K:Pw.T9)(w:World):Prop :=
 ∃ x8:Sl,w.cell? (x_1.add 3)=some (Value.slice x8.p x8.l x8.c)/\cnd (decide (k_4<(x8.l:Int)))
 (cnd (decide (k_4<(20:Int)))
 (∃ x9:Sl,w.cell? (x_1.add 3)=some (Value.slice x9.p x9.l x9.c)/\nz x9.p fun a10=>(0<=k_4/\k_4<(x9.l:Nat))/\∃ x11:Int,w.cell? (a10.add (k_4.toNat*4))=some (Value.int .i64 x11)/\∃ x12:Int,w.cell? ((a10.add (k_4.toNat*4)).add 1)=some (Value.int .i64 x12)/\∃ x13:Int,w.cell? ((a10.add (k_4.toNat*4)).add 2)=some (Value.int .i64 x13)/\∃ x14:Sl,w.cell? ((a10.add (k_4.toNat*4)).add 3)=some (Value.slice x14.p x14.l x14.c)/\let w15:=w.alloc (Obj.cells #[(Value.int .i64 0),(Value.int .i64 0),(Value.int .i64 0),(Value.slice none 0 0)] 87)
 stN w15 (Addr.mk w.heap.size 0 none) [(Value.int .i64 x11),(Value.int .i64 x12),(Value.int .i64 x13),(Value.slice x14.p x14.l x14.c)] fun w16=>∃ x17:Sl,w16.cell? (r_3.add 3)=some (Value.slice x17.p x17.l x17.c)/\∃ x18:Int,w16.cell? (Addr.mk w.heap.size 0 none)=some (Value.int .i64 x18)/\(0<=(0:Int)/\(0:Int)<(2:Nat))/\∃ x19:Int,w16.cell? ((Addr.mk w.heap.size 1 none).add ((0:Int).toNat*1))=some (Value.int .i64 x19)/\(0<=(1:Int)/\(1:Int)<(2:Nat))/\∃ x20:Int,w16.cell? ((Addr.mk w.heap.size 1 none).add ((1:Int).toNat*1))=some (Value.int .i64 x20)/\∃ x21:Sl,w16.cell? (Addr.mk w.heap.size 3 none)=some (Value.slice x21.p x21.l x21.c)/\let w22:=w16.alloc (Obj.cells #[(Value.int .i64 x18),(Value.int .i64 x19),(Value.int .i64 x20),(Value.slice x21.p x21.l x21.c)] 55)
 apS 4 48 [(Value.int .i64 0),(Value.int .i64 0),(Value.int .i64 0),(Value.slice none 0 0)] 55 x17 (Sl.mk (some (Addr.mk w16.heap.size 0 none)) 1 1) w22 fun s23 w24=>wrOk w24 (r_3.add 3)/\
 (let w25:=w24.setCell (r_3.add 3) (Value.slice s23.p s23.l s23.c)
 inR .i64 (k_4+(1:Int))/\N0 x_1 t_2 r_3 (k_4+(1:Int)) w25))
 (z0g_k1 t_2 r_3 K w))
 (z0g_k1 t_2 r_3 K w)
def z0g_l0d (x_1 t_2 r_3:Addr)(k_4:Int)(K:Pw.T9)(w:World):Prop :=
 ∃ (I:Int->World->Prop) (μ:Int->World->Nat),I k_4 w/\∀ (k_41:Int) (w1:World),I k_41 w1 ->
 z0g_b0 x_1 t_2 r_3 k_41 (fun x_1' t_2' r_3' k_4' w'=>((x_1'=x_1/\t_2'=t_2/\r_3'=r_3/\True)/\I k_4' w')/\μ k_4' w'<μ k_41 w1) K w1
structure z0g_l0 (x_1 t_2 r_3:Addr)(k_4:Int)(K:Pw.T9)(w:World):Prop where
 out:z0g_l0d x_1 t_2 r_3 k_4 K w
def z0g_sd (x_0_0:Sl)(x_0_1 x_0_2:Int)(x_0_3:Sl)(K:Pw.T9)(w:World):Prop :=
 let w1:=w.alloc (Obj.cells #[(Value.slice x_0_0.p x_0_0.l x_0_0.c),(Value.int .i64 x_0_1),(Value.int .i64 x_0_2),(Value.slice x_0_3.p x_0_3.l x_0_3.c)] 42)
 let w2:=w1.alloc (Obj.cells #[(Value.slice none 0 0),(Value.int .i64 0),(Value.int .i64 0),(Value.slice none 0 0)] 45)
 ∃ x3:Sl,w2.cell? (Addr.mk w.heap.size 0 none)=some (Value.slice x3.p x3.l x3.c)/\∃ x4:Int,w2.cell? (Addr.mk w.heap.size 1 none)=some (Value.int .i64 x4)/\∃ x5:Int,w2.cell? (Addr.mk w.heap.size 2 none)=some (Value.int .i64 x5)/\let w6:=w2.alloc (Obj.cells #[(Value.slice none 0 0),(Value.int .i64 0),(Value.int .i64 0),(Value.slice none 0 0)] 45)
 stN w6 (Addr.mk w2.heap.size 0 none) [(Value.slice x3.p x3.l x3.c),(Value.int .i64 x4),(Value.int .i64 x5),(Value.slice none 0 0)] fun w7=>z0g_l0 (Addr.mk w.heap.size 0 none) (Addr.mk w1.heap.size 0 none) (Addr.mk w2.heap.size 0 none) (0:Int) K w7
structure z0g_sh (x_0_0:Sl)(x_0_1 x_0_2:Int)(x_0_3:Sl)(K:Pw.T9)(w:World):Prop where
 out:z0g_sd x_0_0 x_0_1 x_0_2 x_0_3 K w
def z0g_L0 (Kv:VW):Cur [tQ,tQ,tQ,tI] WP:=fun x_1 t_2 r_3 k_4=>z0g_l0 x_1 t_2 r_3 k_4 (kk [.g 4,tL,tI,tI,tL] Kv)
def z0g_L1 (Kv:VW):Cur [tQ,tQ] WP:=fun t_2 r_3=>z0g_k1 t_2 r_3 (kk [.g 4,tL,tI,tI,tL] Kv)
noncomputable def z0g_S:Pw.Spec:=fun vs w Kv=>un [.g 4,tL,tI,tI,tL] (fun x_0_0 x_0_1 x_0_2 x_0_3=>z0g_sh x_0_0 x_0_1 x_0_2 x_0_3 (kk [.g 4,tL,tI,tI,tL] Kv)) nF vs w
def z0g_A (Kv:VW):A:=(qr 2 (qr 9 (qs (qr 1 (qb (A.loop [1,2,3,4] (uR0 [tQ,tQ,tQ,tI] (z0g_L0 Kv)) (qs (qs (A.reg (qn 6 (RA.spl 18 (qn 3 RA.done) (qk 2 (qn 1 RA.done))))) (qc ql ql)) (qs (qb (qr 7 (qe 18))) (qe 3)))))) (A.cut [2,3] (uR0 [tQ,tQ] (z0g_L1 Kv)) (qr 2 ql)))))
theorem z0g_ok:Sound Tryz.prog 16 z0g_S:=okS (x:=z0g_A) (fun Kv x_0_0 x_0_1 x_0_2 x_0_3=>z0g_sd x_0_0 x_0_1 x_0_2 x_0_3 (kk [.g 4,tL,tI,tI,tL] Kv)) progMixed (Γ:=[]) trivial Tryz.call16 Tryz.func16 (fun Kv=>hStep (hLoop0 (L:=z0g_L0 Kv) (fun N0 x_1 t_2 r_3 k_4=>z0g_b0 x_1 t_2 r_3 k_4 N0 (kk [.g 4,tL,tI,tI,tL] Kv)) (fun⟨a0,a1,a2,_,_⟩ _ h=>let ⟨I,μ,h0,hr⟩:=h.out; ⟨fun b0 b1 b2 b3 w=>(b0=a0/\b1=a1/\b2=a2/\True)/\I b3 w,fun _ _ _ b3 w=>μ b3 w,⟨⟨rfl,rfl,rfl,trivial⟩,h0⟩,fun⟨_,_,_,_,_⟩ _ ⟨⟨e0,e1,e2,_⟩,hI⟩=>by cases e0; cases e1; cases e2; exact hr _ _ hI⟩)) <| hStep (hCut0 (F:=z0g_L1 Kv) (G:=fun t_2 r_3=>z0g_k1d t_2 r_3 (kk [.g 4,tL,tI,tI,tL] Kv))) <| hEnd)
end Go.Proofs.YtfpobpjandjhjaaGreatDoor
set_option maxRecDepth 20000
