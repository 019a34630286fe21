/- The bodies' formulas, by program. -/
import Derived.Test.YtfpobpjandjhjaaGreatDoorProg
import Derived.KernelRfl
import Derived.Test.YtfpobpjandjhjaaGreatDoorPwY
import Derived.Test.YtfpobpjandjhjaaGreatDoorCG0
import Derived.Test.YtfpobpjandjhjaaGreatDoorCG2
import Derived.Test.YtfpobpjandjhjaaGreatDoorCG5
import Derived.Test.YtfpobpjandjhjaaGreatDoorPG1
import Derived.Test.YtfpobpjandjhjaaGreatDoorPG2
import Derived.Test.YtfpobpjandjhjaaGreatDoorPG3
import Derived.Test.YtfpobpjandjhjaaGreatDoorPG4
import Derived.Test.YtfpobpjandjhjaaGreatDoorPG5
import Derived.Test.YtfpobpjandjhjaaGreatDoorPG7
import Derived.Test.YtfpobpjandjhjaaGreatDoorPG8
set_option maxRecDepth 20000
namespace Go.Proofs.YtfpobpjandjhjaaGreatDoor
open Go Pw
def z0h_b1 (head_7:Bool) (t_86:Sl) (t_87 t_88:Int) (N1:Bool->Sl->Int->Int->World->Prop) (K:Pw.T0) (w:World):Prop :=
 cnd (decide (t_88 < t_87))
 (nz t_86.p fun a59=>(0 <= t_88/\t_88 < (t_86.l:Nat))/\∃ x60:ByteArray, w.cell? (a59.add (t_88.toNat * 1))=some (Value.string x60)/\z3x_sh x60 (fun r62_0 r62_1 r62_2 r62_3 r63 w61=>let w64 := w61.alloc (Obj.cells #[(Value.slice none 0 0), (Value.int .i64 0), (Value.int .i64 0), (Value.slice none 0 0)] 45)
 stN w64 (Addr.mk w61.heap.size 0 none) [(Value.slice r62_0.p r62_0.l r62_0.c), (Value.int .i64 r62_1), (Value.int .i64 r62_2), (Value.slice r62_3.p r62_3.l r62_3.c)] fun w65=>z1p_sh x60 (fun r67_0 r67_1 r67_2 r67_3 r68 w66=>let w69 := w66.alloc (Obj.cells #[(Value.slice none 0 0), (Value.int .i64 0), (Value.int .i64 0), (Value.slice none 0 0)] 45)
 stN w69 (Addr.mk w66.heap.size 0 none) [(Value.slice r67_0.p r67_0.l r67_0.c), (Value.int .i64 r67_1), (Value.int .i64 r67_2), (Value.slice r67_3.p r67_3.l r67_3.c)] fun w70=>cnd (r63 != r68)
 (K false w70)
 (∃ x71:Sl, w70.cell? (Addr.mk w61.heap.size 0 none)=some (Value.slice x71.p x71.l x71.c)/\∃ x72:Int, w70.cell? (Addr.mk w61.heap.size 1 none)=some (Value.int .i64 x72)/\∃ x73:Int, w70.cell? (Addr.mk w61.heap.size 2 none)=some (Value.int .i64 x73)/\∃ x74:Sl, w70.cell? (Addr.mk w61.heap.size 3 none)=some (Value.slice x74.p x74.l x74.c)/\∃ x75:Sl, w70.cell? (Addr.mk w66.heap.size 0 none)=some (Value.slice x75.p x75.l x75.c)/\∃ x76:Int, w70.cell? (Addr.mk w66.heap.size 1 none)=some (Value.int .i64 x76)/\∃ x77:Int, w70.cell? (Addr.mk w66.heap.size 2 none)=some (Value.int .i64 x77)/\∃ x78:Sl, w70.cell? (Addr.mk w66.heap.size 3 none)=some (Value.slice x78.p x78.l x78.c)/\z2o_sh x71 x72 x73 x74 x75 x76 x77 x78 (fun r80 w79=>cnd (!r80)
 (K false w79)
 (inR .i64 (t_88 + (1:Int))/\N1 head_7 t_86 t_87 (t_88 + (1:Int)) w79)) w70)) w65) w)
 (K head_7 w)
def z0h_l1d (head_7:Bool) (t_86:Sl) (t_87 t_88:Int) (K:Pw.T0) (w:World):Prop :=
 ∃ (I:Int->World->Prop) (μ:Int->World->Nat), I t_88 w/\∀ (t_881:Int) (w1:World), I t_881 w1 ->
 z0h_b1 head_7 t_86 t_87 t_881 (fun head_7' t_86' t_87' t_88' w'=>((head_7'=head_7/\t_86'=t_86/\t_87'=t_87/\True)/\I t_88' w')/\μ t_88' w' < μ t_881 w1) K w1
structure z0h_l1 (head_7:Bool) (t_86:Sl) (t_87 t_88:Int) (K:Pw.T0) (w:World):Prop where
 out:z0h_l1d head_7 t_86 t_87 t_88 K w
def z0h_k0d (raw_1:ByteArray) (head_7:Bool) (s_9:ByteArray) (at_12:Int) (bent_13:ByteArray) (K:Pw.T0) (w:World):Prop :=
 (((s_9.size + raw_1.size:Nat):Int) <= maxI)/\(((raw_1.size + s_9.size:Nat):Int) <= maxI)/\(0 <= (0:Int)/\(0:Int) <= at_12/\at_12 <= (s_9.size:Nat))/\(((s_9.size + (str [110, 111, 100, 101, 32, 48, 32, 49, 47, 49, 10]).size:Nat):Int) <= maxI)/\(((s_9.size + (str [10]).size:Nat):Int) <= maxI)/\let w58 := w.alloc (Obj.cells #[(Value.string bent_13), (Value.string raw_1), (Value.string (s_9 ++ raw_1)), (Value.string (raw_1 ++ s_9)), (Value.string (s_9.extract 0 at_12.toNat)), (Value.string (s_9 ++ (str [110, 111, 100, 101, 32, 48, 32, 49, 47, 49, 10]))), (Value.string (s_9 ++ (str [10])))] 9)
 z0h_l1 head_7 (Sl.mk (some (Addr.mk w.heap.size 0 none)) 7 7) (7:Int) (0:Int) K w58
structure z0h_k0 (raw_1:ByteArray) (head_7:Bool) (s_9:ByteArray) (at_12:Int) (bent_13:ByteArray) (K:Pw.T0) (w:World):Prop where
 out:z0h_k0d raw_1 head_7 s_9 at_12 bent_13 K w
def z0h_sd (x_0_0:Sl) (x_0_1 x_0_2:Int) (x_0_3:Sl) (raw_1:ByteArray) (q_2_0 q_2_1 q_2_2:Int) (K:Pw.T0) (w:World):Prop :=
 let w1 := w.alloc (Obj.cells #[(Value.slice x_0_0.p x_0_0.l x_0_0.c), (Value.int .i64 x_0_1), (Value.int .i64 x_0_2), (Value.slice x_0_3.p x_0_3.l x_0_3.c)] 42)
 let w2 := w1.alloc (Obj.cells #[(Value.int .i64 q_2_0), (Value.int .i64 q_2_1), (Value.int .i64 q_2_2)] 34)
 z1h_sh (fun r4 w3=>∃ x5:Sl, w3.cell? (Addr.mk w.heap.size 0 none)=some (Value.slice x5.p x5.l x5.c)/\∃ x6:Int, w3.cell? (Addr.mk w.heap.size 1 none)=some (Value.int .i64 x6)/\∃ x7:Int, w3.cell? (Addr.mk w.heap.size 2 none)=some (Value.int .i64 x7)/\∃ x8:Sl, w3.cell? (Addr.mk w.heap.size 3 none)=some (Value.slice x8.p x8.l x8.c)/\z0g_sh x5 x6 x7 x8 (fun r10_0 r10_1 r10_2 r10_3 w9=>let w11 := w9.alloc (Obj.cells #[(Value.slice none 0 0), (Value.int .i64 0), (Value.int .i64 0), (Value.slice none 0 0)] 45)
 stN w11 (Addr.mk w9.heap.size 0 none) [(Value.slice r10_0.p r10_0.l r10_0.c), (Value.int .i64 r10_1), (Value.int .i64 r10_2), (Value.slice r10_3.p r10_3.l r10_3.c)] fun w12=>∃ x13:Sl, w12.cell? (Addr.mk w9.heap.size 0 none)=some (Value.slice x13.p x13.l x13.c)/\∃ x14:Int, w12.cell? (Addr.mk w9.heap.size 1 none)=some (Value.int .i64 x14)/\∃ x15:Int, w12.cell? (Addr.mk w9.heap.size 2 none)=some (Value.int .i64 x15)/\∃ x16:Sl, w12.cell? (Addr.mk w9.heap.size 3 none)=some (Value.slice x16.p x16.l x16.c)/\z3y_sh x13 x14 x15 x16 (fun r18 w17=>z3x_sh r18 (fun r20_0 r20_1 r20_2 r20_3 r21 w19=>let w22 := w19.alloc (Obj.cells #[(Value.slice none 0 0), (Value.int .i64 0), (Value.int .i64 0), (Value.slice none 0 0)] 45)
 stN w22 (Addr.mk w19.heap.size 0 none) [(Value.slice r20_0.p r20_0.l r20_0.c), (Value.int .i64 r20_1), (Value.int .i64 r20_2), (Value.slice r20_3.p r20_3.l r20_3.c)] fun w23=>∃ x24:Sl, w23.cell? (Addr.mk w9.heap.size 0 none)=some (Value.slice x24.p x24.l x24.c)/\∃ x25:Int, w23.cell? (Addr.mk w9.heap.size 1 none)=some (Value.int .i64 x25)/\∃ x26:Int, w23.cell? (Addr.mk w9.heap.size 2 none)=some (Value.int .i64 x26)/\∃ x27:Sl, w23.cell? (Addr.mk w9.heap.size 3 none)=some (Value.slice x27.p x27.l x27.c)/\z1q_sh x24 x25 x26 x27 (fun r29 w28=>cnd (!decide (r18=r29))
 (K false w28)
 (cnd (r21 != (0:Int))
 (K false w28)
 (∃ x30:Sl, w28.cell? (Addr.mk w19.heap.size 0 none)=some (Value.slice x30.p x30.l x30.c)/\∃ x31:Int, w28.cell? (Addr.mk w19.heap.size 1 none)=some (Value.int .i64 x31)/\∃ x32:Int, w28.cell? (Addr.mk w19.heap.size 2 none)=some (Value.int .i64 x32)/\∃ x33:Sl, w28.cell? (Addr.mk w19.heap.size 3 none)=some (Value.slice x33.p x33.l x33.c)/\∃ x34:Sl, w28.cell? (Addr.mk w9.heap.size 0 none)=some (Value.slice x34.p x34.l x34.c)/\∃ x35:Int, w28.cell? (Addr.mk w9.heap.size 1 none)=some (Value.int .i64 x35)/\∃ x36:Int, w28.cell? (Addr.mk w9.heap.size 2 none)=some (Value.int .i64 x36)/\∃ x37:Sl, w28.cell? (Addr.mk w9.heap.size 3 none)=some (Value.slice x37.p x37.l x37.c)/\z2o_sh x30 x31 x32 x33 x34 x35 x36 x37 (fun r39 w38=>cnd (!r39)
 (K false w38)
 (cnd ((r18.size:Int) == (0:Int))
 (K false w38)
 ((0 <= (0:Int)/\(0:Int) < (3:Nat))/\∃ x40:Int, w38.cell? ((Addr.mk w1.heap.size 0 none).add ((0:Int).toNat * 1))=some (Value.int .i64 x40)/\z30_sh x40 (r18.size:Int) (fun r42 w41=>let w43 := w41.drew
 ∃ S44:World->Prop, S44 w43/\(0 <= (0:Int)/\(0:Int) <= r42/\r42 <= (r18.size:Nat))/\(0 <= (2:Int)/\(2:Int) < (3:Nat))/\∃ x45:Int, (∀ w':World, S44 w'->w'.cell? ((Addr.mk w1.heap.size 0 none).add ((2:Int).toNat * 1))=some (Value.int .i64 x45))/\(0 <= (1:Int)/\(1:Int) < (3:Nat))/\∃ x46:Int, (∀ w':World, S44 w'->w'.cell? ((Addr.mk w1.heap.size 0 none).add ((1:Int).toNat * 1))=some (Value.int .i64 x46))/\(let w47 := w43.alloc (Obj.cells #[(Value.int .u8 (IntKind.wrap .u8 x45))] 5)
 S44 w47/\(btsS (Sl.mk (some (Addr.mk w43.heap.size 0 none)) 1 1) w47 fun s48=>S44 w47/\((((r18.extract 0 r42.toNat).size + s48.size:Nat):Int) <= maxI)/\z30_sh x46 (2:Int) (fun r50 w49=>S44 w49/\(0 <= (IntKind.wrap .i64 (r42 + r50))/\(IntKind.wrap .i64 (r42 + r50)) <= (r18.size:Nat))/\(((((r18.extract 0 r42.toNat) ++ s48).size + (r18.extract (IntKind.wrap .i64 (r42 + r50)).toNat r18.size).size:Nat):Int) <= maxI)/\z0h_k0 raw_1 r4 r18 r42 (((r18.extract 0 r42.toNat) ++ s48) ++ (r18.extract (IntKind.wrap .i64 (r42 + r50)).toNat r18.size)) K w49) w47)
/\(z30_sh x46 (2:Int) (fun r52 w51=>S44 w51/\(0 <= (IntKind.wrap .i64 (r42 + r52))/\(IntKind.wrap .i64 (r42 + r52)) <= (r18.size:Nat))/\btsS (Sl.mk (some (Addr.mk w43.heap.size 0 none)) 1 1) w51 fun s53=>S44 w51/\((((r18.extract 0 r42.toNat).size + s53.size:Nat):Int) <= maxI)/\(((((r18.extract 0 r42.toNat) ++ s53).size + (r18.extract (IntKind.wrap .i64 (r42 + r52)).toNat r18.size).size:Nat):Int) <= maxI)/\z0h_k0 raw_1 r4 r18 r42 (((r18.extract 0 r42.toNat) ++ s53) ++ (r18.extract (IntKind.wrap .i64 (r42 + r52)).toNat r18.size)) K w51) w47))
/\(z30_sh x46 (2:Int) (fun r55 w54=>S44 w54/\(0 <= (IntKind.wrap .i64 (r42 + r55))/\(IntKind.wrap .i64 (r42 + r55)) <= (r18.size:Nat))/\let w56 := w54.alloc (Obj.cells #[(Value.int .u8 (IntKind.wrap .u8 x45))] 5)
 S44 w56/\btsS (Sl.mk (some (Addr.mk w54.heap.size 0 none)) 1 1) w56 fun s57=>S44 w56/\((((r18.extract 0 r42.toNat).size + s57.size:Nat):Int) <= maxI)/\(((((r18.extract 0 r42.toNat) ++ s57).size + (r18.extract (IntKind.wrap .i64 (r42 + r55)).toNat r18.size).size:Nat):Int) <= maxI)/\z0h_k0 raw_1 r4 r18 r42 (((r18.extract 0 r42.toNat) ++ s57) ++ (r18.extract (IntKind.wrap .i64 (r42 + r55)).toNat r18.size)) K w56) w43)) w38))) w28))) w23) w17) w12) w3) w2
structure z0h_sh (x_0_0:Sl) (x_0_1 x_0_2:Int) (x_0_3:Sl) (raw_1:ByteArray) (q_2_0 q_2_1 q_2_2:Int) (K:Pw.T0) (w:World):Prop where
 out:z0h_sd x_0_0 x_0_1 x_0_2 x_0_3 raw_1 q_2_0 q_2_1 q_2_2 K w
def z0h_L0 (Kv:VW):Cur [tS, tB, tS, tI, tS] WP := fun raw_1 head_7 s_9 at_12 bent_13=>z0h_k0 raw_1 head_7 s_9 at_12 bent_13 (kk [tB] Kv)
def z0h_L1 (Kv:VW):Cur [tB, tL, tI, tI] WP := fun head_7 t_86 t_87 t_88=>z0h_l1 head_7 t_86 t_87 t_88 (kk [tB] Kv)
noncomputable def z0h_S:Pw.Spec := fun vs w Kv=>un [.g 4, tL, tI, tI, tL, tS, .g 3, tI, tI, tI] (fun x_0_0 x_0_1 x_0_2 x_0_3 raw_1 q_2_0 q_2_1 q_2_2=>z0h_sh x_0_0 x_0_1 x_0_2 x_0_3 raw_1 q_2_0 q_2_1 q_2_2 (kk [tB] Kv)) nF vs w
def z0h_A (Kv:VW):A := (qr 3 (qr 2 (qr 4 (qr 3 (qr 8 (qs (qs (A.reg (qn 5 (RA.spl 34 (qk 2 (qn 2 (qk 4 (qn 2 (qk 3 (qn 1 RA.done)))))) (qn 4 (RA.spl 38 (qk 4 (qn 2 (qk 3 (qn 1 RA.done)))) (qn 6 (RA.spl 44 (qk 3 (qn 1 RA.done)) (qn 4 RA.done)))))))) (qc (qr 1 ql) ql)) (qr 6 (qs (A.drw (dp [0, 1, 2, 3, 4] (DA.prw 5 (dp [9, 10, 11, 12] (DA.two 6 (DA.two 7 (DA.pur 8 (DA.eff 13 (DA.prw 14 (dp [15, 16, 17] DA.done)))) 13 (DA.prw 14 (DA.pur 15 (DA.eff 7 (dp [8, 16, 17] DA.done))))) 13 (DA.prw 14 (DA.pur 15 (DA.eff 6 (DA.eff 7 (dp [8, 16, 17] DA.done)))))))))) (A.cut [1, 7, 9, 12, 13] (uR0 [tS, tB, tS, tI, tS] (z0h_L0 Kv)) (qs (qr 18 (qb (A.loop [7, 86, 87, 88] (uR0 [tB, tL, tI, tI] (z0h_L1 Kv)) (qr 1 (qs (qc ql ql) (qs (qb (qr 3 (qr 8 (qr 8 (qs (A.reg (qn 4 (RA.spl 105 (qk 4 (qn 1 RA.done)) (qn 5 RA.done)))) (qc (qr 1 ql) ql)))))) (qe 2))))))) (qr 2 ql)))))))))))
theorem z0h_ok:Sound Tryz.prog 8 z0h_S := okS (x := z0h_A) (fun Kv x_0_0 x_0_1 x_0_2 x_0_3 raw_1 q_2_0 q_2_1 q_2_2=>z0h_sd x_0_0 x_0_1 x_0_2 x_0_3 raw_1 q_2_0 q_2_1 q_2_2 (kk [tB] Kv)) progMixed (Γ := [(10, z1h_S), (16, z0g_S), (27, z3y_S), (28, z3x_S), (29, z1q_S), (30, z2o_S), (31, z30_S), (32, z1p_S)]) ⟨.inl z1h_ok, .inl z0g_ok, .inl z3y_ok, .inl z3x_ok, .inl z1q_ok, .inl z2o_ok, .inl z30_ok, .inl z1p_ok, trivial⟩ Tryz.call8 Tryz.func8 (fun Kv=>hStep (hCut0 (F := z0h_L0 Kv) (G := fun raw_1 head_7 s_9 at_12 bent_13=>z0h_k0d raw_1 head_7 s_9 at_12 bent_13 (kk [tB] Kv))) <| hStep (hLoop0 (L := z0h_L1 Kv) (fun N1 head_7 t_86 t_87 t_88=>z0h_b1 head_7 t_86 t_87 t_88 N1 (kk [tB] Kv)) (fun ⟨a0, a1, a2, _, _⟩ _ h=>let ⟨I, μ, h0, hr⟩ := h.out; ⟨fun b0 b1 b2 b3 w=>(b0=a0/\b1=a1/\b2=a2/\True)/\I b3 w, fun _ _ _ b3 w=>μ b3 w, ⟨⟨rfl, rfl, rfl, trivial⟩, h0⟩, fun ⟨_, _, _, _, _⟩ _ ⟨⟨e0, e1, e2, _⟩, hI⟩=>by cases e0; cases e1; cases e2; exact hr _ _ hI⟩)) <| hEnd)
end Go.Proofs.YtfpobpjandjhjaaGreatDoor
