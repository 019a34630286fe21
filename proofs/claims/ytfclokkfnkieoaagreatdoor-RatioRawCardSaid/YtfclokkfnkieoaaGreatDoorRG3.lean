/- The bodies' formulas, by program. -/
import Derived.Test.YtfclokkfnkieoaaGreatDoorProg
import Derived.KernelRfl
import Derived.Test.YtfclokkfnkieoaaGreatDoorPwX
import Derived.Test.YtfclokkfnkieoaaGreatDoorRG0
import Derived.Test.YtfclokkfnkieoaaGreatDoorRG1
import Derived.Test.YtfclokkfnkieoaaGreatDoorRG2
import Derived.Test.YtfclokkfnkieoaaGreatDoorRZG
set_option maxRecDepth 20000
namespace Go.Proofs.YtfclokkfnkieoaaGreatDoor
open Go Pw
/-! probitylaw01_agrees -/
def probitylaw01_agrees_k0d (a_2 : Addr) (b_3 : Addr) (fine_21 : Bool)  (K : Bool → World → Prop) (w : World) : Prop :=
  let w107 : World := w.drew
  ∃ S108 : World → Prop, S108 w107 ∧ cnd fine_21
    (∃ x109 : Int, (∀ w' : World, S108 w' → w'.cell? a_2 = some (Value.int .i64 x109)) ∧ ∃ x110 : Int, (∀ w' : World, S108 w' → w'.cell? (a_2.add 1) = some (Value.int .i64 x110)) ∧ ∃ x111 : Int, (∀ w' : World, S108 w' → w'.cell? b_3 = some (Value.int .i64 x111)) ∧ ∃ x112 : Int, (∀ w' : World, S108 w' → w'.cell? (b_3.add 1) = some (Value.int .i64 x112)) ∧ ∃ x113 : Int, (∀ w' : World, S108 w' → w'.cell? a_2 = some (Value.int .i64 x113)) ∧ ∃ x114 : Int, (∀ w' : World, S108 w' → w'.cell? (a_2.add 1) = some (Value.int .i64 x114)) ∧ ∃ x115 : Int, (∀ w' : World, S108 w' → w'.cell? b_3 = some (Value.int .i64 x115)) ∧ ∃ x116 : Int, (∀ w' : World, S108 w' → w'.cell? (b_3.add 1) = some (Value.int .i64 x116)) ∧ ratio_Cmp_sh x109 x110 x111 x112 (fun (r118 : Int) (w117 : World) => S108 w117 ∧ probityref01_Cmp_sh x113 x114 x115 x116 (fun (r120 : Int) (w119 : World) => S108 w119 ∧ cnd (r118 == r120)
    (∃ x121 : Int, (∀ w' : World, S108 w' → w'.cell? a_2 = some (Value.int .i64 x121)) ∧ ∃ x122 : Int, (∀ w' : World, S108 w' → w'.cell? (a_2.add 1) = some (Value.int .i64 x122)) ∧ ∃ x123 : Int, (∀ w' : World, S108 w' → w'.cell? a_2 = some (Value.int .i64 x123)) ∧ ∃ x124 : Int, (∀ w' : World, S108 w' → w'.cell? (a_2.add 1) = some (Value.int .i64 x124)) ∧ ratio_Right_sh x121 x122 (fun (r126 : Bool) (w125 : World) => S108 w125 ∧ probityref01_Right_sh x123 x124 (fun (r128 : Bool) (w127 : World) => S108 w127 ∧ cnd (r126 == r128)
    (∃ x129 : Int, (∀ w' : World, S108 w' → w'.cell? a_2 = some (Value.int .i64 x129)) ∧ ∃ x130 : Int, (∀ w' : World, S108 w' → w'.cell? (a_2.add 1) = some (Value.int .i64 x130)) ∧ ∃ x131 : Int, (∀ w' : World, S108 w' → w'.cell? a_2 = some (Value.int .i64 x131)) ∧ ∃ x132 : Int, (∀ w' : World, S108 w' → w'.cell? (a_2.add 1) = some (Value.int .i64 x132)) ∧ ratio_Floor_sh x129 x130 (fun (r134 : Int) (w133 : World) => S108 w133 ∧ probityref01_Floor_sh x131 x132 (fun (r136 : Int) (w135 : World) => S108 w135 ∧ cnd (r134 == r136)
    (∃ x137 : Int, (∀ w' : World, S108 w' → w'.cell? a_2 = some (Value.int .i64 x137)) ∧ ∃ x138 : Int, (∀ w' : World, S108 w' → w'.cell? (a_2.add 1) = some (Value.int .i64 x138)) ∧ ∃ x139 : Int, (∀ w' : World, S108 w' → w'.cell? a_2 = some (Value.int .i64 x139)) ∧ ∃ x140 : Int, (∀ w' : World, S108 w' → w'.cell? (a_2.add 1) = some (Value.int .i64 x140)) ∧ ratio_Text_sh x137 x138 (fun (r142 : ByteArray) (w141 : World) => S108 w141 ∧ probityref01_Text_sh x139 x140 (fun (r144 : ByteArray) (w143 : World) => S108 w143 ∧ K (decide (r142 = r144)) w143) w141) w135)
    (K false w135)) w133) w127)
    (K false w127)) w125) w119)
    (K false w119)) w117) w107)
    (K false w107)
structure probitylaw01_agrees_k0 (a_2 : Addr) (b_3 : Addr) (fine_21 : Bool)  (K : Bool → World → Prop) (w : World) : Prop where
  out : probitylaw01_agrees_k0d a_2 b_3 fine_21 K w

def probitylaw01_agrees_sd (a_0_0 : Int) (a_0_1 : Int) (b_1_0 : Int) (b_1_1 : Int) (K : Bool → World → Prop) (w : World) : Prop :=
  let w1 : World := w.alloc (Obj.cells #[(Value.int .i64 a_0_0), (Value.int .i64 a_0_1)] 26)
  let w2 : World := w1.alloc (Obj.cells #[(Value.int .i64 b_1_0), (Value.int .i64 b_1_1)] 26)
  ∃ x3 : Int, w2.cell? (Addr.mk w.heap.size 0 none) = some (Value.int .i64 x3) ∧ ∃ x4 : Int, w2.cell? (Addr.mk w.heap.size 1 none) = some (Value.int .i64 x4) ∧ ∃ x5 : Int, w2.cell? (Addr.mk w1.heap.size 0 none) = some (Value.int .i64 x5) ∧ ∃ x6 : Int, w2.cell? (Addr.mk w1.heap.size 1 none) = some (Value.int .i64 x6) ∧ ratio_Add_sh x3 x4 x5 x6 (fun (r8_0 : Int) (r8_1 : Int) (r9 : Bool) (w7 : World) => let w10 : World := w7.alloc (Obj.cells #[(Value.int .i64 (0 : Int)), (Value.int .i64 (0 : Int))] 26)
  wrOk w10 (Addr.mk w7.heap.size 0 none) ∧ 
  (let w11 : World := w10.setCell (Addr.mk w7.heap.size 0 none) (Value.int .i64 r8_0)
  wrOk w11 (Addr.mk w7.heap.size 1 none) ∧ 
  (let w12 : World := w11.setCell (Addr.mk w7.heap.size 1 none) (Value.int .i64 r8_1)
  ∃ x13 : Int, w12.cell? (Addr.mk w.heap.size 0 none) = some (Value.int .i64 x13) ∧ ∃ x14 : Int, w12.cell? (Addr.mk w.heap.size 1 none) = some (Value.int .i64 x14) ∧ ∃ x15 : Int, w12.cell? (Addr.mk w1.heap.size 0 none) = some (Value.int .i64 x15) ∧ ∃ x16 : Int, w12.cell? (Addr.mk w1.heap.size 1 none) = some (Value.int .i64 x16) ∧ probityref01_Add_sh x13 x14 x15 x16 (fun (r18_0 : Int) (r18_1 : Int) (r19 : Bool) (w17 : World) => let w20 : World := w17.alloc (Obj.cells #[(Value.int .i64 (0 : Int)), (Value.int .i64 (0 : Int))] 26)
  wrOk w20 (Addr.mk w17.heap.size 0 none) ∧ 
  (let w21 : World := w20.setCell (Addr.mk w17.heap.size 0 none) (Value.int .i64 r18_0)
  wrOk w21 (Addr.mk w17.heap.size 1 none) ∧ 
  (let w22 : World := w21.setCell (Addr.mk w17.heap.size 1 none) (Value.int .i64 r18_1)
  ∃ x23 : Int, w22.cell? (Addr.mk w.heap.size 0 none) = some (Value.int .i64 x23) ∧ ∃ x24 : Int, w22.cell? (Addr.mk w.heap.size 1 none) = some (Value.int .i64 x24) ∧ ∃ x25 : Int, w22.cell? (Addr.mk w1.heap.size 0 none) = some (Value.int .i64 x25) ∧ ∃ x26 : Int, w22.cell? (Addr.mk w1.heap.size 1 none) = some (Value.int .i64 x26) ∧ ratio_Sub_sh x23 x24 x25 x26 (fun (r28_0 : Int) (r28_1 : Int) (r29 : Bool) (w27 : World) => let w30 : World := w27.alloc (Obj.cells #[(Value.int .i64 (0 : Int)), (Value.int .i64 (0 : Int))] 26)
  wrOk w30 (Addr.mk w27.heap.size 0 none) ∧ 
  (let w31 : World := w30.setCell (Addr.mk w27.heap.size 0 none) (Value.int .i64 r28_0)
  wrOk w31 (Addr.mk w27.heap.size 1 none) ∧ 
  (let w32 : World := w31.setCell (Addr.mk w27.heap.size 1 none) (Value.int .i64 r28_1)
  ∃ x33 : Int, w32.cell? (Addr.mk w.heap.size 0 none) = some (Value.int .i64 x33) ∧ ∃ x34 : Int, w32.cell? (Addr.mk w.heap.size 1 none) = some (Value.int .i64 x34) ∧ ∃ x35 : Int, w32.cell? (Addr.mk w1.heap.size 0 none) = some (Value.int .i64 x35) ∧ ∃ x36 : Int, w32.cell? (Addr.mk w1.heap.size 1 none) = some (Value.int .i64 x36) ∧ probityref01_Sub_sh x33 x34 x35 x36 (fun (r38_0 : Int) (r38_1 : Int) (r39 : Bool) (w37 : World) => let w40 : World := w37.alloc (Obj.cells #[(Value.int .i64 (0 : Int)), (Value.int .i64 (0 : Int))] 26)
  wrOk w40 (Addr.mk w37.heap.size 0 none) ∧ 
  (let w41 : World := w40.setCell (Addr.mk w37.heap.size 0 none) (Value.int .i64 r38_0)
  wrOk w41 (Addr.mk w37.heap.size 1 none) ∧ 
  (let w42 : World := w41.setCell (Addr.mk w37.heap.size 1 none) (Value.int .i64 r38_1)
  ∃ x43 : Int, w42.cell? (Addr.mk w.heap.size 0 none) = some (Value.int .i64 x43) ∧ ∃ x44 : Int, w42.cell? (Addr.mk w.heap.size 1 none) = some (Value.int .i64 x44) ∧ ∃ x45 : Int, w42.cell? (Addr.mk w1.heap.size 0 none) = some (Value.int .i64 x45) ∧ ∃ x46 : Int, w42.cell? (Addr.mk w1.heap.size 1 none) = some (Value.int .i64 x46) ∧ ratio_Mul_sh x43 x44 x45 x46 (fun (r48_0 : Int) (r48_1 : Int) (r49 : Bool) (w47 : World) => let w50 : World := w47.alloc (Obj.cells #[(Value.int .i64 (0 : Int)), (Value.int .i64 (0 : Int))] 26)
  wrOk w50 (Addr.mk w47.heap.size 0 none) ∧ 
  (let w51 : World := w50.setCell (Addr.mk w47.heap.size 0 none) (Value.int .i64 r48_0)
  wrOk w51 (Addr.mk w47.heap.size 1 none) ∧ 
  (let w52 : World := w51.setCell (Addr.mk w47.heap.size 1 none) (Value.int .i64 r48_1)
  ∃ x53 : Int, w52.cell? (Addr.mk w.heap.size 0 none) = some (Value.int .i64 x53) ∧ ∃ x54 : Int, w52.cell? (Addr.mk w.heap.size 1 none) = some (Value.int .i64 x54) ∧ ∃ x55 : Int, w52.cell? (Addr.mk w1.heap.size 0 none) = some (Value.int .i64 x55) ∧ ∃ x56 : Int, w52.cell? (Addr.mk w1.heap.size 1 none) = some (Value.int .i64 x56) ∧ probityref01_Mul_sh x53 x54 x55 x56 (fun (r58_0 : Int) (r58_1 : Int) (r59 : Bool) (w57 : World) => let w60 : World := w57.alloc (Obj.cells #[(Value.int .i64 (0 : Int)), (Value.int .i64 (0 : Int))] 26)
  wrOk w60 (Addr.mk w57.heap.size 0 none) ∧ 
  (let w61 : World := w60.setCell (Addr.mk w57.heap.size 0 none) (Value.int .i64 r58_0)
  wrOk w61 (Addr.mk w57.heap.size 1 none) ∧ 
  (let w62 : World := w61.setCell (Addr.mk w57.heap.size 1 none) (Value.int .i64 r58_1)
  ∃ x63 : Int, w62.cell? (Addr.mk w.heap.size 0 none) = some (Value.int .i64 x63) ∧ ∃ x64 : Int, w62.cell? (Addr.mk w.heap.size 1 none) = some (Value.int .i64 x64) ∧ ∃ x65 : Int, w62.cell? (Addr.mk w1.heap.size 0 none) = some (Value.int .i64 x65) ∧ ∃ x66 : Int, w62.cell? (Addr.mk w1.heap.size 1 none) = some (Value.int .i64 x66) ∧ ratio_Quo_sh x63 x64 x65 x66 (fun (r68_0 : Int) (r68_1 : Int) (r69 : Bool) (w67 : World) => let w70 : World := w67.alloc (Obj.cells #[(Value.int .i64 (0 : Int)), (Value.int .i64 (0 : Int))] 26)
  wrOk w70 (Addr.mk w67.heap.size 0 none) ∧ 
  (let w71 : World := w70.setCell (Addr.mk w67.heap.size 0 none) (Value.int .i64 r68_0)
  wrOk w71 (Addr.mk w67.heap.size 1 none) ∧ 
  (let w72 : World := w71.setCell (Addr.mk w67.heap.size 1 none) (Value.int .i64 r68_1)
  ∃ x73 : Int, w72.cell? (Addr.mk w.heap.size 0 none) = some (Value.int .i64 x73) ∧ ∃ x74 : Int, w72.cell? (Addr.mk w.heap.size 1 none) = some (Value.int .i64 x74) ∧ ∃ x75 : Int, w72.cell? (Addr.mk w1.heap.size 0 none) = some (Value.int .i64 x75) ∧ ∃ x76 : Int, w72.cell? (Addr.mk w1.heap.size 1 none) = some (Value.int .i64 x76) ∧ probityref01_Quo_sh x73 x74 x75 x76 (fun (r78_0 : Int) (r78_1 : Int) (r79 : Bool) (w77 : World) => let w80 : World := w77.alloc (Obj.cells #[(Value.int .i64 (0 : Int)), (Value.int .i64 (0 : Int))] 26)
  wrOk w80 (Addr.mk w77.heap.size 0 none) ∧ 
  (let w81 : World := w80.setCell (Addr.mk w77.heap.size 0 none) (Value.int .i64 r78_0)
  wrOk w81 (Addr.mk w77.heap.size 1 none) ∧ 
  (let w82 : World := w81.setCell (Addr.mk w77.heap.size 1 none) (Value.int .i64 r78_1)
  ∃ x83 : Int, w82.cell? (Addr.mk w7.heap.size 0 none) = some (Value.int .i64 x83) ∧ ∃ x84 : Int, w82.cell? (Addr.mk w7.heap.size 1 none) = some (Value.int .i64 x84) ∧ ∃ x85 : Int, w82.cell? (Addr.mk w17.heap.size 0 none) = some (Value.int .i64 x85) ∧ ∃ x86 : Int, w82.cell? (Addr.mk w17.heap.size 1 none) = some (Value.int .i64 x86) ∧ probitylaw01_same_sh x83 x84 r9 x85 x86 r19 (fun (r88 : Bool) (w87 : World) => cnd r88
    (∃ x89 : Int, w87.cell? (Addr.mk w27.heap.size 0 none) = some (Value.int .i64 x89) ∧ ∃ x90 : Int, w87.cell? (Addr.mk w27.heap.size 1 none) = some (Value.int .i64 x90) ∧ ∃ x91 : Int, w87.cell? (Addr.mk w37.heap.size 0 none) = some (Value.int .i64 x91) ∧ ∃ x92 : Int, w87.cell? (Addr.mk w37.heap.size 1 none) = some (Value.int .i64 x92) ∧ probitylaw01_same_sh x89 x90 r29 x91 x92 r39 (fun (r94 : Bool) (w93 : World) => cnd r94
    (∃ x95 : Int, w93.cell? (Addr.mk w47.heap.size 0 none) = some (Value.int .i64 x95) ∧ ∃ x96 : Int, w93.cell? (Addr.mk w47.heap.size 1 none) = some (Value.int .i64 x96) ∧ ∃ x97 : Int, w93.cell? (Addr.mk w57.heap.size 0 none) = some (Value.int .i64 x97) ∧ ∃ x98 : Int, w93.cell? (Addr.mk w57.heap.size 1 none) = some (Value.int .i64 x98) ∧ probitylaw01_same_sh x95 x96 r49 x97 x98 r59 (fun (r100 : Bool) (w99 : World) => cnd r100
    (∃ x101 : Int, w99.cell? (Addr.mk w67.heap.size 0 none) = some (Value.int .i64 x101) ∧ ∃ x102 : Int, w99.cell? (Addr.mk w67.heap.size 1 none) = some (Value.int .i64 x102) ∧ ∃ x103 : Int, w99.cell? (Addr.mk w77.heap.size 0 none) = some (Value.int .i64 x103) ∧ ∃ x104 : Int, w99.cell? (Addr.mk w77.heap.size 1 none) = some (Value.int .i64 x104) ∧ probitylaw01_same_sh x101 x102 r69 x103 x104 r79 (fun (r106 : Bool) (w105 : World) => probitylaw01_agrees_k0 (Addr.mk w.heap.size 0 none) (Addr.mk w1.heap.size 0 none) r106 K w105) w99)
    (probitylaw01_agrees_k0 (Addr.mk w.heap.size 0 none) (Addr.mk w1.heap.size 0 none) false K w99)) w93)
    (probitylaw01_agrees_k0 (Addr.mk w.heap.size 0 none) (Addr.mk w1.heap.size 0 none) false K w93)) w87)
    (probitylaw01_agrees_k0 (Addr.mk w.heap.size 0 none) (Addr.mk w1.heap.size 0 none) false K w87)) w82))) w72))) w62))) w52))) w42))) w32))) w22))) w12))) w2

structure probitylaw01_agrees_sh (a_0_0 : Int) (a_0_1 : Int) (b_1_0 : Int) (b_1_1 : Int) (K : Bool → World → Prop) (w : World) : Prop where
  out : probitylaw01_agrees_sd a_0_0 a_0_1 b_1_0 b_1_1 K w

def probitylaw01_agrees_P0 (Kv : VW) (ρ : Rho) (vs : List Value) (w : World) : Prop :=
  match ρ, vs with
  | _, [.pointer (some a_2), .pointer (some b_3), .bool fine_21] => probitylaw01_agrees_k0 a_2 b_3 fine_21  (fun (r0 : Bool) (w' : World) => Kv (Value.bool r0) w') w
  | _, _ => False

noncomputable def probitylaw01_agrees_S : Pw.Spec := fun vs w Kv =>
  match vs with
  | [.agg ⟨[.int .i64 a_0_0, .int .i64 a_0_1]⟩, .agg ⟨[.int .i64 b_1_0, .int .i64 b_1_1]⟩] => probitylaw01_agrees_sh a_0_0 a_0_1 b_1_0 b_1_1 (fun (r0 : Bool) (w' : World) => Kv (Value.bool r0) w') w
  | _ => False

noncomputable def probitylaw01_agrees_E : Pw.Env := [(8, ratio_Text_S), (12, probitylaw01_same_S), (15, ratio_Add_S), (17, ratio_Mul_S), (18, ratio_Quo_S), (21, ratio_Floor_S), (22, ratio_Cmp_S), (25, ratio_Right_S), (31, probityref01_Text_S), (32, probityref01_Add_S), (33, ratio_Sub_S), (34, probityref01_Sub_S), (35, probityref01_Mul_S), (36, probityref01_Quo_S), (37, probityref01_Cmp_S), (38, probityref01_Right_S), (39, probityref01_Floor_S)]

noncomputable def probitylaw01_agrees_C : Code := (Tryz.f13.body).getD .skip

noncomputable def probitylaw01_agrees_A (Kv : VW) : Pw.A :=
  (A.seq (A.reg (RA.run (RA.run (RA.run RA.done))))
   (A.seq (A.reg (RA.run (RA.run (RA.run (RA.run (RA.run (RA.run (RA.run (RA.run (RA.run RA.done))))))))))
   (A.seq (A.reg (RA.run (RA.run (RA.run (RA.run (RA.run (RA.run (RA.run (RA.run (RA.run RA.done))))))))))
   (A.seq (A.reg (RA.run (RA.run (RA.run (RA.run (RA.run (RA.run (RA.run (RA.run (RA.run RA.done))))))))))
   (A.seq (A.reg (RA.run (RA.run (RA.run (RA.run (RA.run (RA.run (RA.run (RA.run (RA.run RA.done))))))))))
   (A.seq (A.reg (RA.run (RA.run (RA.run (RA.run (RA.run (RA.run (RA.run (RA.run (RA.run RA.done))))))))))
   (A.seq (A.reg (RA.run (RA.run (RA.run (RA.run (RA.run (RA.run (RA.run (RA.run (RA.run RA.done))))))))))
   (A.seq (A.reg (RA.run (RA.run (RA.run (RA.run (RA.run (RA.run (RA.run (RA.run (RA.run RA.done))))))))))
   (A.seq (A.reg (RA.run (RA.run (RA.run (RA.run (RA.run (RA.run (RA.run (RA.run (RA.run RA.done))))))))))
   (A.seq (A.reg (RA.run (RA.run (RA.run (RA.run (RA.run (RA.run (RA.spl 75 (RA.run (RA.run (RA.run (RA.run (RA.run (RA.run (RA.run (RA.spl 82 (RA.run (RA.run (RA.run (RA.run (RA.run (RA.run (RA.run (RA.spl 89 (RA.run (RA.run (RA.run (RA.run (RA.run (RA.run (RA.run RA.done))))))) (RA.skp (RA.skp (RA.skp (RA.skp (RA.skp (RA.run (RA.run RA.done))))))))))))))) (RA.skp (RA.skp (RA.skp (RA.skp (RA.skp (RA.run (RA.run (RA.skp (RA.skp (RA.skp (RA.skp (RA.skp (RA.run (RA.run RA.done)))))))))))))))))))))) (RA.skp (RA.skp (RA.skp (RA.skp (RA.skp (RA.run (RA.run (RA.skp (RA.skp (RA.skp (RA.skp (RA.skp (RA.run (RA.run (RA.skp (RA.skp (RA.skp (RA.skp (RA.skp (RA.run (RA.run RA.done)))))))))))))))))))))))))))))
   (A.cut [2, 3, 21] (probitylaw01_agrees_P0 Kv) (A.seq (A.drw (DA.pur 0 (DA.pur 1 (DA.spl 97 (DA.pur 2 (DA.pur 3 (DA.pur 5 (DA.pur 6 (DA.eff 4 (DA.eff 7 (DA.pur 8 (DA.pur 9 (DA.pur 10 (DA.spl 106 (DA.pur 11 (DA.pur 13 (DA.eff 12 (DA.eff 14 (DA.pur 15 (DA.pur 16 (DA.pur 17 (DA.spl 113 (DA.pur 18 (DA.pur 20 (DA.eff 19 (DA.eff 21 (DA.pur 22 (DA.pur 23 (DA.pur 24 (DA.spl 120 (DA.pur 25 (DA.pur 27 (DA.eff 26 (DA.eff 28 (DA.pur 29 (DA.pur 30 (DA.pur 31 DA.done))))))) (DA.skp 25 (DA.skp 27 (DA.skp 26 (DA.skp 28 (DA.skp 29 (DA.pur 30 (DA.pur 31 DA.done))))))))))))))) (DA.skp 18 (DA.skp 20 (DA.skp 19 (DA.skp 21 (DA.skp 22 (DA.pur 23 (DA.pur 24 (DA.skp 25 (DA.skp 27 (DA.skp 26 (DA.skp 28 (DA.skp 29 (DA.pur 30 (DA.pur 31 DA.done)))))))))))))))))))))) (DA.skp 11 (DA.skp 13 (DA.skp 12 (DA.skp 14 (DA.skp 15 (DA.pur 16 (DA.pur 17 (DA.skp 18 (DA.skp 20 (DA.skp 19 (DA.skp 21 (DA.skp 22 (DA.pur 23 (DA.pur 24 (DA.skp 25 (DA.skp 27 (DA.skp 26 (DA.skp 28 (DA.skp 29 (DA.pur 30 (DA.pur 31 DA.done))))))))))))))))))))))))))))))) (DA.skp 2 (DA.skp 3 (DA.skp 5 (DA.skp 6 (DA.skp 4 (DA.skp 7 (DA.skp 8 (DA.pur 9 (DA.pur 10 (DA.skp 11 (DA.skp 13 (DA.skp 12 (DA.skp 14 (DA.skp 15 (DA.pur 16 (DA.pur 17 (DA.skp 18 (DA.skp 20 (DA.skp 19 (DA.skp 21 (DA.skp 22 (DA.pur 23 (DA.pur 24 (DA.skp 25 (DA.skp 27 (DA.skp 26 (DA.skp 28 (DA.skp 29 (DA.pur 30 (DA.pur 31 DA.done))))))))))))))))))))))))))))))))))
   A.leaf))))))))))))

noncomputable def probitylaw01_agrees_O (Kv : VW) : List Ob := (obs Tryz.prog probitylaw01_agrees_E 127 (probitylaw01_agrees_A Kv) probitylaw01_agrees_C (fun _ => retQ Tryz.prog Tryz.f13.results Kv))

theorem probitylaw01_agrees_e (Kv : VW) (a_0_0 : Int) (a_0_1 : Int) (b_1_0 : Int) (b_1_1 : Int) (w : World) : probitylaw01_agrees_sd a_0_0 a_0_1 b_1_0 b_1_1 (fun (r0 : Bool) (w' : World) => Kv (Value.bool r0) w') w = W Tryz.prog probitylaw01_agrees_E 127 (probitylaw01_agrees_A Kv) probitylaw01_agrees_C [] (retQ Tryz.prog Tryz.f13.results Kv) [] (startS [(Value.agg #[(Value.int .i64 a_0_0), (Value.int .i64 a_0_1)]), (Value.agg #[(Value.int .i64 b_1_0), (Value.int .i64 b_1_1)])]) w := by kernel_rfl

theorem probitylaw01_agrees_e0 (Kv : VW) (ρ : Rho) (a_2 : Addr) (b_3 : Addr) (fine_21 : Bool) (w : World) : probitylaw01_agrees_k0d a_2 b_3 fine_21  (fun (r0 : Bool) (w' : World) => Kv (Value.bool r0) w') w = goalAt Tryz.prog probitylaw01_agrees_E 127 (probitylaw01_agrees_O Kv) 0 (ρ) [(Value.pointer (some a_2)), (Value.pointer (some b_3)), (Value.bool fine_21)] w := by kernel_rfl

theorem probitylaw01_agrees_q0 (Kv : VW) (ρ : Rho) (vs : List Value) (w : World) : labAt (probitylaw01_agrees_O Kv) 0 ρ vs w = probitylaw01_agrees_P0 Kv ρ vs w := by kernel_rfl

theorem probitylaw01_agrees_h0 (Kv : VW) : holdsAt Tryz.prog probitylaw01_agrees_E 127 (probitylaw01_agrees_O Kv) 0 := holdsAt_cut (.inl (by kernel_rfl)) (fun ρ vs w h => by
  rw [probitylaw01_agrees_q0] at h
  unfold probitylaw01_agrees_P0 at h
  split at h
  · rw [← probitylaw01_agrees_e0]; exact h.out
  · exact h.elim)

theorem probitylaw01_agrees_n (Kv : VW) : obAt (probitylaw01_agrees_O Kv) 1 = none := by kernel_rfl

theorem probitylaw01_agrees_h (Kv : VW) : ∀ k, holdsAt Tryz.prog probitylaw01_agrees_E 127 (probitylaw01_agrees_O Kv) k := fun k => match k with
  | 0 => probitylaw01_agrees_h0 Kv
  | _k + 1 => holdsAt_ge (probitylaw01_agrees_n Kv) (Nat.le_add_left _ _)

theorem probitylaw01_agrees_ok : Sound Tryz.prog 13 probitylaw01_agrees_S := ⟨Tryz.call13, fun vs w Kv h => by
  unfold probitylaw01_agrees_S at h
  split at h
  · have h := h.out
    rw [probitylaw01_agrees_e] at h
    exact calls_sound (Γ := probitylaw01_agrees_E) progMixed ⟨.inl ratio_Text_ok, .inl probitylaw01_same_ok, .inl ratio_Add_ok, .inl ratio_Mul_ok, .inl ratio_Quo_ok, .inl ratio_Floor_ok, .inl ratio_Cmp_ok, .inl ratio_Right_ok, .inl probityref01_Text_ok, .inl probityref01_Add_ok, .inl ratio_Sub_ok, .inl probityref01_Sub_ok, .inl probityref01_Mul_ok, .inl probityref01_Quo_ok, .inl probityref01_Cmp_ok, .inl probityref01_Right_ok, .inl probityref01_Floor_ok, trivial⟩ Tryz.func13 (code := probitylaw01_agrees_C) (by kernel_rfl) (probitylaw01_agrees_A Kv) Kv (holds_all (probitylaw01_agrees_h Kv)) (Nat.le_of_ble_eq_true (by kernel_rfl)) h
  · exact h.elim⟩

/-! probitylaw01_RatioSums -/
def probitylaw01_RatioSums_sd (p_0_0 : Int) (p_0_1 : Int) (p_0_2 : Int) (q_1_0 : Int) (q_1_1 : Int) (q_1_2 : Int) (K : Bool → World → Prop) (w : World) : Prop :=
  let w1 : World := w.alloc (Obj.cells #[(Value.int .i64 p_0_0), (Value.int .i64 p_0_1), (Value.int .i64 p_0_2)] 22)
  let w2 : World := w1.alloc (Obj.cells #[(Value.int .i64 q_1_0), (Value.int .i64 q_1_1), (Value.int .i64 q_1_2)] 22)
  probitylaw01_sanity_sh (fun (r4 : Bool) (w3 : World) => ∃ x5 : Int, w3.cell? (Addr.mk w.heap.size 0 none) = some (Value.int .i64 x5) ∧ ∃ x6 : Int, w3.cell? (Addr.mk w.heap.size 1 none) = some (Value.int .i64 x6) ∧ ∃ x7 : Int, w3.cell? (Addr.mk w.heap.size 2 none) = some (Value.int .i64 x7) ∧ probityref01_Made_sh x5 x6 x7 (fun (r9_0 : Int) (r9_1 : Int) (w8 : World) => let w10 : World := w8.alloc (Obj.cells #[(Value.int .i64 (0 : Int)), (Value.int .i64 (0 : Int))] 26)
  wrOk w10 (Addr.mk w8.heap.size 0 none) ∧ 
  (let w11 : World := w10.setCell (Addr.mk w8.heap.size 0 none) (Value.int .i64 r9_0)
  wrOk w11 (Addr.mk w8.heap.size 1 none) ∧ 
  (let w12 : World := w11.setCell (Addr.mk w8.heap.size 1 none) (Value.int .i64 r9_1)
  ∃ x13 : Int, w12.cell? (Addr.mk w1.heap.size 0 none) = some (Value.int .i64 x13) ∧ ∃ x14 : Int, w12.cell? (Addr.mk w1.heap.size 1 none) = some (Value.int .i64 x14) ∧ ∃ x15 : Int, w12.cell? (Addr.mk w1.heap.size 2 none) = some (Value.int .i64 x15) ∧ probityref01_Made_sh x13 x14 x15 (fun (r17_0 : Int) (r17_1 : Int) (w16 : World) => let w18 : World := w16.alloc (Obj.cells #[(Value.int .i64 (0 : Int)), (Value.int .i64 (0 : Int))] 26)
  wrOk w18 (Addr.mk w16.heap.size 0 none) ∧ 
  (let w19 : World := w18.setCell (Addr.mk w16.heap.size 0 none) (Value.int .i64 r17_0)
  wrOk w19 (Addr.mk w16.heap.size 1 none) ∧ 
  (let w20 : World := w19.setCell (Addr.mk w16.heap.size 1 none) (Value.int .i64 r17_1)
  ∃ x21 : Int, w20.cell? (Addr.mk w8.heap.size 0 none) = some (Value.int .i64 x21) ∧ ∃ x22 : Int, w20.cell? (Addr.mk w8.heap.size 1 none) = some (Value.int .i64 x22) ∧ ∃ x23 : Int, w20.cell? (Addr.mk w16.heap.size 0 none) = some (Value.int .i64 x23) ∧ ∃ x24 : Int, w20.cell? (Addr.mk w16.heap.size 1 none) = some (Value.int .i64 x24) ∧ probitylaw01_agrees_sh x21 x22 x23 x24 (fun (r26 : Bool) (w25 : World) => ∃ x27 : Int, w25.cell? (Addr.mk w16.heap.size 0 none) = some (Value.int .i64 x27) ∧ ∃ x28 : Int, w25.cell? (Addr.mk w16.heap.size 1 none) = some (Value.int .i64 x28) ∧ ∃ x29 : Int, w25.cell? (Addr.mk w8.heap.size 0 none) = some (Value.int .i64 x29) ∧ ∃ x30 : Int, w25.cell? (Addr.mk w8.heap.size 1 none) = some (Value.int .i64 x30) ∧ probitylaw01_agrees_sh x27 x28 x29 x30 (fun (r32 : Bool) (w31 : World) => ∃ x33 : Int, w31.cell? (Addr.mk w8.heap.size 0 none) = some (Value.int .i64 x33) ∧ ∃ x34 : Int, w31.cell? (Addr.mk w8.heap.size 1 none) = some (Value.int .i64 x34) ∧ ∃ x35 : Int, w31.cell? (Addr.mk w8.heap.size 0 none) = some (Value.int .i64 x35) ∧ ∃ x36 : Int, w31.cell? (Addr.mk w8.heap.size 1 none) = some (Value.int .i64 x36) ∧ probitylaw01_agrees_sh x33 x34 x35 x36 (fun (r38 : Bool) (w37 : World) => cnd r4
    (cnd r26
    (cnd r32
    (K r38 w37)
    (K false w37))
    (K false w37))
    (K false w37)) w31) w25) w20))) w12))) w3) w2

structure probitylaw01_RatioSums_sh (p_0_0 : Int) (p_0_1 : Int) (p_0_2 : Int) (q_1_0 : Int) (q_1_1 : Int) (q_1_2 : Int) (K : Bool → World → Prop) (w : World) : Prop where
  out : probitylaw01_RatioSums_sd p_0_0 p_0_1 p_0_2 q_1_0 q_1_1 q_1_2 K w

noncomputable def probitylaw01_RatioSums_S : Pw.Spec := fun vs w Kv =>
  match vs with
  | [.agg ⟨[.int .i64 p_0_0, .int .i64 p_0_1, .int .i64 p_0_2]⟩, .agg ⟨[.int .i64 q_1_0, .int .i64 q_1_1, .int .i64 q_1_2]⟩] => probitylaw01_RatioSums_sh p_0_0 p_0_1 p_0_2 q_1_0 q_1_1 q_1_2 (fun (r0 : Bool) (w' : World) => Kv (Value.bool r0) w') w
  | _ => False

noncomputable def probitylaw01_RatioSums_E : Pw.Env := [(6, probitylaw01_sanity_S), (7, probityref01_Made_S), (13, probitylaw01_agrees_S)]

noncomputable def probitylaw01_RatioSums_C : Code := (Tryz.f4.body).getD .skip

noncomputable def probitylaw01_RatioSums_A (_Kv : VW) : Pw.A :=
  (A.seq (A.reg (RA.run (RA.run (RA.run RA.done))))
   (A.seq (A.reg (RA.run (RA.run RA.done)))
   (A.seq (A.reg (RA.run (RA.run (RA.run (RA.run RA.done)))))
   (A.seq (A.reg (RA.run (RA.run (RA.run (RA.run RA.done)))))
   (A.seq (A.reg (RA.run (RA.run (RA.run (RA.run RA.done)))))
   (A.seq (A.reg (RA.run (RA.run (RA.run (RA.run RA.done)))))
   (A.seq (A.reg (RA.run (RA.run (RA.run (RA.run RA.done)))))
   (A.seq (A.reg (RA.run (RA.run (RA.spl 26 (RA.run (RA.run (RA.run (RA.spl 29 (RA.run (RA.run (RA.run (RA.spl 32 (RA.run (RA.run (RA.run RA.done))) (RA.skp (RA.run (RA.run RA.done))))))) (RA.skp (RA.run (RA.run (RA.skp (RA.run (RA.run RA.done)))))))))) (RA.skp (RA.run (RA.run (RA.skp (RA.run (RA.run (RA.skp (RA.run (RA.run RA.done)))))))))))))
   A.leaf))))))))

noncomputable def probitylaw01_RatioSums_O (Kv : VW) : List Ob := (obs Tryz.prog probitylaw01_RatioSums_E 35 (probitylaw01_RatioSums_A Kv) probitylaw01_RatioSums_C (fun _ => retQ Tryz.prog Tryz.f4.results Kv))

theorem probitylaw01_RatioSums_e (Kv : VW) (p_0_0 : Int) (p_0_1 : Int) (p_0_2 : Int) (q_1_0 : Int) (q_1_1 : Int) (q_1_2 : Int) (w : World) : probitylaw01_RatioSums_sd p_0_0 p_0_1 p_0_2 q_1_0 q_1_1 q_1_2 (fun (r0 : Bool) (w' : World) => Kv (Value.bool r0) w') w = W Tryz.prog probitylaw01_RatioSums_E 35 (probitylaw01_RatioSums_A Kv) probitylaw01_RatioSums_C [] (retQ Tryz.prog Tryz.f4.results Kv) [] (startS [(Value.agg #[(Value.int .i64 p_0_0), (Value.int .i64 p_0_1), (Value.int .i64 p_0_2)]), (Value.agg #[(Value.int .i64 q_1_0), (Value.int .i64 q_1_1), (Value.int .i64 q_1_2)])]) w := by kernel_rfl

theorem probitylaw01_RatioSums_n (Kv : VW) : obAt (probitylaw01_RatioSums_O Kv) 0 = none := by kernel_rfl

theorem probitylaw01_RatioSums_h (Kv : VW) : ∀ k, holdsAt Tryz.prog probitylaw01_RatioSums_E 35 (probitylaw01_RatioSums_O Kv) k := fun _ => holdsAt_ge (probitylaw01_RatioSums_n Kv) (Nat.zero_le _)

theorem probitylaw01_RatioSums_ok : Sound Tryz.prog 4 probitylaw01_RatioSums_S := ⟨Tryz.call4, fun vs w Kv h => by
  unfold probitylaw01_RatioSums_S at h
  split at h
  · have h := h.out
    rw [probitylaw01_RatioSums_e] at h
    exact calls_sound (Γ := probitylaw01_RatioSums_E) progMixed ⟨.inl probitylaw01_sanity_ok, .inl probityref01_Made_ok, .inl probitylaw01_agrees_ok, trivial⟩ Tryz.func4 (code := probitylaw01_RatioSums_C) (by kernel_rfl) (probitylaw01_RatioSums_A Kv) Kv (holds_all (probitylaw01_RatioSums_h Kv)) (Nat.le_of_ble_eq_true (by kernel_rfl)) h
  · exact h.elim⟩

/-! probitylaw01_RatioRaw -/
def probitylaw01_RatioRaw_sd (a_0_0 : Int) (a_0_1 : Int) (b_1_0 : Int) (b_1_1 : Int) (q_2_0 : Int) (q_2_1 : Int) (q_2_2 : Int) (K : Bool → World → Prop) (w : World) : Prop :=
  let w1 : World := w.alloc (Obj.cells #[(Value.int .i64 a_0_0), (Value.int .i64 a_0_1)] 26)
  let w2 : World := w1.alloc (Obj.cells #[(Value.int .i64 b_1_0), (Value.int .i64 b_1_1)] 26)
  let w3 : World := w2.alloc (Obj.cells #[(Value.int .i64 q_2_0), (Value.int .i64 q_2_1), (Value.int .i64 q_2_2)] 22)
  probitylaw01_sanity_sh (fun (r5 : Bool) (w4 : World) => ∃ x6 : Int, w4.cell? (Addr.mk w2.heap.size 0 none) = some (Value.int .i64 x6) ∧ ∃ x7 : Int, w4.cell? (Addr.mk w2.heap.size 1 none) = some (Value.int .i64 x7) ∧ ∃ x8 : Int, w4.cell? (Addr.mk w2.heap.size 2 none) = some (Value.int .i64 x8) ∧ probityref01_Made_sh x6 x7 x8 (fun (r10_0 : Int) (r10_1 : Int) (w9 : World) => let w11 : World := w9.alloc (Obj.cells #[(Value.int .i64 (0 : Int)), (Value.int .i64 (0 : Int))] 26)
  wrOk w11 (Addr.mk w9.heap.size 0 none) ∧ 
  (let w12 : World := w11.setCell (Addr.mk w9.heap.size 0 none) (Value.int .i64 r10_0)
  wrOk w12 (Addr.mk w9.heap.size 1 none) ∧ 
  (let w13 : World := w12.setCell (Addr.mk w9.heap.size 1 none) (Value.int .i64 r10_1)
  ∃ x14 : Int, w13.cell? (Addr.mk w.heap.size 0 none) = some (Value.int .i64 x14) ∧ ∃ x15 : Int, w13.cell? (Addr.mk w.heap.size 1 none) = some (Value.int .i64 x15) ∧ ∃ x16 : Int, w13.cell? (Addr.mk w1.heap.size 0 none) = some (Value.int .i64 x16) ∧ ∃ x17 : Int, w13.cell? (Addr.mk w1.heap.size 1 none) = some (Value.int .i64 x17) ∧ probitylaw01_agrees_sh x14 x15 x16 x17 (fun (r19 : Bool) (w18 : World) => ∃ x20 : Int, w18.cell? (Addr.mk w.heap.size 0 none) = some (Value.int .i64 x20) ∧ ∃ x21 : Int, w18.cell? (Addr.mk w.heap.size 1 none) = some (Value.int .i64 x21) ∧ ∃ x22 : Int, w18.cell? (Addr.mk w9.heap.size 0 none) = some (Value.int .i64 x22) ∧ ∃ x23 : Int, w18.cell? (Addr.mk w9.heap.size 1 none) = some (Value.int .i64 x23) ∧ probitylaw01_agrees_sh x20 x21 x22 x23 (fun (r25 : Bool) (w24 : World) => ∃ x26 : Int, w24.cell? (Addr.mk w9.heap.size 0 none) = some (Value.int .i64 x26) ∧ ∃ x27 : Int, w24.cell? (Addr.mk w9.heap.size 1 none) = some (Value.int .i64 x27) ∧ ∃ x28 : Int, w24.cell? (Addr.mk w1.heap.size 0 none) = some (Value.int .i64 x28) ∧ ∃ x29 : Int, w24.cell? (Addr.mk w1.heap.size 1 none) = some (Value.int .i64 x29) ∧ probitylaw01_agrees_sh x26 x27 x28 x29 (fun (r31 : Bool) (w30 : World) => cnd r5
    (cnd r19
    (cnd r25
    (K r31 w30)
    (K false w30))
    (K false w30))
    (K false w30)) w24) w18) w13))) w4) w3

structure probitylaw01_RatioRaw_sh (a_0_0 : Int) (a_0_1 : Int) (b_1_0 : Int) (b_1_1 : Int) (q_2_0 : Int) (q_2_1 : Int) (q_2_2 : Int) (K : Bool → World → Prop) (w : World) : Prop where
  out : probitylaw01_RatioRaw_sd a_0_0 a_0_1 b_1_0 b_1_1 q_2_0 q_2_1 q_2_2 K w

noncomputable def probitylaw01_RatioRaw_S : Pw.Spec := fun vs w Kv =>
  match vs with
  | [.agg ⟨[.int .i64 a_0_0, .int .i64 a_0_1]⟩, .agg ⟨[.int .i64 b_1_0, .int .i64 b_1_1]⟩, .agg ⟨[.int .i64 q_2_0, .int .i64 q_2_1, .int .i64 q_2_2]⟩] => probitylaw01_RatioRaw_sh a_0_0 a_0_1 b_1_0 b_1_1 q_2_0 q_2_1 q_2_2 (fun (r0 : Bool) (w' : World) => Kv (Value.bool r0) w') w
  | _ => False

noncomputable def probitylaw01_RatioRaw_E : Pw.Env := [(6, probitylaw01_sanity_S), (7, probityref01_Made_S), (13, probitylaw01_agrees_S)]

noncomputable def probitylaw01_RatioRaw_C : Code := (Tryz.f5.body).getD .skip

noncomputable def probitylaw01_RatioRaw_A (_Kv : VW) : Pw.A :=
  (A.seq (A.reg (RA.run (RA.run (RA.run (RA.run RA.done)))))
   (A.seq (A.reg (RA.run (RA.run RA.done)))
   (A.seq (A.reg (RA.run (RA.run (RA.run (RA.run RA.done)))))
   (A.seq (A.reg (RA.run (RA.run (RA.run (RA.run RA.done)))))
   (A.seq (A.reg (RA.run (RA.run (RA.run (RA.run RA.done)))))
   (A.seq (A.reg (RA.run (RA.run (RA.run (RA.run RA.done)))))
   (A.seq (A.reg (RA.run (RA.run (RA.spl 25 (RA.run (RA.run (RA.run (RA.spl 28 (RA.run (RA.run (RA.run (RA.spl 31 (RA.run (RA.run (RA.run RA.done))) (RA.skp (RA.run (RA.run RA.done))))))) (RA.skp (RA.run (RA.run (RA.skp (RA.run (RA.run RA.done)))))))))) (RA.skp (RA.run (RA.run (RA.skp (RA.run (RA.run (RA.skp (RA.run (RA.run RA.done)))))))))))))
   A.leaf)))))))

noncomputable def probitylaw01_RatioRaw_O (Kv : VW) : List Ob := (obs Tryz.prog probitylaw01_RatioRaw_E 34 (probitylaw01_RatioRaw_A Kv) probitylaw01_RatioRaw_C (fun _ => retQ Tryz.prog Tryz.f5.results Kv))

theorem probitylaw01_RatioRaw_e (Kv : VW) (a_0_0 : Int) (a_0_1 : Int) (b_1_0 : Int) (b_1_1 : Int) (q_2_0 : Int) (q_2_1 : Int) (q_2_2 : Int) (w : World) : probitylaw01_RatioRaw_sd a_0_0 a_0_1 b_1_0 b_1_1 q_2_0 q_2_1 q_2_2 (fun (r0 : Bool) (w' : World) => Kv (Value.bool r0) w') w = W Tryz.prog probitylaw01_RatioRaw_E 34 (probitylaw01_RatioRaw_A Kv) probitylaw01_RatioRaw_C [] (retQ Tryz.prog Tryz.f5.results Kv) [] (startS [(Value.agg #[(Value.int .i64 a_0_0), (Value.int .i64 a_0_1)]), (Value.agg #[(Value.int .i64 b_1_0), (Value.int .i64 b_1_1)]), (Value.agg #[(Value.int .i64 q_2_0), (Value.int .i64 q_2_1), (Value.int .i64 q_2_2)])]) w := by kernel_rfl

theorem probitylaw01_RatioRaw_n (Kv : VW) : obAt (probitylaw01_RatioRaw_O Kv) 0 = none := by kernel_rfl

theorem probitylaw01_RatioRaw_h (Kv : VW) : ∀ k, holdsAt Tryz.prog probitylaw01_RatioRaw_E 34 (probitylaw01_RatioRaw_O Kv) k := fun _ => holdsAt_ge (probitylaw01_RatioRaw_n Kv) (Nat.zero_le _)

theorem probitylaw01_RatioRaw_ok : Sound Tryz.prog 5 probitylaw01_RatioRaw_S := ⟨Tryz.call5, fun vs w Kv h => by
  unfold probitylaw01_RatioRaw_S at h
  split at h
  · have h := h.out
    rw [probitylaw01_RatioRaw_e] at h
    exact calls_sound (Γ := probitylaw01_RatioRaw_E) progMixed ⟨.inl probitylaw01_sanity_ok, .inl probityref01_Made_ok, .inl probitylaw01_agrees_ok, trivial⟩ Tryz.func5 (code := probitylaw01_RatioRaw_C) (by kernel_rfl) (probitylaw01_RatioRaw_A Kv) Kv (holds_all (probitylaw01_RatioRaw_h Kv)) (Nat.le_of_ble_eq_true (by kernel_rfl)) h
  · exact h.elim⟩

/-! probitylaw01_RatioTexts -/
def probitylaw01_RatioTexts_b1 (up_7 : Bool) (a_8 : Addr) (b_10 : Addr) (ok_11 : Bool) (texts_13 : Addr) (i_14 : Int) (N1 : Bool → Addr → Addr → Bool → Addr → Int → World → Prop)  (K : Bool → World → Prop) (w : World) : Prop :=
  cnd (decide (i_14 < (6 : Int)))
    ((0 ≤ i_14 ∧ i_14 < (6 : Nat)) ∧ ∃ x55 : ByteArray, w.cell? (texts_13.add (i_14.toNat * 1)) = some (Value.string x55) ∧ ratio_Parse_sh x55 (fun (r57_0 : Int) (r57_1 : Int) (r58 : Bool) (w56 : World) => let w59 : World := w56.alloc (Obj.cells #[(Value.int .i64 (0 : Int)), (Value.int .i64 (0 : Int))] 26)
  wrOk w59 (Addr.mk w56.heap.size 0 none) ∧ 
  (let w60 : World := w59.setCell (Addr.mk w56.heap.size 0 none) (Value.int .i64 r57_0)
  wrOk w60 (Addr.mk w56.heap.size 1 none) ∧ 
  (let w61 : World := w60.setCell (Addr.mk w56.heap.size 1 none) (Value.int .i64 r57_1)
  (0 ≤ i_14 ∧ i_14 < (6 : Nat)) ∧ ∃ x62 : ByteArray, w61.cell? (texts_13.add (i_14.toNat * 1)) = some (Value.string x62) ∧ probityref01_Parse_sh x62 (fun (r64_0 : Int) (r64_1 : Int) (r65 : Bool) (w63 : World) => let w66 : World := w63.alloc (Obj.cells #[(Value.int .i64 (0 : Int)), (Value.int .i64 (0 : Int))] 26)
  wrOk w66 (Addr.mk w63.heap.size 0 none) ∧ 
  (let w67 : World := w66.setCell (Addr.mk w63.heap.size 0 none) (Value.int .i64 r64_0)
  wrOk w67 (Addr.mk w63.heap.size 1 none) ∧ 
  (let w68 : World := w67.setCell (Addr.mk w63.heap.size 1 none) (Value.int .i64 r64_1)
  ∃ x69 : Int, w68.cell? (Addr.mk w56.heap.size 0 none) = some (Value.int .i64 x69) ∧ ∃ x70 : Int, w68.cell? (Addr.mk w56.heap.size 1 none) = some (Value.int .i64 x70) ∧ ∃ x71 : Int, w68.cell? (Addr.mk w63.heap.size 0 none) = some (Value.int .i64 x71) ∧ ∃ x72 : Int, w68.cell? (Addr.mk w63.heap.size 1 none) = some (Value.int .i64 x72) ∧ probitylaw01_same_sh x69 x70 r58 x71 x72 r65 (fun (r74 : Bool) (w73 : World) => cnd (!r74)
    (K false w73)
    (inR .i64 (i_14 + (1 : Int)) ∧ N1 up_7 a_8 b_10 ok_11 texts_13 (i_14 + (1 : Int)) w73)) w68))) w61))) w)
    (cnd up_7
    (cnd ok_11
    (∃ x75 : Int, w.cell? b_10 = some (Value.int .i64 x75) ∧ ∃ x76 : Int, w.cell? (b_10.add 1) = some (Value.int .i64 x76) ∧ ∃ x77 : Int, w.cell? a_8 = some (Value.int .i64 x77) ∧ ∃ x78 : Int, w.cell? (a_8.add 1) = some (Value.int .i64 x78) ∧ K (x75 == x77 && (x76 == x78 && true)) w)
    (K false w))
    (K false w))
def probitylaw01_RatioTexts_l1d (up_7 : Bool) (a_8 : Addr) (b_10 : Addr) (ok_11 : Bool) (texts_13 : Addr) (i_14 : Int)  (K : Bool → World → Prop) (w : World) : Prop :=
  ∃ (I : Int → World → Prop) (μ : Int → World → Nat), I i_14 w ∧ ∀ (i_141 : Int) (w1 : World), I i_141 w1 →
    probitylaw01_RatioTexts_b1 up_7 a_8 b_10 ok_11 texts_13 i_141 (fun (up_7' : Bool) (a_8' : Addr) (b_10' : Addr) (ok_11' : Bool) (texts_13' : Addr) (i_14' : Int) (w' : World) => ((up_7' = up_7 ∧ a_8' = a_8 ∧ b_10' = b_10 ∧ ok_11' = ok_11 ∧ texts_13' = texts_13 ∧ True) ∧ I i_14' w') ∧ μ i_14' w' < μ i_141 w1)  K w1
structure probitylaw01_RatioTexts_l1 (up_7 : Bool) (a_8 : Addr) (b_10 : Addr) (ok_11 : Bool) (texts_13 : Addr) (i_14 : Int)  (K : Bool → World → Prop) (w : World) : Prop where
  out : probitylaw01_RatioTexts_l1d up_7 a_8 b_10 ok_11 texts_13 i_14 K w

def probitylaw01_RatioTexts_k0d (up_7 : Bool) (a_8 : Addr) (b_10 : Addr) (ok_11 : Bool) (texts_13 : Addr)  (K : Bool → World → Prop) (w : World) : Prop :=
  probitylaw01_RatioTexts_l1 up_7 a_8 b_10 ok_11 texts_13 (0 : Int) K w
structure probitylaw01_RatioTexts_k0 (up_7 : Bool) (a_8 : Addr) (b_10 : Addr) (ok_11 : Bool) (texts_13 : Addr)  (K : Bool → World → Prop) (w : World) : Prop where
  out : probitylaw01_RatioTexts_k0d up_7 a_8 b_10 ok_11 texts_13 K w

def probitylaw01_RatioTexts_sd (p_0_0 : Int) (p_0_1 : Int) (p_0_2 : Int) (q_1_0 : Int) (q_1_1 : Int) (s_2 : ByteArray) (K : Bool → World → Prop) (w : World) : Prop :=
  let w1 : World := w.alloc (Obj.cells #[(Value.int .i64 p_0_0), (Value.int .i64 p_0_1), (Value.int .i64 p_0_2)] 22)
  let w2 : World := w1.alloc (Obj.cells #[(Value.int .i64 q_1_0), (Value.int .i64 q_1_1)] 23)
  probitylaw01_sanity_sh (fun (r4 : Bool) (w3 : World) => ∃ x5 : Int, w3.cell? (Addr.mk w.heap.size 0 none) = some (Value.int .i64 x5) ∧ ∃ x6 : Int, w3.cell? (Addr.mk w.heap.size 1 none) = some (Value.int .i64 x6) ∧ ∃ x7 : Int, w3.cell? (Addr.mk w.heap.size 2 none) = some (Value.int .i64 x7) ∧ probityref01_Made_sh x5 x6 x7 (fun (r9_0 : Int) (r9_1 : Int) (w8 : World) => let w10 : World := w8.alloc (Obj.cells #[(Value.int .i64 (0 : Int)), (Value.int .i64 (0 : Int))] 26)
  wrOk w10 (Addr.mk w8.heap.size 0 none) ∧ 
  (let w11 : World := w10.setCell (Addr.mk w8.heap.size 0 none) (Value.int .i64 r9_0)
  wrOk w11 (Addr.mk w8.heap.size 1 none) ∧ 
  (let w12 : World := w11.setCell (Addr.mk w8.heap.size 1 none) (Value.int .i64 r9_1)
  ∃ x13 : Int, w12.cell? (Addr.mk w8.heap.size 0 none) = some (Value.int .i64 x13) ∧ ∃ x14 : Int, w12.cell? (Addr.mk w8.heap.size 1 none) = some (Value.int .i64 x14) ∧ ratio_Text_sh x13 x14 (fun (r16 : ByteArray) (w15 : World) => ratio_Parse_sh r16 (fun (r18_0 : Int) (r18_1 : Int) (r19 : Bool) (w17 : World) => let w20 : World := w17.alloc (Obj.cells #[(Value.int .i64 (0 : Int)), (Value.int .i64 (0 : Int))] 26)
  wrOk w20 (Addr.mk w17.heap.size 0 none) ∧ 
  (let w21 : World := w20.setCell (Addr.mk w17.heap.size 0 none) (Value.int .i64 r18_0)
  wrOk w21 (Addr.mk w17.heap.size 1 none) ∧ 
  (let w22 : World := w21.setCell (Addr.mk w17.heap.size 1 none) (Value.int .i64 r18_1)
  cnd ((r16.size : Int) == (0 : Int))
    (K false w22)
    ((0 ≤ (0 : Int) ∧ (0 : Int) < (2 : Nat)) ∧ ∃ x23 : Int, w22.cell? ((Addr.mk w1.heap.size 0 none).add ((0 : Int).toNat * 1)) = some (Value.int .i64 x23) ∧ probityref01_Mod_sh x23 (r16.size : Int) (fun (r25 : Int) (w24 : World) => let w26 : World := w24.drew
  ∃ S27 : World → Prop, S27 w26 ∧ (0 ≤ (0 : Int) ∧ (0 : Int) ≤ r25 ∧ r25 ≤ (r16.size : Nat)) ∧ (0 ≤ (1 : Int) ∧ (1 : Int) < (2 : Nat)) ∧ ∃ x28 : Int, (∀ w' : World, S27 w' → w'.cell? ((Addr.mk w1.heap.size 0 none).add ((1 : Int).toNat * 1)) = some (Value.int .i64 x28)) ∧ inR .u8 x28 ∧ inR .i64 (r25 + (1 : Int)) ∧ (0 ≤ (r25 + (1 : Int)) ∧ (r25 + (1 : Int)) ≤ (r16.size : Nat)) ∧ (0 ≤ (0 : Int) ∧ (0 : Int) ≤ r25 ∧ r25 ≤ (r16.size : Nat)) ∧ inR .i64 (r25 + (1 : Int)) ∧ (0 ≤ (r25 + (1 : Int)) ∧ (r25 + (1 : Int)) ≤ (r16.size : Nat)) ∧ ((((r16.extract 0 r25.toNat).size + (r16.extract (r25 + (1 : Int)).toNat r16.size).size : Nat) : Int) ≤ maxI) ∧ ((((str [48]).size + r16.size : Nat) : Int) ≤ maxI) ∧ (((r16.size + (str [47, 49]).size : Nat) : Int) ≤ maxI) ∧ ((((str [43]).size + r16.size : Nat) : Int) ≤ maxI) ∧ (let w29 : World := w26.alloc (Obj.cells #[(Value.int .u8 x28)] 5)
  S27 w29 ∧ (btsS (Sl.mk (some (Addr.mk w26.heap.size 0 none)) 1 1) w29 fun (s30 : ByteArray) => S27 w29 ∧ ((((r16.extract 0 r25.toNat).size + s30.size : Nat) : Int) ≤ maxI) ∧ (((((r16.extract 0 r25.toNat) ++ s30).size + (r16.extract (r25 + (1 : Int)).toNat r16.size).size : Nat) : Int) ≤ maxI) ∧ let w31 : World := w29.alloc (Obj.cells #[(Value.string (str [])), (Value.string (str [])), (Value.string (str [])), (Value.string (str [])), (Value.string (str [])), (Value.string (str []))] 33)
  S27 w31 ∧ wrOk w31 (Addr.mk w29.heap.size 0 none) ∧ 
  (let w32 : World := w31.setCell (Addr.mk w29.heap.size 0 none) (Value.string s_2)
  wrOk w32 (Addr.mk w29.heap.size 1 none) ∧ 
  (let w33 : World := w32.setCell (Addr.mk w29.heap.size 1 none) (Value.string (((r16.extract 0 r25.toNat) ++ s30) ++ (r16.extract (r25 + (1 : Int)).toNat r16.size)))
  wrOk w33 (Addr.mk w29.heap.size 2 none) ∧ 
  (let w34 : World := w33.setCell (Addr.mk w29.heap.size 2 none) (Value.string ((r16.extract 0 r25.toNat) ++ (r16.extract (r25 + (1 : Int)).toNat r16.size)))
  wrOk w34 (Addr.mk w29.heap.size 3 none) ∧ 
  (let w35 : World := w34.setCell (Addr.mk w29.heap.size 3 none) (Value.string ((str [48]) ++ r16))
  wrOk w35 (Addr.mk w29.heap.size 4 none) ∧ 
  (let w36 : World := w35.setCell (Addr.mk w29.heap.size 4 none) (Value.string (r16 ++ (str [47, 49])))
  wrOk w36 (Addr.mk w29.heap.size 5 none) ∧ 
  (let w37 : World := w36.setCell (Addr.mk w29.heap.size 5 none) (Value.string ((str [43]) ++ r16))
  probitylaw01_RatioTexts_k0 r4 (Addr.mk w8.heap.size 0 none) (Addr.mk w17.heap.size 0 none) r19 (Addr.mk w29.heap.size 0 none) K w37)))))))
    ∧ (let w38 : World := w29.alloc (Obj.cells #[(Value.string (str [])), (Value.string (str [])), (Value.string (str [])), (Value.string (str [])), (Value.string (str [])), (Value.string (str []))] 33)
  S27 w38 ∧ btsS (Sl.mk (some (Addr.mk w26.heap.size 0 none)) 1 1) w38 fun (s39 : ByteArray) => S27 w38 ∧ ((((r16.extract 0 r25.toNat).size + s39.size : Nat) : Int) ≤ maxI) ∧ (((((r16.extract 0 r25.toNat) ++ s39).size + (r16.extract (r25 + (1 : Int)).toNat r16.size).size : Nat) : Int) ≤ maxI) ∧ wrOk w38 (Addr.mk w29.heap.size 0 none) ∧ 
  (let w40 : World := w38.setCell (Addr.mk w29.heap.size 0 none) (Value.string s_2)
  wrOk w40 (Addr.mk w29.heap.size 1 none) ∧ 
  (let w41 : World := w40.setCell (Addr.mk w29.heap.size 1 none) (Value.string (((r16.extract 0 r25.toNat) ++ s39) ++ (r16.extract (r25 + (1 : Int)).toNat r16.size)))
  wrOk w41 (Addr.mk w29.heap.size 2 none) ∧ 
  (let w42 : World := w41.setCell (Addr.mk w29.heap.size 2 none) (Value.string ((r16.extract 0 r25.toNat) ++ (r16.extract (r25 + (1 : Int)).toNat r16.size)))
  wrOk w42 (Addr.mk w29.heap.size 3 none) ∧ 
  (let w43 : World := w42.setCell (Addr.mk w29.heap.size 3 none) (Value.string ((str [48]) ++ r16))
  wrOk w43 (Addr.mk w29.heap.size 4 none) ∧ 
  (let w44 : World := w43.setCell (Addr.mk w29.heap.size 4 none) (Value.string (r16 ++ (str [47, 49])))
  wrOk w44 (Addr.mk w29.heap.size 5 none) ∧ 
  (let w45 : World := w44.setCell (Addr.mk w29.heap.size 5 none) (Value.string ((str [43]) ++ r16))
  probitylaw01_RatioTexts_k0 r4 (Addr.mk w8.heap.size 0 none) (Addr.mk w17.heap.size 0 none) r19 (Addr.mk w29.heap.size 0 none) K w45))))))))
    ∧ (let w46 : World := w26.alloc (Obj.cells #[(Value.string (str [])), (Value.string (str [])), (Value.string (str [])), (Value.string (str [])), (Value.string (str [])), (Value.string (str []))] 33)
  S27 w46 ∧ let w47 : World := w46.alloc (Obj.cells #[(Value.int .u8 x28)] 5)
  S27 w47 ∧ btsS (Sl.mk (some (Addr.mk w46.heap.size 0 none)) 1 1) w47 fun (s48 : ByteArray) => S27 w47 ∧ ((((r16.extract 0 r25.toNat).size + s48.size : Nat) : Int) ≤ maxI) ∧ (((((r16.extract 0 r25.toNat) ++ s48).size + (r16.extract (r25 + (1 : Int)).toNat r16.size).size : Nat) : Int) ≤ maxI) ∧ wrOk w47 (Addr.mk w26.heap.size 0 none) ∧ 
  (let w49 : World := w47.setCell (Addr.mk w26.heap.size 0 none) (Value.string s_2)
  wrOk w49 (Addr.mk w26.heap.size 1 none) ∧ 
  (let w50 : World := w49.setCell (Addr.mk w26.heap.size 1 none) (Value.string (((r16.extract 0 r25.toNat) ++ s48) ++ (r16.extract (r25 + (1 : Int)).toNat r16.size)))
  wrOk w50 (Addr.mk w26.heap.size 2 none) ∧ 
  (let w51 : World := w50.setCell (Addr.mk w26.heap.size 2 none) (Value.string ((r16.extract 0 r25.toNat) ++ (r16.extract (r25 + (1 : Int)).toNat r16.size)))
  wrOk w51 (Addr.mk w26.heap.size 3 none) ∧ 
  (let w52 : World := w51.setCell (Addr.mk w26.heap.size 3 none) (Value.string ((str [48]) ++ r16))
  wrOk w52 (Addr.mk w26.heap.size 4 none) ∧ 
  (let w53 : World := w52.setCell (Addr.mk w26.heap.size 4 none) (Value.string (r16 ++ (str [47, 49])))
  wrOk w53 (Addr.mk w26.heap.size 5 none) ∧ 
  (let w54 : World := w53.setCell (Addr.mk w26.heap.size 5 none) (Value.string ((str [43]) ++ r16))
  probitylaw01_RatioTexts_k0 r4 (Addr.mk w8.heap.size 0 none) (Addr.mk w17.heap.size 0 none) r19 (Addr.mk w26.heap.size 0 none) K w54)))))))) w22)))) w15) w12))) w3) w2

structure probitylaw01_RatioTexts_sh (p_0_0 : Int) (p_0_1 : Int) (p_0_2 : Int) (q_1_0 : Int) (q_1_1 : Int) (s_2 : ByteArray) (K : Bool → World → Prop) (w : World) : Prop where
  out : probitylaw01_RatioTexts_sd p_0_0 p_0_1 p_0_2 q_1_0 q_1_1 s_2 K w

def probitylaw01_RatioTexts_P0 (Kv : VW) (ρ : Rho) (vs : List Value) (w : World) : Prop :=
  match ρ, vs with
  | _, [.bool up_7, .pointer (some a_8), .pointer (some b_10), .bool ok_11, .pointer (some texts_13)] => probitylaw01_RatioTexts_k0 up_7 a_8 b_10 ok_11 texts_13  (fun (r0 : Bool) (w' : World) => Kv (Value.bool r0) w') w
  | _, _ => False

def probitylaw01_RatioTexts_P1 (Kv : VW) (ρ : Rho) (vs : List Value) (w : World) : Prop :=
  match ρ, vs with
  | _, [.bool up_7, .pointer (some a_8), .pointer (some b_10), .bool ok_11, .pointer (some texts_13), .int .i64 i_14] => probitylaw01_RatioTexts_l1 up_7 a_8 b_10 ok_11 texts_13 i_14  (fun (r0 : Bool) (w' : World) => Kv (Value.bool r0) w') w
  | _, _ => False

noncomputable def probitylaw01_RatioTexts_S : Pw.Spec := fun vs w Kv =>
  match vs with
  | [.agg ⟨[.int .i64 p_0_0, .int .i64 p_0_1, .int .i64 p_0_2]⟩, .agg ⟨[.int .i64 q_1_0, .int .i64 q_1_1]⟩, .string s_2] => probitylaw01_RatioTexts_sh p_0_0 p_0_1 p_0_2 q_1_0 q_1_1 s_2 (fun (r0 : Bool) (w' : World) => Kv (Value.bool r0) w') w
  | _ => False

noncomputable def probitylaw01_RatioTexts_E : Pw.Env := [(6, probitylaw01_sanity_S), (7, probityref01_Made_S), (8, ratio_Text_S), (9, ratio_Parse_S), (10, probityref01_Mod_S), (11, probityref01_Parse_S), (12, probitylaw01_same_S)]

noncomputable def probitylaw01_RatioTexts_C : Code := (Tryz.f3.body).getD .skip

noncomputable def probitylaw01_RatioTexts_A (Kv : VW) : Pw.A :=
  (A.seq (A.reg (RA.run (RA.run (RA.run RA.done))))
   (A.seq (A.reg (RA.run (RA.run RA.done)))
   (A.seq (A.reg (RA.run (RA.run (RA.run (RA.run RA.done)))))
   (A.seq (A.reg (RA.run (RA.run (RA.run RA.done))))
   (A.seq (A.reg (RA.run (RA.run (RA.run (RA.run (RA.run (RA.run (RA.run (RA.run RA.done)))))))))
   (A.seq (A.seq (A.reg (RA.run (RA.run (RA.run RA.done))))
   (A.cond (A.seq (A.reg (RA.run RA.done))
   A.leaf)
   A.leaf))
   (A.seq (A.reg (RA.run (RA.run (RA.run (RA.run (RA.run (RA.run RA.done)))))))
   (A.seq (A.drw (DA.pur 0 (DA.pur 1 (DA.pur 2 (DA.pur 3 (DA.pur 4 (DA.pur 5 (DA.pur 6 (DA.pur 10 (DA.pur 11 (DA.pur 12 (DA.pur 13 (DA.pur 15 (DA.pur 16 (DA.pur 17 (DA.pur 18 (DA.pur 19 (DA.pur 20 (DA.pur 21 (DA.pur 22 (DA.pur 23 (DA.pur 24 (DA.pur 25 (DA.pur 26 (DA.pur 27 (DA.pur 28 (DA.two 7 (DA.two 8 (DA.pur 9 (DA.pur 14 (DA.pur 29 (DA.eff 30 (DA.eff 31 DA.done))))) 30 (DA.eff 8 (DA.pur 9 (DA.pur 14 (DA.pur 29 (DA.eff 31 DA.done)))))) 30 (DA.eff 7 (DA.eff 8 (DA.pur 9 (DA.pur 14 (DA.pur 29 (DA.eff 31 DA.done)))))))))))))))))))))))))))))))))
   (A.cut [7, 8, 10, 11, 13] (probitylaw01_RatioTexts_P0 Kv) (A.seq (A.seq (A.reg (RA.run RA.done))
   (A.blk (A.loop [7, 8, 10, 11, 13, 14] (probitylaw01_RatioTexts_P1 Kv) (A.seq (A.seq (A.reg (RA.run (RA.run RA.done)))
   (A.cond A.leaf
   A.leaf))
   (A.seq (A.blk (A.seq (A.reg (RA.run (RA.run (RA.run (RA.run (RA.run (RA.run (RA.run (RA.run (RA.run (RA.run RA.done)))))))))))
   (A.seq (A.reg (RA.run (RA.run (RA.run (RA.run (RA.run (RA.run (RA.run (RA.run (RA.run (RA.run RA.done)))))))))))
   (A.seq (A.reg (RA.run (RA.run (RA.run (RA.run (RA.run (RA.run RA.done)))))))
   (A.cond (A.seq (A.reg (RA.run RA.done))
   A.leaf)
   A.leaf)))))
   (A.reg (RA.run (RA.run (RA.run RA.done)))))))))
   (A.seq (A.reg (RA.run (RA.run (RA.spl 92 (RA.run (RA.run (RA.run (RA.spl 95 (RA.run (RA.run (RA.run (RA.run (RA.run RA.done))))) (RA.skp (RA.skp (RA.skp (RA.run (RA.run RA.done))))))))) (RA.skp (RA.run (RA.run (RA.skp (RA.skp (RA.skp (RA.run (RA.run RA.done))))))))))))
   A.leaf)))))))))))

noncomputable def probitylaw01_RatioTexts_O (Kv : VW) : List Ob := (obs Tryz.prog probitylaw01_RatioTexts_E 100 (probitylaw01_RatioTexts_A Kv) probitylaw01_RatioTexts_C (fun _ => retQ Tryz.prog Tryz.f3.results Kv))

theorem probitylaw01_RatioTexts_e (Kv : VW) (p_0_0 : Int) (p_0_1 : Int) (p_0_2 : Int) (q_1_0 : Int) (q_1_1 : Int) (s_2 : ByteArray) (w : World) : probitylaw01_RatioTexts_sd p_0_0 p_0_1 p_0_2 q_1_0 q_1_1 s_2 (fun (r0 : Bool) (w' : World) => Kv (Value.bool r0) w') w = W Tryz.prog probitylaw01_RatioTexts_E 100 (probitylaw01_RatioTexts_A Kv) probitylaw01_RatioTexts_C [] (retQ Tryz.prog Tryz.f3.results Kv) [] (startS [(Value.agg #[(Value.int .i64 p_0_0), (Value.int .i64 p_0_1), (Value.int .i64 p_0_2)]), (Value.agg #[(Value.int .i64 q_1_0), (Value.int .i64 q_1_1)]), (Value.string s_2)]) w := by kernel_rfl

theorem probitylaw01_RatioTexts_e0 (Kv : VW) (ρ : Rho) (up_7 : Bool) (a_8 : Addr) (b_10 : Addr) (ok_11 : Bool) (texts_13 : Addr) (w : World) : probitylaw01_RatioTexts_k0d up_7 a_8 b_10 ok_11 texts_13  (fun (r0 : Bool) (w' : World) => Kv (Value.bool r0) w') w = goalAt Tryz.prog probitylaw01_RatioTexts_E 100 (probitylaw01_RatioTexts_O Kv) 0 (ρ) [(Value.bool up_7), (Value.pointer (some a_8)), (Value.pointer (some b_10)), (Value.bool ok_11), (Value.pointer (some texts_13))] w := by kernel_rfl

theorem probitylaw01_RatioTexts_q0 (Kv : VW) (ρ : Rho) (vs : List Value) (w : World) : labAt (probitylaw01_RatioTexts_O Kv) 0 ρ vs w = probitylaw01_RatioTexts_P0 Kv ρ vs w := by kernel_rfl

theorem probitylaw01_RatioTexts_h0 (Kv : VW) : holdsAt Tryz.prog probitylaw01_RatioTexts_E 100 (probitylaw01_RatioTexts_O Kv) 0 := holdsAt_cut (.inl (by kernel_rfl)) (fun ρ vs w h => by
  rw [probitylaw01_RatioTexts_q0] at h
  unfold probitylaw01_RatioTexts_P0 at h
  split at h
  · rw [← probitylaw01_RatioTexts_e0]; exact h.out
  · exact h.elim)

theorem probitylaw01_RatioTexts_e1 (Kv : VW) (N1 : List Value → World → Prop) (ρ : Rho) (up_7 : Bool) (a_8 : Addr) (b_10 : Addr) (ok_11 : Bool) (texts_13 : Addr) (i_14 : Int) (w : World) : probitylaw01_RatioTexts_b1 up_7 a_8 b_10 ok_11 texts_13 i_14 (fun (up_7' : Bool) (a_8' : Addr) (b_10' : Addr) (ok_11' : Bool) (texts_13' : Addr) (i_14' : Int) (w' : World) => N1 [(Value.bool up_7'), (Value.pointer (some a_8')), (Value.pointer (some b_10')), (Value.bool ok_11'), (Value.pointer (some texts_13')), (Value.int .i64 i_14')] w')  (fun (r0 : Bool) (w' : World) => Kv (Value.bool r0) w') w = goalAt Tryz.prog probitylaw01_RatioTexts_E 100 (probitylaw01_RatioTexts_O Kv) 1 (N1 :: ρ) [(Value.bool up_7), (Value.pointer (some a_8)), (Value.pointer (some b_10)), (Value.bool ok_11), (Value.pointer (some texts_13)), (Value.int .i64 i_14)] w := by kernel_rfl

theorem probitylaw01_RatioTexts_q1 (Kv : VW) (ρ : Rho) (vs : List Value) (w : World) : labAt (probitylaw01_RatioTexts_O Kv) 1 ρ vs w = probitylaw01_RatioTexts_P1 Kv ρ vs w := by kernel_rfl

def probitylaw01_RatioTexts_I1 (up_70 : Bool) (a_80 : Addr) (b_100 : Addr) (ok_110 : Bool) (texts_130 : Addr) (I : Int → World → Prop) (vs : List Value) (w : World) : Prop :=
  match vs with
  | [.bool up_7, .pointer (some a_8), .pointer (some b_10), .bool ok_11, .pointer (some texts_13), .int .i64 i_14] => (up_7 = up_70 ∧ a_8 = a_80 ∧ b_10 = b_100 ∧ ok_11 = ok_110 ∧ texts_13 = texts_130 ∧ True) ∧ I i_14 w
  | _ => False

def probitylaw01_RatioTexts_M1 (μ : Int → World → Nat) (vs : List Value) (w : World) : Nat :=
  match vs with
  | [.bool _up_7, .pointer (some _a_8), .pointer (some _b_10), .bool _ok_11, .pointer (some _texts_13), .int .i64 i_14] => μ i_14 w
  | _ => 0

theorem probitylaw01_RatioTexts_h1 (Kv : VW) : holdsAt Tryz.prog probitylaw01_RatioTexts_E 100 (probitylaw01_RatioTexts_O Kv) 1 := holdsAt_loop (by kernel_rfl) (fun ρ vs w h => by
  rw [probitylaw01_RatioTexts_q1] at h
  unfold probitylaw01_RatioTexts_P1 at h
  split at h
  · rename_i ρt up_7 a_8 b_10 ok_11 texts_13 i_14
    obtain ⟨I, μ, h0, hr⟩ := h.out
    refine ⟨probitylaw01_RatioTexts_I1 up_7 a_8 b_10 ok_11 texts_13 I, probitylaw01_RatioTexts_M1 μ, ⟨⟨rfl, rfl, rfl, rfl, rfl, trivial⟩, h0⟩, fun vs w hI => ?_⟩
    unfold probitylaw01_RatioTexts_I1 at hI
    split at hI
    · obtain ⟨⟨h0, h1, h2, h3, h4, _⟩, hI⟩ := hI
      cases h0; cases h1; cases h2; cases h3; cases h4
      rw [← probitylaw01_RatioTexts_e1]
      exact hr _ _ hI
    · exact hI.elim
  · exact h.elim)

theorem probitylaw01_RatioTexts_n (Kv : VW) : obAt (probitylaw01_RatioTexts_O Kv) 2 = none := by kernel_rfl

theorem probitylaw01_RatioTexts_h (Kv : VW) : ∀ k, holdsAt Tryz.prog probitylaw01_RatioTexts_E 100 (probitylaw01_RatioTexts_O Kv) k := fun k => match k with
  | 0 => probitylaw01_RatioTexts_h0 Kv
  | 1 => probitylaw01_RatioTexts_h1 Kv
  | _k + 2 => holdsAt_ge (probitylaw01_RatioTexts_n Kv) (Nat.le_add_left _ _)

theorem probitylaw01_RatioTexts_ok : Sound Tryz.prog 3 probitylaw01_RatioTexts_S := ⟨Tryz.call3, fun vs w Kv h => by
  unfold probitylaw01_RatioTexts_S at h
  split at h
  · have h := h.out
    rw [probitylaw01_RatioTexts_e] at h
    exact calls_sound (Γ := probitylaw01_RatioTexts_E) progMixed ⟨.inl probitylaw01_sanity_ok, .inl probityref01_Made_ok, .inl ratio_Text_ok, .inl ratio_Parse_ok, .inl probityref01_Mod_ok, .inl probityref01_Parse_ok, .inl probitylaw01_same_ok, trivial⟩ Tryz.func3 (code := probitylaw01_RatioTexts_C) (by kernel_rfl) (probitylaw01_RatioTexts_A Kv) Kv (holds_all (probitylaw01_RatioTexts_h Kv)) (Nat.le_of_ble_eq_true (by kernel_rfl)) h
  · exact h.elim⟩

end Go.Proofs.YtfclokkfnkieoaaGreatDoor
