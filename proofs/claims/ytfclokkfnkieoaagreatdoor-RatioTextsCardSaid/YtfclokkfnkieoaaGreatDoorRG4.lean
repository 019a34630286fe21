/- The bodies' formulas, by program. -/
import Derived.Test.YtfclokkfnkieoaaGreatDoorProg
import Derived.KernelRfl
import Derived.Test.YtfclokkfnkieoaaGreatDoorPwX
import Derived.Test.YtfclokkfnkieoaaGreatDoorRG0
import Derived.Test.YtfclokkfnkieoaaGreatDoorRG1
import Derived.Test.YtfclokkfnkieoaaGreatDoorRG2
import Derived.Test.YtfclokkfnkieoaaGreatDoorRZG
set_option maxRecDepth 20000
namespace Go.Proofs.YtfclokkfnkieoaaGreatDoor
open Go Pw
/-! probitylaw01_RatioTexts -/
def probitylaw01_RatioTexts_b1 (up_7 : Bool) (a_8 : Addr) (b_10 : Addr) (ok_11 : Bool) (texts_13 : Addr) (i_14 : Int) (N1 : Bool → Addr → Addr → Bool → Addr → Int → World → Prop)  (K : Bool → World → Prop) (w : World) : Prop :=
  cnd (decide (i_14 < (6 : Int)))
    ((0 ≤ i_14 ∧ i_14 < (6 : Nat)) ∧ ∃ x55 : ByteArray, w.cell? (texts_13.add (i_14.toNat * 1)) = some (Value.string x55) ∧ ratio_Parse_sh x55 (fun (r57_0 : Int) (r57_1 : Int) (r58 : Bool) (w56 : World) => let w59 : World := w56.alloc (Obj.cells #[(Value.int .i64 (0 : Int)), (Value.int .i64 (0 : Int))] 26)
  wrOk w59 (Addr.mk w56.heap.size 0 none) ∧ 
  (let w60 : World := w59.setCell (Addr.mk w56.heap.size 0 none) (Value.int .i64 r57_0)
  wrOk w60 (Addr.mk w56.heap.size 1 none) ∧ 
  (let w61 : World := w60.setCell (Addr.mk w56.heap.size 1 none) (Value.int .i64 r57_1)
  (0 ≤ i_14 ∧ i_14 < (6 : Nat)) ∧ ∃ x62 : ByteArray, w61.cell? (texts_13.add (i_14.toNat * 1)) = some (Value.string x62) ∧ probityref01_Parse_sh x62 (fun (r64_0 : Int) (r64_1 : Int) (r65 : Bool) (w63 : World) => let w66 : World := w63.alloc (Obj.cells #[(Value.int .i64 (0 : Int)), (Value.int .i64 (0 : Int))] 26)
  wrOk w66 (Addr.mk w63.heap.size 0 none) ∧ 
  (let w67 : World := w66.setCell (Addr.mk w63.heap.size 0 none) (Value.int .i64 r64_0)
  wrOk w67 (Addr.mk w63.heap.size 1 none) ∧ 
  (let w68 : World := w67.setCell (Addr.mk w63.heap.size 1 none) (Value.int .i64 r64_1)
  ∃ x69 : Int, w68.cell? (Addr.mk w56.heap.size 0 none) = some (Value.int .i64 x69) ∧ ∃ x70 : Int, w68.cell? (Addr.mk w56.heap.size 1 none) = some (Value.int .i64 x70) ∧ ∃ x71 : Int, w68.cell? (Addr.mk w63.heap.size 0 none) = some (Value.int .i64 x71) ∧ ∃ x72 : Int, w68.cell? (Addr.mk w63.heap.size 1 none) = some (Value.int .i64 x72) ∧ probitylaw01_same_sh x69 x70 r58 x71 x72 r65 (fun (r74 : Bool) (w73 : World) => cnd (!r74)
    (K false w73)
    (inR .i64 (i_14 + (1 : Int)) ∧ N1 up_7 a_8 b_10 ok_11 texts_13 (i_14 + (1 : Int)) w73)) w68))) w61))) w)
    (cnd up_7
    (cnd ok_11
    (∃ x75 : Int, w.cell? b_10 = some (Value.int .i64 x75) ∧ ∃ x76 : Int, w.cell? (b_10.add 1) = some (Value.int .i64 x76) ∧ ∃ x77 : Int, w.cell? a_8 = some (Value.int .i64 x77) ∧ ∃ x78 : Int, w.cell? (a_8.add 1) = some (Value.int .i64 x78) ∧ K (x75 == x77 && (x76 == x78 && true)) w)
    (K false w))
    (K false w))
def probitylaw01_RatioTexts_l1d (up_7 : Bool) (a_8 : Addr) (b_10 : Addr) (ok_11 : Bool) (texts_13 : Addr) (i_14 : Int)  (K : Bool → World → Prop) (w : World) : Prop :=
  ∃ (I : Int → World → Prop) (μ : Int → World → Nat), I i_14 w ∧ ∀ (i_141 : Int) (w1 : World), I i_141 w1 →
    probitylaw01_RatioTexts_b1 up_7 a_8 b_10 ok_11 texts_13 i_141 (fun (up_7' : Bool) (a_8' : Addr) (b_10' : Addr) (ok_11' : Bool) (texts_13' : Addr) (i_14' : Int) (w' : World) => ((up_7' = up_7 ∧ a_8' = a_8 ∧ b_10' = b_10 ∧ ok_11' = ok_11 ∧ texts_13' = texts_13 ∧ True) ∧ I i_14' w') ∧ μ i_14' w' < μ i_141 w1)  K w1
structure probitylaw01_RatioTexts_l1 (up_7 : Bool) (a_8 : Addr) (b_10 : Addr) (ok_11 : Bool) (texts_13 : Addr) (i_14 : Int)  (K : Bool → World → Prop) (w : World) : Prop where
  out : probitylaw01_RatioTexts_l1d up_7 a_8 b_10 ok_11 texts_13 i_14 K w

def probitylaw01_RatioTexts_k0d (up_7 : Bool) (a_8 : Addr) (b_10 : Addr) (ok_11 : Bool) (texts_13 : Addr)  (K : Bool → World → Prop) (w : World) : Prop :=
  probitylaw01_RatioTexts_l1 up_7 a_8 b_10 ok_11 texts_13 (0 : Int) K w
structure probitylaw01_RatioTexts_k0 (up_7 : Bool) (a_8 : Addr) (b_10 : Addr) (ok_11 : Bool) (texts_13 : Addr)  (K : Bool → World → Prop) (w : World) : Prop where
  out : probitylaw01_RatioTexts_k0d up_7 a_8 b_10 ok_11 texts_13 K w

def probitylaw01_RatioTexts_sd (p_0_0 : Int) (p_0_1 : Int) (p_0_2 : Int) (q_1_0 : Int) (q_1_1 : Int) (s_2 : ByteArray) (K : Bool → World → Prop) (w : World) : Prop :=
  let w1 : World := w.alloc (Obj.cells #[(Value.int .i64 p_0_0), (Value.int .i64 p_0_1), (Value.int .i64 p_0_2)] 22)
  let w2 : World := w1.alloc (Obj.cells #[(Value.int .i64 q_1_0), (Value.int .i64 q_1_1)] 23)
  probitylaw01_sanity_sh (fun (r4 : Bool) (w3 : World) => ∃ x5 : Int, w3.cell? (Addr.mk w.heap.size 0 none) = some (Value.int .i64 x5) ∧ ∃ x6 : Int, w3.cell? (Addr.mk w.heap.size 1 none) = some (Value.int .i64 x6) ∧ ∃ x7 : Int, w3.cell? (Addr.mk w.heap.size 2 none) = some (Value.int .i64 x7) ∧ probityref01_Made_sh x5 x6 x7 (fun (r9_0 : Int) (r9_1 : Int) (w8 : World) => let w10 : World := w8.alloc (Obj.cells #[(Value.int .i64 (0 : Int)), (Value.int .i64 (0 : Int))] 26)
  wrOk w10 (Addr.mk w8.heap.size 0 none) ∧ 
  (let w11 : World := w10.setCell (Addr.mk w8.heap.size 0 none) (Value.int .i64 r9_0)
  wrOk w11 (Addr.mk w8.heap.size 1 none) ∧ 
  (let w12 : World := w11.setCell (Addr.mk w8.heap.size 1 none) (Value.int .i64 r9_1)
  ∃ x13 : Int, w12.cell? (Addr.mk w8.heap.size 0 none) = some (Value.int .i64 x13) ∧ ∃ x14 : Int, w12.cell? (Addr.mk w8.heap.size 1 none) = some (Value.int .i64 x14) ∧ ratio_Text_sh x13 x14 (fun (r16 : ByteArray) (w15 : World) => ratio_Parse_sh r16 (fun (r18_0 : Int) (r18_1 : Int) (r19 : Bool) (w17 : World) => let w20 : World := w17.alloc (Obj.cells #[(Value.int .i64 (0 : Int)), (Value.int .i64 (0 : Int))] 26)
  wrOk w20 (Addr.mk w17.heap.size 0 none) ∧ 
  (let w21 : World := w20.setCell (Addr.mk w17.heap.size 0 none) (Value.int .i64 r18_0)
  wrOk w21 (Addr.mk w17.heap.size 1 none) ∧ 
  (let w22 : World := w21.setCell (Addr.mk w17.heap.size 1 none) (Value.int .i64 r18_1)
  cnd ((r16.size : Int) == (0 : Int))
    (K false w22)
    ((0 ≤ (0 : Int) ∧ (0 : Int) < (2 : Nat)) ∧ ∃ x23 : Int, w22.cell? ((Addr.mk w1.heap.size 0 none).add ((0 : Int).toNat * 1)) = some (Value.int .i64 x23) ∧ probityref01_Mod_sh x23 (r16.size : Int) (fun (r25 : Int) (w24 : World) => let w26 : World := w24.drew
  ∃ S27 : World → Prop, S27 w26 ∧ (0 ≤ (0 : Int) ∧ (0 : Int) ≤ r25 ∧ r25 ≤ (r16.size : Nat)) ∧ (0 ≤ (1 : Int) ∧ (1 : Int) < (2 : Nat)) ∧ ∃ x28 : Int, (∀ w' : World, S27 w' → w'.cell? ((Addr.mk w1.heap.size 0 none).add ((1 : Int).toNat * 1)) = some (Value.int .i64 x28)) ∧ inR .i64 (r25 + (1 : Int)) ∧ (0 ≤ (r25 + (1 : Int)) ∧ (r25 + (1 : Int)) ≤ (r16.size : Nat)) ∧ (0 ≤ (0 : Int) ∧ (0 : Int) ≤ r25 ∧ r25 ≤ (r16.size : Nat)) ∧ inR .i64 (r25 + (1 : Int)) ∧ (0 ≤ (r25 + (1 : Int)) ∧ (r25 + (1 : Int)) ≤ (r16.size : Nat)) ∧ ((((r16.extract 0 r25.toNat).size + (r16.extract (r25 + (1 : Int)).toNat r16.size).size : Nat) : Int) ≤ maxI) ∧ ((((str [48]).size + r16.size : Nat) : Int) ≤ maxI) ∧ (((r16.size + (str [47, 49]).size : Nat) : Int) ≤ maxI) ∧ ((((str [43]).size + r16.size : Nat) : Int) ≤ maxI) ∧ (let w29 : World := w26.alloc (Obj.cells #[(Value.int .u8 (IntKind.wrap .u8 x28))] 5)
  S27 w29 ∧ (btsS (Sl.mk (some (Addr.mk w26.heap.size 0 none)) 1 1) w29 fun (s30 : ByteArray) => S27 w29 ∧ ((((r16.extract 0 r25.toNat).size + s30.size : Nat) : Int) ≤ maxI) ∧ (((((r16.extract 0 r25.toNat) ++ s30).size + (r16.extract (r25 + (1 : Int)).toNat r16.size).size : Nat) : Int) ≤ maxI) ∧ let w31 : World := w29.alloc (Obj.cells #[(Value.string (str [])), (Value.string (str [])), (Value.string (str [])), (Value.string (str [])), (Value.string (str [])), (Value.string (str []))] 33)
  S27 w31 ∧ wrOk w31 (Addr.mk w29.heap.size 0 none) ∧ 
  (let w32 : World := w31.setCell (Addr.mk w29.heap.size 0 none) (Value.string s_2)
  wrOk w32 (Addr.mk w29.heap.size 1 none) ∧ 
  (let w33 : World := w32.setCell (Addr.mk w29.heap.size 1 none) (Value.string (((r16.extract 0 r25.toNat) ++ s30) ++ (r16.extract (r25 + (1 : Int)).toNat r16.size)))
  wrOk w33 (Addr.mk w29.heap.size 2 none) ∧ 
  (let w34 : World := w33.setCell (Addr.mk w29.heap.size 2 none) (Value.string ((r16.extract 0 r25.toNat) ++ (r16.extract (r25 + (1 : Int)).toNat r16.size)))
  wrOk w34 (Addr.mk w29.heap.size 3 none) ∧ 
  (let w35 : World := w34.setCell (Addr.mk w29.heap.size 3 none) (Value.string ((str [48]) ++ r16))
  wrOk w35 (Addr.mk w29.heap.size 4 none) ∧ 
  (let w36 : World := w35.setCell (Addr.mk w29.heap.size 4 none) (Value.string (r16 ++ (str [47, 49])))
  wrOk w36 (Addr.mk w29.heap.size 5 none) ∧ 
  (let w37 : World := w36.setCell (Addr.mk w29.heap.size 5 none) (Value.string ((str [43]) ++ r16))
  probitylaw01_RatioTexts_k0 r4 (Addr.mk w8.heap.size 0 none) (Addr.mk w17.heap.size 0 none) r19 (Addr.mk w29.heap.size 0 none) K w37)))))))
    ∧ (let w38 : World := w29.alloc (Obj.cells #[(Value.string (str [])), (Value.string (str [])), (Value.string (str [])), (Value.string (str [])), (Value.string (str [])), (Value.string (str []))] 33)
  S27 w38 ∧ btsS (Sl.mk (some (Addr.mk w26.heap.size 0 none)) 1 1) w38 fun (s39 : ByteArray) => S27 w38 ∧ ((((r16.extract 0 r25.toNat).size + s39.size : Nat) : Int) ≤ maxI) ∧ (((((r16.extract 0 r25.toNat) ++ s39).size + (r16.extract (r25 + (1 : Int)).toNat r16.size).size : Nat) : Int) ≤ maxI) ∧ wrOk w38 (Addr.mk w29.heap.size 0 none) ∧ 
  (let w40 : World := w38.setCell (Addr.mk w29.heap.size 0 none) (Value.string s_2)
  wrOk w40 (Addr.mk w29.heap.size 1 none) ∧ 
  (let w41 : World := w40.setCell (Addr.mk w29.heap.size 1 none) (Value.string (((r16.extract 0 r25.toNat) ++ s39) ++ (r16.extract (r25 + (1 : Int)).toNat r16.size)))
  wrOk w41 (Addr.mk w29.heap.size 2 none) ∧ 
  (let w42 : World := w41.setCell (Addr.mk w29.heap.size 2 none) (Value.string ((r16.extract 0 r25.toNat) ++ (r16.extract (r25 + (1 : Int)).toNat r16.size)))
  wrOk w42 (Addr.mk w29.heap.size 3 none) ∧ 
  (let w43 : World := w42.setCell (Addr.mk w29.heap.size 3 none) (Value.string ((str [48]) ++ r16))
  wrOk w43 (Addr.mk w29.heap.size 4 none) ∧ 
  (let w44 : World := w43.setCell (Addr.mk w29.heap.size 4 none) (Value.string (r16 ++ (str [47, 49])))
  wrOk w44 (Addr.mk w29.heap.size 5 none) ∧ 
  (let w45 : World := w44.setCell (Addr.mk w29.heap.size 5 none) (Value.string ((str [43]) ++ r16))
  probitylaw01_RatioTexts_k0 r4 (Addr.mk w8.heap.size 0 none) (Addr.mk w17.heap.size 0 none) r19 (Addr.mk w29.heap.size 0 none) K w45))))))))
    ∧ (let w46 : World := w26.alloc (Obj.cells #[(Value.string (str [])), (Value.string (str [])), (Value.string (str [])), (Value.string (str [])), (Value.string (str [])), (Value.string (str []))] 33)
  S27 w46 ∧ let w47 : World := w46.alloc (Obj.cells #[(Value.int .u8 (IntKind.wrap .u8 x28))] 5)
  S27 w47 ∧ btsS (Sl.mk (some (Addr.mk w46.heap.size 0 none)) 1 1) w47 fun (s48 : ByteArray) => S27 w47 ∧ ((((r16.extract 0 r25.toNat).size + s48.size : Nat) : Int) ≤ maxI) ∧ (((((r16.extract 0 r25.toNat) ++ s48).size + (r16.extract (r25 + (1 : Int)).toNat r16.size).size : Nat) : Int) ≤ maxI) ∧ wrOk w47 (Addr.mk w26.heap.size 0 none) ∧ 
  (let w49 : World := w47.setCell (Addr.mk w26.heap.size 0 none) (Value.string s_2)
  wrOk w49 (Addr.mk w26.heap.size 1 none) ∧ 
  (let w50 : World := w49.setCell (Addr.mk w26.heap.size 1 none) (Value.string (((r16.extract 0 r25.toNat) ++ s48) ++ (r16.extract (r25 + (1 : Int)).toNat r16.size)))
  wrOk w50 (Addr.mk w26.heap.size 2 none) ∧ 
  (let w51 : World := w50.setCell (Addr.mk w26.heap.size 2 none) (Value.string ((r16.extract 0 r25.toNat) ++ (r16.extract (r25 + (1 : Int)).toNat r16.size)))
  wrOk w51 (Addr.mk w26.heap.size 3 none) ∧ 
  (let w52 : World := w51.setCell (Addr.mk w26.heap.size 3 none) (Value.string ((str [48]) ++ r16))
  wrOk w52 (Addr.mk w26.heap.size 4 none) ∧ 
  (let w53 : World := w52.setCell (Addr.mk w26.heap.size 4 none) (Value.string (r16 ++ (str [47, 49])))
  wrOk w53 (Addr.mk w26.heap.size 5 none) ∧ 
  (let w54 : World := w53.setCell (Addr.mk w26.heap.size 5 none) (Value.string ((str [43]) ++ r16))
  probitylaw01_RatioTexts_k0 r4 (Addr.mk w8.heap.size 0 none) (Addr.mk w17.heap.size 0 none) r19 (Addr.mk w26.heap.size 0 none) K w54)))))))) w22)))) w15) w12))) w3) w2

structure probitylaw01_RatioTexts_sh (p_0_0 : Int) (p_0_1 : Int) (p_0_2 : Int) (q_1_0 : Int) (q_1_1 : Int) (s_2 : ByteArray) (K : Bool → World → Prop) (w : World) : Prop where
  out : probitylaw01_RatioTexts_sd p_0_0 p_0_1 p_0_2 q_1_0 q_1_1 s_2 K w

def probitylaw01_RatioTexts_P0 (Kv : VW) (ρ : Rho) (vs : List Value) (w : World) : Prop :=
  match ρ, vs with
  | _, [.bool up_7, .pointer (some a_8), .pointer (some b_10), .bool ok_11, .pointer (some texts_13)] => probitylaw01_RatioTexts_k0 up_7 a_8 b_10 ok_11 texts_13  (fun (r0 : Bool) (w' : World) => Kv (Value.bool r0) w') w
  | _, _ => False

def probitylaw01_RatioTexts_P1 (Kv : VW) (ρ : Rho) (vs : List Value) (w : World) : Prop :=
  match ρ, vs with
  | _, [.bool up_7, .pointer (some a_8), .pointer (some b_10), .bool ok_11, .pointer (some texts_13), .int .i64 i_14] => probitylaw01_RatioTexts_l1 up_7 a_8 b_10 ok_11 texts_13 i_14  (fun (r0 : Bool) (w' : World) => Kv (Value.bool r0) w') w
  | _, _ => False

noncomputable def probitylaw01_RatioTexts_S : Pw.Spec := fun vs w Kv =>
  match vs with
  | [.agg ⟨[.int .i64 p_0_0, .int .i64 p_0_1, .int .i64 p_0_2]⟩, .agg ⟨[.int .i64 q_1_0, .int .i64 q_1_1]⟩, .string s_2] => probitylaw01_RatioTexts_sh p_0_0 p_0_1 p_0_2 q_1_0 q_1_1 s_2 (fun (r0 : Bool) (w' : World) => Kv (Value.bool r0) w') w
  | _ => False

noncomputable def probitylaw01_RatioTexts_E : Pw.Env := [(6, probitylaw01_sanity_S), (7, probityref01_Made_S), (8, ratio_Text_S), (9, ratio_Parse_S), (10, probityref01_Mod_S), (11, probityref01_Parse_S), (12, probitylaw01_same_S)]

noncomputable def probitylaw01_RatioTexts_C : Code := (Tryz.f3.body).getD .skip

noncomputable def probitylaw01_RatioTexts_A (Kv : VW) : Pw.A :=
  (A.seq (A.reg (RA.run (RA.run (RA.run RA.done))))
   (A.seq (A.reg (RA.run (RA.run RA.done)))
   (A.seq (A.reg (RA.run (RA.run (RA.run (RA.run RA.done)))))
   (A.seq (A.reg (RA.run (RA.run (RA.run RA.done))))
   (A.seq (A.reg (RA.run (RA.run (RA.run (RA.run (RA.run (RA.run (RA.run (RA.run RA.done)))))))))
   (A.seq (A.seq (A.reg (RA.run (RA.run (RA.run RA.done))))
   (A.cond (A.seq (A.reg (RA.run RA.done))
   A.leaf)
   A.leaf))
   (A.seq (A.reg (RA.run (RA.run (RA.run (RA.run (RA.run (RA.run RA.done)))))))
   (A.seq (A.drw (DA.pur 0 (DA.pur 1 (DA.pur 2 (DA.pur 3 (DA.pur 4 (DA.pur 5 (DA.prw 6 (DA.pur 10 (DA.pur 11 (DA.pur 12 (DA.pur 13 (DA.pur 15 (DA.pur 16 (DA.pur 17 (DA.pur 18 (DA.pur 19 (DA.pur 20 (DA.pur 21 (DA.pur 22 (DA.pur 23 (DA.pur 24 (DA.pur 25 (DA.pur 26 (DA.pur 27 (DA.pur 28 (DA.two 7 (DA.two 8 (DA.pur 9 (DA.pur 14 (DA.pur 29 (DA.eff 30 (DA.eff 31 DA.done))))) 30 (DA.eff 8 (DA.pur 9 (DA.pur 14 (DA.pur 29 (DA.eff 31 DA.done)))))) 30 (DA.eff 7 (DA.eff 8 (DA.pur 9 (DA.pur 14 (DA.pur 29 (DA.eff 31 DA.done)))))))))))))))))))))))))))))))))
   (A.cut [7, 8, 10, 11, 13] (probitylaw01_RatioTexts_P0 Kv) (A.seq (A.seq (A.reg (RA.run RA.done))
   (A.blk (A.loop [7, 8, 10, 11, 13, 14] (probitylaw01_RatioTexts_P1 Kv) (A.seq (A.seq (A.reg (RA.run (RA.run RA.done)))
   (A.cond A.leaf
   A.leaf))
   (A.seq (A.blk (A.seq (A.reg (RA.run (RA.run (RA.run (RA.run (RA.run (RA.run (RA.run (RA.run (RA.run (RA.run RA.done)))))))))))
   (A.seq (A.reg (RA.run (RA.run (RA.run (RA.run (RA.run (RA.run (RA.run (RA.run (RA.run (RA.run RA.done)))))))))))
   (A.seq (A.reg (RA.run (RA.run (RA.run (RA.run (RA.run (RA.run RA.done)))))))
   (A.cond (A.seq (A.reg (RA.run RA.done))
   A.leaf)
   A.leaf)))))
   (A.reg (RA.run (RA.run (RA.run RA.done)))))))))
   (A.seq (A.reg (RA.run (RA.run (RA.spl 92 (RA.run (RA.run (RA.run (RA.spl 95 (RA.run (RA.run (RA.run (RA.run (RA.run RA.done))))) (RA.skp (RA.skp (RA.skp (RA.run (RA.run RA.done))))))))) (RA.skp (RA.run (RA.run (RA.skp (RA.skp (RA.skp (RA.run (RA.run RA.done))))))))))))
   A.leaf)))))))))))

noncomputable def probitylaw01_RatioTexts_O (Kv : VW) : List Ob := (obs Tryz.prog probitylaw01_RatioTexts_E 100 (probitylaw01_RatioTexts_A Kv) probitylaw01_RatioTexts_C (fun _ => retQ Tryz.prog Tryz.f3.results Kv))

theorem probitylaw01_RatioTexts_e (Kv : VW) (p_0_0 : Int) (p_0_1 : Int) (p_0_2 : Int) (q_1_0 : Int) (q_1_1 : Int) (s_2 : ByteArray) (w : World) : probitylaw01_RatioTexts_sd p_0_0 p_0_1 p_0_2 q_1_0 q_1_1 s_2 (fun (r0 : Bool) (w' : World) => Kv (Value.bool r0) w') w = W Tryz.prog probitylaw01_RatioTexts_E 100 (probitylaw01_RatioTexts_A Kv) probitylaw01_RatioTexts_C [] (retQ Tryz.prog Tryz.f3.results Kv) [] (startS [(Value.agg #[(Value.int .i64 p_0_0), (Value.int .i64 p_0_1), (Value.int .i64 p_0_2)]), (Value.agg #[(Value.int .i64 q_1_0), (Value.int .i64 q_1_1)]), (Value.string s_2)]) w := by kernel_rfl

theorem probitylaw01_RatioTexts_e0 (Kv : VW) (ρ : Rho) (up_7 : Bool) (a_8 : Addr) (b_10 : Addr) (ok_11 : Bool) (texts_13 : Addr) (w : World) : probitylaw01_RatioTexts_k0d up_7 a_8 b_10 ok_11 texts_13  (fun (r0 : Bool) (w' : World) => Kv (Value.bool r0) w') w = goalAt Tryz.prog probitylaw01_RatioTexts_E 100 (probitylaw01_RatioTexts_O Kv) 0 (ρ) [(Value.bool up_7), (Value.pointer (some a_8)), (Value.pointer (some b_10)), (Value.bool ok_11), (Value.pointer (some texts_13))] w := by kernel_rfl

theorem probitylaw01_RatioTexts_q0 (Kv : VW) (ρ : Rho) (vs : List Value) (w : World) : labAt (probitylaw01_RatioTexts_O Kv) 0 ρ vs w = probitylaw01_RatioTexts_P0 Kv ρ vs w := by kernel_rfl

theorem probitylaw01_RatioTexts_h0 (Kv : VW) : holdsAt Tryz.prog probitylaw01_RatioTexts_E 100 (probitylaw01_RatioTexts_O Kv) 0 := holdsAt_cut (.inl (by kernel_rfl)) (fun ρ vs w h => by
  rw [probitylaw01_RatioTexts_q0] at h
  unfold probitylaw01_RatioTexts_P0 at h
  split at h
  · rw [← probitylaw01_RatioTexts_e0]; exact h.out
  · exact h.elim)

theorem probitylaw01_RatioTexts_e1 (Kv : VW) (N1 : List Value → World → Prop) (ρ : Rho) (up_7 : Bool) (a_8 : Addr) (b_10 : Addr) (ok_11 : Bool) (texts_13 : Addr) (i_14 : Int) (w : World) : probitylaw01_RatioTexts_b1 up_7 a_8 b_10 ok_11 texts_13 i_14 (fun (up_7' : Bool) (a_8' : Addr) (b_10' : Addr) (ok_11' : Bool) (texts_13' : Addr) (i_14' : Int) (w' : World) => N1 [(Value.bool up_7'), (Value.pointer (some a_8')), (Value.pointer (some b_10')), (Value.bool ok_11'), (Value.pointer (some texts_13')), (Value.int .i64 i_14')] w')  (fun (r0 : Bool) (w' : World) => Kv (Value.bool r0) w') w = goalAt Tryz.prog probitylaw01_RatioTexts_E 100 (probitylaw01_RatioTexts_O Kv) 1 (N1 :: ρ) [(Value.bool up_7), (Value.pointer (some a_8)), (Value.pointer (some b_10)), (Value.bool ok_11), (Value.pointer (some texts_13)), (Value.int .i64 i_14)] w := by kernel_rfl

theorem probitylaw01_RatioTexts_q1 (Kv : VW) (ρ : Rho) (vs : List Value) (w : World) : labAt (probitylaw01_RatioTexts_O Kv) 1 ρ vs w = probitylaw01_RatioTexts_P1 Kv ρ vs w := by kernel_rfl

def probitylaw01_RatioTexts_I1 (up_70 : Bool) (a_80 : Addr) (b_100 : Addr) (ok_110 : Bool) (texts_130 : Addr) (I : Int → World → Prop) (vs : List Value) (w : World) : Prop :=
  match vs with
  | [.bool up_7, .pointer (some a_8), .pointer (some b_10), .bool ok_11, .pointer (some texts_13), .int .i64 i_14] => (up_7 = up_70 ∧ a_8 = a_80 ∧ b_10 = b_100 ∧ ok_11 = ok_110 ∧ texts_13 = texts_130 ∧ True) ∧ I i_14 w
  | _ => False

def probitylaw01_RatioTexts_M1 (μ : Int → World → Nat) (vs : List Value) (w : World) : Nat :=
  match vs with
  | [.bool _up_7, .pointer (some _a_8), .pointer (some _b_10), .bool _ok_11, .pointer (some _texts_13), .int .i64 i_14] => μ i_14 w
  | _ => 0

theorem probitylaw01_RatioTexts_h1 (Kv : VW) : holdsAt Tryz.prog probitylaw01_RatioTexts_E 100 (probitylaw01_RatioTexts_O Kv) 1 := holdsAt_loop (by kernel_rfl) (fun ρ vs w h => by
  rw [probitylaw01_RatioTexts_q1] at h
  unfold probitylaw01_RatioTexts_P1 at h
  split at h
  · rename_i ρt up_7 a_8 b_10 ok_11 texts_13 i_14
    obtain ⟨I, μ, h0, hr⟩ := h.out
    refine ⟨probitylaw01_RatioTexts_I1 up_7 a_8 b_10 ok_11 texts_13 I, probitylaw01_RatioTexts_M1 μ, ⟨⟨rfl, rfl, rfl, rfl, rfl, trivial⟩, h0⟩, fun vs w hI => ?_⟩
    unfold probitylaw01_RatioTexts_I1 at hI
    split at hI
    · obtain ⟨⟨h0, h1, h2, h3, h4, _⟩, hI⟩ := hI
      cases h0; cases h1; cases h2; cases h3; cases h4
      rw [← probitylaw01_RatioTexts_e1]
      exact hr _ _ hI
    · exact hI.elim
  · exact h.elim)

theorem probitylaw01_RatioTexts_n (Kv : VW) : obAt (probitylaw01_RatioTexts_O Kv) 2 = none := by kernel_rfl

theorem probitylaw01_RatioTexts_h (Kv : VW) : ∀ k, holdsAt Tryz.prog probitylaw01_RatioTexts_E 100 (probitylaw01_RatioTexts_O Kv) k := fun k => match k with
  | 0 => probitylaw01_RatioTexts_h0 Kv
  | 1 => probitylaw01_RatioTexts_h1 Kv
  | _k + 2 => holdsAt_ge (probitylaw01_RatioTexts_n Kv) (Nat.le_add_left _ _)

theorem probitylaw01_RatioTexts_ok : Sound Tryz.prog 3 probitylaw01_RatioTexts_S := ⟨Tryz.call3, fun vs w Kv h => by
  unfold probitylaw01_RatioTexts_S at h
  split at h
  · have h := h.out
    rw [probitylaw01_RatioTexts_e] at h
    exact calls_sound (Γ := probitylaw01_RatioTexts_E) progMixed ⟨.inl probitylaw01_sanity_ok, .inl probityref01_Made_ok, .inl ratio_Text_ok, .inl ratio_Parse_ok, .inl probityref01_Mod_ok, .inl probityref01_Parse_ok, .inl probitylaw01_same_ok, trivial⟩ Tryz.func3 (code := probitylaw01_RatioTexts_C) (by kernel_rfl) (probitylaw01_RatioTexts_A Kv) Kv (holds_all (probitylaw01_RatioTexts_h Kv)) (Nat.le_of_ble_eq_true (by kernel_rfl)) h
  · exact h.elim⟩

end Go.Proofs.YtfclokkfnkieoaaGreatDoor
