/- The bodies' formulas, by program. -/
import Derived.Test.YtfclokkfnkieoaaDoorProg
import Derived.KernelRfl
import Derived.Test.YtfclokkfnkieoaaDoorPwX
import Derived.Test.YtfclokkfnkieoaaDoorRG0
import Derived.Test.YtfclokkfnkieoaaDoorRG1
import Derived.Test.YtfclokkfnkieoaaDoorRG2
set_option maxRecDepth 20000
namespace Go.Proofs.YtfclokkfnkieoaaDoor
open Go Pw
/-! probitylaw01_RatioMakes -/
def probitylaw01_RatioMakes_k3d (n_0 : Int) (up_7 : Bool) (all_8 : Addr) (i_9 : Int) (a_10 : Addr) (ok_11 : Bool) (b_12 : Addr) (also_13 : Bool) (c_14 : Addr) (fits_15 : Bool) (N0 : Int → Bool → Addr → Int → World → Prop) (K : Bool → World → Prop) (w : World) : Prop :=
  ∃ x84 : Int, w.cell? a_10 = some (Value.int .i64 x84) ∧ ∃ x85 : Int, w.cell? (a_10.add 1) = some (Value.int .i64 x85) ∧ ∃ x86 : Int, w.cell? b_12 = some (Value.int .i64 x86) ∧ ∃ x87 : Int, w.cell? (b_12.add 1) = some (Value.int .i64 x87) ∧ probitylaw01_same_sh x84 x85 ok_11 x86 x87 also_13 (fun (r89 : Bool) (w88 : World) => cnd (!r89)
    (K false w88)
    (∃ x90 : Int, w88.cell? a_10 = some (Value.int .i64 x90) ∧ ∃ x91 : Int, w88.cell? (a_10.add 1) = some (Value.int .i64 x91) ∧ ∃ x92 : Int, w88.cell? c_14 = some (Value.int .i64 x92) ∧ ∃ x93 : Int, w88.cell? (c_14.add 1) = some (Value.int .i64 x93) ∧ probitylaw01_same_sh x90 x91 ok_11 x92 x93 fits_15 (fun (r95 : Bool) (w94 : World) => cnd (!r95)
    (K false w94)
    (∃ x96 : Int, w94.cell? a_10 = some (Value.int .i64 x96) ∧ ∃ x97 : Int, w94.cell? (a_10.add 1) = some (Value.int .i64 x97) ∧ ratio_Right_sh x96 x97 (fun (r99 : Bool) (w98 : World) => cnd (!r99)
    (K false w98)
    (ratio_Of_sh n_0 (fun (r101_0 : Int) (r101_1 : Int) (w100 : World) => cnd (!(r101_0 == n_0 && (r101_1 == (1 : Int) && true)))
    (K false w100)
    (inR .i64 (i_9 + (1 : Int)) ∧ N0 n_0 up_7 all_8 (i_9 + (1 : Int)) w100)) w98)) w94)) w88)) w
structure probitylaw01_RatioMakes_k3 (n_0 : Int) (up_7 : Bool) (all_8 : Addr) (i_9 : Int) (a_10 : Addr) (ok_11 : Bool) (b_12 : Addr) (also_13 : Bool) (c_14 : Addr) (fits_15 : Bool) (N0 : Int → Bool → Addr → Int → World → Prop) (K : Bool → World → Prop) (w : World) : Prop where
  out : probitylaw01_RatioMakes_k3d n_0 up_7 all_8 i_9 a_10 ok_11 b_12 also_13 c_14 fits_15 N0 K w

def probitylaw01_RatioMakes_k2d (n_0 : Int) (up_7 : Bool) (all_8 : Addr) (i_9 : Int) (a_10 : Addr) (ok_11 : Bool) (b_12 : Addr) (also_13 : Bool) (N0 : Int → Bool → Addr → Int → World → Prop) (K : Bool → World → Prop) (w : World) : Prop :=
  let w46 : World := w.drew
  ∃ S47 : World → Prop, S47 w46 ∧ (0 ≤ i_9 ∧ i_9 < (3 : Nat)) ∧ (0 ≤ (0 : Int) ∧ (0 : Int) < (2 : Nat)) ∧ ∃ x48 : Int, (∀ w' : World, S47 w' → w'.cell? ((all_8.add (i_9.toNat * 2)).add ((0 : Int).toNat * 1)) = some (Value.int .i64 x48)) ∧ (0 ≤ i_9 ∧ i_9 < (3 : Nat)) ∧ (0 ≤ (1 : Int) ∧ (1 : Int) < (2 : Nat)) ∧ ∃ x49 : Int, (∀ w' : World, S47 w' → w'.cell? ((all_8.add (i_9.toNat * 2)).add ((1 : Int).toNat * 1)) = some (Value.int .i64 x49)) ∧ (ratio_Of_sh x48 (fun (r51_0 : Int) (r51_1 : Int) (w50 : World) => S47 w50 ∧ (ratio_Of_sh x49 (fun (r53_0 : Int) (r53_1 : Int) (w52 : World) => S47 w52 ∧ (ratio_Quo_sh r51_0 r51_1 r53_0 r53_1 (fun (r55_0 : Int) (r55_1 : Int) (r56 : Bool) (w54 : World) => S47 w54 ∧ let w57 : World := w54.alloc (Obj.cells #[(Value.int .i64 (0 : Int)), (Value.int .i64 (0 : Int))] 28)
  S47 w57 ∧ wrOk w57 (Addr.mk w54.heap.size 0 none) ∧ 
  (let w58 : World := w57.setCell (Addr.mk w54.heap.size 0 none) (Value.int .i64 r55_0)
  wrOk w58 (Addr.mk w54.heap.size 1 none) ∧ 
  (let w59 : World := w58.setCell (Addr.mk w54.heap.size 1 none) (Value.int .i64 r55_1)
  probitylaw01_RatioMakes_k3 n_0 up_7 all_8 i_9 a_10 ok_11 b_12 also_13 (Addr.mk w54.heap.size 0 none) r56 N0 K w59))) w52)
    ∧ (let w60 : World := w52.alloc (Obj.cells #[(Value.int .i64 (0 : Int)), (Value.int .i64 (0 : Int))] 28)
  S47 w60 ∧ ratio_Quo_sh r51_0 r51_1 r53_0 r53_1 (fun (r62_0 : Int) (r62_1 : Int) (r63 : Bool) (w61 : World) => S47 w61 ∧ wrOk w61 (Addr.mk w52.heap.size 0 none) ∧ 
  (let w64 : World := w61.setCell (Addr.mk w52.heap.size 0 none) (Value.int .i64 r62_0)
  wrOk w64 (Addr.mk w52.heap.size 1 none) ∧ 
  (let w65 : World := w64.setCell (Addr.mk w52.heap.size 1 none) (Value.int .i64 r62_1)
  probitylaw01_RatioMakes_k3 n_0 up_7 all_8 i_9 a_10 ok_11 b_12 also_13 (Addr.mk w52.heap.size 0 none) r63 N0 K w65))) w60)) w50)
    ∧ (let w66 : World := w50.alloc (Obj.cells #[(Value.int .i64 (0 : Int)), (Value.int .i64 (0 : Int))] 28)
  S47 w66 ∧ ratio_Of_sh x49 (fun (r68_0 : Int) (r68_1 : Int) (w67 : World) => S47 w67 ∧ ratio_Quo_sh r51_0 r51_1 r68_0 r68_1 (fun (r70_0 : Int) (r70_1 : Int) (r71 : Bool) (w69 : World) => S47 w69 ∧ wrOk w69 (Addr.mk w50.heap.size 0 none) ∧ 
  (let w72 : World := w69.setCell (Addr.mk w50.heap.size 0 none) (Value.int .i64 r70_0)
  wrOk w72 (Addr.mk w50.heap.size 1 none) ∧ 
  (let w73 : World := w72.setCell (Addr.mk w50.heap.size 1 none) (Value.int .i64 r70_1)
  probitylaw01_RatioMakes_k3 n_0 up_7 all_8 i_9 a_10 ok_11 b_12 also_13 (Addr.mk w50.heap.size 0 none) r71 N0 K w73))) w67) w66)) w46)
    ∧ (let w74 : World := w46.alloc (Obj.cells #[(Value.int .i64 (0 : Int)), (Value.int .i64 (0 : Int))] 28)
  S47 w74 ∧ ratio_Of_sh x48 (fun (r76_0 : Int) (r76_1 : Int) (w75 : World) => S47 w75 ∧ ratio_Of_sh x49 (fun (r78_0 : Int) (r78_1 : Int) (w77 : World) => S47 w77 ∧ ratio_Quo_sh r76_0 r76_1 r78_0 r78_1 (fun (r80_0 : Int) (r80_1 : Int) (r81 : Bool) (w79 : World) => S47 w79 ∧ wrOk w79 (Addr.mk w46.heap.size 0 none) ∧ 
  (let w82 : World := w79.setCell (Addr.mk w46.heap.size 0 none) (Value.int .i64 r80_0)
  wrOk w82 (Addr.mk w46.heap.size 1 none) ∧ 
  (let w83 : World := w82.setCell (Addr.mk w46.heap.size 1 none) (Value.int .i64 r80_1)
  probitylaw01_RatioMakes_k3 n_0 up_7 all_8 i_9 a_10 ok_11 b_12 also_13 (Addr.mk w46.heap.size 0 none) r81 N0 K w83))) w77) w75) w74)
structure probitylaw01_RatioMakes_k2 (n_0 : Int) (up_7 : Bool) (all_8 : Addr) (i_9 : Int) (a_10 : Addr) (ok_11 : Bool) (b_12 : Addr) (also_13 : Bool) (N0 : Int → Bool → Addr → Int → World → Prop) (K : Bool → World → Prop) (w : World) : Prop where
  out : probitylaw01_RatioMakes_k2d n_0 up_7 all_8 i_9 a_10 ok_11 b_12 also_13 N0 K w

def probitylaw01_RatioMakes_k1d (n_0 : Int) (up_7 : Bool) (all_8 : Addr) (i_9 : Int) (a_10 : Addr) (ok_11 : Bool) (N0 : Int → Bool → Addr → Int → World → Prop) (K : Bool → World → Prop) (w : World) : Prop :=
  let w30 : World := w.drew
  ∃ S31 : World → Prop, S31 w30 ∧ (0 ≤ i_9 ∧ i_9 < (3 : Nat)) ∧ (0 ≤ (0 : Int) ∧ (0 : Int) < (2 : Nat)) ∧ ∃ x32 : Int, (∀ w' : World, S31 w' → w'.cell? ((all_8.add (i_9.toNat * 2)).add ((0 : Int).toNat * 1)) = some (Value.int .i64 x32)) ∧ (0 ≤ i_9 ∧ i_9 < (3 : Nat)) ∧ (0 ≤ (1 : Int) ∧ (1 : Int) < (2 : Nat)) ∧ ∃ x33 : Int, (∀ w' : World, S31 w' → w'.cell? ((all_8.add (i_9.toNat * 2)).add ((1 : Int).toNat * 1)) = some (Value.int .i64 x33)) ∧ (probityref01_Make_sh x32 x33 (fun (r35_0 : Int) (r35_1 : Int) (r36 : Bool) (w34 : World) => S31 w34 ∧ let w37 : World := w34.alloc (Obj.cells #[(Value.int .i64 (0 : Int)), (Value.int .i64 (0 : Int))] 28)
  S31 w37 ∧ wrOk w37 (Addr.mk w34.heap.size 0 none) ∧ 
  (let w38 : World := w37.setCell (Addr.mk w34.heap.size 0 none) (Value.int .i64 r35_0)
  wrOk w38 (Addr.mk w34.heap.size 1 none) ∧ 
  (let w39 : World := w38.setCell (Addr.mk w34.heap.size 1 none) (Value.int .i64 r35_1)
  probitylaw01_RatioMakes_k2 n_0 up_7 all_8 i_9 a_10 ok_11 (Addr.mk w34.heap.size 0 none) r36 N0 K w39))) w30)
    ∧ (let w40 : World := w30.alloc (Obj.cells #[(Value.int .i64 (0 : Int)), (Value.int .i64 (0 : Int))] 28)
  S31 w40 ∧ probityref01_Make_sh x32 x33 (fun (r42_0 : Int) (r42_1 : Int) (r43 : Bool) (w41 : World) => wrOk w41 (Addr.mk w30.heap.size 0 none) ∧ 
  (let w44 : World := w41.setCell (Addr.mk w30.heap.size 0 none) (Value.int .i64 r42_0)
  wrOk w44 (Addr.mk w30.heap.size 1 none) ∧ 
  (let w45 : World := w44.setCell (Addr.mk w30.heap.size 1 none) (Value.int .i64 r42_1)
  probitylaw01_RatioMakes_k2 n_0 up_7 all_8 i_9 a_10 ok_11 (Addr.mk w30.heap.size 0 none) r43 N0 K w45))) w40)
structure probitylaw01_RatioMakes_k1 (n_0 : Int) (up_7 : Bool) (all_8 : Addr) (i_9 : Int) (a_10 : Addr) (ok_11 : Bool) (N0 : Int → Bool → Addr → Int → World → Prop) (K : Bool → World → Prop) (w : World) : Prop where
  out : probitylaw01_RatioMakes_k1d n_0 up_7 all_8 i_9 a_10 ok_11 N0 K w

def probitylaw01_RatioMakes_b0 (n_0 : Int) (up_7 : Bool) (all_8 : Addr) (i_9 : Int) (N0 : Int → Bool → Addr → Int → World → Prop)  (K : Bool → World → Prop) (w : World) : Prop :=
  cnd (decide (i_9 < (3 : Int)))
    (let w14 : World := w.drew
  ∃ S15 : World → Prop, S15 w14 ∧ (0 ≤ i_9 ∧ i_9 < (3 : Nat)) ∧ (0 ≤ (0 : Int) ∧ (0 : Int) < (2 : Nat)) ∧ ∃ x16 : Int, (∀ w' : World, S15 w' → w'.cell? ((all_8.add (i_9.toNat * 2)).add ((0 : Int).toNat * 1)) = some (Value.int .i64 x16)) ∧ (0 ≤ i_9 ∧ i_9 < (3 : Nat)) ∧ (0 ≤ (1 : Int) ∧ (1 : Int) < (2 : Nat)) ∧ ∃ x17 : Int, (∀ w' : World, S15 w' → w'.cell? ((all_8.add (i_9.toNat * 2)).add ((1 : Int).toNat * 1)) = some (Value.int .i64 x17)) ∧ (ratio_Make_sh x16 x17 (fun (r19_0 : Int) (r19_1 : Int) (r20 : Bool) (w18 : World) => S15 w18 ∧ let w21 : World := w18.alloc (Obj.cells #[(Value.int .i64 (0 : Int)), (Value.int .i64 (0 : Int))] 28)
  S15 w21 ∧ wrOk w21 (Addr.mk w18.heap.size 0 none) ∧ 
  (let w22 : World := w21.setCell (Addr.mk w18.heap.size 0 none) (Value.int .i64 r19_0)
  wrOk w22 (Addr.mk w18.heap.size 1 none) ∧ 
  (let w23 : World := w22.setCell (Addr.mk w18.heap.size 1 none) (Value.int .i64 r19_1)
  probitylaw01_RatioMakes_k1 n_0 up_7 all_8 i_9 (Addr.mk w18.heap.size 0 none) r20 N0 K w23))) w14)
    ∧ (let w24 : World := w14.alloc (Obj.cells #[(Value.int .i64 (0 : Int)), (Value.int .i64 (0 : Int))] 28)
  S15 w24 ∧ ratio_Make_sh x16 x17 (fun (r26_0 : Int) (r26_1 : Int) (r27 : Bool) (w25 : World) => wrOk w25 (Addr.mk w14.heap.size 0 none) ∧ 
  (let w28 : World := w25.setCell (Addr.mk w14.heap.size 0 none) (Value.int .i64 r26_0)
  wrOk w28 (Addr.mk w14.heap.size 1 none) ∧ 
  (let w29 : World := w28.setCell (Addr.mk w14.heap.size 1 none) (Value.int .i64 r26_1)
  probitylaw01_RatioMakes_k1 n_0 up_7 all_8 i_9 (Addr.mk w14.heap.size 0 none) r27 N0 K w29))) w24))
    (K up_7 w)
def probitylaw01_RatioMakes_l0d (n_0 : Int) (up_7 : Bool) (all_8 : Addr) (i_9 : Int)  (K : Bool → World → Prop) (w : World) : Prop :=
  ∃ (I : Int → World → Prop) (μ : Int → World → Nat), I i_9 w ∧ ∀ (i_91 : Int) (w1 : World), I i_91 w1 →
    probitylaw01_RatioMakes_b0 n_0 up_7 all_8 i_91 (fun (n_0' : Int) (up_7' : Bool) (all_8' : Addr) (i_9' : Int) (w' : World) => ((n_0' = n_0 ∧ up_7' = up_7 ∧ all_8' = all_8 ∧ True) ∧ I i_9' w') ∧ μ i_9' w' < μ i_91 w1)  K w1
structure probitylaw01_RatioMakes_l0 (n_0 : Int) (up_7 : Bool) (all_8 : Addr) (i_9 : Int)  (K : Bool → World → Prop) (w : World) : Prop where
  out : probitylaw01_RatioMakes_l0d n_0 up_7 all_8 i_9 K w

def probitylaw01_RatioMakes_sd (n_0 : Int) (d_1 : Int) (small_2_0 : Int) (small_2_1 : Int) (K : Bool → World → Prop) (w : World) : Prop :=
  let w1 : World := w.alloc (Obj.cells #[(Value.int .i16 small_2_0), (Value.int .i16 small_2_1)] 23)
  probitylaw01_sanity_sh (fun (r3 : Bool) (w2 : World) => (0 ≤ (0 : Int) ∧ (0 : Int) < (2 : Nat)) ∧ ∃ x4 : Int, w2.cell? ((Addr.mk w.heap.size 0 none).add ((0 : Int).toNat * 1)) = some (Value.int .i16 x4) ∧ inR .i64 x4 ∧ (0 ≤ (1 : Int) ∧ (1 : Int) < (2 : Nat)) ∧ ∃ x5 : Int, w2.cell? ((Addr.mk w.heap.size 0 none).add ((1 : Int).toNat * 1)) = some (Value.int .i16 x5) ∧ inR .i64 x5 ∧ (0 ≤ (1 : Int) ∧ (1 : Int) < (2 : Nat)) ∧ ∃ x6 : Int, w2.cell? ((Addr.mk w.heap.size 0 none).add ((1 : Int).toNat * 1)) = some (Value.int .i16 x6) ∧ inR .i64 x6 ∧ let w7 : World := w2.alloc (Obj.cells #[(Value.int .i64 (0 : Int)), (Value.int .i64 (0 : Int)), (Value.int .i64 (0 : Int)), (Value.int .i64 (0 : Int)), (Value.int .i64 (0 : Int)), (Value.int .i64 (0 : Int))] 26)
  wrOk w7 (Addr.mk w2.heap.size 0 none) ∧ 
  (let w8 : World := w7.setCell (Addr.mk w2.heap.size 0 none) (Value.int .i64 n_0)
  wrOk w8 (Addr.mk w2.heap.size 1 none) ∧ 
  (let w9 : World := w8.setCell (Addr.mk w2.heap.size 1 none) (Value.int .i64 d_1)
  wrOk w9 (Addr.mk w2.heap.size 2 none) ∧ 
  (let w10 : World := w9.setCell (Addr.mk w2.heap.size 2 none) (Value.int .i64 x4)
  wrOk w10 (Addr.mk w2.heap.size 3 none) ∧ 
  (let w11 : World := w10.setCell (Addr.mk w2.heap.size 3 none) (Value.int .i64 x5)
  wrOk w11 (Addr.mk w2.heap.size 4 none) ∧ 
  (let w12 : World := w11.setCell (Addr.mk w2.heap.size 4 none) (Value.int .i64 n_0)
  wrOk w12 (Addr.mk w2.heap.size 5 none) ∧ 
  (let w13 : World := w12.setCell (Addr.mk w2.heap.size 5 none) (Value.int .i64 x6)
  probitylaw01_RatioMakes_l0 n_0 r3 (Addr.mk w2.heap.size 0 none) (0 : Int) K w13))))))) w1

structure probitylaw01_RatioMakes_sh (n_0 : Int) (d_1 : Int) (small_2_0 : Int) (small_2_1 : Int) (K : Bool → World → Prop) (w : World) : Prop where
  out : probitylaw01_RatioMakes_sd n_0 d_1 small_2_0 small_2_1 K w

def probitylaw01_RatioMakes_P0 (Kv : VW) (ρ : Rho) (vs : List Value) (w : World) : Prop :=
  match ρ, vs with
  | _, [.int .i64 n_0, .bool up_7, .pointer (some all_8), .int .i64 i_9] => probitylaw01_RatioMakes_l0 n_0 up_7 all_8 i_9  (fun (r0 : Bool) (w' : World) => Kv (Value.bool r0) w') w
  | _, _ => False

def probitylaw01_RatioMakes_P1 (Kv : VW) (ρ : Rho) (vs : List Value) (w : World) : Prop :=
  match ρ, vs with
  | N0 :: _, [.int .i64 n_0, .bool up_7, .pointer (some all_8), .int .i64 i_9, .pointer (some a_10), .bool ok_11] => probitylaw01_RatioMakes_k1 n_0 up_7 all_8 i_9 a_10 ok_11 (fun (n_0' : Int) (up_7' : Bool) (all_8' : Addr) (i_9' : Int) (w' : World) => N0 [(Value.int .i64 n_0'), (Value.bool up_7'), (Value.pointer (some all_8')), (Value.int .i64 i_9')] w') (fun (r0 : Bool) (w' : World) => Kv (Value.bool r0) w') w
  | _, _ => False

def probitylaw01_RatioMakes_P2 (Kv : VW) (ρ : Rho) (vs : List Value) (w : World) : Prop :=
  match ρ, vs with
  | N0 :: _, [.int .i64 n_0, .bool up_7, .pointer (some all_8), .int .i64 i_9, .pointer (some a_10), .bool ok_11, .pointer (some b_12), .bool also_13] => probitylaw01_RatioMakes_k2 n_0 up_7 all_8 i_9 a_10 ok_11 b_12 also_13 (fun (n_0' : Int) (up_7' : Bool) (all_8' : Addr) (i_9' : Int) (w' : World) => N0 [(Value.int .i64 n_0'), (Value.bool up_7'), (Value.pointer (some all_8')), (Value.int .i64 i_9')] w') (fun (r0 : Bool) (w' : World) => Kv (Value.bool r0) w') w
  | _, _ => False

def probitylaw01_RatioMakes_P3 (Kv : VW) (ρ : Rho) (vs : List Value) (w : World) : Prop :=
  match ρ, vs with
  | N0 :: _, [.int .i64 n_0, .bool up_7, .pointer (some all_8), .int .i64 i_9, .pointer (some a_10), .bool ok_11, .pointer (some b_12), .bool also_13, .pointer (some c_14), .bool fits_15] => probitylaw01_RatioMakes_k3 n_0 up_7 all_8 i_9 a_10 ok_11 b_12 also_13 c_14 fits_15 (fun (n_0' : Int) (up_7' : Bool) (all_8' : Addr) (i_9' : Int) (w' : World) => N0 [(Value.int .i64 n_0'), (Value.bool up_7'), (Value.pointer (some all_8')), (Value.int .i64 i_9')] w') (fun (r0 : Bool) (w' : World) => Kv (Value.bool r0) w') w
  | _, _ => False

noncomputable def probitylaw01_RatioMakes_S : Pw.Spec := fun vs w Kv =>
  match vs with
  | [.int .i64 n_0, .int .i64 d_1, .agg ⟨[.int .i16 small_2_0, .int .i16 small_2_1]⟩] => probitylaw01_RatioMakes_sh n_0 d_1 small_2_0 small_2_1 (fun (r0 : Bool) (w' : World) => Kv (Value.bool r0) w') w
  | _ => False

noncomputable def probitylaw01_RatioMakes_E : Pw.Env := [(8, probitylaw01_sanity_S), (9, ratio_Make_S), (10, probityref01_Make_S), (11, ratio_Quo_S), (12, ratio_Of_S), (13, probitylaw01_same_S), (14, ratio_Right_S)]

noncomputable def probitylaw01_RatioMakes_C : Code := (Tryd.f3.body).getD .skip

noncomputable def probitylaw01_RatioMakes_A (Kv : VW) : Pw.A :=
  (A.seq (A.reg (RA.run (RA.run RA.done)))
   (A.seq (A.reg (RA.run (RA.run RA.done)))
   (A.seq (A.reg (RA.run (RA.run (RA.run (RA.run (RA.run (RA.run (RA.run (RA.run (RA.run (RA.run (RA.run (RA.run (RA.run (RA.run (RA.run (RA.run (RA.run (RA.run RA.done)))))))))))))))))))
   (A.seq (A.seq (A.reg (RA.run RA.done))
   (A.blk (A.loop [0, 7, 8, 9] (probitylaw01_RatioMakes_P0 Kv) (A.seq (A.seq (A.reg (RA.run (RA.run RA.done)))
   (A.cond A.leaf
   A.leaf))
   (A.seq (A.blk (A.seq (A.drw (DA.pur 0 (DA.pur 1 (DA.pur 2 (DA.pur 3 (DA.pur 4 (DA.pur 5 (DA.pur 6 (DA.pur 7 (DA.two 8 (DA.pur 9 (DA.pur 10 (DA.pur 11 (DA.eff 12 (DA.eff 13 (DA.pur 14 DA.done)))))) 12 (DA.eff 8 (DA.pur 9 (DA.pur 10 (DA.pur 11 (DA.eff 13 (DA.pur 14 DA.done))))))))))))))))
   (A.cut [0, 7, 8, 9, 10, 11] (probitylaw01_RatioMakes_P1 Kv) (A.seq (A.drw (DA.pur 0 (DA.pur 1 (DA.pur 2 (DA.pur 3 (DA.pur 4 (DA.pur 5 (DA.pur 6 (DA.pur 7 (DA.two 8 (DA.pur 9 (DA.pur 10 (DA.pur 11 (DA.eff 12 (DA.eff 13 (DA.pur 14 DA.done)))))) 12 (DA.eff 8 (DA.pur 9 (DA.pur 10 (DA.pur 11 (DA.eff 13 (DA.pur 14 DA.done))))))))))))))))
   (A.cut [0, 7, 8, 9, 10, 11, 12, 13] (probitylaw01_RatioMakes_P2 Kv) (A.seq (A.drw (DA.pur 0 (DA.pur 1 (DA.pur 2 (DA.pur 3 (DA.pur 5 (DA.pur 6 (DA.pur 7 (DA.pur 8 (DA.two 4 (DA.two 9 (DA.two 10 (DA.pur 11 (DA.pur 12 (DA.pur 13 (DA.eff 14 (DA.eff 15 (DA.pur 16 DA.done)))))) 14 (DA.eff 10 (DA.pur 11 (DA.pur 12 (DA.pur 13 (DA.eff 15 (DA.pur 16 DA.done))))))) 14 (DA.eff 9 (DA.eff 10 (DA.pur 11 (DA.pur 12 (DA.pur 13 (DA.eff 15 (DA.pur 16 DA.done)))))))) 14 (DA.eff 4 (DA.eff 9 (DA.eff 10 (DA.pur 11 (DA.pur 12 (DA.pur 13 (DA.eff 15 (DA.pur 16 DA.done))))))))))))))))))
   (A.cut [0, 7, 8, 9, 10, 11, 12, 13, 14, 15] (probitylaw01_RatioMakes_P3 Kv) (A.seq (A.reg (RA.run (RA.run (RA.run (RA.run (RA.run (RA.run (RA.run (RA.spl 81 (RA.skp (RA.skp (RA.skp (RA.skp (RA.skp (RA.skp (RA.run (RA.run (RA.skp (RA.skp (RA.skp (RA.run (RA.run (RA.skp (RA.skp (RA.skp (RA.skp (RA.skp (RA.run RA.done))))))))))))))))))) (RA.run (RA.run (RA.run (RA.run (RA.run (RA.run (RA.run (RA.run (RA.spl 89 (RA.skp (RA.skp (RA.skp (RA.run (RA.run (RA.skp (RA.skp (RA.skp (RA.skp (RA.skp (RA.run RA.done))))))))))) (RA.run (RA.run (RA.run (RA.run (RA.run (RA.spl 94 (RA.skp (RA.skp (RA.skp (RA.skp (RA.skp (RA.run RA.done)))))) (RA.run (RA.run (RA.run (RA.run (RA.run (RA.run RA.done))))))))))))))))))))))))))))))
   (A.cond (A.seq (A.reg (RA.run RA.done))
   A.leaf)
   A.leaf)))))))))
   (A.reg (RA.run (RA.run (RA.run RA.done)))))))))
   (A.seq (A.reg (RA.run (RA.run RA.done)))
   A.leaf)))))

noncomputable def probitylaw01_RatioMakes_O (Kv : VW) : List Ob := (obs Tryd.prog probitylaw01_RatioMakes_E 102 (probitylaw01_RatioMakes_A Kv) probitylaw01_RatioMakes_C (fun _ => retQ Tryd.prog Tryd.f3.results Kv))

theorem probitylaw01_RatioMakes_e (Kv : VW) (n_0 : Int) (d_1 : Int) (small_2_0 : Int) (small_2_1 : Int) (w : World) : probitylaw01_RatioMakes_sd n_0 d_1 small_2_0 small_2_1 (fun (r0 : Bool) (w' : World) => Kv (Value.bool r0) w') w = W Tryd.prog probitylaw01_RatioMakes_E 102 (probitylaw01_RatioMakes_A Kv) probitylaw01_RatioMakes_C [] (retQ Tryd.prog Tryd.f3.results Kv) [] (startS [(Value.int .i64 n_0), (Value.int .i64 d_1), (Value.agg #[(Value.int .i16 small_2_0), (Value.int .i16 small_2_1)])]) w := by kernel_rfl

theorem probitylaw01_RatioMakes_e0 (Kv : VW) (N0 : List Value → World → Prop) (ρ : Rho) (n_0 : Int) (up_7 : Bool) (all_8 : Addr) (i_9 : Int) (w : World) : probitylaw01_RatioMakes_b0 n_0 up_7 all_8 i_9 (fun (n_0' : Int) (up_7' : Bool) (all_8' : Addr) (i_9' : Int) (w' : World) => N0 [(Value.int .i64 n_0'), (Value.bool up_7'), (Value.pointer (some all_8')), (Value.int .i64 i_9')] w')  (fun (r0 : Bool) (w' : World) => Kv (Value.bool r0) w') w = goalAt Tryd.prog probitylaw01_RatioMakes_E 102 (probitylaw01_RatioMakes_O Kv) 0 (N0 :: ρ) [(Value.int .i64 n_0), (Value.bool up_7), (Value.pointer (some all_8)), (Value.int .i64 i_9)] w := by kernel_rfl

theorem probitylaw01_RatioMakes_q0 (Kv : VW) (ρ : Rho) (vs : List Value) (w : World) : labAt (probitylaw01_RatioMakes_O Kv) 0 ρ vs w = probitylaw01_RatioMakes_P0 Kv ρ vs w := by kernel_rfl

def probitylaw01_RatioMakes_I0 (n_00 : Int) (up_70 : Bool) (all_80 : Addr) (I : Int → World → Prop) (vs : List Value) (w : World) : Prop :=
  match vs with
  | [.int .i64 n_0, .bool up_7, .pointer (some all_8), .int .i64 i_9] => (n_0 = n_00 ∧ up_7 = up_70 ∧ all_8 = all_80 ∧ True) ∧ I i_9 w
  | _ => False

def probitylaw01_RatioMakes_M0 (μ : Int → World → Nat) (vs : List Value) (w : World) : Nat :=
  match vs with
  | [.int .i64 _n_0, .bool _up_7, .pointer (some _all_8), .int .i64 i_9] => μ i_9 w
  | _ => 0

theorem probitylaw01_RatioMakes_h0 (Kv : VW) : holdsAt Tryd.prog probitylaw01_RatioMakes_E 102 (probitylaw01_RatioMakes_O Kv) 0 := holdsAt_loop (by kernel_rfl) (fun ρ vs w h => by
  rw [probitylaw01_RatioMakes_q0] at h
  unfold probitylaw01_RatioMakes_P0 at h
  split at h
  · rename_i ρt n_0 up_7 all_8 i_9
    obtain ⟨I, μ, h0, hr⟩ := h.out
    refine ⟨probitylaw01_RatioMakes_I0 n_0 up_7 all_8 I, probitylaw01_RatioMakes_M0 μ, ⟨⟨rfl, rfl, rfl, trivial⟩, h0⟩, fun vs w hI => ?_⟩
    unfold probitylaw01_RatioMakes_I0 at hI
    split at hI
    · obtain ⟨⟨h0, h1, h2, _⟩, hI⟩ := hI
      cases h0; cases h1; cases h2
      rw [← probitylaw01_RatioMakes_e0]
      exact hr _ _ hI
    · exact hI.elim
  · exact h.elim)

theorem probitylaw01_RatioMakes_e1 (Kv : VW) (N0 : List Value → World → Prop) (ρ : Rho) (n_0 : Int) (up_7 : Bool) (all_8 : Addr) (i_9 : Int) (a_10 : Addr) (ok_11 : Bool) (w : World) : probitylaw01_RatioMakes_k1d n_0 up_7 all_8 i_9 a_10 ok_11 (fun (n_0' : Int) (up_7' : Bool) (all_8' : Addr) (i_9' : Int) (w' : World) => N0 [(Value.int .i64 n_0'), (Value.bool up_7'), (Value.pointer (some all_8')), (Value.int .i64 i_9')] w') (fun (r0 : Bool) (w' : World) => Kv (Value.bool r0) w') w = goalAt Tryd.prog probitylaw01_RatioMakes_E 102 (probitylaw01_RatioMakes_O Kv) 1 (N0 :: ρ) [(Value.int .i64 n_0), (Value.bool up_7), (Value.pointer (some all_8)), (Value.int .i64 i_9), (Value.pointer (some a_10)), (Value.bool ok_11)] w := by kernel_rfl

theorem probitylaw01_RatioMakes_q1 (Kv : VW) (ρ : Rho) (vs : List Value) (w : World) : labAt (probitylaw01_RatioMakes_O Kv) 1 ρ vs w = probitylaw01_RatioMakes_P1 Kv ρ vs w := by kernel_rfl

theorem probitylaw01_RatioMakes_h1 (Kv : VW) : holdsAt Tryd.prog probitylaw01_RatioMakes_E 102 (probitylaw01_RatioMakes_O Kv) 1 := holdsAt_cut (.inl (by kernel_rfl)) (fun ρ vs w h => by
  rw [probitylaw01_RatioMakes_q1] at h
  unfold probitylaw01_RatioMakes_P1 at h
  split at h
  · rw [← probitylaw01_RatioMakes_e1]; exact h.out
  · exact h.elim)

theorem probitylaw01_RatioMakes_e2 (Kv : VW) (N0 : List Value → World → Prop) (ρ : Rho) (n_0 : Int) (up_7 : Bool) (all_8 : Addr) (i_9 : Int) (a_10 : Addr) (ok_11 : Bool) (b_12 : Addr) (also_13 : Bool) (w : World) : probitylaw01_RatioMakes_k2d n_0 up_7 all_8 i_9 a_10 ok_11 b_12 also_13 (fun (n_0' : Int) (up_7' : Bool) (all_8' : Addr) (i_9' : Int) (w' : World) => N0 [(Value.int .i64 n_0'), (Value.bool up_7'), (Value.pointer (some all_8')), (Value.int .i64 i_9')] w') (fun (r0 : Bool) (w' : World) => Kv (Value.bool r0) w') w = goalAt Tryd.prog probitylaw01_RatioMakes_E 102 (probitylaw01_RatioMakes_O Kv) 2 (N0 :: ρ) [(Value.int .i64 n_0), (Value.bool up_7), (Value.pointer (some all_8)), (Value.int .i64 i_9), (Value.pointer (some a_10)), (Value.bool ok_11), (Value.pointer (some b_12)), (Value.bool also_13)] w := by kernel_rfl

theorem probitylaw01_RatioMakes_q2 (Kv : VW) (ρ : Rho) (vs : List Value) (w : World) : labAt (probitylaw01_RatioMakes_O Kv) 2 ρ vs w = probitylaw01_RatioMakes_P2 Kv ρ vs w := by kernel_rfl

theorem probitylaw01_RatioMakes_h2 (Kv : VW) : holdsAt Tryd.prog probitylaw01_RatioMakes_E 102 (probitylaw01_RatioMakes_O Kv) 2 := holdsAt_cut (.inl (by kernel_rfl)) (fun ρ vs w h => by
  rw [probitylaw01_RatioMakes_q2] at h
  unfold probitylaw01_RatioMakes_P2 at h
  split at h
  · rw [← probitylaw01_RatioMakes_e2]; exact h.out
  · exact h.elim)

theorem probitylaw01_RatioMakes_e3 (Kv : VW) (N0 : List Value → World → Prop) (ρ : Rho) (n_0 : Int) (up_7 : Bool) (all_8 : Addr) (i_9 : Int) (a_10 : Addr) (ok_11 : Bool) (b_12 : Addr) (also_13 : Bool) (c_14 : Addr) (fits_15 : Bool) (w : World) : probitylaw01_RatioMakes_k3d n_0 up_7 all_8 i_9 a_10 ok_11 b_12 also_13 c_14 fits_15 (fun (n_0' : Int) (up_7' : Bool) (all_8' : Addr) (i_9' : Int) (w' : World) => N0 [(Value.int .i64 n_0'), (Value.bool up_7'), (Value.pointer (some all_8')), (Value.int .i64 i_9')] w') (fun (r0 : Bool) (w' : World) => Kv (Value.bool r0) w') w = goalAt Tryd.prog probitylaw01_RatioMakes_E 102 (probitylaw01_RatioMakes_O Kv) 3 (N0 :: ρ) [(Value.int .i64 n_0), (Value.bool up_7), (Value.pointer (some all_8)), (Value.int .i64 i_9), (Value.pointer (some a_10)), (Value.bool ok_11), (Value.pointer (some b_12)), (Value.bool also_13), (Value.pointer (some c_14)), (Value.bool fits_15)] w := by kernel_rfl

theorem probitylaw01_RatioMakes_q3 (Kv : VW) (ρ : Rho) (vs : List Value) (w : World) : labAt (probitylaw01_RatioMakes_O Kv) 3 ρ vs w = probitylaw01_RatioMakes_P3 Kv ρ vs w := by kernel_rfl

theorem probitylaw01_RatioMakes_h3 (Kv : VW) : holdsAt Tryd.prog probitylaw01_RatioMakes_E 102 (probitylaw01_RatioMakes_O Kv) 3 := holdsAt_cut (.inl (by kernel_rfl)) (fun ρ vs w h => by
  rw [probitylaw01_RatioMakes_q3] at h
  unfold probitylaw01_RatioMakes_P3 at h
  split at h
  · rw [← probitylaw01_RatioMakes_e3]; exact h.out
  · exact h.elim)

theorem probitylaw01_RatioMakes_n (Kv : VW) : obAt (probitylaw01_RatioMakes_O Kv) 4 = none := by kernel_rfl

theorem probitylaw01_RatioMakes_h (Kv : VW) : ∀ k, holdsAt Tryd.prog probitylaw01_RatioMakes_E 102 (probitylaw01_RatioMakes_O Kv) k := fun k => match k with
  | 0 => probitylaw01_RatioMakes_h0 Kv
  | 1 => probitylaw01_RatioMakes_h1 Kv
  | 2 => probitylaw01_RatioMakes_h2 Kv
  | 3 => probitylaw01_RatioMakes_h3 Kv
  | _k + 4 => holdsAt_ge (probitylaw01_RatioMakes_n Kv) (Nat.le_add_left _ _)

theorem probitylaw01_RatioMakes_ok : Sound Tryd.prog 3 probitylaw01_RatioMakes_S := ⟨Tryd.call3, fun vs w Kv h => by
  unfold probitylaw01_RatioMakes_S at h
  split at h
  · have h := h.out
    rw [probitylaw01_RatioMakes_e] at h
    exact calls_sound (Γ := probitylaw01_RatioMakes_E) progMixed ⟨.inl probitylaw01_sanity_ok, .inl ratio_Make_ok, .inl probityref01_Make_ok, .inl ratio_Quo_ok, .inl ratio_Of_ok, .inl probitylaw01_same_ok, .inl ratio_Right_ok, trivial⟩ Tryd.func3 (code := probitylaw01_RatioMakes_C) (by kernel_rfl) (probitylaw01_RatioMakes_A Kv) Kv (holds_all (probitylaw01_RatioMakes_h Kv)) (Nat.le_of_ble_eq_true (by kernel_rfl)) h
  · exact h.elim⟩

/-! probitylaw01_RatioField -/
def probitylaw01_RatioField_k1d (up_7 : Bool) (a_8 : Addr) (b_9 : Addr) (c_10 : Addr) (ab_11 : Addr) (one_12 : Bool)  (K : Bool → World → Prop) (w : World) : Prop :=
  ∃ x111 : Int, w.cell? ab_11 = some (Value.int .i64 x111) ∧ ∃ x112 : Int, w.cell? (ab_11.add 1) = some (Value.int .i64 x112) ∧ ∃ x113 : Int, w.cell? c_10 = some (Value.int .i64 x113) ∧ ∃ x114 : Int, w.cell? (c_10.add 1) = some (Value.int .i64 x114) ∧ ratio_Mul_sh x111 x112 x113 x114 (fun (r116_0 : Int) (r116_1 : Int) (r117 : Bool) (w115 : World) => let w118 : World := w115.alloc (Obj.cells #[(Value.int .i64 (0 : Int)), (Value.int .i64 (0 : Int))] 28)
  wrOk w118 (Addr.mk w115.heap.size 0 none) ∧ 
  (let w119 : World := w118.setCell (Addr.mk w115.heap.size 0 none) (Value.int .i64 r116_0)
  wrOk w119 (Addr.mk w115.heap.size 1 none) ∧ 
  (let w120 : World := w119.setCell (Addr.mk w115.heap.size 1 none) (Value.int .i64 r116_1)
  ∃ x121 : Int, w120.cell? a_8 = some (Value.int .i64 x121) ∧ ∃ x122 : Int, w120.cell? (a_8.add 1) = some (Value.int .i64 x122) ∧ ∃ x123 : Int, w120.cell? c_10 = some (Value.int .i64 x123) ∧ ∃ x124 : Int, w120.cell? (c_10.add 1) = some (Value.int .i64 x124) ∧ ratio_Mul_sh x121 x122 x123 x124 (fun (r126_0 : Int) (r126_1 : Int) (r127 : Bool) (w125 : World) => let w128 : World := w125.alloc (Obj.cells #[(Value.int .i64 (0 : Int)), (Value.int .i64 (0 : Int))] 28)
  wrOk w128 (Addr.mk w125.heap.size 0 none) ∧ 
  (let w129 : World := w128.setCell (Addr.mk w125.heap.size 0 none) (Value.int .i64 r126_0)
  wrOk w129 (Addr.mk w125.heap.size 1 none) ∧ 
  (let w130 : World := w129.setCell (Addr.mk w125.heap.size 1 none) (Value.int .i64 r126_1)
  ∃ x131 : Int, w130.cell? b_9 = some (Value.int .i64 x131) ∧ ∃ x132 : Int, w130.cell? (b_9.add 1) = some (Value.int .i64 x132) ∧ ∃ x133 : Int, w130.cell? c_10 = some (Value.int .i64 x133) ∧ ∃ x134 : Int, w130.cell? (c_10.add 1) = some (Value.int .i64 x134) ∧ ratio_Mul_sh x131 x132 x133 x134 (fun (r136_0 : Int) (r136_1 : Int) (r137 : Bool) (w135 : World) => let w138 : World := w135.alloc (Obj.cells #[(Value.int .i64 (0 : Int)), (Value.int .i64 (0 : Int))] 28)
  wrOk w138 (Addr.mk w135.heap.size 0 none) ∧ 
  (let w139 : World := w138.setCell (Addr.mk w135.heap.size 0 none) (Value.int .i64 r136_0)
  wrOk w139 (Addr.mk w135.heap.size 1 none) ∧ 
  (let w140 : World := w139.setCell (Addr.mk w135.heap.size 1 none) (Value.int .i64 r136_1)
  ∃ x141 : Int, w140.cell? (Addr.mk w125.heap.size 0 none) = some (Value.int .i64 x141) ∧ ∃ x142 : Int, w140.cell? (Addr.mk w125.heap.size 1 none) = some (Value.int .i64 x142) ∧ ∃ x143 : Int, w140.cell? (Addr.mk w135.heap.size 0 none) = some (Value.int .i64 x143) ∧ ∃ x144 : Int, w140.cell? (Addr.mk w135.heap.size 1 none) = some (Value.int .i64 x144) ∧ ratio_Add_sh x141 x142 x143 x144 (fun (r146_0 : Int) (r146_1 : Int) (r147 : Bool) (w145 : World) => let w148 : World := w145.alloc (Obj.cells #[(Value.int .i64 (0 : Int)), (Value.int .i64 (0 : Int))] 28)
  wrOk w148 (Addr.mk w145.heap.size 0 none) ∧ 
  (let w149 : World := w148.setCell (Addr.mk w145.heap.size 0 none) (Value.int .i64 r146_0)
  wrOk w149 (Addr.mk w145.heap.size 1 none) ∧ 
  (let w150 : World := w149.setCell (Addr.mk w145.heap.size 1 none) (Value.int .i64 r146_1)
  cnd up_7
    (cnd (!one_12)
    (K true w150)
    (cnd (!r117)
    (K true w150)
    (cnd (!r127)
    (K true w150)
    (cnd (!r137)
    (K true w150)
    (cnd (!r147)
    (K true w150)
    (∃ x151 : Int, w150.cell? (Addr.mk w115.heap.size 0 none) = some (Value.int .i64 x151) ∧ ∃ x152 : Int, w150.cell? (Addr.mk w115.heap.size 1 none) = some (Value.int .i64 x152) ∧ ∃ x153 : Int, w150.cell? (Addr.mk w145.heap.size 0 none) = some (Value.int .i64 x153) ∧ ∃ x154 : Int, w150.cell? (Addr.mk w145.heap.size 1 none) = some (Value.int .i64 x154) ∧ K (x151 == x153 && (x152 == x154 && true)) w150))))))
    (K false w150)))) w140))) w130))) w120))) w
structure probitylaw01_RatioField_k1 (up_7 : Bool) (a_8 : Addr) (b_9 : Addr) (c_10 : Addr) (ab_11 : Addr) (one_12 : Bool)  (K : Bool → World → Prop) (w : World) : Prop where
  out : probitylaw01_RatioField_k1d up_7 a_8 b_9 c_10 ab_11 one_12 K w

def probitylaw01_RatioField_k0d (up_7 : Bool) (a_8 : Addr) (b_9 : Addr) (c_10 : Addr) (ab_11 : Addr) (one_12 : Bool) (m_15 : Addr) (three_16 : Bool)  (K : Bool → World → Prop) (w : World) : Prop :=
  ∃ x96 : Int, w.cell? m_15 = some (Value.int .i64 x96) ∧ ∃ x97 : Int, w.cell? (m_15.add 1) = some (Value.int .i64 x97) ∧ ∃ x98 : Int, w.cell? b_9 = some (Value.int .i64 x98) ∧ ∃ x99 : Int, w.cell? (b_9.add 1) = some (Value.int .i64 x99) ∧ ratio_Quo_sh x96 x97 x98 x99 (fun (r101_0 : Int) (r101_1 : Int) (r102 : Bool) (w100 : World) => let w103 : World := w100.alloc (Obj.cells #[(Value.int .i64 (0 : Int)), (Value.int .i64 (0 : Int))] 28)
  wrOk w103 (Addr.mk w100.heap.size 0 none) ∧ 
  (let w104 : World := w103.setCell (Addr.mk w100.heap.size 0 none) (Value.int .i64 r101_0)
  wrOk w104 (Addr.mk w100.heap.size 1 none) ∧ 
  (let w105 : World := w104.setCell (Addr.mk w100.heap.size 1 none) (Value.int .i64 r101_1)
  cnd three_16
    (∃ x106 : Int, w105.cell? b_9 = some (Value.int .i64 x106) ∧ cnd (x106 != (0 : Int))
    (cnd (!r102)
    (K false w105)
    (∃ x107 : Int, w105.cell? (Addr.mk w100.heap.size 0 none) = some (Value.int .i64 x107) ∧ ∃ x108 : Int, w105.cell? (Addr.mk w100.heap.size 1 none) = some (Value.int .i64 x108) ∧ ∃ x109 : Int, w105.cell? a_8 = some (Value.int .i64 x109) ∧ ∃ x110 : Int, w105.cell? (a_8.add 1) = some (Value.int .i64 x110) ∧ cnd (!(x107 == x109 && (x108 == x110 && true)))
    (K false w105)
    (probitylaw01_RatioField_k1 up_7 a_8 b_9 c_10 ab_11 one_12 K w105)))
    (probitylaw01_RatioField_k1 up_7 a_8 b_9 c_10 ab_11 one_12 K w105))
    (probitylaw01_RatioField_k1 up_7 a_8 b_9 c_10 ab_11 one_12 K w105)))) w
structure probitylaw01_RatioField_k0 (up_7 : Bool) (a_8 : Addr) (b_9 : Addr) (c_10 : Addr) (ab_11 : Addr) (one_12 : Bool) (m_15 : Addr) (three_16 : Bool)  (K : Bool → World → Prop) (w : World) : Prop where
  out : probitylaw01_RatioField_k0d up_7 a_8 b_9 c_10 ab_11 one_12 m_15 three_16 K w

def probitylaw01_RatioField_sd (p_0_0 : Int) (p_0_1 : Int) (p_0_2 : Int) (q_1_0 : Int) (q_1_1 : Int) (q_1_2 : Int) (r_2_0 : Int) (r_2_1 : Int) (r_2_2 : Int) (K : Bool → World → Prop) (w : World) : Prop :=
  let w1 : World := w.alloc (Obj.cells #[(Value.int .i64 p_0_0), (Value.int .i64 p_0_1), (Value.int .i64 p_0_2)] 36)
  let w2 : World := w1.alloc (Obj.cells #[(Value.int .i64 q_1_0), (Value.int .i64 q_1_1), (Value.int .i64 q_1_2)] 36)
  let w3 : World := w2.alloc (Obj.cells #[(Value.int .i64 r_2_0), (Value.int .i64 r_2_1), (Value.int .i64 r_2_2)] 36)
  probitylaw01_sanity_sh (fun (r5 : Bool) (w4 : World) => ∃ x6 : Int, w4.cell? (Addr.mk w.heap.size 0 none) = some (Value.int .i64 x6) ∧ ∃ x7 : Int, w4.cell? (Addr.mk w.heap.size 1 none) = some (Value.int .i64 x7) ∧ ∃ x8 : Int, w4.cell? (Addr.mk w.heap.size 2 none) = some (Value.int .i64 x8) ∧ probityref01_Made_sh x6 x7 x8 (fun (r10_0 : Int) (r10_1 : Int) (w9 : World) => let w11 : World := w9.alloc (Obj.cells #[(Value.int .i64 (0 : Int)), (Value.int .i64 (0 : Int))] 28)
  wrOk w11 (Addr.mk w9.heap.size 0 none) ∧ 
  (let w12 : World := w11.setCell (Addr.mk w9.heap.size 0 none) (Value.int .i64 r10_0)
  wrOk w12 (Addr.mk w9.heap.size 1 none) ∧ 
  (let w13 : World := w12.setCell (Addr.mk w9.heap.size 1 none) (Value.int .i64 r10_1)
  ∃ x14 : Int, w13.cell? (Addr.mk w1.heap.size 0 none) = some (Value.int .i64 x14) ∧ ∃ x15 : Int, w13.cell? (Addr.mk w1.heap.size 1 none) = some (Value.int .i64 x15) ∧ ∃ x16 : Int, w13.cell? (Addr.mk w1.heap.size 2 none) = some (Value.int .i64 x16) ∧ probityref01_Made_sh x14 x15 x16 (fun (r18_0 : Int) (r18_1 : Int) (w17 : World) => let w19 : World := w17.alloc (Obj.cells #[(Value.int .i64 (0 : Int)), (Value.int .i64 (0 : Int))] 28)
  wrOk w19 (Addr.mk w17.heap.size 0 none) ∧ 
  (let w20 : World := w19.setCell (Addr.mk w17.heap.size 0 none) (Value.int .i64 r18_0)
  wrOk w20 (Addr.mk w17.heap.size 1 none) ∧ 
  (let w21 : World := w20.setCell (Addr.mk w17.heap.size 1 none) (Value.int .i64 r18_1)
  ∃ x22 : Int, w21.cell? (Addr.mk w2.heap.size 0 none) = some (Value.int .i64 x22) ∧ ∃ x23 : Int, w21.cell? (Addr.mk w2.heap.size 1 none) = some (Value.int .i64 x23) ∧ ∃ x24 : Int, w21.cell? (Addr.mk w2.heap.size 2 none) = some (Value.int .i64 x24) ∧ probityref01_Made_sh x22 x23 x24 (fun (r26_0 : Int) (r26_1 : Int) (w25 : World) => let w27 : World := w25.alloc (Obj.cells #[(Value.int .i64 (0 : Int)), (Value.int .i64 (0 : Int))] 28)
  wrOk w27 (Addr.mk w25.heap.size 0 none) ∧ 
  (let w28 : World := w27.setCell (Addr.mk w25.heap.size 0 none) (Value.int .i64 r26_0)
  wrOk w28 (Addr.mk w25.heap.size 1 none) ∧ 
  (let w29 : World := w28.setCell (Addr.mk w25.heap.size 1 none) (Value.int .i64 r26_1)
  ∃ x30 : Int, w29.cell? (Addr.mk w9.heap.size 0 none) = some (Value.int .i64 x30) ∧ ∃ x31 : Int, w29.cell? (Addr.mk w9.heap.size 1 none) = some (Value.int .i64 x31) ∧ ∃ x32 : Int, w29.cell? (Addr.mk w17.heap.size 0 none) = some (Value.int .i64 x32) ∧ ∃ x33 : Int, w29.cell? (Addr.mk w17.heap.size 1 none) = some (Value.int .i64 x33) ∧ ratio_Add_sh x30 x31 x32 x33 (fun (r35_0 : Int) (r35_1 : Int) (r36 : Bool) (w34 : World) => let w37 : World := w34.alloc (Obj.cells #[(Value.int .i64 (0 : Int)), (Value.int .i64 (0 : Int))] 28)
  wrOk w37 (Addr.mk w34.heap.size 0 none) ∧ 
  (let w38 : World := w37.setCell (Addr.mk w34.heap.size 0 none) (Value.int .i64 r35_0)
  wrOk w38 (Addr.mk w34.heap.size 1 none) ∧ 
  (let w39 : World := w38.setCell (Addr.mk w34.heap.size 1 none) (Value.int .i64 r35_1)
  ∃ x40 : Int, w39.cell? (Addr.mk w17.heap.size 0 none) = some (Value.int .i64 x40) ∧ ∃ x41 : Int, w39.cell? (Addr.mk w17.heap.size 1 none) = some (Value.int .i64 x41) ∧ ∃ x42 : Int, w39.cell? (Addr.mk w9.heap.size 0 none) = some (Value.int .i64 x42) ∧ ∃ x43 : Int, w39.cell? (Addr.mk w9.heap.size 1 none) = some (Value.int .i64 x43) ∧ ratio_Add_sh x40 x41 x42 x43 (fun (r45_0 : Int) (r45_1 : Int) (r46 : Bool) (w44 : World) => let w47 : World := w44.alloc (Obj.cells #[(Value.int .i64 (0 : Int)), (Value.int .i64 (0 : Int))] 28)
  wrOk w47 (Addr.mk w44.heap.size 0 none) ∧ 
  (let w48 : World := w47.setCell (Addr.mk w44.heap.size 0 none) (Value.int .i64 r45_0)
  wrOk w48 (Addr.mk w44.heap.size 1 none) ∧ 
  (let w49 : World := w48.setCell (Addr.mk w44.heap.size 1 none) (Value.int .i64 r45_1)
  ∃ x50 : Int, w49.cell? (Addr.mk w9.heap.size 0 none) = some (Value.int .i64 x50) ∧ ∃ x51 : Int, w49.cell? (Addr.mk w9.heap.size 1 none) = some (Value.int .i64 x51) ∧ ∃ x52 : Int, w49.cell? (Addr.mk w17.heap.size 0 none) = some (Value.int .i64 x52) ∧ ∃ x53 : Int, w49.cell? (Addr.mk w17.heap.size 1 none) = some (Value.int .i64 x53) ∧ ratio_Mul_sh x50 x51 x52 x53 (fun (r55_0 : Int) (r55_1 : Int) (r56 : Bool) (w54 : World) => let w57 : World := w54.alloc (Obj.cells #[(Value.int .i64 (0 : Int)), (Value.int .i64 (0 : Int))] 28)
  wrOk w57 (Addr.mk w54.heap.size 0 none) ∧ 
  (let w58 : World := w57.setCell (Addr.mk w54.heap.size 0 none) (Value.int .i64 r55_0)
  wrOk w58 (Addr.mk w54.heap.size 1 none) ∧ 
  (let w59 : World := w58.setCell (Addr.mk w54.heap.size 1 none) (Value.int .i64 r55_1)
  ∃ x60 : Int, w59.cell? (Addr.mk w17.heap.size 0 none) = some (Value.int .i64 x60) ∧ ∃ x61 : Int, w59.cell? (Addr.mk w17.heap.size 1 none) = some (Value.int .i64 x61) ∧ ∃ x62 : Int, w59.cell? (Addr.mk w9.heap.size 0 none) = some (Value.int .i64 x62) ∧ ∃ x63 : Int, w59.cell? (Addr.mk w9.heap.size 1 none) = some (Value.int .i64 x63) ∧ ratio_Mul_sh x60 x61 x62 x63 (fun (r65_0 : Int) (r65_1 : Int) (r66 : Bool) (w64 : World) => let w67 : World := w64.alloc (Obj.cells #[(Value.int .i64 (0 : Int)), (Value.int .i64 (0 : Int))] 28)
  wrOk w67 (Addr.mk w64.heap.size 0 none) ∧ 
  (let w68 : World := w67.setCell (Addr.mk w64.heap.size 0 none) (Value.int .i64 r65_0)
  wrOk w68 (Addr.mk w64.heap.size 1 none) ∧ 
  (let w69 : World := w68.setCell (Addr.mk w64.heap.size 1 none) (Value.int .i64 r65_1)
  ∃ x70 : Int, w69.cell? (Addr.mk w34.heap.size 0 none) = some (Value.int .i64 x70) ∧ ∃ x71 : Int, w69.cell? (Addr.mk w34.heap.size 1 none) = some (Value.int .i64 x71) ∧ ∃ x72 : Int, w69.cell? (Addr.mk w44.heap.size 0 none) = some (Value.int .i64 x72) ∧ ∃ x73 : Int, w69.cell? (Addr.mk w44.heap.size 1 none) = some (Value.int .i64 x73) ∧ probitylaw01_same_sh x70 x71 r36 x72 x73 r46 (fun (r75 : Bool) (w74 : World) => cnd (!r75)
    (K false w74)
    (∃ x76 : Int, w74.cell? (Addr.mk w54.heap.size 0 none) = some (Value.int .i64 x76) ∧ ∃ x77 : Int, w74.cell? (Addr.mk w54.heap.size 1 none) = some (Value.int .i64 x77) ∧ ∃ x78 : Int, w74.cell? (Addr.mk w64.heap.size 0 none) = some (Value.int .i64 x78) ∧ ∃ x79 : Int, w74.cell? (Addr.mk w64.heap.size 1 none) = some (Value.int .i64 x79) ∧ probitylaw01_same_sh x76 x77 r56 x78 x79 r66 (fun (r81 : Bool) (w80 : World) => cnd (!r81)
    (K false w80)
    (∃ x82 : Int, w80.cell? (Addr.mk w34.heap.size 0 none) = some (Value.int .i64 x82) ∧ ∃ x83 : Int, w80.cell? (Addr.mk w34.heap.size 1 none) = some (Value.int .i64 x83) ∧ ∃ x84 : Int, w80.cell? (Addr.mk w17.heap.size 0 none) = some (Value.int .i64 x84) ∧ ∃ x85 : Int, w80.cell? (Addr.mk w17.heap.size 1 none) = some (Value.int .i64 x85) ∧ ratio_Sub_sh x82 x83 x84 x85 (fun (r87_0 : Int) (r87_1 : Int) (r88 : Bool) (w86 : World) => let w89 : World := w86.alloc (Obj.cells #[(Value.int .i64 (0 : Int)), (Value.int .i64 (0 : Int))] 28)
  wrOk w89 (Addr.mk w86.heap.size 0 none) ∧ 
  (let w90 : World := w89.setCell (Addr.mk w86.heap.size 0 none) (Value.int .i64 r87_0)
  wrOk w90 (Addr.mk w86.heap.size 1 none) ∧ 
  (let w91 : World := w90.setCell (Addr.mk w86.heap.size 1 none) (Value.int .i64 r87_1)
  cnd r36
    (cnd (!r88)
    (K false w91)
    (∃ x92 : Int, w91.cell? (Addr.mk w86.heap.size 0 none) = some (Value.int .i64 x92) ∧ ∃ x93 : Int, w91.cell? (Addr.mk w86.heap.size 1 none) = some (Value.int .i64 x93) ∧ ∃ x94 : Int, w91.cell? (Addr.mk w9.heap.size 0 none) = some (Value.int .i64 x94) ∧ ∃ x95 : Int, w91.cell? (Addr.mk w9.heap.size 1 none) = some (Value.int .i64 x95) ∧ cnd (!(x92 == x94 && (x93 == x95 && true)))
    (K false w91)
    (probitylaw01_RatioField_k0 r5 (Addr.mk w9.heap.size 0 none) (Addr.mk w17.heap.size 0 none) (Addr.mk w25.heap.size 0 none) (Addr.mk w34.heap.size 0 none) r36 (Addr.mk w54.heap.size 0 none) r56 K w91)))
    (probitylaw01_RatioField_k0 r5 (Addr.mk w9.heap.size 0 none) (Addr.mk w17.heap.size 0 none) (Addr.mk w25.heap.size 0 none) (Addr.mk w34.heap.size 0 none) r36 (Addr.mk w54.heap.size 0 none) r56 K w91)))) w80)) w74)) w69))) w59))) w49))) w39))) w29))) w21))) w13))) w4) w3

structure probitylaw01_RatioField_sh (p_0_0 : Int) (p_0_1 : Int) (p_0_2 : Int) (q_1_0 : Int) (q_1_1 : Int) (q_1_2 : Int) (r_2_0 : Int) (r_2_1 : Int) (r_2_2 : Int) (K : Bool → World → Prop) (w : World) : Prop where
  out : probitylaw01_RatioField_sd p_0_0 p_0_1 p_0_2 q_1_0 q_1_1 q_1_2 r_2_0 r_2_1 r_2_2 K w

def probitylaw01_RatioField_P0 (Kv : VW) (ρ : Rho) (vs : List Value) (w : World) : Prop :=
  match ρ, vs with
  | _, [.bool up_7, .pointer (some a_8), .pointer (some b_9), .pointer (some c_10), .pointer (some ab_11), .bool one_12, .pointer (some m_15), .bool three_16] => probitylaw01_RatioField_k0 up_7 a_8 b_9 c_10 ab_11 one_12 m_15 three_16  (fun (r0 : Bool) (w' : World) => Kv (Value.bool r0) w') w
  | _, _ => False

def probitylaw01_RatioField_P1 (Kv : VW) (ρ : Rho) (vs : List Value) (w : World) : Prop :=
  match ρ, vs with
  | _, [.bool up_7, .pointer (some a_8), .pointer (some b_9), .pointer (some c_10), .pointer (some ab_11), .bool one_12] => probitylaw01_RatioField_k1 up_7 a_8 b_9 c_10 ab_11 one_12  (fun (r0 : Bool) (w' : World) => Kv (Value.bool r0) w') w
  | _, _ => False

noncomputable def probitylaw01_RatioField_S : Pw.Spec := fun vs w Kv =>
  match vs with
  | [.agg ⟨[.int .i64 p_0_0, .int .i64 p_0_1, .int .i64 p_0_2]⟩, .agg ⟨[.int .i64 q_1_0, .int .i64 q_1_1, .int .i64 q_1_2]⟩, .agg ⟨[.int .i64 r_2_0, .int .i64 r_2_1, .int .i64 r_2_2]⟩] => probitylaw01_RatioField_sh p_0_0 p_0_1 p_0_2 q_1_0 q_1_1 q_1_2 r_2_0 r_2_1 r_2_2 (fun (r0 : Bool) (w' : World) => Kv (Value.bool r0) w') w
  | _ => False

noncomputable def probitylaw01_RatioField_E : Pw.Env := [(8, probitylaw01_sanity_S), (11, ratio_Quo_S), (13, probitylaw01_same_S), (15, probityref01_Made_S), (16, ratio_Add_S), (17, ratio_Mul_S), (18, ratio_Sub_S)]

noncomputable def probitylaw01_RatioField_C : Code := (Tryd.f4.body).getD .skip

noncomputable def probitylaw01_RatioField_A (Kv : VW) : Pw.A :=
  (A.seq (A.reg (RA.run (RA.run (RA.run (RA.run RA.done)))))
   (A.seq (A.reg (RA.run (RA.run RA.done)))
   (A.seq (A.reg (RA.run (RA.run (RA.run (RA.run RA.done)))))
   (A.seq (A.reg (RA.run (RA.run (RA.run (RA.run RA.done)))))
   (A.seq (A.reg (RA.run (RA.run (RA.run (RA.run RA.done)))))
   (A.seq (A.reg (RA.run (RA.run (RA.run (RA.run (RA.run (RA.run (RA.run (RA.run (RA.run RA.done))))))))))
   (A.seq (A.reg (RA.run (RA.run (RA.run (RA.run (RA.run (RA.run (RA.run (RA.run (RA.run RA.done))))))))))
   (A.seq (A.reg (RA.run (RA.run (RA.run (RA.run (RA.run (RA.run (RA.run (RA.run (RA.run RA.done))))))))))
   (A.seq (A.reg (RA.run (RA.run (RA.run (RA.run (RA.run (RA.run (RA.run (RA.run (RA.run RA.done))))))))))
   (A.seq (A.seq (A.reg (RA.run (RA.run (RA.run (RA.run (RA.run (RA.run (RA.run (RA.spl 68 (RA.skp (RA.skp (RA.skp (RA.skp (RA.skp (RA.skp (RA.run RA.done))))))) (RA.run (RA.run (RA.run (RA.run (RA.run (RA.run (RA.run RA.done))))))))))))))))
   (A.cond (A.seq (A.reg (RA.run RA.done))
   A.leaf)
   A.leaf))
   (A.seq (A.reg (RA.run (RA.run (RA.run (RA.run (RA.run (RA.run (RA.run (RA.run (RA.run RA.done))))))))))
   (A.seq (A.seq (A.reg (RA.run (RA.run (RA.spl 83 (RA.run (RA.run (RA.run (RA.spl 86 (RA.skp (RA.skp (RA.skp (RA.run (RA.run RA.done))))) (RA.run (RA.run (RA.run (RA.run (RA.run RA.done))))))))) (RA.skp (RA.skp (RA.skp (RA.skp (RA.skp (RA.skp (RA.skp (RA.run RA.done))))))))))))
   (A.cond (A.seq (A.reg (RA.run RA.done))
   A.leaf)
   A.leaf))
   (A.cut [7, 8, 9, 10, 11, 12, 15, 16] (probitylaw01_RatioField_P0 Kv) (A.seq (A.reg (RA.run (RA.run (RA.run (RA.run (RA.run (RA.run (RA.run (RA.run (RA.run RA.done))))))))))
   (A.seq (A.seq (A.reg (RA.run (RA.run (RA.spl 99 (RA.run (RA.run (RA.run (RA.run (RA.run (RA.spl 104 (RA.run (RA.run (RA.run (RA.spl 107 (RA.skp (RA.skp (RA.skp (RA.run (RA.run RA.done))))) (RA.run (RA.run (RA.run (RA.run (RA.run RA.done))))))))) (RA.skp (RA.skp (RA.skp (RA.skp (RA.skp (RA.skp (RA.skp (RA.run RA.done)))))))))))))) (RA.skp (RA.skp (RA.skp (RA.run (RA.run (RA.skp (RA.skp (RA.skp (RA.skp (RA.skp (RA.skp (RA.skp (RA.run RA.done)))))))))))))))))
   (A.cond (A.seq (A.reg (RA.run RA.done))
   A.leaf)
   A.leaf))
   (A.cut [7, 8, 9, 10, 11, 12] (probitylaw01_RatioField_P1 Kv) (A.seq (A.reg (RA.run (RA.run (RA.run (RA.run (RA.run (RA.run (RA.run (RA.run (RA.run RA.done))))))))))
   (A.seq (A.reg (RA.run (RA.run (RA.run (RA.run (RA.run (RA.run (RA.run (RA.run (RA.run RA.done))))))))))
   (A.seq (A.reg (RA.run (RA.run (RA.run (RA.run (RA.run (RA.run (RA.run (RA.run (RA.run RA.done))))))))))
   (A.seq (A.reg (RA.run (RA.run (RA.run (RA.run (RA.run (RA.run (RA.run (RA.run (RA.run RA.done))))))))))
   (A.seq (A.reg (RA.run (RA.run (RA.spl 138 (RA.run (RA.run (RA.run (RA.spl 141 (RA.skp (RA.skp (RA.run (RA.run (RA.skp (RA.skp (RA.run (RA.run (RA.skp (RA.skp (RA.run (RA.run (RA.skp (RA.skp (RA.run (RA.run (RA.skp (RA.skp (RA.skp (RA.run (RA.run (RA.run RA.done)))))))))))))))))))))) (RA.run (RA.run (RA.run (RA.run (RA.spl 145 (RA.skp (RA.skp (RA.run (RA.run (RA.skp (RA.skp (RA.run (RA.run (RA.skp (RA.skp (RA.run (RA.run (RA.skp (RA.skp (RA.skp (RA.run (RA.run (RA.run RA.done)))))))))))))))))) (RA.run (RA.run (RA.run (RA.run (RA.spl 149 (RA.skp (RA.skp (RA.run (RA.run (RA.skp (RA.skp (RA.run (RA.run (RA.skp (RA.skp (RA.skp (RA.run (RA.run (RA.run RA.done)))))))))))))) (RA.run (RA.run (RA.run (RA.run (RA.spl 153 (RA.skp (RA.skp (RA.run (RA.run (RA.skp (RA.skp (RA.skp (RA.run (RA.run (RA.run RA.done)))))))))) (RA.run (RA.run (RA.run (RA.run (RA.spl 157 (RA.skp (RA.skp (RA.skp (RA.run (RA.run (RA.run RA.done)))))) (RA.run (RA.run (RA.run (RA.run (RA.run (RA.run RA.done)))))))))))))))))))))))))))))) (RA.skp (RA.skp (RA.skp (RA.skp (RA.skp (RA.skp (RA.skp (RA.skp (RA.skp (RA.skp (RA.skp (RA.skp (RA.skp (RA.skp (RA.skp (RA.skp (RA.skp (RA.skp (RA.skp (RA.skp (RA.skp (RA.skp (RA.skp (RA.run (RA.run RA.done)))))))))))))))))))))))))))))
   A.leaf)))))))))))))))))))))

noncomputable def probitylaw01_RatioField_O (Kv : VW) : List Ob := (obs Tryd.prog probitylaw01_RatioField_E 163 (probitylaw01_RatioField_A Kv) probitylaw01_RatioField_C (fun _ => retQ Tryd.prog Tryd.f4.results Kv))

theorem probitylaw01_RatioField_e (Kv : VW) (p_0_0 : Int) (p_0_1 : Int) (p_0_2 : Int) (q_1_0 : Int) (q_1_1 : Int) (q_1_2 : Int) (r_2_0 : Int) (r_2_1 : Int) (r_2_2 : Int) (w : World) : probitylaw01_RatioField_sd p_0_0 p_0_1 p_0_2 q_1_0 q_1_1 q_1_2 r_2_0 r_2_1 r_2_2 (fun (r0 : Bool) (w' : World) => Kv (Value.bool r0) w') w = W Tryd.prog probitylaw01_RatioField_E 163 (probitylaw01_RatioField_A Kv) probitylaw01_RatioField_C [] (retQ Tryd.prog Tryd.f4.results Kv) [] (startS [(Value.agg #[(Value.int .i64 p_0_0), (Value.int .i64 p_0_1), (Value.int .i64 p_0_2)]), (Value.agg #[(Value.int .i64 q_1_0), (Value.int .i64 q_1_1), (Value.int .i64 q_1_2)]), (Value.agg #[(Value.int .i64 r_2_0), (Value.int .i64 r_2_1), (Value.int .i64 r_2_2)])]) w := by kernel_rfl

theorem probitylaw01_RatioField_e0 (Kv : VW) (ρ : Rho) (up_7 : Bool) (a_8 : Addr) (b_9 : Addr) (c_10 : Addr) (ab_11 : Addr) (one_12 : Bool) (m_15 : Addr) (three_16 : Bool) (w : World) : probitylaw01_RatioField_k0d up_7 a_8 b_9 c_10 ab_11 one_12 m_15 three_16  (fun (r0 : Bool) (w' : World) => Kv (Value.bool r0) w') w = goalAt Tryd.prog probitylaw01_RatioField_E 163 (probitylaw01_RatioField_O Kv) 0 (ρ) [(Value.bool up_7), (Value.pointer (some a_8)), (Value.pointer (some b_9)), (Value.pointer (some c_10)), (Value.pointer (some ab_11)), (Value.bool one_12), (Value.pointer (some m_15)), (Value.bool three_16)] w := by kernel_rfl

theorem probitylaw01_RatioField_q0 (Kv : VW) (ρ : Rho) (vs : List Value) (w : World) : labAt (probitylaw01_RatioField_O Kv) 0 ρ vs w = probitylaw01_RatioField_P0 Kv ρ vs w := by kernel_rfl

theorem probitylaw01_RatioField_h0 (Kv : VW) : holdsAt Tryd.prog probitylaw01_RatioField_E 163 (probitylaw01_RatioField_O Kv) 0 := holdsAt_cut (.inl (by kernel_rfl)) (fun ρ vs w h => by
  rw [probitylaw01_RatioField_q0] at h
  unfold probitylaw01_RatioField_P0 at h
  split at h
  · rw [← probitylaw01_RatioField_e0]; exact h.out
  · exact h.elim)

theorem probitylaw01_RatioField_e1 (Kv : VW) (ρ : Rho) (up_7 : Bool) (a_8 : Addr) (b_9 : Addr) (c_10 : Addr) (ab_11 : Addr) (one_12 : Bool) (w : World) : probitylaw01_RatioField_k1d up_7 a_8 b_9 c_10 ab_11 one_12  (fun (r0 : Bool) (w' : World) => Kv (Value.bool r0) w') w = goalAt Tryd.prog probitylaw01_RatioField_E 163 (probitylaw01_RatioField_O Kv) 1 (ρ) [(Value.bool up_7), (Value.pointer (some a_8)), (Value.pointer (some b_9)), (Value.pointer (some c_10)), (Value.pointer (some ab_11)), (Value.bool one_12)] w := by kernel_rfl

theorem probitylaw01_RatioField_q1 (Kv : VW) (ρ : Rho) (vs : List Value) (w : World) : labAt (probitylaw01_RatioField_O Kv) 1 ρ vs w = probitylaw01_RatioField_P1 Kv ρ vs w := by kernel_rfl

theorem probitylaw01_RatioField_h1 (Kv : VW) : holdsAt Tryd.prog probitylaw01_RatioField_E 163 (probitylaw01_RatioField_O Kv) 1 := holdsAt_cut (.inl (by kernel_rfl)) (fun ρ vs w h => by
  rw [probitylaw01_RatioField_q1] at h
  unfold probitylaw01_RatioField_P1 at h
  split at h
  · rw [← probitylaw01_RatioField_e1]; exact h.out
  · exact h.elim)

theorem probitylaw01_RatioField_n (Kv : VW) : obAt (probitylaw01_RatioField_O Kv) 2 = none := by kernel_rfl

theorem probitylaw01_RatioField_h (Kv : VW) : ∀ k, holdsAt Tryd.prog probitylaw01_RatioField_E 163 (probitylaw01_RatioField_O Kv) k := fun k => match k with
  | 0 => probitylaw01_RatioField_h0 Kv
  | 1 => probitylaw01_RatioField_h1 Kv
  | _k + 2 => holdsAt_ge (probitylaw01_RatioField_n Kv) (Nat.le_add_left _ _)

theorem probitylaw01_RatioField_ok : Sound Tryd.prog 4 probitylaw01_RatioField_S := ⟨Tryd.call4, fun vs w Kv h => by
  unfold probitylaw01_RatioField_S at h
  split at h
  · have h := h.out
    rw [probitylaw01_RatioField_e] at h
    exact calls_sound (Γ := probitylaw01_RatioField_E) progMixed ⟨.inl probitylaw01_sanity_ok, .inl ratio_Quo_ok, .inl probitylaw01_same_ok, .inl probityref01_Made_ok, .inl ratio_Add_ok, .inl ratio_Mul_ok, .inl ratio_Sub_ok, trivial⟩ Tryd.func4 (code := probitylaw01_RatioField_C) (by kernel_rfl) (probitylaw01_RatioField_A Kv) Kv (holds_all (probitylaw01_RatioField_h Kv)) (Nat.le_of_ble_eq_true (by kernel_rfl)) h
  · exact h.elim⟩

/-! probitylaw01_RatioOrder -/
def probitylaw01_RatioOrder_k1d (up_7 : Bool) (a_8 : Addr) (b_9 : Addr) (c_10 : Addr) (x_11 : Int)  (K : Bool → World → Prop) (w : World) : Prop :=
  ∃ x77 : Int, w.cell? a_8 = some (Value.int .i64 x77) ∧ ∃ x78 : Int, w.cell? (a_8.add 1) = some (Value.int .i64 x78) ∧ ∃ x79 : Int, w.cell? c_10 = some (Value.int .i64 x79) ∧ ∃ x80 : Int, w.cell? (c_10.add 1) = some (Value.int .i64 x80) ∧ ratio_Add_sh x77 x78 x79 x80 (fun (r82_0 : Int) (r82_1 : Int) (r83 : Bool) (w81 : World) => let w84 : World := w81.alloc (Obj.cells #[(Value.int .i64 (0 : Int)), (Value.int .i64 (0 : Int))] 28)
  wrOk w84 (Addr.mk w81.heap.size 0 none) ∧ 
  (let w85 : World := w84.setCell (Addr.mk w81.heap.size 0 none) (Value.int .i64 r82_0)
  wrOk w85 (Addr.mk w81.heap.size 1 none) ∧ 
  (let w86 : World := w85.setCell (Addr.mk w81.heap.size 1 none) (Value.int .i64 r82_1)
  ∃ x87 : Int, w86.cell? b_9 = some (Value.int .i64 x87) ∧ ∃ x88 : Int, w86.cell? (b_9.add 1) = some (Value.int .i64 x88) ∧ ∃ x89 : Int, w86.cell? c_10 = some (Value.int .i64 x89) ∧ ∃ x90 : Int, w86.cell? (c_10.add 1) = some (Value.int .i64 x90) ∧ ratio_Add_sh x87 x88 x89 x90 (fun (r92_0 : Int) (r92_1 : Int) (r93 : Bool) (w91 : World) => let w94 : World := w91.alloc (Obj.cells #[(Value.int .i64 (0 : Int)), (Value.int .i64 (0 : Int))] 28)
  wrOk w94 (Addr.mk w91.heap.size 0 none) ∧ 
  (let w95 : World := w94.setCell (Addr.mk w91.heap.size 0 none) (Value.int .i64 r92_0)
  wrOk w95 (Addr.mk w91.heap.size 1 none) ∧ 
  (let w96 : World := w95.setCell (Addr.mk w91.heap.size 1 none) (Value.int .i64 r92_1)
  cnd up_7
    (cnd (!r83)
    (K true w96)
    (cnd (!r93)
    (K true w96)
    (∃ x97 : Int, w96.cell? (Addr.mk w81.heap.size 0 none) = some (Value.int .i64 x97) ∧ ∃ x98 : Int, w96.cell? (Addr.mk w81.heap.size 1 none) = some (Value.int .i64 x98) ∧ ∃ x99 : Int, w96.cell? (Addr.mk w91.heap.size 0 none) = some (Value.int .i64 x99) ∧ ∃ x100 : Int, w96.cell? (Addr.mk w91.heap.size 1 none) = some (Value.int .i64 x100) ∧ ratio_Cmp_sh x97 x98 x99 x100 (fun (r102 : Int) (w101 : World) => K (r102 == x_11) w101) w96)))
    (K false w96)))) w86))) w
structure probitylaw01_RatioOrder_k1 (up_7 : Bool) (a_8 : Addr) (b_9 : Addr) (c_10 : Addr) (x_11 : Int)  (K : Bool → World → Prop) (w : World) : Prop where
  out : probitylaw01_RatioOrder_k1d up_7 a_8 b_9 c_10 x_11 K w

def probitylaw01_RatioOrder_k0d (up_7 : Bool) (a_8 : Addr) (b_9 : Addr) (c_10 : Addr) (x_11 : Int)  (K : Bool → World → Prop) (w : World) : Prop :=
  ∃ x64 : Int, w.cell? a_8 = some (Value.int .i64 x64) ∧ ∃ x65 : Int, w.cell? (a_8.add 1) = some (Value.int .i64 x65) ∧ ∃ x66 : Int, w.cell? b_9 = some (Value.int .i64 x66) ∧ ∃ x67 : Int, w.cell? (b_9.add 1) = some (Value.int .i64 x67) ∧ ratio_Sub_sh x64 x65 x66 x67 (fun (r69_0 : Int) (r69_1 : Int) (r70 : Bool) (w68 : World) => let w71 : World := w68.alloc (Obj.cells #[(Value.int .i64 (0 : Int)), (Value.int .i64 (0 : Int))] 28)
  wrOk w71 (Addr.mk w68.heap.size 0 none) ∧ 
  (let w72 : World := w71.setCell (Addr.mk w68.heap.size 0 none) (Value.int .i64 r69_0)
  wrOk w72 (Addr.mk w68.heap.size 1 none) ∧ 
  (let w73 : World := w72.setCell (Addr.mk w68.heap.size 1 none) (Value.int .i64 r69_1)
  cnd r70
    (∃ x74 : Int, w73.cell? (Addr.mk w68.heap.size 0 none) = some (Value.int .i64 x74) ∧ cnd (!((decide (x74 > (0 : Int))) == (decide (x_11 > (0 : Int)))))
    (K false w73)
    (cnd r70
    (∃ x75 : Int, w73.cell? (Addr.mk w68.heap.size 0 none) = some (Value.int .i64 x75) ∧ cnd (!((decide (x75 < (0 : Int))) == (decide (x_11 < (0 : Int)))))
    (K false w73)
    (probitylaw01_RatioOrder_k1 up_7 a_8 b_9 c_10 x_11 K w73))
    (probitylaw01_RatioOrder_k1 up_7 a_8 b_9 c_10 x_11 K w73)))
    (cnd r70
    (∃ x76 : Int, w73.cell? (Addr.mk w68.heap.size 0 none) = some (Value.int .i64 x76) ∧ cnd (!((decide (x76 < (0 : Int))) == (decide (x_11 < (0 : Int)))))
    (K false w73)
    (probitylaw01_RatioOrder_k1 up_7 a_8 b_9 c_10 x_11 K w73))
    (probitylaw01_RatioOrder_k1 up_7 a_8 b_9 c_10 x_11 K w73))))) w
structure probitylaw01_RatioOrder_k0 (up_7 : Bool) (a_8 : Addr) (b_9 : Addr) (c_10 : Addr) (x_11 : Int)  (K : Bool → World → Prop) (w : World) : Prop where
  out : probitylaw01_RatioOrder_k0d up_7 a_8 b_9 c_10 x_11 K w

def probitylaw01_RatioOrder_sd (p_0_0 : Int) (p_0_1 : Int) (p_0_2 : Int) (q_1_0 : Int) (q_1_1 : Int) (q_1_2 : Int) (r_2_0 : Int) (r_2_1 : Int) (r_2_2 : Int) (K : Bool → World → Prop) (w : World) : Prop :=
  let w1 : World := w.alloc (Obj.cells #[(Value.int .i64 p_0_0), (Value.int .i64 p_0_1), (Value.int .i64 p_0_2)] 36)
  let w2 : World := w1.alloc (Obj.cells #[(Value.int .i64 q_1_0), (Value.int .i64 q_1_1), (Value.int .i64 q_1_2)] 36)
  let w3 : World := w2.alloc (Obj.cells #[(Value.int .i64 r_2_0), (Value.int .i64 r_2_1), (Value.int .i64 r_2_2)] 36)
  probitylaw01_sanity_sh (fun (r5 : Bool) (w4 : World) => ∃ x6 : Int, w4.cell? (Addr.mk w.heap.size 0 none) = some (Value.int .i64 x6) ∧ ∃ x7 : Int, w4.cell? (Addr.mk w.heap.size 1 none) = some (Value.int .i64 x7) ∧ ∃ x8 : Int, w4.cell? (Addr.mk w.heap.size 2 none) = some (Value.int .i64 x8) ∧ probityref01_Made_sh x6 x7 x8 (fun (r10_0 : Int) (r10_1 : Int) (w9 : World) => let w11 : World := w9.alloc (Obj.cells #[(Value.int .i64 (0 : Int)), (Value.int .i64 (0 : Int))] 28)
  wrOk w11 (Addr.mk w9.heap.size 0 none) ∧ 
  (let w12 : World := w11.setCell (Addr.mk w9.heap.size 0 none) (Value.int .i64 r10_0)
  wrOk w12 (Addr.mk w9.heap.size 1 none) ∧ 
  (let w13 : World := w12.setCell (Addr.mk w9.heap.size 1 none) (Value.int .i64 r10_1)
  ∃ x14 : Int, w13.cell? (Addr.mk w1.heap.size 0 none) = some (Value.int .i64 x14) ∧ ∃ x15 : Int, w13.cell? (Addr.mk w1.heap.size 1 none) = some (Value.int .i64 x15) ∧ ∃ x16 : Int, w13.cell? (Addr.mk w1.heap.size 2 none) = some (Value.int .i64 x16) ∧ probityref01_Made_sh x14 x15 x16 (fun (r18_0 : Int) (r18_1 : Int) (w17 : World) => let w19 : World := w17.alloc (Obj.cells #[(Value.int .i64 (0 : Int)), (Value.int .i64 (0 : Int))] 28)
  wrOk w19 (Addr.mk w17.heap.size 0 none) ∧ 
  (let w20 : World := w19.setCell (Addr.mk w17.heap.size 0 none) (Value.int .i64 r18_0)
  wrOk w20 (Addr.mk w17.heap.size 1 none) ∧ 
  (let w21 : World := w20.setCell (Addr.mk w17.heap.size 1 none) (Value.int .i64 r18_1)
  ∃ x22 : Int, w21.cell? (Addr.mk w2.heap.size 0 none) = some (Value.int .i64 x22) ∧ ∃ x23 : Int, w21.cell? (Addr.mk w2.heap.size 1 none) = some (Value.int .i64 x23) ∧ ∃ x24 : Int, w21.cell? (Addr.mk w2.heap.size 2 none) = some (Value.int .i64 x24) ∧ probityref01_Made_sh x22 x23 x24 (fun (r26_0 : Int) (r26_1 : Int) (w25 : World) => let w27 : World := w25.alloc (Obj.cells #[(Value.int .i64 (0 : Int)), (Value.int .i64 (0 : Int))] 28)
  wrOk w27 (Addr.mk w25.heap.size 0 none) ∧ 
  (let w28 : World := w27.setCell (Addr.mk w25.heap.size 0 none) (Value.int .i64 r26_0)
  wrOk w28 (Addr.mk w25.heap.size 1 none) ∧ 
  (let w29 : World := w28.setCell (Addr.mk w25.heap.size 1 none) (Value.int .i64 r26_1)
  ∃ x30 : Int, w29.cell? (Addr.mk w9.heap.size 0 none) = some (Value.int .i64 x30) ∧ ∃ x31 : Int, w29.cell? (Addr.mk w9.heap.size 1 none) = some (Value.int .i64 x31) ∧ ∃ x32 : Int, w29.cell? (Addr.mk w17.heap.size 0 none) = some (Value.int .i64 x32) ∧ ∃ x33 : Int, w29.cell? (Addr.mk w17.heap.size 1 none) = some (Value.int .i64 x33) ∧ ratio_Cmp_sh x30 x31 x32 x33 (fun (r35 : Int) (w34 : World) => ∃ x36 : Int, w34.cell? (Addr.mk w17.heap.size 0 none) = some (Value.int .i64 x36) ∧ ∃ x37 : Int, w34.cell? (Addr.mk w17.heap.size 1 none) = some (Value.int .i64 x37) ∧ ∃ x38 : Int, w34.cell? (Addr.mk w9.heap.size 0 none) = some (Value.int .i64 x38) ∧ ∃ x39 : Int, w34.cell? (Addr.mk w9.heap.size 1 none) = some (Value.int .i64 x39) ∧ ratio_Cmp_sh x36 x37 x38 x39 (fun (r41 : Int) (w40 : World) => inR .i64 (-r35) ∧ cnd (r41 != (-r35))
    (K false w40)
    (∃ x42 : Int, w40.cell? (Addr.mk w9.heap.size 0 none) = some (Value.int .i64 x42) ∧ ∃ x43 : Int, w40.cell? (Addr.mk w9.heap.size 1 none) = some (Value.int .i64 x43) ∧ ∃ x44 : Int, w40.cell? (Addr.mk w17.heap.size 0 none) = some (Value.int .i64 x44) ∧ ∃ x45 : Int, w40.cell? (Addr.mk w17.heap.size 1 none) = some (Value.int .i64 x45) ∧ cnd (!((r35 == (0 : Int)) == (x42 == x44 && (x43 == x45 && true))))
    (K false w40)
    (∃ x46 : Int, w40.cell? (Addr.mk w9.heap.size 0 none) = some (Value.int .i64 x46) ∧ ∃ x47 : Int, w40.cell? (Addr.mk w9.heap.size 1 none) = some (Value.int .i64 x47) ∧ ∃ x48 : Int, w40.cell? (Addr.mk w9.heap.size 0 none) = some (Value.int .i64 x48) ∧ ∃ x49 : Int, w40.cell? (Addr.mk w9.heap.size 1 none) = some (Value.int .i64 x49) ∧ ratio_Cmp_sh x46 x47 x48 x49 (fun (r51 : Int) (w50 : World) => cnd (r51 != (0 : Int))
    (K false w50)
    (cnd (decide (r35 ≤ (0 : Int)))
    (∃ x52 : Int, w50.cell? (Addr.mk w17.heap.size 0 none) = some (Value.int .i64 x52) ∧ ∃ x53 : Int, w50.cell? (Addr.mk w17.heap.size 1 none) = some (Value.int .i64 x53) ∧ ∃ x54 : Int, w50.cell? (Addr.mk w25.heap.size 0 none) = some (Value.int .i64 x54) ∧ ∃ x55 : Int, w50.cell? (Addr.mk w25.heap.size 1 none) = some (Value.int .i64 x55) ∧ ratio_Cmp_sh x52 x53 x54 x55 (fun (r57 : Int) (w56 : World) => cnd (decide (r57 ≤ (0 : Int)))
    (∃ x58 : Int, w56.cell? (Addr.mk w9.heap.size 0 none) = some (Value.int .i64 x58) ∧ ∃ x59 : Int, w56.cell? (Addr.mk w9.heap.size 1 none) = some (Value.int .i64 x59) ∧ ∃ x60 : Int, w56.cell? (Addr.mk w25.heap.size 0 none) = some (Value.int .i64 x60) ∧ ∃ x61 : Int, w56.cell? (Addr.mk w25.heap.size 1 none) = some (Value.int .i64 x61) ∧ ratio_Cmp_sh x58 x59 x60 x61 (fun (r63 : Int) (w62 : World) => cnd (decide (r63 > (0 : Int)))
    (K false w62)
    (probitylaw01_RatioOrder_k0 r5 (Addr.mk w9.heap.size 0 none) (Addr.mk w17.heap.size 0 none) (Addr.mk w25.heap.size 0 none) r35 K w62)) w56)
    (probitylaw01_RatioOrder_k0 r5 (Addr.mk w9.heap.size 0 none) (Addr.mk w17.heap.size 0 none) (Addr.mk w25.heap.size 0 none) r35 K w56)) w50)
    (probitylaw01_RatioOrder_k0 r5 (Addr.mk w9.heap.size 0 none) (Addr.mk w17.heap.size 0 none) (Addr.mk w25.heap.size 0 none) r35 K w50))) w40))) w34) w29))) w21))) w13))) w4) w3

structure probitylaw01_RatioOrder_sh (p_0_0 : Int) (p_0_1 : Int) (p_0_2 : Int) (q_1_0 : Int) (q_1_1 : Int) (q_1_2 : Int) (r_2_0 : Int) (r_2_1 : Int) (r_2_2 : Int) (K : Bool → World → Prop) (w : World) : Prop where
  out : probitylaw01_RatioOrder_sd p_0_0 p_0_1 p_0_2 q_1_0 q_1_1 q_1_2 r_2_0 r_2_1 r_2_2 K w

def probitylaw01_RatioOrder_P0 (Kv : VW) (ρ : Rho) (vs : List Value) (w : World) : Prop :=
  match ρ, vs with
  | _, [.bool up_7, .pointer (some a_8), .pointer (some b_9), .pointer (some c_10), .int .i64 x_11] => probitylaw01_RatioOrder_k0 up_7 a_8 b_9 c_10 x_11  (fun (r0 : Bool) (w' : World) => Kv (Value.bool r0) w') w
  | _, _ => False

def probitylaw01_RatioOrder_P1 (Kv : VW) (ρ : Rho) (vs : List Value) (w : World) : Prop :=
  match ρ, vs with
  | _, [.bool up_7, .pointer (some a_8), .pointer (some b_9), .pointer (some c_10), .int .i64 x_11] => probitylaw01_RatioOrder_k1 up_7 a_8 b_9 c_10 x_11  (fun (r0 : Bool) (w' : World) => Kv (Value.bool r0) w') w
  | _, _ => False

noncomputable def probitylaw01_RatioOrder_S : Pw.Spec := fun vs w Kv =>
  match vs with
  | [.agg ⟨[.int .i64 p_0_0, .int .i64 p_0_1, .int .i64 p_0_2]⟩, .agg ⟨[.int .i64 q_1_0, .int .i64 q_1_1, .int .i64 q_1_2]⟩, .agg ⟨[.int .i64 r_2_0, .int .i64 r_2_1, .int .i64 r_2_2]⟩] => probitylaw01_RatioOrder_sh p_0_0 p_0_1 p_0_2 q_1_0 q_1_1 q_1_2 r_2_0 r_2_1 r_2_2 (fun (r0 : Bool) (w' : World) => Kv (Value.bool r0) w') w
  | _ => False

noncomputable def probitylaw01_RatioOrder_E : Pw.Env := [(8, probitylaw01_sanity_S), (15, probityref01_Made_S), (16, ratio_Add_S), (18, ratio_Sub_S), (19, ratio_Cmp_S)]

noncomputable def probitylaw01_RatioOrder_C : Code := (Tryd.f5.body).getD .skip

noncomputable def probitylaw01_RatioOrder_A (Kv : VW) : Pw.A :=
  (A.seq (A.reg (RA.run (RA.run (RA.run (RA.run RA.done)))))
   (A.seq (A.reg (RA.run (RA.run RA.done)))
   (A.seq (A.reg (RA.run (RA.run (RA.run (RA.run RA.done)))))
   (A.seq (A.reg (RA.run (RA.run (RA.run (RA.run RA.done)))))
   (A.seq (A.reg (RA.run (RA.run (RA.run (RA.run RA.done)))))
   (A.seq (A.reg (RA.run (RA.run (RA.run (RA.run RA.done)))))
   (A.seq (A.seq (A.reg (RA.run (RA.run (RA.run (RA.run (RA.run (RA.run (RA.run (RA.spl 34 (RA.skp (RA.skp (RA.skp (RA.skp (RA.skp (RA.skp (RA.run (RA.run (RA.skp (RA.skp (RA.skp (RA.skp (RA.run RA.done))))))))))))) (RA.run (RA.run (RA.run (RA.run (RA.run (RA.run (RA.run (RA.run (RA.spl 42 (RA.skp (RA.skp (RA.skp (RA.skp (RA.run RA.done))))) (RA.run (RA.run (RA.run (RA.run (RA.run RA.done)))))))))))))))))))))))
   (A.cond (A.seq (A.reg (RA.run RA.done))
   A.leaf)
   A.leaf))
   (A.seq (A.seq (A.reg (RA.run (RA.run (RA.run (RA.spl 50 (RA.run (RA.run (RA.run (RA.run (RA.run (RA.run (RA.spl 56 (RA.run (RA.run (RA.run (RA.run (RA.run RA.done))))) (RA.skp (RA.skp (RA.skp (RA.skp (RA.run RA.done)))))))))))) (RA.skp (RA.skp (RA.skp (RA.skp (RA.run (RA.run (RA.skp (RA.skp (RA.skp (RA.skp (RA.run RA.done))))))))))))))))
   (A.cond (A.seq (A.reg (RA.run RA.done))
   A.leaf)
   A.leaf))
   (A.cut [7, 8, 9, 10, 11] (probitylaw01_RatioOrder_P0 Kv) (A.seq (A.reg (RA.run (RA.run (RA.run (RA.run (RA.run (RA.run (RA.run (RA.run (RA.run RA.done))))))))))
   (A.seq (A.seq (A.reg (RA.run (RA.run (RA.spl 69 (RA.run (RA.run (RA.run (RA.run (RA.run (RA.run (RA.run (RA.run (RA.spl 77 (RA.skp (RA.skp (RA.skp (RA.skp (RA.skp (RA.skp (RA.skp (RA.skp (RA.skp (RA.run RA.done)))))))))) (RA.run (RA.run (RA.spl 79 (RA.run (RA.run (RA.run (RA.run (RA.run (RA.run (RA.run (RA.run RA.done)))))))) (RA.skp (RA.skp (RA.skp (RA.skp (RA.skp (RA.skp (RA.run (RA.run RA.done)))))))))))))))))))) (RA.skp (RA.skp (RA.skp (RA.skp (RA.skp (RA.skp (RA.run (RA.run (RA.run (RA.run (RA.spl 79 (RA.run (RA.run (RA.run (RA.run (RA.run (RA.run (RA.run (RA.run RA.done)))))))) (RA.skp (RA.skp (RA.skp (RA.skp (RA.skp (RA.skp (RA.run (RA.run RA.done)))))))))))))))))))))))
   (A.cond (A.seq (A.reg (RA.run RA.done))
   A.leaf)
   A.leaf))
   (A.cut [7, 8, 9, 10, 11] (probitylaw01_RatioOrder_P1 Kv) (A.seq (A.reg (RA.run (RA.run (RA.run (RA.run (RA.run (RA.run (RA.run (RA.run (RA.run RA.done))))))))))
   (A.seq (A.reg (RA.run (RA.run (RA.run (RA.run (RA.run (RA.run (RA.run (RA.run (RA.run RA.done))))))))))
   (A.seq (A.reg (RA.run (RA.run (RA.spl 101 (RA.run (RA.run (RA.run (RA.spl 104 (RA.skp (RA.skp (RA.run (RA.run (RA.skp (RA.skp (RA.skp (RA.skp (RA.skp (RA.run (RA.run (RA.run RA.done)))))))))))) (RA.run (RA.run (RA.run (RA.run (RA.spl 108 (RA.skp (RA.skp (RA.skp (RA.skp (RA.skp (RA.run (RA.run (RA.run RA.done)))))))) (RA.run (RA.run (RA.run (RA.run (RA.run (RA.run (RA.run (RA.run RA.done))))))))))))))))) (RA.skp (RA.skp (RA.skp (RA.skp (RA.skp (RA.skp (RA.skp (RA.skp (RA.skp (RA.skp (RA.skp (RA.skp (RA.skp (RA.run (RA.run RA.done)))))))))))))))))))
   A.leaf)))))))))))))))

noncomputable def probitylaw01_RatioOrder_O (Kv : VW) : List Ob := (obs Tryd.prog probitylaw01_RatioOrder_E 116 (probitylaw01_RatioOrder_A Kv) probitylaw01_RatioOrder_C (fun _ => retQ Tryd.prog Tryd.f5.results Kv))

theorem probitylaw01_RatioOrder_e (Kv : VW) (p_0_0 : Int) (p_0_1 : Int) (p_0_2 : Int) (q_1_0 : Int) (q_1_1 : Int) (q_1_2 : Int) (r_2_0 : Int) (r_2_1 : Int) (r_2_2 : Int) (w : World) : probitylaw01_RatioOrder_sd p_0_0 p_0_1 p_0_2 q_1_0 q_1_1 q_1_2 r_2_0 r_2_1 r_2_2 (fun (r0 : Bool) (w' : World) => Kv (Value.bool r0) w') w = W Tryd.prog probitylaw01_RatioOrder_E 116 (probitylaw01_RatioOrder_A Kv) probitylaw01_RatioOrder_C [] (retQ Tryd.prog Tryd.f5.results Kv) [] (startS [(Value.agg #[(Value.int .i64 p_0_0), (Value.int .i64 p_0_1), (Value.int .i64 p_0_2)]), (Value.agg #[(Value.int .i64 q_1_0), (Value.int .i64 q_1_1), (Value.int .i64 q_1_2)]), (Value.agg #[(Value.int .i64 r_2_0), (Value.int .i64 r_2_1), (Value.int .i64 r_2_2)])]) w := by kernel_rfl

theorem probitylaw01_RatioOrder_e0 (Kv : VW) (ρ : Rho) (up_7 : Bool) (a_8 : Addr) (b_9 : Addr) (c_10 : Addr) (x_11 : Int) (w : World) : probitylaw01_RatioOrder_k0d up_7 a_8 b_9 c_10 x_11  (fun (r0 : Bool) (w' : World) => Kv (Value.bool r0) w') w = goalAt Tryd.prog probitylaw01_RatioOrder_E 116 (probitylaw01_RatioOrder_O Kv) 0 (ρ) [(Value.bool up_7), (Value.pointer (some a_8)), (Value.pointer (some b_9)), (Value.pointer (some c_10)), (Value.int .i64 x_11)] w := by kernel_rfl

theorem probitylaw01_RatioOrder_q0 (Kv : VW) (ρ : Rho) (vs : List Value) (w : World) : labAt (probitylaw01_RatioOrder_O Kv) 0 ρ vs w = probitylaw01_RatioOrder_P0 Kv ρ vs w := by kernel_rfl

theorem probitylaw01_RatioOrder_h0 (Kv : VW) : holdsAt Tryd.prog probitylaw01_RatioOrder_E 116 (probitylaw01_RatioOrder_O Kv) 0 := holdsAt_cut (.inl (by kernel_rfl)) (fun ρ vs w h => by
  rw [probitylaw01_RatioOrder_q0] at h
  unfold probitylaw01_RatioOrder_P0 at h
  split at h
  · rw [← probitylaw01_RatioOrder_e0]; exact h.out
  · exact h.elim)

theorem probitylaw01_RatioOrder_e1 (Kv : VW) (ρ : Rho) (up_7 : Bool) (a_8 : Addr) (b_9 : Addr) (c_10 : Addr) (x_11 : Int) (w : World) : probitylaw01_RatioOrder_k1d up_7 a_8 b_9 c_10 x_11  (fun (r0 : Bool) (w' : World) => Kv (Value.bool r0) w') w = goalAt Tryd.prog probitylaw01_RatioOrder_E 116 (probitylaw01_RatioOrder_O Kv) 1 (ρ) [(Value.bool up_7), (Value.pointer (some a_8)), (Value.pointer (some b_9)), (Value.pointer (some c_10)), (Value.int .i64 x_11)] w := by kernel_rfl

theorem probitylaw01_RatioOrder_q1 (Kv : VW) (ρ : Rho) (vs : List Value) (w : World) : labAt (probitylaw01_RatioOrder_O Kv) 1 ρ vs w = probitylaw01_RatioOrder_P1 Kv ρ vs w := by kernel_rfl

theorem probitylaw01_RatioOrder_h1 (Kv : VW) : holdsAt Tryd.prog probitylaw01_RatioOrder_E 116 (probitylaw01_RatioOrder_O Kv) 1 := holdsAt_cut (.inl (by kernel_rfl)) (fun ρ vs w h => by
  rw [probitylaw01_RatioOrder_q1] at h
  unfold probitylaw01_RatioOrder_P1 at h
  split at h
  · rw [← probitylaw01_RatioOrder_e1]; exact h.out
  · exact h.elim)

theorem probitylaw01_RatioOrder_n (Kv : VW) : obAt (probitylaw01_RatioOrder_O Kv) 2 = none := by kernel_rfl

theorem probitylaw01_RatioOrder_h (Kv : VW) : ∀ k, holdsAt Tryd.prog probitylaw01_RatioOrder_E 116 (probitylaw01_RatioOrder_O Kv) k := fun k => match k with
  | 0 => probitylaw01_RatioOrder_h0 Kv
  | 1 => probitylaw01_RatioOrder_h1 Kv
  | _k + 2 => holdsAt_ge (probitylaw01_RatioOrder_n Kv) (Nat.le_add_left _ _)

theorem probitylaw01_RatioOrder_ok : Sound Tryd.prog 5 probitylaw01_RatioOrder_S := ⟨Tryd.call5, fun vs w Kv h => by
  unfold probitylaw01_RatioOrder_S at h
  split at h
  · have h := h.out
    rw [probitylaw01_RatioOrder_e] at h
    exact calls_sound (Γ := probitylaw01_RatioOrder_E) progMixed ⟨.inl probitylaw01_sanity_ok, .inl probityref01_Made_ok, .inl ratio_Add_ok, .inl ratio_Sub_ok, .inl ratio_Cmp_ok, trivial⟩ Tryd.func5 (code := probitylaw01_RatioOrder_C) (by kernel_rfl) (probitylaw01_RatioOrder_A Kv) Kv (holds_all (probitylaw01_RatioOrder_h Kv)) (Nat.le_of_ble_eq_true (by kernel_rfl)) h
  · exact h.elim⟩

/-! probitylaw01_RatioFloor -/
def probitylaw01_RatioFloor_k0d (up_3 : Bool) (a_4 : Addr) (f_5 : Int) (d_6 : Addr) (ok_7 : Bool)  (K : Bool → World → Prop) (w : World) : Prop :=
  let w42 : World := w.drew
  ∃ S43 : World → Prop, S43 w42 ∧ cnd up_3
    (∃ x44 : Int, (∀ w' : World, S43 w' → w'.cell? a_4 = some (Value.int .i64 x44)) ∧ ∃ x45 : Int, (∀ w' : World, S43 w' → w'.cell? (a_4.add 1) = some (Value.int .i64 x45)) ∧ ratio_Of_sh f_5 (fun (r47_0 : Int) (r47_1 : Int) (w46 : World) => S43 w46 ∧ ratio_Cmp_sh r47_0 r47_1 x44 x45 (fun (r49 : Int) (w48 : World) => S43 w48 ∧ cnd (decide (r49 ≤ (0 : Int)))
    (cnd ok_7
    (∃ x50 : Int, (∀ w' : World, S43 w' → w'.cell? d_6 = some (Value.int .i64 x50)) ∧ cnd (decide (x50 ≥ (0 : Int)))
    (∃ x51 : Int, (∀ w' : World, S43 w' → w'.cell? d_6 = some (Value.int .i64 x51)) ∧ ∃ x52 : Int, (∀ w' : World, S43 w' → w'.cell? (d_6.add 1) = some (Value.int .i64 x52)) ∧ K (decide (x51 < x52)) w48)
    (K false w48))
    (K false w48))
    (K false w48)) w46) w42)
    (K false w42)
structure probitylaw01_RatioFloor_k0 (up_3 : Bool) (a_4 : Addr) (f_5 : Int) (d_6 : Addr) (ok_7 : Bool)  (K : Bool → World → Prop) (w : World) : Prop where
  out : probitylaw01_RatioFloor_k0d up_3 a_4 f_5 d_6 ok_7 K w

def probitylaw01_RatioFloor_sd (p_0_0 : Int) (p_0_1 : Int) (p_0_2 : Int) (K : Bool → World → Prop) (w : World) : Prop :=
  let w1 : World := w.alloc (Obj.cells #[(Value.int .i64 p_0_0), (Value.int .i64 p_0_1), (Value.int .i64 p_0_2)] 36)
  probitylaw01_sanity_sh (fun (r3 : Bool) (w2 : World) => ∃ x4 : Int, w2.cell? (Addr.mk w.heap.size 0 none) = some (Value.int .i64 x4) ∧ ∃ x5 : Int, w2.cell? (Addr.mk w.heap.size 1 none) = some (Value.int .i64 x5) ∧ ∃ x6 : Int, w2.cell? (Addr.mk w.heap.size 2 none) = some (Value.int .i64 x6) ∧ probityref01_Made_sh x4 x5 x6 (fun (r8_0 : Int) (r8_1 : Int) (w7 : World) => let w9 : World := w7.alloc (Obj.cells #[(Value.int .i64 (0 : Int)), (Value.int .i64 (0 : Int))] 28)
  wrOk w9 (Addr.mk w7.heap.size 0 none) ∧ 
  (let w10 : World := w9.setCell (Addr.mk w7.heap.size 0 none) (Value.int .i64 r8_0)
  wrOk w10 (Addr.mk w7.heap.size 1 none) ∧ 
  (let w11 : World := w10.setCell (Addr.mk w7.heap.size 1 none) (Value.int .i64 r8_1)
  ∃ x12 : Int, w11.cell? (Addr.mk w7.heap.size 0 none) = some (Value.int .i64 x12) ∧ ∃ x13 : Int, w11.cell? (Addr.mk w7.heap.size 1 none) = some (Value.int .i64 x13) ∧ ratio_Floor_sh x12 x13 (fun (r15 : Int) (w14 : World) => let w16 : World := w14.drew
  ∃ S17 : World → Prop, S17 w16 ∧ ∃ x18 : Int, (∀ w' : World, S17 w' → w'.cell? (Addr.mk w7.heap.size 0 none) = some (Value.int .i64 x18)) ∧ ∃ x19 : Int, (∀ w' : World, S17 w' → w'.cell? (Addr.mk w7.heap.size 1 none) = some (Value.int .i64 x19)) ∧ (ratio_Of_sh r15 (fun (r21_0 : Int) (r21_1 : Int) (w20 : World) => S17 w20 ∧ (ratio_Sub_sh x18 x19 r21_0 r21_1 (fun (r23_0 : Int) (r23_1 : Int) (r24 : Bool) (w22 : World) => S17 w22 ∧ let w25 : World := w22.alloc (Obj.cells #[(Value.int .i64 (0 : Int)), (Value.int .i64 (0 : Int))] 28)
  S17 w25 ∧ wrOk w25 (Addr.mk w22.heap.size 0 none) ∧ 
  (let w26 : World := w25.setCell (Addr.mk w22.heap.size 0 none) (Value.int .i64 r23_0)
  wrOk w26 (Addr.mk w22.heap.size 1 none) ∧ 
  (let w27 : World := w26.setCell (Addr.mk w22.heap.size 1 none) (Value.int .i64 r23_1)
  probitylaw01_RatioFloor_k0 r3 (Addr.mk w7.heap.size 0 none) r15 (Addr.mk w22.heap.size 0 none) r24 K w27))) w20)
    ∧ (let w28 : World := w20.alloc (Obj.cells #[(Value.int .i64 (0 : Int)), (Value.int .i64 (0 : Int))] 28)
  S17 w28 ∧ ratio_Sub_sh x18 x19 r21_0 r21_1 (fun (r30_0 : Int) (r30_1 : Int) (r31 : Bool) (w29 : World) => wrOk w29 (Addr.mk w20.heap.size 0 none) ∧ 
  (let w32 : World := w29.setCell (Addr.mk w20.heap.size 0 none) (Value.int .i64 r30_0)
  wrOk w32 (Addr.mk w20.heap.size 1 none) ∧ 
  (let w33 : World := w32.setCell (Addr.mk w20.heap.size 1 none) (Value.int .i64 r30_1)
  probitylaw01_RatioFloor_k0 r3 (Addr.mk w7.heap.size 0 none) r15 (Addr.mk w20.heap.size 0 none) r31 K w33))) w28)) w16)
    ∧ (let w34 : World := w16.alloc (Obj.cells #[(Value.int .i64 (0 : Int)), (Value.int .i64 (0 : Int))] 28)
  S17 w34 ∧ ratio_Of_sh r15 (fun (r36_0 : Int) (r36_1 : Int) (w35 : World) => S17 w35 ∧ ratio_Sub_sh x18 x19 r36_0 r36_1 (fun (r38_0 : Int) (r38_1 : Int) (r39 : Bool) (w37 : World) => wrOk w37 (Addr.mk w16.heap.size 0 none) ∧ 
  (let w40 : World := w37.setCell (Addr.mk w16.heap.size 0 none) (Value.int .i64 r38_0)
  wrOk w40 (Addr.mk w16.heap.size 1 none) ∧ 
  (let w41 : World := w40.setCell (Addr.mk w16.heap.size 1 none) (Value.int .i64 r38_1)
  probitylaw01_RatioFloor_k0 r3 (Addr.mk w7.heap.size 0 none) r15 (Addr.mk w16.heap.size 0 none) r39 K w41))) w35) w34)) w11))) w2) w1

structure probitylaw01_RatioFloor_sh (p_0_0 : Int) (p_0_1 : Int) (p_0_2 : Int) (K : Bool → World → Prop) (w : World) : Prop where
  out : probitylaw01_RatioFloor_sd p_0_0 p_0_1 p_0_2 K w

def probitylaw01_RatioFloor_P0 (Kv : VW) (ρ : Rho) (vs : List Value) (w : World) : Prop :=
  match ρ, vs with
  | _, [.bool up_3, .pointer (some a_4), .int .i64 f_5, .pointer (some d_6), .bool ok_7] => probitylaw01_RatioFloor_k0 up_3 a_4 f_5 d_6 ok_7  (fun (r0 : Bool) (w' : World) => Kv (Value.bool r0) w') w
  | _, _ => False

noncomputable def probitylaw01_RatioFloor_S : Pw.Spec := fun vs w Kv =>
  match vs with
  | [.agg ⟨[.int .i64 p_0_0, .int .i64 p_0_1, .int .i64 p_0_2]⟩] => probitylaw01_RatioFloor_sh p_0_0 p_0_1 p_0_2 (fun (r0 : Bool) (w' : World) => Kv (Value.bool r0) w') w
  | _ => False

noncomputable def probitylaw01_RatioFloor_E : Pw.Env := [(8, probitylaw01_sanity_S), (12, ratio_Of_S), (15, probityref01_Made_S), (18, ratio_Sub_S), (19, ratio_Cmp_S), (20, ratio_Floor_S)]

noncomputable def probitylaw01_RatioFloor_C : Code := (Tryd.f6.body).getD .skip

noncomputable def probitylaw01_RatioFloor_A (Kv : VW) : Pw.A :=
  (A.seq (A.reg (RA.run (RA.run RA.done)))
   (A.seq (A.reg (RA.run (RA.run RA.done)))
   (A.seq (A.reg (RA.run (RA.run (RA.run (RA.run RA.done)))))
   (A.seq (A.reg (RA.run (RA.run (RA.run RA.done))))
   (A.seq (A.drw (DA.pur 0 (DA.pur 1 (DA.two 2 (DA.two 3 (DA.pur 4 (DA.pur 5 (DA.pur 6 (DA.eff 7 (DA.eff 8 (DA.pur 9 DA.done)))))) 7 (DA.eff 3 (DA.pur 4 (DA.pur 5 (DA.pur 6 (DA.eff 8 (DA.pur 9 DA.done))))))) 7 (DA.eff 2 (DA.eff 3 (DA.pur 4 (DA.pur 5 (DA.pur 6 (DA.eff 8 (DA.pur 9 DA.done)))))))))))
   (A.cut [3, 4, 5, 6, 7] (probitylaw01_RatioFloor_P0 Kv) (A.seq (A.drw (DA.pur 0 (DA.pur 1 (DA.spl 21 (DA.pur 2 (DA.pur 4 (DA.eff 3 (DA.eff 5 (DA.pur 6 (DA.pur 7 (DA.pur 8 (DA.spl 28 (DA.pur 9 (DA.pur 10 (DA.pur 11 (DA.spl 31 (DA.pur 12 (DA.pur 13 (DA.pur 14 (DA.pur 15 (DA.pur 16 (DA.spl 36 (DA.pur 17 (DA.pur 18 (DA.pur 19 (DA.pur 20 (DA.pur 21 (DA.pur 22 (DA.pur 23 DA.done))))))) (DA.skp 17 (DA.skp 18 (DA.skp 19 (DA.skp 20 (DA.skp 21 (DA.pur 22 (DA.pur 23 DA.done))))))))))))) (DA.skp 12 (DA.skp 13 (DA.skp 14 (DA.pur 15 (DA.pur 16 (DA.skp 17 (DA.skp 18 (DA.skp 19 (DA.skp 20 (DA.skp 21 (DA.pur 22 (DA.pur 23 DA.done)))))))))))))))) (DA.skp 9 (DA.pur 10 (DA.pur 11 (DA.skp 12 (DA.skp 13 (DA.skp 14 (DA.pur 15 (DA.pur 16 (DA.skp 17 (DA.skp 18 (DA.skp 19 (DA.skp 20 (DA.skp 21 (DA.pur 22 (DA.pur 23 DA.done))))))))))))))))))))))) (DA.skp 2 (DA.skp 4 (DA.skp 3 (DA.skp 5 (DA.skp 6 (DA.pur 7 (DA.pur 8 (DA.skp 9 (DA.pur 10 (DA.pur 11 (DA.skp 12 (DA.skp 13 (DA.skp 14 (DA.pur 15 (DA.pur 16 (DA.skp 17 (DA.skp 18 (DA.skp 19 (DA.skp 20 (DA.skp 21 (DA.pur 22 (DA.pur 23 DA.done))))))))))))))))))))))))))
   A.leaf)))))))

noncomputable def probitylaw01_RatioFloor_O (Kv : VW) : List Ob := (obs Tryd.prog probitylaw01_RatioFloor_E 43 (probitylaw01_RatioFloor_A Kv) probitylaw01_RatioFloor_C (fun _ => retQ Tryd.prog Tryd.f6.results Kv))

theorem probitylaw01_RatioFloor_e (Kv : VW) (p_0_0 : Int) (p_0_1 : Int) (p_0_2 : Int) (w : World) : probitylaw01_RatioFloor_sd p_0_0 p_0_1 p_0_2 (fun (r0 : Bool) (w' : World) => Kv (Value.bool r0) w') w = W Tryd.prog probitylaw01_RatioFloor_E 43 (probitylaw01_RatioFloor_A Kv) probitylaw01_RatioFloor_C [] (retQ Tryd.prog Tryd.f6.results Kv) [] (startS [(Value.agg #[(Value.int .i64 p_0_0), (Value.int .i64 p_0_1), (Value.int .i64 p_0_2)])]) w := by kernel_rfl

theorem probitylaw01_RatioFloor_e0 (Kv : VW) (ρ : Rho) (up_3 : Bool) (a_4 : Addr) (f_5 : Int) (d_6 : Addr) (ok_7 : Bool) (w : World) : probitylaw01_RatioFloor_k0d up_3 a_4 f_5 d_6 ok_7  (fun (r0 : Bool) (w' : World) => Kv (Value.bool r0) w') w = goalAt Tryd.prog probitylaw01_RatioFloor_E 43 (probitylaw01_RatioFloor_O Kv) 0 (ρ) [(Value.bool up_3), (Value.pointer (some a_4)), (Value.int .i64 f_5), (Value.pointer (some d_6)), (Value.bool ok_7)] w := by kernel_rfl

theorem probitylaw01_RatioFloor_q0 (Kv : VW) (ρ : Rho) (vs : List Value) (w : World) : labAt (probitylaw01_RatioFloor_O Kv) 0 ρ vs w = probitylaw01_RatioFloor_P0 Kv ρ vs w := by kernel_rfl

theorem probitylaw01_RatioFloor_h0 (Kv : VW) : holdsAt Tryd.prog probitylaw01_RatioFloor_E 43 (probitylaw01_RatioFloor_O Kv) 0 := holdsAt_cut (.inl (by kernel_rfl)) (fun ρ vs w h => by
  rw [probitylaw01_RatioFloor_q0] at h
  unfold probitylaw01_RatioFloor_P0 at h
  split at h
  · rw [← probitylaw01_RatioFloor_e0]; exact h.out
  · exact h.elim)

theorem probitylaw01_RatioFloor_n (Kv : VW) : obAt (probitylaw01_RatioFloor_O Kv) 1 = none := by kernel_rfl

theorem probitylaw01_RatioFloor_h (Kv : VW) : ∀ k, holdsAt Tryd.prog probitylaw01_RatioFloor_E 43 (probitylaw01_RatioFloor_O Kv) k := fun k => match k with
  | 0 => probitylaw01_RatioFloor_h0 Kv
  | _k + 1 => holdsAt_ge (probitylaw01_RatioFloor_n Kv) (Nat.le_add_left _ _)

theorem probitylaw01_RatioFloor_ok : Sound Tryd.prog 6 probitylaw01_RatioFloor_S := ⟨Tryd.call6, fun vs w Kv h => by
  unfold probitylaw01_RatioFloor_S at h
  split at h
  · have h := h.out
    rw [probitylaw01_RatioFloor_e] at h
    exact calls_sound (Γ := probitylaw01_RatioFloor_E) progMixed ⟨.inl probitylaw01_sanity_ok, .inl ratio_Of_ok, .inl probityref01_Made_ok, .inl ratio_Sub_ok, .inl ratio_Cmp_ok, .inl ratio_Floor_ok, trivial⟩ Tryd.func6 (code := probitylaw01_RatioFloor_C) (by kernel_rfl) (probitylaw01_RatioFloor_A Kv) Kv (holds_all (probitylaw01_RatioFloor_h Kv)) (Nat.le_of_ble_eq_true (by kernel_rfl)) h
  · exact h.elim⟩

/-! probitylaw01_RatioLimits -/
def probitylaw01_RatioLimits_k1d (up_5 : Bool) (f_16 : Addr) (five_17 : Bool) (g_18 : Addr) (six_19 : Bool)  (K : Bool → World → Prop) (w : World) : Prop :=
  cnd up_5
    (∃ x75 : Int, w.cell? f_16 = some (Value.int .i64 x75) ∧ ∃ x76 : Int, w.cell? (f_16.add 1) = some (Value.int .i64 x76) ∧ probitylaw01_none_sh x75 x76 five_17 (fun (r78 : Bool) (w77 : World) => cnd r78
    (∃ x79 : Int, w77.cell? g_18 = some (Value.int .i64 x79) ∧ ∃ x80 : Int, w77.cell? (g_18.add 1) = some (Value.int .i64 x80) ∧ probitylaw01_is_sh x79 x80 six_19 (1 : Int) (1 : Int) (fun (r82 : Bool) (w81 : World) => K r82 w81) w77)
    (K false w77)) w)
    (K false w)
structure probitylaw01_RatioLimits_k1 (up_5 : Bool) (f_16 : Addr) (five_17 : Bool) (g_18 : Addr) (six_19 : Bool)  (K : Bool → World → Prop) (w : World) : Prop where
  out : probitylaw01_RatioLimits_k1d up_5 f_16 five_17 g_18 six_19 K w

def probitylaw01_RatioLimits_k0d (up_5 : Bool) (k_6 : Int) (c_12 : Addr) (three_13 : Bool) (e_14 : Addr) (four_15 : Bool) (f_16 : Addr) (five_17 : Bool) (g_18 : Addr) (six_19 : Bool)  (K : Bool → World → Prop) (w : World) : Prop :=
  let w67 : World := w.drew
  ∃ S68 : World → Prop, S68 w67 ∧ cnd (!(three_13 == (decide (k_6 > (0 : Int)))))
    (K false w67)
    (cnd (!(four_15 == (decide (k_6 > (0 : Int)))))
    (K false w67)
    (cnd (decide (k_6 > (0 : Int)))
    (∃ x69 : Int, (∀ w' : World, S68 w' → w'.cell? c_12 = some (Value.int .i64 x69)) ∧ ∃ x70 : Int, (∀ w' : World, S68 w' → w'.cell? (c_12.add 1) = some (Value.int .i64 x70)) ∧ inR .i64 ((9223372036854775807 : Int) - k_6) ∧ inR .i64 (((9223372036854775807 : Int) - k_6) + (1 : Int)) ∧ ratio_Of_sh (((9223372036854775807 : Int) - k_6) + (1 : Int)) (fun (r72_0 : Int) (r72_1 : Int) (w71 : World) => S68 w71 ∧ cnd (!(x69 == r72_0 && (x70 == r72_1 && true)))
    (K false w71)
    (∃ x73 : Int, (∀ w' : World, S68 w' → w'.cell? e_14 = some (Value.int .i64 x73)) ∧ ∃ x74 : Int, (∀ w' : World, S68 w' → w'.cell? (e_14.add 1) = some (Value.int .i64 x74)) ∧ inR .i64 ((9223372036854775807 : Int) - k_6) ∧ inR .i64 (((9223372036854775807 : Int) - k_6) + (1 : Int)) ∧ cnd (!(x73 == (1 : Int) && (x74 == (((9223372036854775807 : Int) - k_6) + (1 : Int)) && true)))
    (K false w71)
    (probitylaw01_RatioLimits_k1 up_5 f_16 five_17 g_18 six_19 K w71))) w67)
    (probitylaw01_RatioLimits_k1 up_5 f_16 five_17 g_18 six_19 K w67)))
structure probitylaw01_RatioLimits_k0 (up_5 : Bool) (k_6 : Int) (c_12 : Addr) (three_13 : Bool) (e_14 : Addr) (four_15 : Bool) (f_16 : Addr) (five_17 : Bool) (g_18 : Addr) (six_19 : Bool)  (K : Bool → World → Prop) (w : World) : Prop where
  out : probitylaw01_RatioLimits_k0d up_5 k_6 c_12 three_13 e_14 four_15 f_16 five_17 g_18 six_19 K w

def probitylaw01_RatioLimits_sd (n_0 : Int) (d_1 : Int) (K : Bool → World → Prop) (w : World) : Prop :=
  probitylaw01_sanity_sh (fun (r2 : Bool) (w1 : World) => (5 : Int) ≠ 0 ∧ inR .i64 (Int.tmod n_0 (5 : Int)) ∧ (1000 : Int) ≠ 0 ∧ inR .i64 (Int.tmod d_1 (1000 : Int)) ∧ inR .i64 ((Int.tmod d_1 (1000 : Int)) + (2 : Int)) ∧ inR .i64 ((9223372036854775807 : Int) - (Int.tmod n_0 (5 : Int))) ∧ ratio_Of_sh ((9223372036854775807 : Int) - (Int.tmod n_0 (5 : Int))) (fun (r4_0 : Int) (r4_1 : Int) (w3 : World) => ratio_Of_sh (2 : Int) (fun (r6_0 : Int) (r6_1 : Int) (w5 : World) => ratio_Add_sh r4_0 r4_1 r6_0 r6_1 (fun (r8_0 : Int) (r8_1 : Int) (r9 : Bool) (w7 : World) => let w10 : World := w7.alloc (Obj.cells #[(Value.int .i64 (0 : Int)), (Value.int .i64 (0 : Int))] 28)
  wrOk w10 (Addr.mk w7.heap.size 0 none) ∧ 
  (let w11 : World := w10.setCell (Addr.mk w7.heap.size 0 none) (Value.int .i64 r8_0)
  wrOk w11 (Addr.mk w7.heap.size 1 none) ∧ 
  (let w12 : World := w11.setCell (Addr.mk w7.heap.size 1 none) (Value.int .i64 r8_1)
  inR .i64 ((-9223372036854775808 : Int) + (Int.tmod n_0 (5 : Int))) ∧ ratio_Of_sh ((-9223372036854775808 : Int) + (Int.tmod n_0 (5 : Int))) (fun (r14_0 : Int) (r14_1 : Int) (w13 : World) => ratio_Of_sh (2 : Int) (fun (r16_0 : Int) (r16_1 : Int) (w15 : World) => ratio_Sub_sh r14_0 r14_1 r16_0 r16_1 (fun (r18_0 : Int) (r18_1 : Int) (r19 : Bool) (w17 : World) => let w20 : World := w17.alloc (Obj.cells #[(Value.int .i64 (0 : Int)), (Value.int .i64 (0 : Int))] 28)
  wrOk w20 (Addr.mk w17.heap.size 0 none) ∧ 
  (let w21 : World := w20.setCell (Addr.mk w17.heap.size 0 none) (Value.int .i64 r18_0)
  wrOk w21 (Addr.mk w17.heap.size 1 none) ∧ 
  (let w22 : World := w21.setCell (Addr.mk w17.heap.size 1 none) (Value.int .i64 r18_1)
  inR .i64 ((-9223372036854775808 : Int) + (Int.tmod n_0 (5 : Int))) ∧ ratio_Of_sh ((-9223372036854775808 : Int) + (Int.tmod n_0 (5 : Int))) (fun (r24_0 : Int) (r24_1 : Int) (w23 : World) => ratio_Of_sh (-1 : Int) (fun (r26_0 : Int) (r26_1 : Int) (w25 : World) => ratio_Mul_sh r24_0 r24_1 r26_0 r26_1 (fun (r28_0 : Int) (r28_1 : Int) (r29 : Bool) (w27 : World) => let w30 : World := w27.alloc (Obj.cells #[(Value.int .i64 (0 : Int)), (Value.int .i64 (0 : Int))] 28)
  wrOk w30 (Addr.mk w27.heap.size 0 none) ∧ 
  (let w31 : World := w30.setCell (Addr.mk w27.heap.size 0 none) (Value.int .i64 r28_0)
  wrOk w31 (Addr.mk w27.heap.size 1 none) ∧ 
  (let w32 : World := w31.setCell (Addr.mk w27.heap.size 1 none) (Value.int .i64 r28_1)
  ratio_Of_sh (-1 : Int) (fun (r34_0 : Int) (r34_1 : Int) (w33 : World) => inR .i64 ((-9223372036854775808 : Int) + (Int.tmod n_0 (5 : Int))) ∧ ratio_Of_sh ((-9223372036854775808 : Int) + (Int.tmod n_0 (5 : Int))) (fun (r36_0 : Int) (r36_1 : Int) (w35 : World) => ratio_Quo_sh r34_0 r34_1 r36_0 r36_1 (fun (r38_0 : Int) (r38_1 : Int) (r39 : Bool) (w37 : World) => let w40 : World := w37.alloc (Obj.cells #[(Value.int .i64 (0 : Int)), (Value.int .i64 (0 : Int))] 28)
  wrOk w40 (Addr.mk w37.heap.size 0 none) ∧ 
  (let w41 : World := w40.setCell (Addr.mk w37.heap.size 0 none) (Value.int .i64 r38_0)
  wrOk w41 (Addr.mk w37.heap.size 1 none) ∧ 
  (let w42 : World := w41.setCell (Addr.mk w37.heap.size 1 none) (Value.int .i64 r38_1)
  ratio_Mul_sh (1 : Int) (9223372036854775807 : Int) (1 : Int) ((Int.tmod d_1 (1000 : Int)) + (2 : Int)) (fun (r44_0 : Int) (r44_1 : Int) (r45 : Bool) (w43 : World) => let w46 : World := w43.alloc (Obj.cells #[(Value.int .i64 (0 : Int)), (Value.int .i64 (0 : Int))] 28)
  wrOk w46 (Addr.mk w43.heap.size 0 none) ∧ 
  (let w47 : World := w46.setCell (Addr.mk w43.heap.size 0 none) (Value.int .i64 r44_0)
  wrOk w47 (Addr.mk w43.heap.size 1 none) ∧ 
  (let w48 : World := w47.setCell (Addr.mk w43.heap.size 1 none) (Value.int .i64 r44_1)
  ratio_Of_sh (9223372036854775807 : Int) (fun (r50_0 : Int) (r50_1 : Int) (w49 : World) => ratio_Mul_sh (1 : Int) (9223372036854775807 : Int) r50_0 r50_1 (fun (r52_0 : Int) (r52_1 : Int) (r53 : Bool) (w51 : World) => let w54 : World := w51.alloc (Obj.cells #[(Value.int .i64 (0 : Int)), (Value.int .i64 (0 : Int))] 28)
  wrOk w54 (Addr.mk w51.heap.size 0 none) ∧ 
  (let w55 : World := w54.setCell (Addr.mk w51.heap.size 0 none) (Value.int .i64 r52_0)
  wrOk w55 (Addr.mk w51.heap.size 1 none) ∧ 
  (let w56 : World := w55.setCell (Addr.mk w51.heap.size 1 none) (Value.int .i64 r52_1)
  let w57 : World := w56.drew
  ∃ S58 : World → Prop, S58 w57 ∧ cnd (!(r9 == (decide ((Int.tmod n_0 (5 : Int)) ≥ (2 : Int)))))
    (K false w57)
    (cnd (!(r19 == (decide ((Int.tmod n_0 (5 : Int)) ≥ (2 : Int)))))
    (K false w57)
    (cnd (decide ((Int.tmod n_0 (5 : Int)) ≥ (2 : Int)))
    (∃ x59 : Int, (∀ w' : World, S58 w' → w'.cell? (Addr.mk w7.heap.size 0 none) = some (Value.int .i64 x59)) ∧ ∃ x60 : Int, (∀ w' : World, S58 w' → w'.cell? (Addr.mk w7.heap.size 1 none) = some (Value.int .i64 x60)) ∧ inR .i64 ((9223372036854775807 : Int) - (Int.tmod n_0 (5 : Int))) ∧ inR .i64 (((9223372036854775807 : Int) - (Int.tmod n_0 (5 : Int))) + (2 : Int)) ∧ ratio_Of_sh (((9223372036854775807 : Int) - (Int.tmod n_0 (5 : Int))) + (2 : Int)) (fun (r62_0 : Int) (r62_1 : Int) (w61 : World) => S58 w61 ∧ cnd (!(x59 == r62_0 && (x60 == r62_1 && true)))
    (K false w61)
    (∃ x63 : Int, (∀ w' : World, S58 w' → w'.cell? (Addr.mk w17.heap.size 0 none) = some (Value.int .i64 x63)) ∧ ∃ x64 : Int, (∀ w' : World, S58 w' → w'.cell? (Addr.mk w17.heap.size 1 none) = some (Value.int .i64 x64)) ∧ inR .i64 ((-9223372036854775808 : Int) + (Int.tmod n_0 (5 : Int))) ∧ inR .i64 (((-9223372036854775808 : Int) + (Int.tmod n_0 (5 : Int))) - (2 : Int)) ∧ ratio_Of_sh (((-9223372036854775808 : Int) + (Int.tmod n_0 (5 : Int))) - (2 : Int)) (fun (r66_0 : Int) (r66_1 : Int) (w65 : World) => S58 w65 ∧ cnd (!(x63 == r66_0 && (x64 == r66_1 && true)))
    (K false w65)
    (probitylaw01_RatioLimits_k0 r2 (Int.tmod n_0 (5 : Int)) (Addr.mk w27.heap.size 0 none) r29 (Addr.mk w37.heap.size 0 none) r39 (Addr.mk w43.heap.size 0 none) r45 (Addr.mk w51.heap.size 0 none) r53 K w65)) w61)) w57)
    (probitylaw01_RatioLimits_k0 r2 (Int.tmod n_0 (5 : Int)) (Addr.mk w27.heap.size 0 none) r29 (Addr.mk w37.heap.size 0 none) r39 (Addr.mk w43.heap.size 0 none) r45 (Addr.mk w51.heap.size 0 none) r53 K w57)))))) w49) w48))) w42))) w35) w33) w32))) w25) w23) w22))) w15) w13) w12))) w5) w3) w1) w

structure probitylaw01_RatioLimits_sh (n_0 : Int) (d_1 : Int) (K : Bool → World → Prop) (w : World) : Prop where
  out : probitylaw01_RatioLimits_sd n_0 d_1 K w

def probitylaw01_RatioLimits_P0 (Kv : VW) (ρ : Rho) (vs : List Value) (w : World) : Prop :=
  match ρ, vs with
  | _, [.bool up_5, .int .i64 k_6, .pointer (some c_12), .bool three_13, .pointer (some e_14), .bool four_15, .pointer (some f_16), .bool five_17, .pointer (some g_18), .bool six_19] => probitylaw01_RatioLimits_k0 up_5 k_6 c_12 three_13 e_14 four_15 f_16 five_17 g_18 six_19  (fun (r0 : Bool) (w' : World) => Kv (Value.bool r0) w') w
  | _, _ => False

def probitylaw01_RatioLimits_P1 (Kv : VW) (ρ : Rho) (vs : List Value) (w : World) : Prop :=
  match ρ, vs with
  | _, [.bool up_5, .pointer (some f_16), .bool five_17, .pointer (some g_18), .bool six_19] => probitylaw01_RatioLimits_k1 up_5 f_16 five_17 g_18 six_19  (fun (r0 : Bool) (w' : World) => Kv (Value.bool r0) w') w
  | _, _ => False

noncomputable def probitylaw01_RatioLimits_S : Pw.Spec := fun vs w Kv =>
  match vs with
  | [.int .u8 n_0, .int .u16 d_1] => probitylaw01_RatioLimits_sh n_0 d_1 (fun (r0 : Bool) (w' : World) => Kv (Value.bool r0) w') w
  | _ => False

noncomputable def probitylaw01_RatioLimits_E : Pw.Env := [(8, probitylaw01_sanity_S), (11, ratio_Quo_S), (12, ratio_Of_S), (16, ratio_Add_S), (17, ratio_Mul_S), (18, ratio_Sub_S), (21, probitylaw01_none_S), (22, probitylaw01_is_S)]

noncomputable def probitylaw01_RatioLimits_C : Code := (Tryd.f7.body).getD .skip

noncomputable def probitylaw01_RatioLimits_A (Kv : VW) : Pw.A :=
  (A.seq (A.reg (RA.run RA.done))
   (A.seq (A.reg (RA.run (RA.run RA.done)))
   (A.seq (A.reg (RA.run (RA.run (RA.run (RA.run RA.done)))))
   (A.seq (A.reg (RA.run (RA.run (RA.run (RA.run (RA.run RA.done))))))
   (A.seq (A.reg (RA.run (RA.run (RA.run (RA.run (RA.run (RA.run (RA.run (RA.run (RA.run (RA.run (RA.run RA.done))))))))))))
   (A.seq (A.reg (RA.run (RA.run (RA.run (RA.run (RA.run (RA.run (RA.run (RA.run (RA.run (RA.run (RA.run RA.done))))))))))))
   (A.seq (A.reg (RA.run (RA.run (RA.run (RA.run (RA.run (RA.run (RA.run (RA.run (RA.run (RA.run (RA.run RA.done))))))))))))
   (A.seq (A.reg (RA.run (RA.run (RA.run (RA.run (RA.run (RA.run (RA.run (RA.run (RA.run (RA.run (RA.run RA.done))))))))))))
   (A.seq (A.reg (RA.run (RA.run (RA.run (RA.run (RA.run (RA.run (RA.run (RA.run (RA.run (RA.run RA.done)))))))))))
   (A.seq (A.reg (RA.run (RA.run (RA.run (RA.run (RA.run (RA.run (RA.run (RA.run (RA.run RA.done))))))))))
   (A.seq (A.reg (RA.run (RA.run (RA.run RA.done))))
   (A.seq (A.seq (A.drw (DA.pur 0 (DA.pur 1 (DA.pur 2 (DA.pur 3 (DA.spl 79 (DA.skp 4 (DA.skp 5 (DA.skp 6 (DA.pur 7 (DA.pur 8 (DA.skp 9 (DA.skp 10 (DA.skp 11 (DA.skp 12 (DA.skp 13 (DA.skp 14 (DA.skp 15 (DA.skp 16 (DA.skp 17 (DA.skp 18 (DA.skp 19 (DA.skp 20 (DA.skp 21 (DA.skp 22 (DA.skp 23 (DA.skp 24 (DA.skp 25 (DA.pur 26 DA.done))))))))))))))))))))))) (DA.pur 4 (DA.pur 5 (DA.pur 6 (DA.pur 7 (DA.pur 8 (DA.spl 84 (DA.skp 9 (DA.skp 10 (DA.skp 11 (DA.skp 12 (DA.skp 13 (DA.skp 14 (DA.skp 15 (DA.skp 16 (DA.skp 17 (DA.skp 18 (DA.skp 19 (DA.skp 20 (DA.skp 21 (DA.skp 22 (DA.skp 23 (DA.skp 24 (DA.skp 25 (DA.pur 26 DA.done)))))))))))))))))) (DA.pur 9 (DA.pur 10 (DA.spl 86 (DA.pur 11 (DA.pur 12 (DA.pur 13 (DA.pur 14 (DA.eff 15 (DA.pur 16 (DA.pur 17 (DA.spl 93 (DA.skp 18 (DA.skp 19 (DA.skp 20 (DA.skp 21 (DA.skp 22 (DA.skp 23 (DA.pur 24 (DA.pur 25 (DA.pur 26 DA.done))))))))) (DA.pur 18 (DA.pur 19 (DA.pur 20 (DA.pur 21 (DA.eff 22 (DA.pur 23 (DA.pur 24 (DA.pur 25 (DA.pur 26 DA.done))))))))))))))))) (DA.skp 11 (DA.skp 12 (DA.skp 13 (DA.skp 14 (DA.skp 15 (DA.skp 16 (DA.skp 17 (DA.skp 18 (DA.skp 19 (DA.skp 20 (DA.skp 21 (DA.skp 22 (DA.skp 23 (DA.skp 24 (DA.pur 25 (DA.pur 26 DA.done)))))))))))))))))))))))))))))))
   (A.cond (A.seq (A.reg (RA.run RA.done))
   A.leaf)
   A.leaf))
   (A.cut [5, 6, 12, 13, 14, 15, 16, 17, 18, 19] (probitylaw01_RatioLimits_P0 Kv) (A.seq (A.seq (A.drw (DA.pur 0 (DA.pur 1 (DA.pur 2 (DA.pur 3 (DA.pur 4 (DA.spl 107 (DA.skp 5 (DA.skp 6 (DA.skp 7 (DA.skp 8 (DA.pur 9 (DA.pur 10 (DA.skp 11 (DA.skp 12 (DA.skp 13 (DA.skp 14 (DA.skp 15 (DA.skp 16 (DA.skp 17 (DA.skp 18 (DA.skp 19 (DA.skp 20 (DA.skp 21 (DA.skp 22 (DA.skp 23 (DA.skp 24 (DA.skp 25 (DA.skp 26 (DA.skp 27 (DA.skp 28 (DA.pur 29 DA.done))))))))))))))))))))))))) (DA.pur 5 (DA.pur 6 (DA.pur 7 (DA.pur 8 (DA.pur 9 (DA.pur 10 (DA.spl 113 (DA.skp 11 (DA.skp 12 (DA.skp 13 (DA.skp 14 (DA.skp 15 (DA.skp 16 (DA.skp 17 (DA.skp 18 (DA.skp 19 (DA.skp 20 (DA.skp 21 (DA.skp 22 (DA.skp 23 (DA.skp 24 (DA.skp 25 (DA.skp 26 (DA.skp 27 (DA.skp 28 (DA.pur 29 DA.done))))))))))))))))))) (DA.pur 11 (DA.pur 12 (DA.pur 13 (DA.spl 116 (DA.pur 14 (DA.pur 15 (DA.pur 16 (DA.pur 17 (DA.eff 18 (DA.pur 19 (DA.pur 20 (DA.spl 123 (DA.skp 21 (DA.skp 22 (DA.skp 23 (DA.skp 24 (DA.skp 25 (DA.skp 26 (DA.pur 27 (DA.pur 28 (DA.pur 29 DA.done))))))))) (DA.pur 21 (DA.pur 22 (DA.pur 23 (DA.pur 24 (DA.pur 25 (DA.pur 26 (DA.pur 27 (DA.pur 28 (DA.pur 29 DA.done))))))))))))))))) (DA.skp 14 (DA.skp 15 (DA.skp 16 (DA.skp 17 (DA.skp 18 (DA.skp 19 (DA.skp 20 (DA.skp 21 (DA.skp 22 (DA.skp 23 (DA.skp 24 (DA.skp 25 (DA.skp 26 (DA.skp 27 (DA.pur 28 (DA.pur 29 DA.done))))))))))))))))))))))))))))))))))
   (A.cond (A.seq (A.reg (RA.run RA.done))
   A.leaf)
   A.leaf))
   (A.cut [5, 16, 17, 18, 19] (probitylaw01_RatioLimits_P1 Kv) (A.seq (A.reg (RA.run (RA.run (RA.spl 134 (RA.run (RA.run (RA.run (RA.run (RA.run (RA.spl 139 (RA.run (RA.run (RA.run (RA.run (RA.run RA.done))))) (RA.skp (RA.skp (RA.skp (RA.run (RA.run RA.done))))))))))) (RA.skp (RA.skp (RA.skp (RA.run (RA.run (RA.skp (RA.skp (RA.skp (RA.run (RA.run RA.done))))))))))))))
   A.leaf))))))))))))))))

noncomputable def probitylaw01_RatioLimits_O (Kv : VW) : List Ob := (obs Tryd.prog probitylaw01_RatioLimits_E 144 (probitylaw01_RatioLimits_A Kv) probitylaw01_RatioLimits_C (fun _ => retQ Tryd.prog Tryd.f7.results Kv))

theorem probitylaw01_RatioLimits_e (Kv : VW) (n_0 : Int) (d_1 : Int) (w : World) : probitylaw01_RatioLimits_sd n_0 d_1 (fun (r0 : Bool) (w' : World) => Kv (Value.bool r0) w') w = W Tryd.prog probitylaw01_RatioLimits_E 144 (probitylaw01_RatioLimits_A Kv) probitylaw01_RatioLimits_C [] (retQ Tryd.prog Tryd.f7.results Kv) [] (startS [(Value.int .u8 n_0), (Value.int .u16 d_1)]) w := by kernel_rfl

theorem probitylaw01_RatioLimits_e0 (Kv : VW) (ρ : Rho) (up_5 : Bool) (k_6 : Int) (c_12 : Addr) (three_13 : Bool) (e_14 : Addr) (four_15 : Bool) (f_16 : Addr) (five_17 : Bool) (g_18 : Addr) (six_19 : Bool) (w : World) : probitylaw01_RatioLimits_k0d up_5 k_6 c_12 three_13 e_14 four_15 f_16 five_17 g_18 six_19  (fun (r0 : Bool) (w' : World) => Kv (Value.bool r0) w') w = goalAt Tryd.prog probitylaw01_RatioLimits_E 144 (probitylaw01_RatioLimits_O Kv) 0 (ρ) [(Value.bool up_5), (Value.int .i64 k_6), (Value.pointer (some c_12)), (Value.bool three_13), (Value.pointer (some e_14)), (Value.bool four_15), (Value.pointer (some f_16)), (Value.bool five_17), (Value.pointer (some g_18)), (Value.bool six_19)] w := by kernel_rfl

theorem probitylaw01_RatioLimits_q0 (Kv : VW) (ρ : Rho) (vs : List Value) (w : World) : labAt (probitylaw01_RatioLimits_O Kv) 0 ρ vs w = probitylaw01_RatioLimits_P0 Kv ρ vs w := by kernel_rfl

theorem probitylaw01_RatioLimits_h0 (Kv : VW) : holdsAt Tryd.prog probitylaw01_RatioLimits_E 144 (probitylaw01_RatioLimits_O Kv) 0 := holdsAt_cut (.inl (by kernel_rfl)) (fun ρ vs w h => by
  rw [probitylaw01_RatioLimits_q0] at h
  unfold probitylaw01_RatioLimits_P0 at h
  split at h
  · rw [← probitylaw01_RatioLimits_e0]; exact h.out
  · exact h.elim)

theorem probitylaw01_RatioLimits_e1 (Kv : VW) (ρ : Rho) (up_5 : Bool) (f_16 : Addr) (five_17 : Bool) (g_18 : Addr) (six_19 : Bool) (w : World) : probitylaw01_RatioLimits_k1d up_5 f_16 five_17 g_18 six_19  (fun (r0 : Bool) (w' : World) => Kv (Value.bool r0) w') w = goalAt Tryd.prog probitylaw01_RatioLimits_E 144 (probitylaw01_RatioLimits_O Kv) 1 (ρ) [(Value.bool up_5), (Value.pointer (some f_16)), (Value.bool five_17), (Value.pointer (some g_18)), (Value.bool six_19)] w := by kernel_rfl

theorem probitylaw01_RatioLimits_q1 (Kv : VW) (ρ : Rho) (vs : List Value) (w : World) : labAt (probitylaw01_RatioLimits_O Kv) 1 ρ vs w = probitylaw01_RatioLimits_P1 Kv ρ vs w := by kernel_rfl

theorem probitylaw01_RatioLimits_h1 (Kv : VW) : holdsAt Tryd.prog probitylaw01_RatioLimits_E 144 (probitylaw01_RatioLimits_O Kv) 1 := holdsAt_cut (.inl (by kernel_rfl)) (fun ρ vs w h => by
  rw [probitylaw01_RatioLimits_q1] at h
  unfold probitylaw01_RatioLimits_P1 at h
  split at h
  · rw [← probitylaw01_RatioLimits_e1]; exact h.out
  · exact h.elim)

theorem probitylaw01_RatioLimits_n (Kv : VW) : obAt (probitylaw01_RatioLimits_O Kv) 2 = none := by kernel_rfl

theorem probitylaw01_RatioLimits_h (Kv : VW) : ∀ k, holdsAt Tryd.prog probitylaw01_RatioLimits_E 144 (probitylaw01_RatioLimits_O Kv) k := fun k => match k with
  | 0 => probitylaw01_RatioLimits_h0 Kv
  | 1 => probitylaw01_RatioLimits_h1 Kv
  | _k + 2 => holdsAt_ge (probitylaw01_RatioLimits_n Kv) (Nat.le_add_left _ _)

theorem probitylaw01_RatioLimits_ok : Sound Tryd.prog 7 probitylaw01_RatioLimits_S := ⟨Tryd.call7, fun vs w Kv h => by
  unfold probitylaw01_RatioLimits_S at h
  split at h
  · have h := h.out
    rw [probitylaw01_RatioLimits_e] at h
    exact calls_sound (Γ := probitylaw01_RatioLimits_E) progMixed ⟨.inl probitylaw01_sanity_ok, .inl ratio_Quo_ok, .inl ratio_Of_ok, .inl ratio_Add_ok, .inl ratio_Mul_ok, .inl ratio_Sub_ok, .inl probitylaw01_none_ok, .inl probitylaw01_is_ok, trivial⟩ Tryd.func7 (code := probitylaw01_RatioLimits_C) (by kernel_rfl) (probitylaw01_RatioLimits_A Kv) Kv (holds_all (probitylaw01_RatioLimits_h Kv)) (Nat.le_of_ble_eq_true (by kernel_rfl)) h
  · exact h.elim⟩

end Go.Proofs.YtfclokkfnkieoaaDoor
