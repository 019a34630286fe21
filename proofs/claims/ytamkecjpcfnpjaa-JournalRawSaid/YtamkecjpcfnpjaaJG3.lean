/- The bodies' formulas, by program. -/
import Derived.Test.YtamkecjpcfnpjaaProg
import Derived.KernelRfl
import Derived.Test.YtamkecjpcfnpjaaPwF
import Derived.Test.YtamkecjpcfnpjaaJG0
import Derived.Test.YtamkecjpcfnpjaaJG2
namespace Go.Proofs.Ytamkecjpcfnpjaa
open Go Pw
/-! probitylaw27_JournalKeeps -/
def probitylaw27_JournalKeeps_k1d (l_0 : Sl) (again_1 : Int) (crash_2 : Int) (up_7 : Bool) (d_8 : Option Addr) (m_12 : Option Addr) (i_13 : Int) (N0 : Sl → Int → Int → Bool → Option Addr → Option Addr → Int → Option Addr → Int → World → Prop) (K : Bool → World → Prop) (w : World) : Prop :=
  journal_Open_sh d_8 (fun (r34 : Option Addr) (r35 : Sl) (r36 : Int) (w33 : World) => cnd (r36 != (0 : Int))
    (K false w33)
    (probityref27_Journal_Opens_sh m_12 r35 (fun (r38 : Bool) (w37 : World) => cnd (!r38)
    (K false w37)
    (inR .i64 (i_13 + (1 : Int)) ∧ N0 l_0 again_1 crash_2 up_7 d_8 r34 r36 m_12 (i_13 + (1 : Int)) w37)) w33)) w
structure probitylaw27_JournalKeeps_k1 (l_0 : Sl) (again_1 : Int) (crash_2 : Int) (up_7 : Bool) (d_8 : Option Addr) (m_12 : Option Addr) (i_13 : Int) (N0 : Sl → Int → Int → Bool → Option Addr → Option Addr → Int → Option Addr → Int → World → Prop) (K : Bool → World → Prop) (w : World) : Prop where
  out : probitylaw27_JournalKeeps_k1d l_0 again_1 crash_2 up_7 d_8 m_12 i_13 N0 K w

def probitylaw27_JournalKeeps_k2d (up_7 : Bool) (j_9 : Option Addr) (m_12 : Option Addr)  (K : Bool → World → Prop) (w : World) : Prop :=
  let w39 : World := w.drew
  ∃ S40 : World → Prop, S40 w39 ∧ cnd up_7
    (cnd (!j_9.isNone)
    (nz m_12 fun a41 => ∃ x42 : Sl, (∀ w' : World, S40 w' → w'.cell? a41 = some (Value.slice x42.p x42.l x42.c)) ∧ journal_Journal_Many_sh j_9 (fun (r44 : Int) (w43 : World) => S40 w43 ∧ K (r44 == (x42.l : Int)) w43) w39)
    (K false w39))
    (K false w39)
structure probitylaw27_JournalKeeps_k2 (up_7 : Bool) (j_9 : Option Addr) (m_12 : Option Addr)  (K : Bool → World → Prop) (w : World) : Prop where
  out : probitylaw27_JournalKeeps_k2d up_7 j_9 m_12 K w

def probitylaw27_JournalKeeps_b0 (l_0 : Sl) (again_1 : Int) (crash_2 : Int) (up_7 : Bool) (d_8 : Option Addr) (j_9 : Option Addr) (e_11 : Int) (m_12 : Option Addr) (i_13 : Int) (N0 : Sl → Int → Int → Bool → Option Addr → Option Addr → Int → Option Addr → Int → World → Prop)  (K : Bool → World → Prop) (w : World) : Prop :=
  cnd (decide (i_13 < (l_0.l : Int)))
    (cnd (decide (i_13 < (20 : Int)))
    (let w11 : World := w.drew
  ∃ S12 : World → Prop, S12 w11 ∧ cnd (e_11 != (0 : Int))
    (K false w11)
    (cnd j_9.isNone
    (K false w11)
    (nz l_0.p fun a13 => (0 ≤ i_13 ∧ i_13 < (l_0.l : Nat)) ∧ ∃ x14 : ByteArray, (∀ w' : World, S12 w' → w'.cell? (a13.add (i_13.toNat * 1)) = some (Value.string x14)) ∧ nz l_0.p fun a15 => (0 ≤ i_13 ∧ i_13 < (l_0.l : Nat)) ∧ ∃ x16 : ByteArray, (∀ w' : World, S12 w' → w'.cell? (a15.add (i_13.toNat * 1)) = some (Value.string x16)) ∧ probitylaw27_short_sh x14 (fun (r18 : ByteArray) (w17 : World) => S12 w17 ∧ journal_Journal_Append_sh j_9 r18 (fun (r20 : Int) (w19 : World) => S12 w19 ∧ probitylaw27_short_sh x16 (fun (r22 : ByteArray) (w21 : World) => S12 w21 ∧ probityref27_Journal_Append_sh m_12 r22 true (fun (r25 : Int) (w24 : World) => ∃ S23 : World → Prop, S23 w24 ∧ (∀ u : World, S23 u → S12 u) ∧ cnd (r20 != r25)
    (K false w24)
    (nz m_12 fun a26 => ∃ x27 : Sl, (∀ w' : World, S23 w' → w'.cell? a26 = some (Value.slice x27.p x27.l x27.c)) ∧ journal_Journal_Many_sh j_9 (fun (r29 : Int) (w28 : World) => S23 w28 ∧ cnd (r29 != (x27.l : Int))
    (K false w28)
    (0 ≤ i_13 ∧ cnd ((IntKind.wrap .u32 (((BitVec.ofInt (IntKind.bits .u32) (Int.fdiv again_1 (2 ^ (min i_13.toNat (IntKind.bits .u32)))) &&& BitVec.ofInt (IntKind.bits .u32) (1 : Int))).toNat : Int)) == (1 : Int))
    (0 ≤ i_13 ∧ cnd ((IntKind.wrap .u32 (((BitVec.ofInt (IntKind.bits .u32) (Int.fdiv crash_2 (2 ^ (min i_13.toNat (IntKind.bits .u32)))) &&& BitVec.ofInt (IntKind.bits .u32) (1 : Int))).toNat : Int)) == (1 : Int))
    ((2 : Int) ≠ 0 ∧ inR .i64 (Int.tdiv i_13 (2 : Int)) ∧ let w30 : World := w28.alloc (Obj.cells #[(Value.int .i64 i_13), (Value.int .i64 (Int.tdiv i_13 (2 : Int)))] 3)
  disk_Disk_Crash_sh d_8 (Sl.mk (some (Addr.mk w28.heap.size 0 none)) 2 2) (fun (r32 : Option Addr) (w31 : World) => probitylaw27_JournalKeeps_k1 l_0 again_1 crash_2 up_7 r32 m_12 i_13 N0 K w31) w30)
    (probitylaw27_JournalKeeps_k1 l_0 again_1 crash_2 up_7 d_8 m_12 i_13 N0 K w28))
    (inR .i64 (i_13 + (1 : Int)) ∧ N0 l_0 again_1 crash_2 up_7 d_8 j_9 e_11 m_12 (i_13 + (1 : Int)) w28))) w24)) w21) w19) w17) w11)))
    (probitylaw27_JournalKeeps_k2 up_7 j_9 m_12 K w))
    (probitylaw27_JournalKeeps_k2 up_7 j_9 m_12 K w)
def probitylaw27_JournalKeeps_l0d (l_0 : Sl) (again_1 : Int) (crash_2 : Int) (up_7 : Bool) (d_8 : Option Addr) (j_9 : Option Addr) (e_11 : Int) (m_12 : Option Addr) (i_13 : Int)  (K : Bool → World → Prop) (w : World) : Prop :=
  ∃ (I : Option Addr → Option Addr → Int → Int → World → Prop) (μ : Option Addr → Option Addr → Int → Int → World → Nat), I d_8 j_9 e_11 i_13 w ∧ ∀ (d_81 : Option Addr) (j_91 : Option Addr) (e_111 : Int) (i_131 : Int) (w1 : World), I d_81 j_91 e_111 i_131 w1 →
    probitylaw27_JournalKeeps_b0 l_0 again_1 crash_2 up_7 d_81 j_91 e_111 m_12 i_131 (fun (l_0' : Sl) (again_1' : Int) (crash_2' : Int) (up_7' : Bool) (d_8' : Option Addr) (j_9' : Option Addr) (e_11' : Int) (m_12' : Option Addr) (i_13' : Int) (w' : World) => ((l_0' = l_0 ∧ again_1' = again_1 ∧ crash_2' = crash_2 ∧ up_7' = up_7 ∧ m_12' = m_12 ∧ True) ∧ I d_8' j_9' e_11' i_13' w') ∧ μ d_8' j_9' e_11' i_13' w' < μ d_81 j_91 e_111 i_131 w1)  K w1
structure probitylaw27_JournalKeeps_l0 (l_0 : Sl) (again_1 : Int) (crash_2 : Int) (up_7 : Bool) (d_8 : Option Addr) (j_9 : Option Addr) (e_11 : Int) (m_12 : Option Addr) (i_13 : Int)  (K : Bool → World → Prop) (w : World) : Prop where
  out : probitylaw27_JournalKeeps_l0d l_0 again_1 crash_2 up_7 d_8 j_9 e_11 m_12 i_13 K w

def probitylaw27_JournalKeeps_sd (l_0 : Sl) (again_1 : Int) (crash_2 : Int) (K : Bool → World → Prop) (w : World) : Prop :=
  probitylaw27_sanity_sh (fun (r2 : Bool) (w1 : World) => disk_New_sh (fun (r4 : Option Addr) (w3 : World) => journal_Open_sh r4 (fun (r6 : Option Addr) (_r7 : Sl) (r8 : Int) (w5 : World) => probityref27_New_sh (fun (r10 : Option Addr) (w9 : World) => probitylaw27_JournalKeeps_l0 l_0 again_1 crash_2 r2 r4 r6 r8 r10 (0 : Int) K w9) w5) w3) w1) w

structure probitylaw27_JournalKeeps_sh (l_0 : Sl) (again_1 : Int) (crash_2 : Int) (K : Bool → World → Prop) (w : World) : Prop where
  out : probitylaw27_JournalKeeps_sd l_0 again_1 crash_2 K w

def probitylaw27_JournalKeeps_P0 (Kv : VW) (ρ : Rho) (vs : List Value) (w : World) : Prop :=
  match ρ, vs with
  | _, [.slice l_0p l_0l l_0c, .int .u32 again_1, .int .u32 crash_2, .bool up_7, .pointer d_8, .pointer j_9, .int .i64 e_11, .pointer m_12, .int .i64 i_13] => probitylaw27_JournalKeeps_l0 ⟨l_0p, l_0l, l_0c⟩ again_1 crash_2 up_7 d_8 j_9 e_11 m_12 i_13  (fun (r0 : Bool) (w' : World) => Kv (Value.bool r0) w') w
  | _, _ => False

def probitylaw27_JournalKeeps_P1 (Kv : VW) (ρ : Rho) (vs : List Value) (w : World) : Prop :=
  match ρ, vs with
  | N0 :: _, [.slice l_0p l_0l l_0c, .int .u32 again_1, .int .u32 crash_2, .bool up_7, .pointer d_8, .pointer m_12, .int .i64 i_13] => probitylaw27_JournalKeeps_k1 ⟨l_0p, l_0l, l_0c⟩ again_1 crash_2 up_7 d_8 m_12 i_13 (fun (l_0' : Sl) (again_1' : Int) (crash_2' : Int) (up_7' : Bool) (d_8' : Option Addr) (j_9' : Option Addr) (e_11' : Int) (m_12' : Option Addr) (i_13' : Int) (w' : World) => N0 [(Value.slice l_0'.p l_0'.l l_0'.c), (Value.int .u32 again_1'), (Value.int .u32 crash_2'), (Value.bool up_7'), (Value.pointer d_8'), (Value.pointer j_9'), (Value.int .i64 e_11'), (Value.pointer m_12'), (Value.int .i64 i_13')] w') (fun (r0 : Bool) (w' : World) => Kv (Value.bool r0) w') w
  | _, _ => False

def probitylaw27_JournalKeeps_P2 (Kv : VW) (ρ : Rho) (vs : List Value) (w : World) : Prop :=
  match ρ, vs with
  | _, [.bool up_7, .pointer j_9, .pointer m_12] => probitylaw27_JournalKeeps_k2 up_7 j_9 m_12  (fun (r0 : Bool) (w' : World) => Kv (Value.bool r0) w') w
  | _, _ => False

noncomputable def probitylaw27_JournalKeeps_S : Pw.Spec := fun vs w Kv =>
  match vs with
  | [.slice l_0p l_0l l_0c, .int .u32 again_1, .int .u32 crash_2] => probitylaw27_JournalKeeps_sh ⟨l_0p, l_0l, l_0c⟩ again_1 crash_2 (fun (r0 : Bool) (w' : World) => Kv (Value.bool r0) w') w
  | _ => False

noncomputable def probitylaw27_JournalKeeps_E : Pw.Env := [(10, probitylaw27_sanity_S), (11, disk_New_S), (12, journal_Open_S), (13, probityref27_New_S), (14, journal_Journal_Append_S), (15, probitylaw27_short_S), (16, probityref27_Journal_Append_S), (17, journal_Journal_Many_S), (18, disk_Disk_Crash_S), (19, probityref27_Journal_Opens_S)]

noncomputable def probitylaw27_JournalKeeps_C : Code := (Try.f3.body).getD .skip

noncomputable def probitylaw27_JournalKeeps_A (Kv : VW) : Pw.A :=
  (A.seq (A.reg (RA.run RA.done))
   (A.seq (A.reg (RA.run (RA.run RA.done)))
   (A.seq (A.reg (RA.run (RA.run RA.done)))
   (A.seq (A.reg (RA.run (RA.run (RA.run (RA.run (RA.run (RA.run (RA.run (RA.run (RA.run RA.done))))))))))
   (A.seq (A.reg (RA.run (RA.run RA.done)))
   (A.seq (A.seq (A.reg (RA.run RA.done))
   (A.blk (A.loop [0, 1, 2, 7, 8, 9, 11, 12, 13] (probitylaw27_JournalKeeps_P0 Kv) (A.seq (A.seq (A.reg (RA.run (RA.run (RA.run (RA.run (RA.run (RA.spl 28 (RA.run (RA.run (RA.run RA.done))) (RA.skp (RA.skp (RA.run RA.done))))))))))
   (A.cond A.leaf
   A.leaf))
   (A.seq (A.blk (A.seq (A.seq (A.drw (DA.pur 0 (DA.pur 1 (DA.pur 2 (DA.spl 36 (DA.skp 3 (DA.skp 4 (DA.pur 5 (DA.pur 6 (DA.skp 7 (DA.skp 8 (DA.skp 9 (DA.skp 10 (DA.skp 11 (DA.skp 14 (DA.skp 15 (DA.skp 16 (DA.skp 17 (DA.skp 18 (DA.skp 12 (DA.skp 13 (DA.skp 19 (DA.skp 20 (DA.skp 21 (DA.pur 22 (DA.pur 23 (DA.skp 24 (DA.skp 26 (DA.skp 27 (DA.skp 28 (DA.skp 29 (DA.skp 30 (DA.skp 25 (DA.skp 31 (DA.pur 32 DA.done)))))))))))))))))))))))))))))) (DA.pur 3 (DA.pur 4 (DA.pur 5 (DA.pur 6 (DA.spl 40 (DA.skp 7 (DA.skp 8 (DA.skp 9 (DA.skp 10 (DA.skp 11 (DA.skp 14 (DA.skp 15 (DA.skp 16 (DA.skp 17 (DA.skp 18 (DA.skp 12 (DA.skp 13 (DA.skp 19 (DA.skp 20 (DA.skp 21 (DA.pur 22 (DA.pur 23 (DA.skp 24 (DA.skp 26 (DA.skp 27 (DA.skp 28 (DA.skp 29 (DA.skp 30 (DA.skp 25 (DA.skp 31 (DA.pur 32 DA.done)))))))))))))))))))))))))) (DA.pur 7 (DA.pur 8 (DA.pur 9 (DA.pur 10 (DA.pur 11 (DA.pur 14 (DA.pur 15 (DA.pur 16 (DA.pur 17 (DA.pur 18 (DA.eff 12 (DA.eff 13 (DA.eff 19 (DA.str 20 (DA.pur 21 (DA.pur 22 (DA.pur 23 (DA.spl 57 (DA.skp 24 (DA.skp 26 (DA.skp 27 (DA.skp 28 (DA.skp 29 (DA.skp 30 (DA.skp 25 (DA.skp 31 (DA.pur 32 DA.done))))))))) (DA.pur 24 (DA.pur 26 (DA.pur 27 (DA.pur 28 (DA.pur 29 (DA.pur 30 (DA.eff 25 (DA.pur 31 (DA.pur 32 DA.done)))))))))))))))))))))))))))))))))))))
   (A.cond (A.seq (A.reg (RA.run RA.done))
   A.leaf)
   A.leaf))
   (A.seq (A.reg (RA.run (RA.run (RA.run (RA.run (RA.run RA.done))))))
   (A.cond (A.seq (A.seq (A.reg (RA.run (RA.run (RA.run (RA.run (RA.run RA.done))))))
   (A.cond (A.reg (RA.run (RA.run (RA.run (RA.run (RA.run (RA.run (RA.run RA.done))))))))
   A.leaf))
   (A.cut [0, 1, 2, 7, 8, 12, 13] (probitylaw27_JournalKeeps_P1 Kv) (A.seq (A.reg (RA.run RA.done))
   (A.seq (A.reg (RA.run (RA.run (RA.run (RA.run (RA.run (RA.run (RA.run (RA.run (RA.run RA.done))))))))))
   (A.seq (A.reg (RA.run (RA.run (RA.run (RA.spl 91 (RA.skp (RA.skp (RA.skp (RA.skp (RA.run RA.done))))) (RA.run (RA.run (RA.run (RA.run (RA.run RA.done))))))))))
   (A.cond (A.seq (A.reg (RA.run RA.done))
   A.leaf)
   A.leaf))))))
   A.leaf))))
   (A.reg (RA.run (RA.run (RA.run RA.done)))))))))
   (A.cut [7, 9, 12] (probitylaw27_JournalKeeps_P2 Kv) (A.seq (A.drw (DA.pur 0 (DA.pur 1 (DA.spl 98 (DA.pur 2 (DA.pur 3 (DA.pur 4 (DA.pur 5 (DA.spl 102 (DA.pur 6 (DA.pur 8 (DA.pur 9 (DA.pur 10 (DA.pur 11 (DA.pur 12 (DA.eff 7 (DA.pur 13 (DA.pur 14 (DA.pur 15 DA.done)))))))))) (DA.skp 6 (DA.skp 8 (DA.skp 9 (DA.skp 10 (DA.skp 11 (DA.skp 12 (DA.skp 7 (DA.skp 13 (DA.pur 14 (DA.pur 15 DA.done))))))))))))))) (DA.skp 2 (DA.skp 3 (DA.pur 4 (DA.pur 5 (DA.skp 6 (DA.skp 8 (DA.skp 9 (DA.skp 10 (DA.skp 11 (DA.skp 12 (DA.skp 7 (DA.skp 13 (DA.pur 14 (DA.pur 15 DA.done))))))))))))))))))
   A.leaf))))))))

noncomputable def probitylaw27_JournalKeeps_O (Kv : VW) : List Ob := (obs Try.prog probitylaw27_JournalKeeps_E 112 (probitylaw27_JournalKeeps_A Kv) probitylaw27_JournalKeeps_C (fun _ => retQ Try.prog Try.f3.results Kv))

theorem probitylaw27_JournalKeeps_e (Kv : VW) (l_0p : Option Addr) (l_0l l_0c : Nat) (again_1 : Int) (crash_2 : Int) (w : World) : probitylaw27_JournalKeeps_sd ⟨l_0p, l_0l, l_0c⟩ again_1 crash_2 (fun (r0 : Bool) (w' : World) => Kv (Value.bool r0) w') w = W Try.prog probitylaw27_JournalKeeps_E 112 (probitylaw27_JournalKeeps_A Kv) probitylaw27_JournalKeeps_C [] (retQ Try.prog Try.f3.results Kv) [] (startS [(Value.slice l_0p l_0l l_0c), (Value.int .u32 again_1), (Value.int .u32 crash_2)]) w := by kernel_rfl

theorem probitylaw27_JournalKeeps_e0 (Kv : VW) (N0 : List Value → World → Prop) (ρ : Rho) (l_0p : Option Addr) (l_0l l_0c : Nat) (again_1 : Int) (crash_2 : Int) (up_7 : Bool) (d_8 : Option Addr) (j_9 : Option Addr) (e_11 : Int) (m_12 : Option Addr) (i_13 : Int) (w : World) : probitylaw27_JournalKeeps_b0 ⟨l_0p, l_0l, l_0c⟩ again_1 crash_2 up_7 d_8 j_9 e_11 m_12 i_13 (fun (l_0' : Sl) (again_1' : Int) (crash_2' : Int) (up_7' : Bool) (d_8' : Option Addr) (j_9' : Option Addr) (e_11' : Int) (m_12' : Option Addr) (i_13' : Int) (w' : World) => N0 [(Value.slice l_0'.p l_0'.l l_0'.c), (Value.int .u32 again_1'), (Value.int .u32 crash_2'), (Value.bool up_7'), (Value.pointer d_8'), (Value.pointer j_9'), (Value.int .i64 e_11'), (Value.pointer m_12'), (Value.int .i64 i_13')] w')  (fun (r0 : Bool) (w' : World) => Kv (Value.bool r0) w') w = goalAt Try.prog probitylaw27_JournalKeeps_E 112 (probitylaw27_JournalKeeps_O Kv) 0 (N0 :: ρ) [(Value.slice l_0p l_0l l_0c), (Value.int .u32 again_1), (Value.int .u32 crash_2), (Value.bool up_7), (Value.pointer d_8), (Value.pointer j_9), (Value.int .i64 e_11), (Value.pointer m_12), (Value.int .i64 i_13)] w := by kernel_rfl

theorem probitylaw27_JournalKeeps_q0 (Kv : VW) (ρ : Rho) (vs : List Value) (w : World) : labAt (probitylaw27_JournalKeeps_O Kv) 0 ρ vs w = probitylaw27_JournalKeeps_P0 Kv ρ vs w := by kernel_rfl

def probitylaw27_JournalKeeps_I0 (l_00 : Sl) (again_10 : Int) (crash_20 : Int) (up_70 : Bool) (m_120 : Option Addr) (I : Option Addr → Option Addr → Int → Int → World → Prop) (vs : List Value) (w : World) : Prop :=
  match vs with
  | [.slice l_0p l_0l l_0c, .int .u32 again_1, .int .u32 crash_2, .bool up_7, .pointer d_8, .pointer j_9, .int .i64 e_11, .pointer m_12, .int .i64 i_13] => (⟨l_0p, l_0l, l_0c⟩ = l_00 ∧ again_1 = again_10 ∧ crash_2 = crash_20 ∧ up_7 = up_70 ∧ m_12 = m_120 ∧ True) ∧ I d_8 j_9 e_11 i_13 w
  | _ => False

def probitylaw27_JournalKeeps_M0 (μ : Option Addr → Option Addr → Int → Int → World → Nat) (vs : List Value) (w : World) : Nat :=
  match vs with
  | [.slice _l_0p _l_0l _l_0c, .int .u32 _again_1, .int .u32 _crash_2, .bool _up_7, .pointer d_8, .pointer j_9, .int .i64 e_11, .pointer _m_12, .int .i64 i_13] => μ d_8 j_9 e_11 i_13 w
  | _ => 0

theorem probitylaw27_JournalKeeps_h0 (Kv : VW) : holdsAt Try.prog probitylaw27_JournalKeeps_E 112 (probitylaw27_JournalKeeps_O Kv) 0 := holdsAt_loop (by kernel_rfl) (fun ρ vs w h => by
  rw [probitylaw27_JournalKeeps_q0] at h
  unfold probitylaw27_JournalKeeps_P0 at h
  split at h
  · rename_i ρt l_0p l_0l l_0c again_1 crash_2 up_7 d_8 j_9 e_11 m_12 i_13
    obtain ⟨I, μ, h0, hr⟩ := h.out
    refine ⟨probitylaw27_JournalKeeps_I0 ⟨l_0p, l_0l, l_0c⟩ again_1 crash_2 up_7 m_12 I, probitylaw27_JournalKeeps_M0 μ, ⟨⟨rfl, rfl, rfl, rfl, rfl, trivial⟩, h0⟩, fun vs w hI => ?_⟩
    unfold probitylaw27_JournalKeeps_I0 at hI
    split at hI
    · obtain ⟨⟨h0, h1, h2, h3, h4, _⟩, hI⟩ := hI
      cases h0; cases h1; cases h2; cases h3; cases h4
      rw [← probitylaw27_JournalKeeps_e0]
      exact hr _ _ _ _ _ hI
    · exact hI.elim
  · exact h.elim)

theorem probitylaw27_JournalKeeps_e1 (Kv : VW) (N0 : List Value → World → Prop) (ρ : Rho) (l_0p : Option Addr) (l_0l l_0c : Nat) (again_1 : Int) (crash_2 : Int) (up_7 : Bool) (d_8 : Option Addr) (m_12 : Option Addr) (i_13 : Int) (w : World) : probitylaw27_JournalKeeps_k1d ⟨l_0p, l_0l, l_0c⟩ again_1 crash_2 up_7 d_8 m_12 i_13 (fun (l_0' : Sl) (again_1' : Int) (crash_2' : Int) (up_7' : Bool) (d_8' : Option Addr) (j_9' : Option Addr) (e_11' : Int) (m_12' : Option Addr) (i_13' : Int) (w' : World) => N0 [(Value.slice l_0'.p l_0'.l l_0'.c), (Value.int .u32 again_1'), (Value.int .u32 crash_2'), (Value.bool up_7'), (Value.pointer d_8'), (Value.pointer j_9'), (Value.int .i64 e_11'), (Value.pointer m_12'), (Value.int .i64 i_13')] w') (fun (r0 : Bool) (w' : World) => Kv (Value.bool r0) w') w = goalAt Try.prog probitylaw27_JournalKeeps_E 112 (probitylaw27_JournalKeeps_O Kv) 1 (N0 :: ρ) [(Value.slice l_0p l_0l l_0c), (Value.int .u32 again_1), (Value.int .u32 crash_2), (Value.bool up_7), (Value.pointer d_8), (Value.pointer m_12), (Value.int .i64 i_13)] w := by kernel_rfl

theorem probitylaw27_JournalKeeps_q1 (Kv : VW) (ρ : Rho) (vs : List Value) (w : World) : labAt (probitylaw27_JournalKeeps_O Kv) 1 ρ vs w = probitylaw27_JournalKeeps_P1 Kv ρ vs w := by kernel_rfl

theorem probitylaw27_JournalKeeps_h1 (Kv : VW) : holdsAt Try.prog probitylaw27_JournalKeeps_E 112 (probitylaw27_JournalKeeps_O Kv) 1 := holdsAt_cut (.inl (by kernel_rfl)) (fun ρ vs w h => by
  rw [probitylaw27_JournalKeeps_q1] at h
  unfold probitylaw27_JournalKeeps_P1 at h
  split at h
  · rw [← probitylaw27_JournalKeeps_e1]; exact h.out
  · exact h.elim)

theorem probitylaw27_JournalKeeps_e2 (Kv : VW) (ρ : Rho) (up_7 : Bool) (j_9 : Option Addr) (m_12 : Option Addr) (w : World) : probitylaw27_JournalKeeps_k2d up_7 j_9 m_12  (fun (r0 : Bool) (w' : World) => Kv (Value.bool r0) w') w = goalAt Try.prog probitylaw27_JournalKeeps_E 112 (probitylaw27_JournalKeeps_O Kv) 2 (ρ) [(Value.bool up_7), (Value.pointer j_9), (Value.pointer m_12)] w := by kernel_rfl

theorem probitylaw27_JournalKeeps_q2 (Kv : VW) (ρ : Rho) (vs : List Value) (w : World) : labAt (probitylaw27_JournalKeeps_O Kv) 2 ρ vs w = probitylaw27_JournalKeeps_P2 Kv ρ vs w := by kernel_rfl

theorem probitylaw27_JournalKeeps_h2 (Kv : VW) : holdsAt Try.prog probitylaw27_JournalKeeps_E 112 (probitylaw27_JournalKeeps_O Kv) 2 := holdsAt_cut (.inl (by kernel_rfl)) (fun ρ vs w h => by
  rw [probitylaw27_JournalKeeps_q2] at h
  unfold probitylaw27_JournalKeeps_P2 at h
  split at h
  · rw [← probitylaw27_JournalKeeps_e2]; exact h.out
  · exact h.elim)

theorem probitylaw27_JournalKeeps_n (Kv : VW) : obAt (probitylaw27_JournalKeeps_O Kv) 3 = none := by kernel_rfl

theorem probitylaw27_JournalKeeps_h (Kv : VW) : ∀ k, holdsAt Try.prog probitylaw27_JournalKeeps_E 112 (probitylaw27_JournalKeeps_O Kv) k := fun k => match k with
  | 0 => probitylaw27_JournalKeeps_h0 Kv
  | 1 => probitylaw27_JournalKeeps_h1 Kv
  | 2 => probitylaw27_JournalKeeps_h2 Kv
  | _k + 3 => holdsAt_ge (probitylaw27_JournalKeeps_n Kv) (Nat.le_add_left _ _)

theorem probitylaw27_JournalKeeps_ok : Sound Try.prog 3 probitylaw27_JournalKeeps_S := ⟨Try.call3, fun vs w Kv h => by
  unfold probitylaw27_JournalKeeps_S at h
  split at h
  · have h := h.out
    rw [probitylaw27_JournalKeeps_e] at h
    exact calls_sound (Γ := probitylaw27_JournalKeeps_E) progMixed ⟨probitylaw27_sanity_ok, disk_New_ok, journal_Open_ok, probityref27_New_ok, journal_Journal_Append_ok, probitylaw27_short_ok, probityref27_Journal_Append_ok, journal_Journal_Many_ok, disk_Disk_Crash_ok, probityref27_Journal_Opens_ok, trivial⟩ Try.func3 (code := probitylaw27_JournalKeeps_C) (by kernel_rfl) (probitylaw27_JournalKeeps_A Kv) Kv (holds_all (probitylaw27_JournalKeeps_h Kv)) (Nat.le_of_ble_eq_true rfl) h
  · exact h.elim⟩

/-! probitylaw27_JournalCrashes -/
def probitylaw27_JournalCrashes_k2d (l_0 : Sl) (fails_1 : Sl) (survive_2 : Sl) (up_7 : Bool) (d_8 : Option Addr) (j_9 : Option Addr) (e_11 : Int) (m_12 : Option Addr) (i_13 : Int) (f_14 : Int) (N0 : Sl → Sl → Sl → Bool → Option Addr → Option Addr → Int → Option Addr → Int → World → Prop) (K : Bool → World → Prop) (w : World) : Prop :=
  nz l_0.p fun a20 => (0 ≤ i_13 ∧ i_13 < (l_0.l : Nat)) ∧ ∃ x21 : ByteArray, w.cell? (a20.add (i_13.toNat * 1)) = some (Value.string x21) ∧ probitylaw27_short_sh x21 (fun (r23 : ByteArray) (w22 : World) => probityref27_Journal_Append_sh m_12 r23 (f_14 == (0 : Int)) (fun (_r25 : Int) (w24 : World) => cnd (f_14 == (0 : Int))
    (disk_Disk_Fail_sh d_8 (-1 : Int) (fun (w26 : World) => inR .i64 (i_13 + (1 : Int)) ∧ N0 l_0 fails_1 survive_2 up_7 d_8 j_9 e_11 m_12 (i_13 + (1 : Int)) w26) w24)
    (let w27 : World := w24.drew
  ∃ S28 : World → Prop, S28 w27 ∧ journal_Journal_Append_sh j_9 (str [109, 111, 114, 101]) (fun (r30 : Int) (w29 : World) => S28 w29 ∧ cnd (r30 != (70 : Int))
    (K false w29)
    (nz m_12 fun a31 => ∃ x32 : Sl, (∀ w' : World, S28 w' → w'.cell? a31 = some (Value.slice x32.p x32.l x32.c)) ∧ journal_Journal_Many_sh j_9 (fun (r34 : Int) (w33 : World) => S28 w33 ∧ cnd (r34 != (x32.l : Int))
    (K false w33)
    (disk_Disk_Crash_sh d_8 survive_2 (fun (r36 : Option Addr) (w35 : World) => journal_Open_sh r36 (fun (r38 : Option Addr) (r39 : Sl) (r40 : Int) (w37 : World) => cnd (r40 != (0 : Int))
    (K false w37)
    (probityref27_Journal_Opens_sh m_12 r39 (fun (r42 : Bool) (w41 : World) => cnd (!r42)
    (K false w41)
    (inR .i64 (i_13 + (1 : Int)) ∧ N0 l_0 fails_1 survive_2 up_7 r36 r38 r40 m_12 (i_13 + (1 : Int)) w41)) w37)) w35) w33)) w29)) w27)) w22) w
structure probitylaw27_JournalCrashes_k2 (l_0 : Sl) (fails_1 : Sl) (survive_2 : Sl) (up_7 : Bool) (d_8 : Option Addr) (j_9 : Option Addr) (e_11 : Int) (m_12 : Option Addr) (i_13 : Int) (f_14 : Int) (N0 : Sl → Sl → Sl → Bool → Option Addr → Option Addr → Int → Option Addr → Int → World → Prop) (K : Bool → World → Prop) (w : World) : Prop where
  out : probitylaw27_JournalCrashes_k2d l_0 fails_1 survive_2 up_7 d_8 j_9 e_11 m_12 i_13 f_14 N0 K w

def probitylaw27_JournalCrashes_k1d (l_0 : Sl) (fails_1 : Sl) (survive_2 : Sl) (up_7 : Bool) (d_8 : Option Addr) (j_9 : Option Addr) (e_11 : Int) (m_12 : Option Addr) (i_13 : Int) (N0 : Sl → Sl → Sl → Bool → Option Addr → Option Addr → Int → Option Addr → Int → World → Prop) (K : Bool → World → Prop) (w : World) : Prop :=
  nz l_0.p fun a14 => (0 ≤ i_13 ∧ i_13 < (l_0.l : Nat)) ∧ ∃ x15 : ByteArray, w.cell? (a14.add (i_13.toNat * 1)) = some (Value.string x15) ∧ probitylaw27_short_sh x15 (fun (r17 : ByteArray) (w16 : World) => journal_Journal_Append_sh j_9 r17 (fun (r19 : Int) (w18 : World) => cnd (r19 != (0 : Int))
    (cnd (r19 != (70 : Int))
    (K false w18)
    (probitylaw27_JournalCrashes_k2 l_0 fails_1 survive_2 up_7 d_8 j_9 e_11 m_12 i_13 r19 N0 K w18))
    (probitylaw27_JournalCrashes_k2 l_0 fails_1 survive_2 up_7 d_8 j_9 e_11 m_12 i_13 r19 N0 K w18)) w16) w
structure probitylaw27_JournalCrashes_k1 (l_0 : Sl) (fails_1 : Sl) (survive_2 : Sl) (up_7 : Bool) (d_8 : Option Addr) (j_9 : Option Addr) (e_11 : Int) (m_12 : Option Addr) (i_13 : Int) (N0 : Sl → Sl → Sl → Bool → Option Addr → Option Addr → Int → Option Addr → Int → World → Prop) (K : Bool → World → Prop) (w : World) : Prop where
  out : probitylaw27_JournalCrashes_k1d l_0 fails_1 survive_2 up_7 d_8 j_9 e_11 m_12 i_13 N0 K w

def probitylaw27_JournalCrashes_k3d (survive_2 : Sl) (up_7 : Bool) (d_8 : Option Addr) (m_12 : Option Addr)  (K : Bool → World → Prop) (w : World) : Prop :=
  disk_Disk_Crash_sh d_8 survive_2 (fun (r44 : Option Addr) (w43 : World) => journal_Open_sh r44 (fun (_r46 : Option Addr) (r47 : Sl) (r48 : Int) (w45 : World) => cnd up_7
    (cnd (r48 == (0 : Int))
    (nz m_12 fun a49 => ∃ x50 : Sl, w45.cell? a49 = some (Value.slice x50.p x50.l x50.c) ∧ probityref27_Same_sh r47 x50 (fun (r52 : Bool) (w51 : World) => K r52 w51) w45)
    (K false w45))
    (K false w45)) w43) w
structure probitylaw27_JournalCrashes_k3 (survive_2 : Sl) (up_7 : Bool) (d_8 : Option Addr) (m_12 : Option Addr)  (K : Bool → World → Prop) (w : World) : Prop where
  out : probitylaw27_JournalCrashes_k3d survive_2 up_7 d_8 m_12 K w

def probitylaw27_JournalCrashes_b0 (l_0 : Sl) (fails_1 : Sl) (survive_2 : Sl) (up_7 : Bool) (d_8 : Option Addr) (j_9 : Option Addr) (e_11 : Int) (m_12 : Option Addr) (i_13 : Int) (N0 : Sl → Sl → Sl → Bool → Option Addr → Option Addr → Int → Option Addr → Int → World → Prop)  (K : Bool → World → Prop) (w : World) : Prop :=
  cnd (decide (i_13 < (l_0.l : Int)))
    (cnd (decide (i_13 < (20 : Int)))
    (cnd (e_11 != (0 : Int))
    (K false w)
    (cnd j_9.isNone
    (K false w)
    (cnd (decide ((fails_1.l : Int) > (0 : Int)))
    ((fails_1.l : Int) ≠ 0 ∧ nz fails_1.p fun a11 => (0 ≤ (Int.tmod i_13 (fails_1.l : Int)) ∧ (Int.tmod i_13 (fails_1.l : Int)) < (fails_1.l : Nat)) ∧ ∃ x12 : Int, w.cell? (a11.add ((Int.tmod i_13 (fails_1.l : Int)).toNat * 1)) = some (Value.int .u8 x12) ∧ (9 : Int) ≠ 0 ∧ inR .i64 (Int.tmod x12 (9 : Int)) ∧ disk_Disk_Fail_sh d_8 (Int.tmod x12 (9 : Int)) (fun (w13 : World) => probitylaw27_JournalCrashes_k1 l_0 fails_1 survive_2 up_7 d_8 j_9 e_11 m_12 i_13 N0 K w13) w)
    (probitylaw27_JournalCrashes_k1 l_0 fails_1 survive_2 up_7 d_8 j_9 e_11 m_12 i_13 N0 K w))))
    (probitylaw27_JournalCrashes_k3 survive_2 up_7 d_8 m_12 K w))
    (probitylaw27_JournalCrashes_k3 survive_2 up_7 d_8 m_12 K w)
def probitylaw27_JournalCrashes_l0d (l_0 : Sl) (fails_1 : Sl) (survive_2 : Sl) (up_7 : Bool) (d_8 : Option Addr) (j_9 : Option Addr) (e_11 : Int) (m_12 : Option Addr) (i_13 : Int)  (K : Bool → World → Prop) (w : World) : Prop :=
  ∃ (I : Option Addr → Option Addr → Int → Int → World → Prop) (μ : Option Addr → Option Addr → Int → Int → World → Nat), I d_8 j_9 e_11 i_13 w ∧ ∀ (d_81 : Option Addr) (j_91 : Option Addr) (e_111 : Int) (i_131 : Int) (w1 : World), I d_81 j_91 e_111 i_131 w1 →
    probitylaw27_JournalCrashes_b0 l_0 fails_1 survive_2 up_7 d_81 j_91 e_111 m_12 i_131 (fun (l_0' : Sl) (fails_1' : Sl) (survive_2' : Sl) (up_7' : Bool) (d_8' : Option Addr) (j_9' : Option Addr) (e_11' : Int) (m_12' : Option Addr) (i_13' : Int) (w' : World) => ((l_0' = l_0 ∧ fails_1' = fails_1 ∧ survive_2' = survive_2 ∧ up_7' = up_7 ∧ m_12' = m_12 ∧ True) ∧ I d_8' j_9' e_11' i_13' w') ∧ μ d_8' j_9' e_11' i_13' w' < μ d_81 j_91 e_111 i_131 w1)  K w1
structure probitylaw27_JournalCrashes_l0 (l_0 : Sl) (fails_1 : Sl) (survive_2 : Sl) (up_7 : Bool) (d_8 : Option Addr) (j_9 : Option Addr) (e_11 : Int) (m_12 : Option Addr) (i_13 : Int)  (K : Bool → World → Prop) (w : World) : Prop where
  out : probitylaw27_JournalCrashes_l0d l_0 fails_1 survive_2 up_7 d_8 j_9 e_11 m_12 i_13 K w

def probitylaw27_JournalCrashes_sd (l_0 : Sl) (fails_1 : Sl) (survive_2 : Sl) (K : Bool → World → Prop) (w : World) : Prop :=
  probitylaw27_sanity_sh (fun (r2 : Bool) (w1 : World) => disk_New_sh (fun (r4 : Option Addr) (w3 : World) => journal_Open_sh r4 (fun (r6 : Option Addr) (_r7 : Sl) (r8 : Int) (w5 : World) => probityref27_New_sh (fun (r10 : Option Addr) (w9 : World) => probitylaw27_JournalCrashes_l0 l_0 fails_1 survive_2 r2 r4 r6 r8 r10 (0 : Int) K w9) w5) w3) w1) w

structure probitylaw27_JournalCrashes_sh (l_0 : Sl) (fails_1 : Sl) (survive_2 : Sl) (K : Bool → World → Prop) (w : World) : Prop where
  out : probitylaw27_JournalCrashes_sd l_0 fails_1 survive_2 K w

def probitylaw27_JournalCrashes_P0 (Kv : VW) (ρ : Rho) (vs : List Value) (w : World) : Prop :=
  match ρ, vs with
  | _, [.slice l_0p l_0l l_0c, .slice fails_1p fails_1l fails_1c, .slice survive_2p survive_2l survive_2c, .bool up_7, .pointer d_8, .pointer j_9, .int .i64 e_11, .pointer m_12, .int .i64 i_13] => probitylaw27_JournalCrashes_l0 ⟨l_0p, l_0l, l_0c⟩ ⟨fails_1p, fails_1l, fails_1c⟩ ⟨survive_2p, survive_2l, survive_2c⟩ up_7 d_8 j_9 e_11 m_12 i_13  (fun (r0 : Bool) (w' : World) => Kv (Value.bool r0) w') w
  | _, _ => False

def probitylaw27_JournalCrashes_P1 (Kv : VW) (ρ : Rho) (vs : List Value) (w : World) : Prop :=
  match ρ, vs with
  | N0 :: _, [.slice l_0p l_0l l_0c, .slice fails_1p fails_1l fails_1c, .slice survive_2p survive_2l survive_2c, .bool up_7, .pointer d_8, .pointer j_9, .int .i64 e_11, .pointer m_12, .int .i64 i_13] => probitylaw27_JournalCrashes_k1 ⟨l_0p, l_0l, l_0c⟩ ⟨fails_1p, fails_1l, fails_1c⟩ ⟨survive_2p, survive_2l, survive_2c⟩ up_7 d_8 j_9 e_11 m_12 i_13 (fun (l_0' : Sl) (fails_1' : Sl) (survive_2' : Sl) (up_7' : Bool) (d_8' : Option Addr) (j_9' : Option Addr) (e_11' : Int) (m_12' : Option Addr) (i_13' : Int) (w' : World) => N0 [(Value.slice l_0'.p l_0'.l l_0'.c), (Value.slice fails_1'.p fails_1'.l fails_1'.c), (Value.slice survive_2'.p survive_2'.l survive_2'.c), (Value.bool up_7'), (Value.pointer d_8'), (Value.pointer j_9'), (Value.int .i64 e_11'), (Value.pointer m_12'), (Value.int .i64 i_13')] w') (fun (r0 : Bool) (w' : World) => Kv (Value.bool r0) w') w
  | _, _ => False

def probitylaw27_JournalCrashes_P2 (Kv : VW) (ρ : Rho) (vs : List Value) (w : World) : Prop :=
  match ρ, vs with
  | N0 :: _, [.slice l_0p l_0l l_0c, .slice fails_1p fails_1l fails_1c, .slice survive_2p survive_2l survive_2c, .bool up_7, .pointer d_8, .pointer j_9, .int .i64 e_11, .pointer m_12, .int .i64 i_13, .int .i64 f_14] => probitylaw27_JournalCrashes_k2 ⟨l_0p, l_0l, l_0c⟩ ⟨fails_1p, fails_1l, fails_1c⟩ ⟨survive_2p, survive_2l, survive_2c⟩ up_7 d_8 j_9 e_11 m_12 i_13 f_14 (fun (l_0' : Sl) (fails_1' : Sl) (survive_2' : Sl) (up_7' : Bool) (d_8' : Option Addr) (j_9' : Option Addr) (e_11' : Int) (m_12' : Option Addr) (i_13' : Int) (w' : World) => N0 [(Value.slice l_0'.p l_0'.l l_0'.c), (Value.slice fails_1'.p fails_1'.l fails_1'.c), (Value.slice survive_2'.p survive_2'.l survive_2'.c), (Value.bool up_7'), (Value.pointer d_8'), (Value.pointer j_9'), (Value.int .i64 e_11'), (Value.pointer m_12'), (Value.int .i64 i_13')] w') (fun (r0 : Bool) (w' : World) => Kv (Value.bool r0) w') w
  | _, _ => False

def probitylaw27_JournalCrashes_P3 (Kv : VW) (ρ : Rho) (vs : List Value) (w : World) : Prop :=
  match ρ, vs with
  | _, [.slice survive_2p survive_2l survive_2c, .bool up_7, .pointer d_8, .pointer m_12] => probitylaw27_JournalCrashes_k3 ⟨survive_2p, survive_2l, survive_2c⟩ up_7 d_8 m_12  (fun (r0 : Bool) (w' : World) => Kv (Value.bool r0) w') w
  | _, _ => False

noncomputable def probitylaw27_JournalCrashes_S : Pw.Spec := fun vs w Kv =>
  match vs with
  | [.slice l_0p l_0l l_0c, .slice fails_1p fails_1l fails_1c, .slice survive_2p survive_2l survive_2c] => probitylaw27_JournalCrashes_sh ⟨l_0p, l_0l, l_0c⟩ ⟨fails_1p, fails_1l, fails_1c⟩ ⟨survive_2p, survive_2l, survive_2c⟩ (fun (r0 : Bool) (w' : World) => Kv (Value.bool r0) w') w
  | _ => False

noncomputable def probitylaw27_JournalCrashes_E : Pw.Env := [(10, probitylaw27_sanity_S), (11, disk_New_S), (12, journal_Open_S), (13, probityref27_New_S), (14, journal_Journal_Append_S), (15, probitylaw27_short_S), (16, probityref27_Journal_Append_S), (17, journal_Journal_Many_S), (18, disk_Disk_Crash_S), (19, probityref27_Journal_Opens_S), (20, disk_Disk_Fail_S), (21, probityref27_Same_S)]

noncomputable def probitylaw27_JournalCrashes_C : Code := (Try.f4.body).getD .skip

noncomputable def probitylaw27_JournalCrashes_A (Kv : VW) : Pw.A :=
  (A.seq (A.reg (RA.run RA.done))
   (A.seq (A.reg (RA.run (RA.run RA.done)))
   (A.seq (A.reg (RA.run (RA.run RA.done)))
   (A.seq (A.reg (RA.run (RA.run (RA.run (RA.run (RA.run (RA.run (RA.run (RA.run (RA.run RA.done))))))))))
   (A.seq (A.reg (RA.run (RA.run RA.done)))
   (A.seq (A.seq (A.reg (RA.run RA.done))
   (A.blk (A.loop [0, 1, 2, 7, 8, 9, 11, 12, 13] (probitylaw27_JournalCrashes_P0 Kv) (A.seq (A.seq (A.reg (RA.run (RA.run (RA.run (RA.run (RA.run (RA.spl 32 (RA.run (RA.run (RA.run RA.done))) (RA.skp (RA.skp (RA.run RA.done))))))))))
   (A.cond A.leaf
   A.leaf))
   (A.seq (A.blk (A.seq (A.seq (A.reg (RA.run (RA.run (RA.run (RA.spl 40 (RA.skp (RA.skp (RA.run RA.done))) (RA.run (RA.run (RA.run RA.done))))))))
   (A.cond (A.seq (A.reg (RA.run RA.done))
   A.leaf)
   A.leaf))
   (A.seq (A.seq (A.reg (RA.run (RA.run (RA.run RA.done))))
   (A.cond (A.reg (RA.run (RA.run (RA.run (RA.run (RA.run (RA.run (RA.run (RA.run (RA.run (RA.run (RA.run RA.done))))))))))))
   A.leaf))
   (A.cut [0, 1, 2, 7, 8, 9, 11, 12, 13] (probitylaw27_JournalCrashes_P1 Kv) (A.seq (A.reg (RA.run (RA.run (RA.run (RA.run (RA.run (RA.run (RA.run (RA.run RA.done)))))))))
   (A.seq (A.seq (A.reg (RA.run (RA.run (RA.run (RA.spl 67 (RA.run (RA.run (RA.run RA.done))) (RA.skp (RA.skp (RA.run RA.done))))))))
   (A.cond (A.seq (A.reg (RA.run RA.done))
   A.leaf)
   A.leaf))
   (A.cut [0, 1, 2, 7, 8, 9, 11, 12, 13, 14] (probitylaw27_JournalCrashes_P2 Kv) (A.seq (A.reg (RA.run (RA.run (RA.run (RA.run (RA.run (RA.run (RA.run (RA.run (RA.run RA.done))))))))))
   (A.seq (A.seq (A.reg (RA.run (RA.run RA.done)))
   (A.cond (A.seq (A.reg (RA.run (RA.run RA.done)))
   A.leaf)
   A.leaf))
   (A.seq (A.seq (A.drw (DA.pur 0 (DA.eff 1 (DA.pur 2 (DA.pur 3 (DA.spl 87 (DA.skp 4 (DA.skp 6 (DA.skp 7 (DA.skp 8 (DA.skp 9 (DA.skp 10 (DA.skp 5 (DA.skp 11 (DA.pur 12 DA.done))))))))) (DA.pur 4 (DA.pur 6 (DA.pur 7 (DA.pur 8 (DA.pur 9 (DA.pur 10 (DA.eff 5 (DA.pur 11 (DA.pur 12 DA.done)))))))))))))))
   (A.cond (A.seq (A.reg (RA.run RA.done))
   A.leaf)
   A.leaf))
   (A.seq (A.reg (RA.run RA.done))
   (A.seq (A.reg (RA.run (RA.run (RA.run (RA.run RA.done)))))
   (A.seq (A.reg (RA.run (RA.run (RA.run (RA.run (RA.run (RA.run (RA.run (RA.run (RA.run RA.done))))))))))
   (A.seq (A.reg (RA.run (RA.run (RA.run (RA.spl 108 (RA.skp (RA.skp (RA.skp (RA.skp (RA.run RA.done))))) (RA.run (RA.run (RA.run (RA.run (RA.run RA.done))))))))))
   (A.cond (A.seq (A.reg (RA.run RA.done))
   A.leaf)
   A.leaf)))))))))))))))
   (A.reg (RA.run (RA.run (RA.run RA.done)))))))))
   (A.cut [2, 7, 8, 12] (probitylaw27_JournalCrashes_P3 Kv) (A.seq (A.reg (RA.run (RA.run (RA.run (RA.run (RA.run (RA.run (RA.run (RA.run (RA.run (RA.run (RA.run RA.done))))))))))))
   (A.seq (A.reg (RA.run (RA.run (RA.spl 123 (RA.run (RA.run (RA.run (RA.run (RA.spl 127 (RA.run (RA.run (RA.run (RA.run (RA.run (RA.run (RA.run (RA.run RA.done)))))))) (RA.skp (RA.skp (RA.skp (RA.skp (RA.skp (RA.skp (RA.run (RA.run RA.done))))))))))))) (RA.skp (RA.skp (RA.run (RA.run (RA.skp (RA.skp (RA.skp (RA.skp (RA.skp (RA.skp (RA.run (RA.run RA.done))))))))))))))))
   A.leaf)))))))))

noncomputable def probitylaw27_JournalCrashes_O (Kv : VW) : List Ob := (obs Try.prog probitylaw27_JournalCrashes_E 135 (probitylaw27_JournalCrashes_A Kv) probitylaw27_JournalCrashes_C (fun _ => retQ Try.prog Try.f4.results Kv))

theorem probitylaw27_JournalCrashes_e (Kv : VW) (l_0p : Option Addr) (l_0l l_0c : Nat) (fails_1p : Option Addr) (fails_1l fails_1c : Nat) (survive_2p : Option Addr) (survive_2l survive_2c : Nat) (w : World) : probitylaw27_JournalCrashes_sd ⟨l_0p, l_0l, l_0c⟩ ⟨fails_1p, fails_1l, fails_1c⟩ ⟨survive_2p, survive_2l, survive_2c⟩ (fun (r0 : Bool) (w' : World) => Kv (Value.bool r0) w') w = W Try.prog probitylaw27_JournalCrashes_E 135 (probitylaw27_JournalCrashes_A Kv) probitylaw27_JournalCrashes_C [] (retQ Try.prog Try.f4.results Kv) [] (startS [(Value.slice l_0p l_0l l_0c), (Value.slice fails_1p fails_1l fails_1c), (Value.slice survive_2p survive_2l survive_2c)]) w := by kernel_rfl

theorem probitylaw27_JournalCrashes_e0 (Kv : VW) (N0 : List Value → World → Prop) (ρ : Rho) (l_0p : Option Addr) (l_0l l_0c : Nat) (fails_1p : Option Addr) (fails_1l fails_1c : Nat) (survive_2p : Option Addr) (survive_2l survive_2c : Nat) (up_7 : Bool) (d_8 : Option Addr) (j_9 : Option Addr) (e_11 : Int) (m_12 : Option Addr) (i_13 : Int) (w : World) : probitylaw27_JournalCrashes_b0 ⟨l_0p, l_0l, l_0c⟩ ⟨fails_1p, fails_1l, fails_1c⟩ ⟨survive_2p, survive_2l, survive_2c⟩ up_7 d_8 j_9 e_11 m_12 i_13 (fun (l_0' : Sl) (fails_1' : Sl) (survive_2' : Sl) (up_7' : Bool) (d_8' : Option Addr) (j_9' : Option Addr) (e_11' : Int) (m_12' : Option Addr) (i_13' : Int) (w' : World) => N0 [(Value.slice l_0'.p l_0'.l l_0'.c), (Value.slice fails_1'.p fails_1'.l fails_1'.c), (Value.slice survive_2'.p survive_2'.l survive_2'.c), (Value.bool up_7'), (Value.pointer d_8'), (Value.pointer j_9'), (Value.int .i64 e_11'), (Value.pointer m_12'), (Value.int .i64 i_13')] w')  (fun (r0 : Bool) (w' : World) => Kv (Value.bool r0) w') w = goalAt Try.prog probitylaw27_JournalCrashes_E 135 (probitylaw27_JournalCrashes_O Kv) 0 (N0 :: ρ) [(Value.slice l_0p l_0l l_0c), (Value.slice fails_1p fails_1l fails_1c), (Value.slice survive_2p survive_2l survive_2c), (Value.bool up_7), (Value.pointer d_8), (Value.pointer j_9), (Value.int .i64 e_11), (Value.pointer m_12), (Value.int .i64 i_13)] w := by kernel_rfl

theorem probitylaw27_JournalCrashes_q0 (Kv : VW) (ρ : Rho) (vs : List Value) (w : World) : labAt (probitylaw27_JournalCrashes_O Kv) 0 ρ vs w = probitylaw27_JournalCrashes_P0 Kv ρ vs w := by kernel_rfl

def probitylaw27_JournalCrashes_I0 (l_00 : Sl) (fails_10 : Sl) (survive_20 : Sl) (up_70 : Bool) (m_120 : Option Addr) (I : Option Addr → Option Addr → Int → Int → World → Prop) (vs : List Value) (w : World) : Prop :=
  match vs with
  | [.slice l_0p l_0l l_0c, .slice fails_1p fails_1l fails_1c, .slice survive_2p survive_2l survive_2c, .bool up_7, .pointer d_8, .pointer j_9, .int .i64 e_11, .pointer m_12, .int .i64 i_13] => (⟨l_0p, l_0l, l_0c⟩ = l_00 ∧ ⟨fails_1p, fails_1l, fails_1c⟩ = fails_10 ∧ ⟨survive_2p, survive_2l, survive_2c⟩ = survive_20 ∧ up_7 = up_70 ∧ m_12 = m_120 ∧ True) ∧ I d_8 j_9 e_11 i_13 w
  | _ => False

def probitylaw27_JournalCrashes_M0 (μ : Option Addr → Option Addr → Int → Int → World → Nat) (vs : List Value) (w : World) : Nat :=
  match vs with
  | [.slice _l_0p _l_0l _l_0c, .slice _fails_1p _fails_1l _fails_1c, .slice _survive_2p _survive_2l _survive_2c, .bool _up_7, .pointer d_8, .pointer j_9, .int .i64 e_11, .pointer _m_12, .int .i64 i_13] => μ d_8 j_9 e_11 i_13 w
  | _ => 0

theorem probitylaw27_JournalCrashes_h0 (Kv : VW) : holdsAt Try.prog probitylaw27_JournalCrashes_E 135 (probitylaw27_JournalCrashes_O Kv) 0 := holdsAt_loop (by kernel_rfl) (fun ρ vs w h => by
  rw [probitylaw27_JournalCrashes_q0] at h
  unfold probitylaw27_JournalCrashes_P0 at h
  split at h
  · rename_i ρt l_0p l_0l l_0c fails_1p fails_1l fails_1c survive_2p survive_2l survive_2c up_7 d_8 j_9 e_11 m_12 i_13
    obtain ⟨I, μ, h0, hr⟩ := h.out
    refine ⟨probitylaw27_JournalCrashes_I0 ⟨l_0p, l_0l, l_0c⟩ ⟨fails_1p, fails_1l, fails_1c⟩ ⟨survive_2p, survive_2l, survive_2c⟩ up_7 m_12 I, probitylaw27_JournalCrashes_M0 μ, ⟨⟨rfl, rfl, rfl, rfl, rfl, trivial⟩, h0⟩, fun vs w hI => ?_⟩
    unfold probitylaw27_JournalCrashes_I0 at hI
    split at hI
    · obtain ⟨⟨h0, h1, h2, h3, h4, _⟩, hI⟩ := hI
      cases h0; cases h1; cases h2; cases h3; cases h4
      rw [← probitylaw27_JournalCrashes_e0]
      exact hr _ _ _ _ _ hI
    · exact hI.elim
  · exact h.elim)

theorem probitylaw27_JournalCrashes_e1 (Kv : VW) (N0 : List Value → World → Prop) (ρ : Rho) (l_0p : Option Addr) (l_0l l_0c : Nat) (fails_1p : Option Addr) (fails_1l fails_1c : Nat) (survive_2p : Option Addr) (survive_2l survive_2c : Nat) (up_7 : Bool) (d_8 : Option Addr) (j_9 : Option Addr) (e_11 : Int) (m_12 : Option Addr) (i_13 : Int) (w : World) : probitylaw27_JournalCrashes_k1d ⟨l_0p, l_0l, l_0c⟩ ⟨fails_1p, fails_1l, fails_1c⟩ ⟨survive_2p, survive_2l, survive_2c⟩ up_7 d_8 j_9 e_11 m_12 i_13 (fun (l_0' : Sl) (fails_1' : Sl) (survive_2' : Sl) (up_7' : Bool) (d_8' : Option Addr) (j_9' : Option Addr) (e_11' : Int) (m_12' : Option Addr) (i_13' : Int) (w' : World) => N0 [(Value.slice l_0'.p l_0'.l l_0'.c), (Value.slice fails_1'.p fails_1'.l fails_1'.c), (Value.slice survive_2'.p survive_2'.l survive_2'.c), (Value.bool up_7'), (Value.pointer d_8'), (Value.pointer j_9'), (Value.int .i64 e_11'), (Value.pointer m_12'), (Value.int .i64 i_13')] w') (fun (r0 : Bool) (w' : World) => Kv (Value.bool r0) w') w = goalAt Try.prog probitylaw27_JournalCrashes_E 135 (probitylaw27_JournalCrashes_O Kv) 1 (N0 :: ρ) [(Value.slice l_0p l_0l l_0c), (Value.slice fails_1p fails_1l fails_1c), (Value.slice survive_2p survive_2l survive_2c), (Value.bool up_7), (Value.pointer d_8), (Value.pointer j_9), (Value.int .i64 e_11), (Value.pointer m_12), (Value.int .i64 i_13)] w := by kernel_rfl

theorem probitylaw27_JournalCrashes_q1 (Kv : VW) (ρ : Rho) (vs : List Value) (w : World) : labAt (probitylaw27_JournalCrashes_O Kv) 1 ρ vs w = probitylaw27_JournalCrashes_P1 Kv ρ vs w := by kernel_rfl

theorem probitylaw27_JournalCrashes_h1 (Kv : VW) : holdsAt Try.prog probitylaw27_JournalCrashes_E 135 (probitylaw27_JournalCrashes_O Kv) 1 := holdsAt_cut (.inl (by kernel_rfl)) (fun ρ vs w h => by
  rw [probitylaw27_JournalCrashes_q1] at h
  unfold probitylaw27_JournalCrashes_P1 at h
  split at h
  · rw [← probitylaw27_JournalCrashes_e1]; exact h.out
  · exact h.elim)

theorem probitylaw27_JournalCrashes_e2 (Kv : VW) (N0 : List Value → World → Prop) (ρ : Rho) (l_0p : Option Addr) (l_0l l_0c : Nat) (fails_1p : Option Addr) (fails_1l fails_1c : Nat) (survive_2p : Option Addr) (survive_2l survive_2c : Nat) (up_7 : Bool) (d_8 : Option Addr) (j_9 : Option Addr) (e_11 : Int) (m_12 : Option Addr) (i_13 : Int) (f_14 : Int) (w : World) : probitylaw27_JournalCrashes_k2d ⟨l_0p, l_0l, l_0c⟩ ⟨fails_1p, fails_1l, fails_1c⟩ ⟨survive_2p, survive_2l, survive_2c⟩ up_7 d_8 j_9 e_11 m_12 i_13 f_14 (fun (l_0' : Sl) (fails_1' : Sl) (survive_2' : Sl) (up_7' : Bool) (d_8' : Option Addr) (j_9' : Option Addr) (e_11' : Int) (m_12' : Option Addr) (i_13' : Int) (w' : World) => N0 [(Value.slice l_0'.p l_0'.l l_0'.c), (Value.slice fails_1'.p fails_1'.l fails_1'.c), (Value.slice survive_2'.p survive_2'.l survive_2'.c), (Value.bool up_7'), (Value.pointer d_8'), (Value.pointer j_9'), (Value.int .i64 e_11'), (Value.pointer m_12'), (Value.int .i64 i_13')] w') (fun (r0 : Bool) (w' : World) => Kv (Value.bool r0) w') w = goalAt Try.prog probitylaw27_JournalCrashes_E 135 (probitylaw27_JournalCrashes_O Kv) 2 (N0 :: ρ) [(Value.slice l_0p l_0l l_0c), (Value.slice fails_1p fails_1l fails_1c), (Value.slice survive_2p survive_2l survive_2c), (Value.bool up_7), (Value.pointer d_8), (Value.pointer j_9), (Value.int .i64 e_11), (Value.pointer m_12), (Value.int .i64 i_13), (Value.int .i64 f_14)] w := by kernel_rfl

theorem probitylaw27_JournalCrashes_q2 (Kv : VW) (ρ : Rho) (vs : List Value) (w : World) : labAt (probitylaw27_JournalCrashes_O Kv) 2 ρ vs w = probitylaw27_JournalCrashes_P2 Kv ρ vs w := by kernel_rfl

theorem probitylaw27_JournalCrashes_h2 (Kv : VW) : holdsAt Try.prog probitylaw27_JournalCrashes_E 135 (probitylaw27_JournalCrashes_O Kv) 2 := holdsAt_cut (.inl (by kernel_rfl)) (fun ρ vs w h => by
  rw [probitylaw27_JournalCrashes_q2] at h
  unfold probitylaw27_JournalCrashes_P2 at h
  split at h
  · rw [← probitylaw27_JournalCrashes_e2]; exact h.out
  · exact h.elim)

theorem probitylaw27_JournalCrashes_e3 (Kv : VW) (ρ : Rho) (survive_2p : Option Addr) (survive_2l survive_2c : Nat) (up_7 : Bool) (d_8 : Option Addr) (m_12 : Option Addr) (w : World) : probitylaw27_JournalCrashes_k3d ⟨survive_2p, survive_2l, survive_2c⟩ up_7 d_8 m_12  (fun (r0 : Bool) (w' : World) => Kv (Value.bool r0) w') w = goalAt Try.prog probitylaw27_JournalCrashes_E 135 (probitylaw27_JournalCrashes_O Kv) 3 (ρ) [(Value.slice survive_2p survive_2l survive_2c), (Value.bool up_7), (Value.pointer d_8), (Value.pointer m_12)] w := by kernel_rfl

theorem probitylaw27_JournalCrashes_q3 (Kv : VW) (ρ : Rho) (vs : List Value) (w : World) : labAt (probitylaw27_JournalCrashes_O Kv) 3 ρ vs w = probitylaw27_JournalCrashes_P3 Kv ρ vs w := by kernel_rfl

theorem probitylaw27_JournalCrashes_h3 (Kv : VW) : holdsAt Try.prog probitylaw27_JournalCrashes_E 135 (probitylaw27_JournalCrashes_O Kv) 3 := holdsAt_cut (.inl (by kernel_rfl)) (fun ρ vs w h => by
  rw [probitylaw27_JournalCrashes_q3] at h
  unfold probitylaw27_JournalCrashes_P3 at h
  split at h
  · rw [← probitylaw27_JournalCrashes_e3]; exact h.out
  · exact h.elim)

theorem probitylaw27_JournalCrashes_n (Kv : VW) : obAt (probitylaw27_JournalCrashes_O Kv) 4 = none := by kernel_rfl

theorem probitylaw27_JournalCrashes_h (Kv : VW) : ∀ k, holdsAt Try.prog probitylaw27_JournalCrashes_E 135 (probitylaw27_JournalCrashes_O Kv) k := fun k => match k with
  | 0 => probitylaw27_JournalCrashes_h0 Kv
  | 1 => probitylaw27_JournalCrashes_h1 Kv
  | 2 => probitylaw27_JournalCrashes_h2 Kv
  | 3 => probitylaw27_JournalCrashes_h3 Kv
  | _k + 4 => holdsAt_ge (probitylaw27_JournalCrashes_n Kv) (Nat.le_add_left _ _)

theorem probitylaw27_JournalCrashes_ok : Sound Try.prog 4 probitylaw27_JournalCrashes_S := ⟨Try.call4, fun vs w Kv h => by
  unfold probitylaw27_JournalCrashes_S at h
  split at h
  · have h := h.out
    rw [probitylaw27_JournalCrashes_e] at h
    exact calls_sound (Γ := probitylaw27_JournalCrashes_E) progMixed ⟨probitylaw27_sanity_ok, disk_New_ok, journal_Open_ok, probityref27_New_ok, journal_Journal_Append_ok, probitylaw27_short_ok, probityref27_Journal_Append_ok, journal_Journal_Many_ok, disk_Disk_Crash_ok, probityref27_Journal_Opens_ok, disk_Disk_Fail_ok, probityref27_Same_ok, trivial⟩ Try.func4 (code := probitylaw27_JournalCrashes_C) (by kernel_rfl) (probitylaw27_JournalCrashes_A Kv) Kv (holds_all (probitylaw27_JournalCrashes_h Kv)) (Nat.le_of_ble_eq_true rfl) h
  · exact h.elim⟩

/-! probitylaw27_JournalSame -/
def probitylaw27_JournalSame_k1d (l_0 : Sl) (fail_1 : Int) (survive_2 : Sl) (up_7 : Bool) (d_8 : Option Addr) (j_9 : Option Addr) (m_12 : Option Addr) (i_13 : Int) (N0 : Sl → Int → Sl → Bool → Option Addr → Option Addr → Option Addr → Int → World → Prop) (_K : Bool → World → Prop) (w : World) : Prop :=
  let w12 : World := w.drew
  ∃ S13 : World → Prop, S13 w12 ∧ nz l_0.p fun a14 => (0 ≤ i_13 ∧ i_13 < (l_0.l : Nat)) ∧ ∃ x15 : ByteArray, (∀ w' : World, S13 w' → w'.cell? (a14.add (i_13.toNat * 1)) = some (Value.string x15)) ∧ nz l_0.p fun a16 => (0 ≤ i_13 ∧ i_13 < (l_0.l : Nat)) ∧ ∃ x17 : ByteArray, (∀ w' : World, S13 w' → w'.cell? (a16.add (i_13.toNat * 1)) = some (Value.string x17)) ∧ probitylaw27_short_sh x15 (fun (r19 : ByteArray) (w18 : World) => S13 w18 ∧ probitylaw27_short_sh x17 (fun (r21 : ByteArray) (w20 : World) => S13 w20 ∧ journal_Journal_Append_sh j_9 r21 (fun (r23 : Int) (w22 : World) => S13 w22 ∧ probityref27_Journal_Append_sh m_12 r19 (r23 == (0 : Int)) (fun (_r25 : Int) (w24 : World) => S13 w24 ∧ inR .i64 (i_13 + (1 : Int)) ∧ N0 l_0 fail_1 survive_2 up_7 d_8 j_9 m_12 (i_13 + (1 : Int)) w24) w22) w20) w18) w12
structure probitylaw27_JournalSame_k1 (l_0 : Sl) (fail_1 : Int) (survive_2 : Sl) (up_7 : Bool) (d_8 : Option Addr) (j_9 : Option Addr) (m_12 : Option Addr) (i_13 : Int) (N0 : Sl → Int → Sl → Bool → Option Addr → Option Addr → Option Addr → Int → World → Prop) (K : Bool → World → Prop) (w : World) : Prop where
  out : probitylaw27_JournalSame_k1d l_0 fail_1 survive_2 up_7 d_8 j_9 m_12 i_13 N0 K w

def probitylaw27_JournalSame_k2d (survive_2 : Sl) (up_7 : Bool) (d_8 : Option Addr) (m_12 : Option Addr)  (K : Bool → World → Prop) (w : World) : Prop :=
  disk_Disk_Fail_sh d_8 (-1 : Int) (fun (w26 : World) => journal_Open_sh d_8 (fun (_r28 : Option Addr) (r29 : Sl) (r30 : Int) (w27 : World) => cnd (r30 != (0 : Int))
    (K false w27)
    (probityref27_Journal_Opens_sh m_12 r29 (fun (r32 : Bool) (w31 : World) => cnd (!r32)
    (K false w31)
    (disk_Disk_Crash_sh d_8 survive_2 (fun (r34 : Option Addr) (w33 : World) => journal_Open_sh r34 (fun (_r36 : Option Addr) (r37 : Sl) (r38 : Int) (w35 : World) => cnd up_7
    (cnd (r38 == (0 : Int))
    (probityref27_Same_sh r37 r29 (fun (r40 : Bool) (w39 : World) => K r40 w39) w35)
    (K false w35))
    (K false w35)) w33) w31)) w27)) w26) w
structure probitylaw27_JournalSame_k2 (survive_2 : Sl) (up_7 : Bool) (d_8 : Option Addr) (m_12 : Option Addr)  (K : Bool → World → Prop) (w : World) : Prop where
  out : probitylaw27_JournalSame_k2d survive_2 up_7 d_8 m_12 K w

def probitylaw27_JournalSame_b0 (l_0 : Sl) (fail_1 : Int) (survive_2 : Sl) (up_7 : Bool) (d_8 : Option Addr) (j_9 : Option Addr) (m_12 : Option Addr) (i_13 : Int) (N0 : Sl → Int → Sl → Bool → Option Addr → Option Addr → Option Addr → Int → World → Prop)  (K : Bool → World → Prop) (w : World) : Prop :=
  cnd (decide (i_13 < (l_0.l : Int)))
    (cnd (decide (i_13 < (10 : Int)))
    ((2 : Int) ≠ 0 ∧ inR .i64 (Int.tdiv (l_0.l : Int) (2 : Int)) ∧ cnd (i_13 == (Int.tdiv (l_0.l : Int) (2 : Int)))
    ((9 : Int) ≠ 0 ∧ inR .i64 (Int.tmod fail_1 (9 : Int)) ∧ disk_Disk_Fail_sh d_8 (Int.tmod fail_1 (9 : Int)) (fun (w11 : World) => probitylaw27_JournalSame_k1 l_0 fail_1 survive_2 up_7 d_8 j_9 m_12 i_13 N0 K w11) w)
    (probitylaw27_JournalSame_k1 l_0 fail_1 survive_2 up_7 d_8 j_9 m_12 i_13 N0 K w))
    (probitylaw27_JournalSame_k2 survive_2 up_7 d_8 m_12 K w))
    (probitylaw27_JournalSame_k2 survive_2 up_7 d_8 m_12 K w)
def probitylaw27_JournalSame_l0d (l_0 : Sl) (fail_1 : Int) (survive_2 : Sl) (up_7 : Bool) (d_8 : Option Addr) (j_9 : Option Addr) (m_12 : Option Addr) (i_13 : Int)  (K : Bool → World → Prop) (w : World) : Prop :=
  ∃ (I : Int → World → Prop) (μ : Int → World → Nat), I i_13 w ∧ ∀ (i_131 : Int) (w1 : World), I i_131 w1 →
    probitylaw27_JournalSame_b0 l_0 fail_1 survive_2 up_7 d_8 j_9 m_12 i_131 (fun (l_0' : Sl) (fail_1' : Int) (survive_2' : Sl) (up_7' : Bool) (d_8' : Option Addr) (j_9' : Option Addr) (m_12' : Option Addr) (i_13' : Int) (w' : World) => ((l_0' = l_0 ∧ fail_1' = fail_1 ∧ survive_2' = survive_2 ∧ up_7' = up_7 ∧ d_8' = d_8 ∧ j_9' = j_9 ∧ m_12' = m_12 ∧ True) ∧ I i_13' w') ∧ μ i_13' w' < μ i_131 w1)  K w1
structure probitylaw27_JournalSame_l0 (l_0 : Sl) (fail_1 : Int) (survive_2 : Sl) (up_7 : Bool) (d_8 : Option Addr) (j_9 : Option Addr) (m_12 : Option Addr) (i_13 : Int)  (K : Bool → World → Prop) (w : World) : Prop where
  out : probitylaw27_JournalSame_l0d l_0 fail_1 survive_2 up_7 d_8 j_9 m_12 i_13 K w

def probitylaw27_JournalSame_sd (l_0 : Sl) (fail_1 : Int) (survive_2 : Sl) (K : Bool → World → Prop) (w : World) : Prop :=
  probitylaw27_sanity_sh (fun (r2 : Bool) (w1 : World) => disk_New_sh (fun (r4 : Option Addr) (w3 : World) => journal_Open_sh r4 (fun (r6 : Option Addr) (_r7 : Sl) (r8 : Int) (w5 : World) => probityref27_New_sh (fun (r10 : Option Addr) (w9 : World) => cnd (r8 != (0 : Int))
    (K false w9)
    (cnd r6.isNone
    (K false w9)
    (probitylaw27_JournalSame_l0 l_0 fail_1 survive_2 r2 r4 r6 r10 (0 : Int) K w9))) w5) w3) w1) w

structure probitylaw27_JournalSame_sh (l_0 : Sl) (fail_1 : Int) (survive_2 : Sl) (K : Bool → World → Prop) (w : World) : Prop where
  out : probitylaw27_JournalSame_sd l_0 fail_1 survive_2 K w

def probitylaw27_JournalSame_P0 (Kv : VW) (ρ : Rho) (vs : List Value) (w : World) : Prop :=
  match ρ, vs with
  | _, [.slice l_0p l_0l l_0c, .int .u8 fail_1, .slice survive_2p survive_2l survive_2c, .bool up_7, .pointer d_8, .pointer j_9, .pointer m_12, .int .i64 i_13] => probitylaw27_JournalSame_l0 ⟨l_0p, l_0l, l_0c⟩ fail_1 ⟨survive_2p, survive_2l, survive_2c⟩ up_7 d_8 j_9 m_12 i_13  (fun (r0 : Bool) (w' : World) => Kv (Value.bool r0) w') w
  | _, _ => False

def probitylaw27_JournalSame_P1 (Kv : VW) (ρ : Rho) (vs : List Value) (w : World) : Prop :=
  match ρ, vs with
  | N0 :: _, [.slice l_0p l_0l l_0c, .int .u8 fail_1, .slice survive_2p survive_2l survive_2c, .bool up_7, .pointer d_8, .pointer j_9, .pointer m_12, .int .i64 i_13] => probitylaw27_JournalSame_k1 ⟨l_0p, l_0l, l_0c⟩ fail_1 ⟨survive_2p, survive_2l, survive_2c⟩ up_7 d_8 j_9 m_12 i_13 (fun (l_0' : Sl) (fail_1' : Int) (survive_2' : Sl) (up_7' : Bool) (d_8' : Option Addr) (j_9' : Option Addr) (m_12' : Option Addr) (i_13' : Int) (w' : World) => N0 [(Value.slice l_0'.p l_0'.l l_0'.c), (Value.int .u8 fail_1'), (Value.slice survive_2'.p survive_2'.l survive_2'.c), (Value.bool up_7'), (Value.pointer d_8'), (Value.pointer j_9'), (Value.pointer m_12'), (Value.int .i64 i_13')] w') (fun (r0 : Bool) (w' : World) => Kv (Value.bool r0) w') w
  | _, _ => False

def probitylaw27_JournalSame_P2 (Kv : VW) (ρ : Rho) (vs : List Value) (w : World) : Prop :=
  match ρ, vs with
  | _, [.slice survive_2p survive_2l survive_2c, .bool up_7, .pointer d_8, .pointer m_12] => probitylaw27_JournalSame_k2 ⟨survive_2p, survive_2l, survive_2c⟩ up_7 d_8 m_12  (fun (r0 : Bool) (w' : World) => Kv (Value.bool r0) w') w
  | _, _ => False

noncomputable def probitylaw27_JournalSame_S : Pw.Spec := fun vs w Kv =>
  match vs with
  | [.slice l_0p l_0l l_0c, .int .u8 fail_1, .slice survive_2p survive_2l survive_2c] => probitylaw27_JournalSame_sh ⟨l_0p, l_0l, l_0c⟩ fail_1 ⟨survive_2p, survive_2l, survive_2c⟩ (fun (r0 : Bool) (w' : World) => Kv (Value.bool r0) w') w
  | _ => False

noncomputable def probitylaw27_JournalSame_E : Pw.Env := [(10, probitylaw27_sanity_S), (11, disk_New_S), (12, journal_Open_S), (13, probityref27_New_S), (14, journal_Journal_Append_S), (15, probitylaw27_short_S), (16, probityref27_Journal_Append_S), (18, disk_Disk_Crash_S), (19, probityref27_Journal_Opens_S), (20, disk_Disk_Fail_S), (21, probityref27_Same_S)]

noncomputable def probitylaw27_JournalSame_C : Code := (Try.f5.body).getD .skip

noncomputable def probitylaw27_JournalSame_A (Kv : VW) : Pw.A :=
  (A.seq (A.reg (RA.run RA.done))
   (A.seq (A.reg (RA.run (RA.run RA.done)))
   (A.seq (A.reg (RA.run (RA.run RA.done)))
   (A.seq (A.reg (RA.run (RA.run (RA.run (RA.run (RA.run (RA.run (RA.run (RA.run (RA.run RA.done))))))))))
   (A.seq (A.reg (RA.run (RA.run RA.done)))
   (A.seq (A.seq (A.reg (RA.run (RA.run (RA.run (RA.spl 31 (RA.skp (RA.skp (RA.run RA.done))) (RA.run (RA.run (RA.run RA.done))))))))
   (A.cond (A.seq (A.reg (RA.run RA.done))
   A.leaf)
   A.leaf))
   (A.seq (A.seq (A.reg (RA.run RA.done))
   (A.blk (A.loop [0, 1, 2, 7, 8, 9, 12, 13] (probitylaw27_JournalSame_P0 Kv) (A.seq (A.seq (A.reg (RA.run (RA.run (RA.run (RA.run (RA.run (RA.spl 39 (RA.run (RA.run (RA.run RA.done))) (RA.skp (RA.skp (RA.run RA.done))))))))))
   (A.cond A.leaf
   A.leaf))
   (A.seq (A.blk (A.seq (A.seq (A.reg (RA.run (RA.run (RA.run (RA.run (RA.run RA.done))))))
   (A.cond (A.reg (RA.run (RA.run (RA.run (RA.run (RA.run RA.done))))))
   A.leaf))
   (A.cut [0, 1, 2, 7, 8, 9, 12, 13] (probitylaw27_JournalSame_P1 Kv) (A.drw (DA.pur 0 (DA.pur 1 (DA.pur 2 (DA.pur 3 (DA.pur 4 (DA.pur 6 (DA.pur 7 (DA.pur 8 (DA.pur 9 (DA.pur 10 (DA.eff 5 (DA.eff 11 (DA.eff 12 (DA.pur 13 (DA.eff 14 DA.done)))))))))))))))))))
   (A.reg (RA.run (RA.run (RA.run RA.done)))))))))
   (A.cut [2, 7, 8, 12] (probitylaw27_JournalSame_P2 Kv) (A.seq (A.reg (RA.run (RA.run RA.done)))
   (A.seq (A.reg (RA.run (RA.run (RA.run (RA.run (RA.run (RA.run (RA.run (RA.run (RA.run RA.done))))))))))
   (A.seq (A.seq (A.reg (RA.run (RA.run (RA.run (RA.spl 80 (RA.skp (RA.skp (RA.skp (RA.skp (RA.run RA.done))))) (RA.run (RA.run (RA.run (RA.run (RA.run RA.done))))))))))
   (A.cond (A.seq (A.reg (RA.run RA.done))
   A.leaf)
   A.leaf))
   (A.seq (A.reg (RA.run (RA.run (RA.run (RA.run (RA.run (RA.run (RA.run (RA.run (RA.run (RA.run (RA.run RA.done))))))))))))
   (A.seq (A.reg (RA.run (RA.run (RA.spl 95 (RA.run (RA.run (RA.run (RA.run (RA.spl 99 (RA.run (RA.run (RA.run (RA.run (RA.run RA.done))))) (RA.skp (RA.skp (RA.skp (RA.run (RA.run RA.done)))))))))) (RA.skp (RA.skp (RA.run (RA.run (RA.skp (RA.skp (RA.skp (RA.run (RA.run RA.done)))))))))))))
   A.leaf)))))))))))))

noncomputable def probitylaw27_JournalSame_O (Kv : VW) : List Ob := (obs Try.prog probitylaw27_JournalSame_E 104 (probitylaw27_JournalSame_A Kv) probitylaw27_JournalSame_C (fun _ => retQ Try.prog Try.f5.results Kv))

theorem probitylaw27_JournalSame_e (Kv : VW) (l_0p : Option Addr) (l_0l l_0c : Nat) (fail_1 : Int) (survive_2p : Option Addr) (survive_2l survive_2c : Nat) (w : World) : probitylaw27_JournalSame_sd ⟨l_0p, l_0l, l_0c⟩ fail_1 ⟨survive_2p, survive_2l, survive_2c⟩ (fun (r0 : Bool) (w' : World) => Kv (Value.bool r0) w') w = W Try.prog probitylaw27_JournalSame_E 104 (probitylaw27_JournalSame_A Kv) probitylaw27_JournalSame_C [] (retQ Try.prog Try.f5.results Kv) [] (startS [(Value.slice l_0p l_0l l_0c), (Value.int .u8 fail_1), (Value.slice survive_2p survive_2l survive_2c)]) w := by kernel_rfl

theorem probitylaw27_JournalSame_e0 (Kv : VW) (N0 : List Value → World → Prop) (ρ : Rho) (l_0p : Option Addr) (l_0l l_0c : Nat) (fail_1 : Int) (survive_2p : Option Addr) (survive_2l survive_2c : Nat) (up_7 : Bool) (d_8 : Option Addr) (j_9 : Option Addr) (m_12 : Option Addr) (i_13 : Int) (w : World) : probitylaw27_JournalSame_b0 ⟨l_0p, l_0l, l_0c⟩ fail_1 ⟨survive_2p, survive_2l, survive_2c⟩ up_7 d_8 j_9 m_12 i_13 (fun (l_0' : Sl) (fail_1' : Int) (survive_2' : Sl) (up_7' : Bool) (d_8' : Option Addr) (j_9' : Option Addr) (m_12' : Option Addr) (i_13' : Int) (w' : World) => N0 [(Value.slice l_0'.p l_0'.l l_0'.c), (Value.int .u8 fail_1'), (Value.slice survive_2'.p survive_2'.l survive_2'.c), (Value.bool up_7'), (Value.pointer d_8'), (Value.pointer j_9'), (Value.pointer m_12'), (Value.int .i64 i_13')] w')  (fun (r0 : Bool) (w' : World) => Kv (Value.bool r0) w') w = goalAt Try.prog probitylaw27_JournalSame_E 104 (probitylaw27_JournalSame_O Kv) 0 (N0 :: ρ) [(Value.slice l_0p l_0l l_0c), (Value.int .u8 fail_1), (Value.slice survive_2p survive_2l survive_2c), (Value.bool up_7), (Value.pointer d_8), (Value.pointer j_9), (Value.pointer m_12), (Value.int .i64 i_13)] w := by kernel_rfl

theorem probitylaw27_JournalSame_q0 (Kv : VW) (ρ : Rho) (vs : List Value) (w : World) : labAt (probitylaw27_JournalSame_O Kv) 0 ρ vs w = probitylaw27_JournalSame_P0 Kv ρ vs w := by kernel_rfl

def probitylaw27_JournalSame_I0 (l_00 : Sl) (fail_10 : Int) (survive_20 : Sl) (up_70 : Bool) (d_80 : Option Addr) (j_90 : Option Addr) (m_120 : Option Addr) (I : Int → World → Prop) (vs : List Value) (w : World) : Prop :=
  match vs with
  | [.slice l_0p l_0l l_0c, .int .u8 fail_1, .slice survive_2p survive_2l survive_2c, .bool up_7, .pointer d_8, .pointer j_9, .pointer m_12, .int .i64 i_13] => (⟨l_0p, l_0l, l_0c⟩ = l_00 ∧ fail_1 = fail_10 ∧ ⟨survive_2p, survive_2l, survive_2c⟩ = survive_20 ∧ up_7 = up_70 ∧ d_8 = d_80 ∧ j_9 = j_90 ∧ m_12 = m_120 ∧ True) ∧ I i_13 w
  | _ => False

def probitylaw27_JournalSame_M0 (μ : Int → World → Nat) (vs : List Value) (w : World) : Nat :=
  match vs with
  | [.slice _l_0p _l_0l _l_0c, .int .u8 _fail_1, .slice _survive_2p _survive_2l _survive_2c, .bool _up_7, .pointer _d_8, .pointer _j_9, .pointer _m_12, .int .i64 i_13] => μ i_13 w
  | _ => 0

theorem probitylaw27_JournalSame_h0 (Kv : VW) : holdsAt Try.prog probitylaw27_JournalSame_E 104 (probitylaw27_JournalSame_O Kv) 0 := holdsAt_loop (by kernel_rfl) (fun ρ vs w h => by
  rw [probitylaw27_JournalSame_q0] at h
  unfold probitylaw27_JournalSame_P0 at h
  split at h
  · rename_i ρt l_0p l_0l l_0c fail_1 survive_2p survive_2l survive_2c up_7 d_8 j_9 m_12 i_13
    obtain ⟨I, μ, h0, hr⟩ := h.out
    refine ⟨probitylaw27_JournalSame_I0 ⟨l_0p, l_0l, l_0c⟩ fail_1 ⟨survive_2p, survive_2l, survive_2c⟩ up_7 d_8 j_9 m_12 I, probitylaw27_JournalSame_M0 μ, ⟨⟨rfl, rfl, rfl, rfl, rfl, rfl, rfl, trivial⟩, h0⟩, fun vs w hI => ?_⟩
    unfold probitylaw27_JournalSame_I0 at hI
    split at hI
    · obtain ⟨⟨h0, h1, h2, h3, h4, h5, h6, _⟩, hI⟩ := hI
      cases h0; cases h1; cases h2; cases h3; cases h4; cases h5; cases h6
      rw [← probitylaw27_JournalSame_e0]
      exact hr _ _ hI
    · exact hI.elim
  · exact h.elim)

theorem probitylaw27_JournalSame_e1 (Kv : VW) (N0 : List Value → World → Prop) (ρ : Rho) (l_0p : Option Addr) (l_0l l_0c : Nat) (fail_1 : Int) (survive_2p : Option Addr) (survive_2l survive_2c : Nat) (up_7 : Bool) (d_8 : Option Addr) (j_9 : Option Addr) (m_12 : Option Addr) (i_13 : Int) (w : World) : probitylaw27_JournalSame_k1d ⟨l_0p, l_0l, l_0c⟩ fail_1 ⟨survive_2p, survive_2l, survive_2c⟩ up_7 d_8 j_9 m_12 i_13 (fun (l_0' : Sl) (fail_1' : Int) (survive_2' : Sl) (up_7' : Bool) (d_8' : Option Addr) (j_9' : Option Addr) (m_12' : Option Addr) (i_13' : Int) (w' : World) => N0 [(Value.slice l_0'.p l_0'.l l_0'.c), (Value.int .u8 fail_1'), (Value.slice survive_2'.p survive_2'.l survive_2'.c), (Value.bool up_7'), (Value.pointer d_8'), (Value.pointer j_9'), (Value.pointer m_12'), (Value.int .i64 i_13')] w') (fun (r0 : Bool) (w' : World) => Kv (Value.bool r0) w') w = goalAt Try.prog probitylaw27_JournalSame_E 104 (probitylaw27_JournalSame_O Kv) 1 (N0 :: ρ) [(Value.slice l_0p l_0l l_0c), (Value.int .u8 fail_1), (Value.slice survive_2p survive_2l survive_2c), (Value.bool up_7), (Value.pointer d_8), (Value.pointer j_9), (Value.pointer m_12), (Value.int .i64 i_13)] w := by kernel_rfl

theorem probitylaw27_JournalSame_q1 (Kv : VW) (ρ : Rho) (vs : List Value) (w : World) : labAt (probitylaw27_JournalSame_O Kv) 1 ρ vs w = probitylaw27_JournalSame_P1 Kv ρ vs w := by kernel_rfl

theorem probitylaw27_JournalSame_h1 (Kv : VW) : holdsAt Try.prog probitylaw27_JournalSame_E 104 (probitylaw27_JournalSame_O Kv) 1 := holdsAt_cut (.inl (by kernel_rfl)) (fun ρ vs w h => by
  rw [probitylaw27_JournalSame_q1] at h
  unfold probitylaw27_JournalSame_P1 at h
  split at h
  · rw [← probitylaw27_JournalSame_e1]; exact h.out
  · exact h.elim)

theorem probitylaw27_JournalSame_e2 (Kv : VW) (ρ : Rho) (survive_2p : Option Addr) (survive_2l survive_2c : Nat) (up_7 : Bool) (d_8 : Option Addr) (m_12 : Option Addr) (w : World) : probitylaw27_JournalSame_k2d ⟨survive_2p, survive_2l, survive_2c⟩ up_7 d_8 m_12  (fun (r0 : Bool) (w' : World) => Kv (Value.bool r0) w') w = goalAt Try.prog probitylaw27_JournalSame_E 104 (probitylaw27_JournalSame_O Kv) 2 (ρ) [(Value.slice survive_2p survive_2l survive_2c), (Value.bool up_7), (Value.pointer d_8), (Value.pointer m_12)] w := by kernel_rfl

theorem probitylaw27_JournalSame_q2 (Kv : VW) (ρ : Rho) (vs : List Value) (w : World) : labAt (probitylaw27_JournalSame_O Kv) 2 ρ vs w = probitylaw27_JournalSame_P2 Kv ρ vs w := by kernel_rfl

theorem probitylaw27_JournalSame_h2 (Kv : VW) : holdsAt Try.prog probitylaw27_JournalSame_E 104 (probitylaw27_JournalSame_O Kv) 2 := holdsAt_cut (.inl (by kernel_rfl)) (fun ρ vs w h => by
  rw [probitylaw27_JournalSame_q2] at h
  unfold probitylaw27_JournalSame_P2 at h
  split at h
  · rw [← probitylaw27_JournalSame_e2]; exact h.out
  · exact h.elim)

theorem probitylaw27_JournalSame_n (Kv : VW) : obAt (probitylaw27_JournalSame_O Kv) 3 = none := by kernel_rfl

theorem probitylaw27_JournalSame_h (Kv : VW) : ∀ k, holdsAt Try.prog probitylaw27_JournalSame_E 104 (probitylaw27_JournalSame_O Kv) k := fun k => match k with
  | 0 => probitylaw27_JournalSame_h0 Kv
  | 1 => probitylaw27_JournalSame_h1 Kv
  | 2 => probitylaw27_JournalSame_h2 Kv
  | _k + 3 => holdsAt_ge (probitylaw27_JournalSame_n Kv) (Nat.le_add_left _ _)

theorem probitylaw27_JournalSame_ok : Sound Try.prog 5 probitylaw27_JournalSame_S := ⟨Try.call5, fun vs w Kv h => by
  unfold probitylaw27_JournalSame_S at h
  split at h
  · have h := h.out
    rw [probitylaw27_JournalSame_e] at h
    exact calls_sound (Γ := probitylaw27_JournalSame_E) progMixed ⟨probitylaw27_sanity_ok, disk_New_ok, journal_Open_ok, probityref27_New_ok, journal_Journal_Append_ok, probitylaw27_short_ok, probityref27_Journal_Append_ok, disk_Disk_Crash_ok, probityref27_Journal_Opens_ok, disk_Disk_Fail_ok, probityref27_Same_ok, trivial⟩ Try.func5 (code := probitylaw27_JournalSame_C) (by kernel_rfl) (probitylaw27_JournalSame_A Kv) Kv (holds_all (probitylaw27_JournalSame_h Kv)) (Nat.le_of_ble_eq_true rfl) h
  · exact h.elim⟩

/-! probitylaw27_JournalRaw -/
def probitylaw27_JournalRaw_sd (s_0 : ByteArray) (off_1 : Int) (record_2 : ByteArray) (K : Bool → World → Prop) (w : World) : Prop :=
  probitylaw27_sanity_sh (fun (r2 : Bool) (w1 : World) => disk_New_sh (fun (r4 : Option Addr) (w3 : World) => (100 : Int) ≠ 0 ∧ inR .i64 (Int.tmod off_1 (100 : Int)) ∧ (0 ≤ (0 : Int) ∧ (0 : Int) ≤ (min (s_0.size : Int) (300 : Int)) ∧ (min (s_0.size : Int) (300 : Int)) ≤ (s_0.size : Nat)) ∧ disk_Disk_Write_sh r4 (Int.tmod off_1 (100 : Int)) (s_0.extract 0 (min (s_0.size : Int) (300 : Int)).toNat) (fun (_r6 : Int) (w5 : World) => disk_Disk_Sync_sh r4 (fun (_r8 : Int) (w7 : World) => journal_Open_sh r4 (fun (r10 : Option Addr) (r11 : Sl) (r12 : Int) (w9 : World) => cnd (r12 != (0 : Int))
    (cnd r2
    (cnd (r12 == (11 : Int))
    (cnd ((r11.l : Int) == (0 : Int))
    (K r10.isNone w9)
    (K false w9))
    (K false w9))
    (K false w9))
    (cnd r10.isNone
    (K false w9)
    (journal_Journal_Many_sh r10 (fun (r14 : Int) (w13 : World) => cnd (r14 != (r11.l : Int))
    (K false w13)
    (probitylaw27_short_sh record_2 (fun (r16 : ByteArray) (w15 : World) => journal_Journal_Append_sh r10 r16 (fun (r18 : Int) (w17 : World) => cnd (r18 != (0 : Int))
    (K false w17)
    (disk_Disk_Crash_sh r4 (Sl.mk none 0 0) (fun (r20 : Option Addr) (w19 : World) => journal_Open_sh r20 (fun (_r22 : Option Addr) (r23 : Sl) (r24 : Int) (w21 : World) => cnd r2
    (cnd (r24 == (0 : Int))
    (let w25 : World := w21.alloc (Obj.cells #[] 9)
  apS 1 16 [(Value.string (str []))] 9 (Sl.mk (some (Addr.mk w21.heap.size 0 none)) 0 0) r11 w25 fun (s26 : Sl) (w27 : World) => probitylaw27_short_sh record_2 (fun (r29 : ByteArray) (w28 : World) => let w30 : World := w28.alloc (Obj.cells #[(Value.string r29)] 9)
  apS 1 16 [(Value.string (str []))] 9 s26 (Sl.mk (some (Addr.mk w28.heap.size 0 none)) 1 1) w30 fun (s31 : Sl) (w32 : World) => probityref27_Same_sh r23 s31 (fun (r34 : Bool) (w33 : World) => K r34 w33) w32) w27)
    (K false w21))
    (K false w21)) w19) w17)) w15) w13)) w9))) w7) w5) w3) w1) w

structure probitylaw27_JournalRaw_sh (s_0 : ByteArray) (off_1 : Int) (record_2 : ByteArray) (K : Bool → World → Prop) (w : World) : Prop where
  out : probitylaw27_JournalRaw_sd s_0 off_1 record_2 K w

noncomputable def probitylaw27_JournalRaw_S : Pw.Spec := fun vs w Kv =>
  match vs with
  | [.string s_0, .int .u8 off_1, .string record_2] => probitylaw27_JournalRaw_sh s_0 off_1 record_2 (fun (r0 : Bool) (w' : World) => Kv (Value.bool r0) w') w
  | _ => False

noncomputable def probitylaw27_JournalRaw_E : Pw.Env := [(10, probitylaw27_sanity_S), (11, disk_New_S), (12, journal_Open_S), (14, journal_Journal_Append_S), (15, probitylaw27_short_S), (17, journal_Journal_Many_S), (18, disk_Disk_Crash_S), (21, probityref27_Same_S), (22, disk_Disk_Write_S), (23, disk_Disk_Sync_S)]

noncomputable def probitylaw27_JournalRaw_C : Code := (Try.f6.body).getD .skip

noncomputable def probitylaw27_JournalRaw_A (_Kv : VW) : Pw.A :=
  (A.seq (A.reg (RA.run RA.done))
   (A.seq (A.reg (RA.run (RA.run RA.done)))
   (A.seq (A.reg (RA.run (RA.run RA.done)))
   (A.seq (A.reg (RA.run (RA.run (RA.run (RA.run (RA.run (RA.run (RA.run (RA.run (RA.run (RA.run RA.done)))))))))))
   (A.seq (A.reg (RA.run (RA.run RA.done)))
   (A.seq (A.reg (RA.run (RA.run (RA.run (RA.run (RA.run (RA.run (RA.run (RA.run (RA.run RA.done))))))))))
   (A.seq (A.seq (A.reg (RA.run (RA.run RA.done)))
   (A.cond (A.seq (A.reg (RA.run (RA.run (RA.spl 38 (RA.run (RA.run (RA.run (RA.run (RA.spl 42 (RA.run (RA.run (RA.run (RA.run (RA.run (RA.spl 47 (RA.run (RA.run (RA.run (RA.run RA.done)))) (RA.skp (RA.skp (RA.run (RA.run RA.done)))))))))) (RA.skp (RA.skp (RA.skp (RA.run (RA.run (RA.skp (RA.skp (RA.run (RA.run RA.done)))))))))))))) (RA.skp (RA.skp (RA.run (RA.run (RA.skp (RA.skp (RA.skp (RA.run (RA.run (RA.skp (RA.skp (RA.run (RA.run RA.done)))))))))))))))))
   A.leaf)
   A.leaf))
   (A.seq (A.seq (A.reg (RA.run (RA.run (RA.run (RA.spl 53 (RA.skp (RA.skp (RA.skp (RA.skp (RA.skp (RA.run (RA.run (RA.skp (RA.skp (RA.skp (RA.skp (RA.skp (RA.run RA.done))))))))))))) (RA.run (RA.run (RA.run (RA.run (RA.run (RA.run (RA.run (RA.spl 60 (RA.skp (RA.skp (RA.skp (RA.skp (RA.skp (RA.run RA.done)))))) (RA.run (RA.run (RA.run (RA.run (RA.run (RA.run RA.done)))))))))))))))))))
   (A.cond (A.seq (A.reg (RA.run RA.done))
   A.leaf)
   A.leaf))
   (A.seq (A.reg (RA.run (RA.run (RA.run (RA.run (RA.run (RA.run (RA.run (RA.run (RA.run (RA.run RA.done)))))))))))
   (A.seq (A.reg (RA.run (RA.run (RA.spl 75 (RA.run (RA.run (RA.run (RA.run (RA.spl 79 (RA.run (RA.run (RA.run (RA.run (RA.run (RA.run (RA.run (RA.run (RA.run (RA.run (RA.run RA.done))))))))))) (RA.skp (RA.skp (RA.skp (RA.skp (RA.skp (RA.skp (RA.skp (RA.skp (RA.skp (RA.run (RA.run RA.done)))))))))))))))) (RA.skp (RA.skp (RA.run (RA.run (RA.skp (RA.skp (RA.skp (RA.skp (RA.skp (RA.skp (RA.skp (RA.skp (RA.skp (RA.run (RA.run RA.done)))))))))))))))))))
   A.leaf))))))))))

noncomputable def probitylaw27_JournalRaw_O (Kv : VW) : List Ob := (obs Try.prog probitylaw27_JournalRaw_E 90 (probitylaw27_JournalRaw_A Kv) probitylaw27_JournalRaw_C (fun _ => retQ Try.prog Try.f6.results Kv))

theorem probitylaw27_JournalRaw_e (Kv : VW) (s_0 : ByteArray) (off_1 : Int) (record_2 : ByteArray) (w : World) : probitylaw27_JournalRaw_sd s_0 off_1 record_2 (fun (r0 : Bool) (w' : World) => Kv (Value.bool r0) w') w = W Try.prog probitylaw27_JournalRaw_E 90 (probitylaw27_JournalRaw_A Kv) probitylaw27_JournalRaw_C [] (retQ Try.prog Try.f6.results Kv) [] (startS [(Value.string s_0), (Value.int .u8 off_1), (Value.string record_2)]) w := by kernel_rfl

theorem probitylaw27_JournalRaw_n (Kv : VW) : obAt (probitylaw27_JournalRaw_O Kv) 0 = none := by kernel_rfl

theorem probitylaw27_JournalRaw_h (Kv : VW) : ∀ k, holdsAt Try.prog probitylaw27_JournalRaw_E 90 (probitylaw27_JournalRaw_O Kv) k := fun _ => holdsAt_ge (probitylaw27_JournalRaw_n Kv) (Nat.zero_le _)

theorem probitylaw27_JournalRaw_ok : Sound Try.prog 6 probitylaw27_JournalRaw_S := ⟨Try.call6, fun vs w Kv h => by
  unfold probitylaw27_JournalRaw_S at h
  split at h
  · have h := h.out
    rw [probitylaw27_JournalRaw_e] at h
    exact calls_sound (Γ := probitylaw27_JournalRaw_E) progMixed ⟨probitylaw27_sanity_ok, disk_New_ok, journal_Open_ok, journal_Journal_Append_ok, probitylaw27_short_ok, journal_Journal_Many_ok, disk_Disk_Crash_ok, probityref27_Same_ok, disk_Disk_Write_ok, disk_Disk_Sync_ok, trivial⟩ Try.func6 (code := probitylaw27_JournalRaw_C) (by kernel_rfl) (probitylaw27_JournalRaw_A Kv) Kv (holds_all (probitylaw27_JournalRaw_h Kv)) (Nat.le_of_ble_eq_true rfl) h
  · exact h.elim⟩

/-! probitylaw27_JournalPower -/
def probitylaw27_JournalPower_k1d (l_0 : Sl) (up_3 : Bool) (d_9 : Option Addr)  (K : Bool → World → Prop) (w : World) : Prop :=
  disk_Disk_Fail_sh d_9 (0 : Int) (fun (w28 : World) => journal_Open_sh d_9 (fun (r30 : Option Addr) (r31 : Sl) (r32 : Int) (w29 : World) => disk_Disk_Fail_sh d_9 (-1 : Int) (fun (w33 : World) => journal_Open_sh d_9 (fun (_r35 : Option Addr) (r36 : Sl) (r37 : Int) (w34 : World) => cnd up_3
    (cnd r30.isNone
    (cnd ((r31.l : Int) == (0 : Int))
    (cnd (r32 == (70 : Int))
    (cnd (r37 == (0 : Int))
    (K ((r36.l : Int) == (min (l_0.l : Int) (5 : Int))) w34)
    (K false w34))
    (K false w34))
    (K false w34))
    (K false w34))
    (K false w34)) w33) w29) w28) w
structure probitylaw27_JournalPower_k1 (l_0 : Sl) (up_3 : Bool) (d_9 : Option Addr)  (K : Bool → World → Prop) (w : World) : Prop where
  out : probitylaw27_JournalPower_k1d l_0 up_3 d_9 K w

def probitylaw27_JournalPower_b0 (l_0 : Sl) (up_3 : Bool) (d_9 : Option Addr) (j_10 : Option Addr) (f_12 : Int) (i_13 : Int) (N0 : Sl → Bool → Option Addr → Option Addr → Int → Int → World → Prop)  (K : Bool → World → Prop) (w : World) : Prop :=
  cnd (decide (i_13 < (l_0.l : Int)))
    (cnd (decide (i_13 < (5 : Int)))
    (cnd (f_12 != (0 : Int))
    (K false w)
    (cnd j_10.isNone
    (K false w)
    (nz l_0.p fun a22 => (0 ≤ i_13 ∧ i_13 < (l_0.l : Nat)) ∧ ∃ x23 : ByteArray, w.cell? (a22.add (i_13.toNat * 1)) = some (Value.string x23) ∧ probitylaw27_short_sh x23 (fun (r25 : ByteArray) (w24 : World) => journal_Journal_Append_sh j_10 r25 (fun (r27 : Int) (w26 : World) => cnd (r27 != (0 : Int))
    (K false w26)
    (inR .i64 (i_13 + (1 : Int)) ∧ N0 l_0 up_3 d_9 j_10 f_12 (i_13 + (1 : Int)) w26)) w24) w)))
    (probitylaw27_JournalPower_k1 l_0 up_3 d_9 K w))
    (probitylaw27_JournalPower_k1 l_0 up_3 d_9 K w)
def probitylaw27_JournalPower_l0d (l_0 : Sl) (up_3 : Bool) (d_9 : Option Addr) (j_10 : Option Addr) (f_12 : Int) (i_13 : Int)  (K : Bool → World → Prop) (w : World) : Prop :=
  ∃ (I : Int → World → Prop) (μ : Int → World → Nat), I i_13 w ∧ ∀ (i_131 : Int) (w1 : World), I i_131 w1 →
    probitylaw27_JournalPower_b0 l_0 up_3 d_9 j_10 f_12 i_131 (fun (l_0' : Sl) (up_3' : Bool) (d_9' : Option Addr) (j_10' : Option Addr) (f_12' : Int) (i_13' : Int) (w' : World) => ((l_0' = l_0 ∧ up_3' = up_3 ∧ d_9' = d_9 ∧ j_10' = j_10 ∧ f_12' = f_12 ∧ True) ∧ I i_13' w') ∧ μ i_13' w' < μ i_131 w1)  K w1
structure probitylaw27_JournalPower_l0 (l_0 : Sl) (up_3 : Bool) (d_9 : Option Addr) (j_10 : Option Addr) (f_12 : Int) (i_13 : Int)  (K : Bool → World → Prop) (w : World) : Prop where
  out : probitylaw27_JournalPower_l0d l_0 up_3 d_9 j_10 f_12 i_13 K w

def probitylaw27_JournalPower_sd (l_0 : Sl) (K : Bool → World → Prop) (w : World) : Prop :=
  probitylaw27_sanity_sh (fun (r2 : Bool) (w1 : World) => journal_Open_sh none (fun (r4 : Option Addr) (r5 : Sl) (r6 : Int) (w3 : World) => let w7 : World := w3.alloc (Obj.cells #[(Value.pointer none), (Value.int .i64 (0 : Int)), (Value.int .i64 (0 : Int)), (Value.int .i64 (0 : Int)), (Value.bool false)] 52)
  cnd (!r4.isNone)
    (K false w7)
    (cnd ((r5.l : Int) != (0 : Int))
    (K false w7)
    (cnd (r6 != (1 : Int))
    (K false w7)
    (journal_Journal_Append_sh none (str [120]) (fun (r9 : Int) (w8 : World) => cnd (r9 != (1 : Int))
    (K false w8)
    (journal_Journal_Append_sh (some (Addr.mk w3.heap.size 0 none)) (str [120]) (fun (r11 : Int) (w10 : World) => cnd (r11 != (1 : Int))
    (K false w10)
    (journal_Journal_Many_sh none (fun (r13 : Int) (w12 : World) => journal_Journal_Many_sh (some (Addr.mk w3.heap.size 0 none)) (fun (r15 : Int) (w14 : World) => inR .i64 (r13 + r15) ∧ cnd ((r13 + r15) != (0 : Int))
    (K false w14)
    (disk_New_sh (fun (r17 : Option Addr) (w16 : World) => journal_Open_sh r17 (fun (r19 : Option Addr) (_r20 : Sl) (r21 : Int) (w18 : World) => probitylaw27_JournalPower_l0 l_0 r2 r17 r19 r21 (0 : Int) K w18) w16) w14)) w12) w10)) w8)) w7)))) w1) w

structure probitylaw27_JournalPower_sh (l_0 : Sl) (K : Bool → World → Prop) (w : World) : Prop where
  out : probitylaw27_JournalPower_sd l_0 K w

def probitylaw27_JournalPower_P0 (Kv : VW) (ρ : Rho) (vs : List Value) (w : World) : Prop :=
  match ρ, vs with
  | _, [.slice l_0p l_0l l_0c, .bool up_3, .pointer d_9, .pointer j_10, .int .i64 f_12, .int .i64 i_13] => probitylaw27_JournalPower_l0 ⟨l_0p, l_0l, l_0c⟩ up_3 d_9 j_10 f_12 i_13  (fun (r0 : Bool) (w' : World) => Kv (Value.bool r0) w') w
  | _, _ => False

def probitylaw27_JournalPower_P1 (Kv : VW) (ρ : Rho) (vs : List Value) (w : World) : Prop :=
  match ρ, vs with
  | _, [.slice l_0p l_0l l_0c, .bool up_3, .pointer d_9] => probitylaw27_JournalPower_k1 ⟨l_0p, l_0l, l_0c⟩ up_3 d_9  (fun (r0 : Bool) (w' : World) => Kv (Value.bool r0) w') w
  | _, _ => False

noncomputable def probitylaw27_JournalPower_S : Pw.Spec := fun vs w Kv =>
  match vs with
  | [.slice l_0p l_0l l_0c] => probitylaw27_JournalPower_sh ⟨l_0p, l_0l, l_0c⟩ (fun (r0 : Bool) (w' : World) => Kv (Value.bool r0) w') w
  | _ => False

noncomputable def probitylaw27_JournalPower_E : Pw.Env := [(10, probitylaw27_sanity_S), (11, disk_New_S), (12, journal_Open_S), (14, journal_Journal_Append_S), (15, probitylaw27_short_S), (17, journal_Journal_Many_S), (20, disk_Disk_Fail_S)]

noncomputable def probitylaw27_JournalPower_C : Code := (Try.f7.body).getD .skip

noncomputable def probitylaw27_JournalPower_A (Kv : VW) : Pw.A :=
  (A.seq (A.reg (RA.run RA.done))
   (A.seq (A.reg (RA.run (RA.run RA.done)))
   (A.seq (A.reg (RA.run (RA.run (RA.run (RA.run (RA.run (RA.run (RA.run (RA.run RA.done)))))))))
   (A.seq (A.reg (RA.run RA.done))
   (A.seq (A.reg (RA.run (RA.run (RA.run RA.done))))
   (A.seq (A.seq (A.reg (RA.run (RA.run (RA.run (RA.spl 30 (RA.skp (RA.skp (RA.skp (RA.run (RA.run (RA.skp (RA.skp (RA.run (RA.run (RA.skp (RA.skp (RA.skp (RA.run (RA.run (RA.skp (RA.skp (RA.skp (RA.run (RA.run (RA.skp (RA.skp (RA.skp (RA.skp (RA.skp (RA.skp (RA.run RA.done)))))))))))))))))))))))))) (RA.run (RA.run (RA.run (RA.run (RA.run (RA.spl 35 (RA.skp (RA.skp (RA.run (RA.run (RA.skp (RA.skp (RA.skp (RA.run (RA.run (RA.skp (RA.skp (RA.skp (RA.run (RA.run (RA.skp (RA.skp (RA.skp (RA.skp (RA.skp (RA.skp (RA.run RA.done))))))))))))))))))))) (RA.run (RA.run (RA.run (RA.run (RA.spl 39 (RA.skp (RA.skp (RA.skp (RA.run (RA.run (RA.skp (RA.skp (RA.skp (RA.run (RA.run (RA.skp (RA.skp (RA.skp (RA.skp (RA.skp (RA.skp (RA.run RA.done))))))))))))))))) (RA.run (RA.run (RA.run (RA.run (RA.run (RA.spl 44 (RA.skp (RA.skp (RA.skp (RA.run (RA.run (RA.skp (RA.skp (RA.skp (RA.skp (RA.skp (RA.skp (RA.run RA.done)))))))))))) (RA.run (RA.run (RA.run (RA.run (RA.run (RA.spl 49 (RA.skp (RA.skp (RA.skp (RA.skp (RA.skp (RA.skp (RA.run RA.done))))))) (RA.run (RA.run (RA.run (RA.run (RA.run (RA.run (RA.run RA.done)))))))))))))))))))))))))))))))))))
   (A.cond (A.seq (A.reg (RA.run RA.done))
   A.leaf)
   A.leaf))
   (A.seq (A.reg (RA.run (RA.run RA.done)))
   (A.seq (A.reg (RA.run (RA.run (RA.run (RA.run (RA.run (RA.run (RA.run (RA.run (RA.run RA.done))))))))))
   (A.seq (A.seq (A.reg (RA.run RA.done))
   (A.blk (A.loop [0, 3, 9, 10, 12, 13] (probitylaw27_JournalPower_P0 Kv) (A.seq (A.seq (A.reg (RA.run (RA.run (RA.run (RA.run (RA.run (RA.spl 68 (RA.run (RA.run (RA.run RA.done))) (RA.skp (RA.skp (RA.run RA.done))))))))))
   (A.cond A.leaf
   A.leaf))
   (A.seq (A.blk (A.seq (A.reg (RA.run (RA.run (RA.run (RA.spl 76 (RA.skp (RA.skp (RA.run (RA.run (RA.skp (RA.skp (RA.skp (RA.skp (RA.skp (RA.skp (RA.skp (RA.skp (RA.run RA.done))))))))))))) (RA.run (RA.run (RA.run (RA.run (RA.spl 80 (RA.skp (RA.skp (RA.skp (RA.skp (RA.skp (RA.skp (RA.skp (RA.skp (RA.run RA.done))))))))) (RA.run (RA.run (RA.run (RA.run (RA.run (RA.run (RA.run (RA.run (RA.run RA.done)))))))))))))))))))
   (A.cond (A.seq (A.reg (RA.run RA.done))
   A.leaf)
   A.leaf)))
   (A.reg (RA.run (RA.run (RA.run RA.done)))))))))
   (A.cut [0, 3, 9] (probitylaw27_JournalPower_P1 Kv) (A.seq (A.reg (RA.run (RA.run RA.done)))
   (A.seq (A.reg (RA.run (RA.run (RA.run (RA.run (RA.run (RA.run (RA.run (RA.run (RA.run RA.done))))))))))
   (A.seq (A.reg (RA.run (RA.run RA.done)))
   (A.seq (A.reg (RA.run (RA.run (RA.run (RA.run (RA.run (RA.run (RA.run (RA.run (RA.run RA.done))))))))))
   (A.seq (A.reg (RA.run (RA.run (RA.spl 107 (RA.run (RA.run (RA.run (RA.run (RA.spl 111 (RA.run (RA.run (RA.run (RA.run (RA.run (RA.spl 116 (RA.run (RA.run (RA.run (RA.run (RA.spl 120 (RA.run (RA.run (RA.run (RA.run (RA.spl 124 (RA.run (RA.run (RA.run (RA.run (RA.run (RA.run (RA.run (RA.run RA.done)))))))) (RA.skp (RA.skp (RA.skp (RA.skp (RA.skp (RA.skp (RA.run (RA.run RA.done))))))))))))) (RA.skp (RA.skp (RA.run (RA.run (RA.skp (RA.skp (RA.skp (RA.skp (RA.skp (RA.skp (RA.run (RA.run RA.done))))))))))))))))) (RA.skp (RA.skp (RA.run (RA.run (RA.skp (RA.skp (RA.run (RA.run (RA.skp (RA.skp (RA.skp (RA.skp (RA.skp (RA.skp (RA.run (RA.run RA.done)))))))))))))))))))))) (RA.skp (RA.skp (RA.skp (RA.run (RA.run (RA.skp (RA.skp (RA.run (RA.run (RA.skp (RA.skp (RA.run (RA.run (RA.skp (RA.skp (RA.skp (RA.skp (RA.skp (RA.skp (RA.run (RA.run RA.done)))))))))))))))))))))))))) (RA.skp (RA.skp (RA.run (RA.run (RA.skp (RA.skp (RA.skp (RA.run (RA.run (RA.skp (RA.skp (RA.run (RA.run (RA.skp (RA.skp (RA.run (RA.run (RA.skp (RA.skp (RA.skp (RA.skp (RA.skp (RA.skp (RA.run (RA.run RA.done)))))))))))))))))))))))))))))
   A.leaf)))))))))))))))

noncomputable def probitylaw27_JournalPower_O (Kv : VW) : List Ob := (obs Try.prog probitylaw27_JournalPower_E 132 (probitylaw27_JournalPower_A Kv) probitylaw27_JournalPower_C (fun _ => retQ Try.prog Try.f7.results Kv))

theorem probitylaw27_JournalPower_e (Kv : VW) (l_0p : Option Addr) (l_0l l_0c : Nat) (w : World) : probitylaw27_JournalPower_sd ⟨l_0p, l_0l, l_0c⟩ (fun (r0 : Bool) (w' : World) => Kv (Value.bool r0) w') w = W Try.prog probitylaw27_JournalPower_E 132 (probitylaw27_JournalPower_A Kv) probitylaw27_JournalPower_C [] (retQ Try.prog Try.f7.results Kv) [] (startS [(Value.slice l_0p l_0l l_0c)]) w := by kernel_rfl

theorem probitylaw27_JournalPower_e0 (Kv : VW) (N0 : List Value → World → Prop) (ρ : Rho) (l_0p : Option Addr) (l_0l l_0c : Nat) (up_3 : Bool) (d_9 : Option Addr) (j_10 : Option Addr) (f_12 : Int) (i_13 : Int) (w : World) : probitylaw27_JournalPower_b0 ⟨l_0p, l_0l, l_0c⟩ up_3 d_9 j_10 f_12 i_13 (fun (l_0' : Sl) (up_3' : Bool) (d_9' : Option Addr) (j_10' : Option Addr) (f_12' : Int) (i_13' : Int) (w' : World) => N0 [(Value.slice l_0'.p l_0'.l l_0'.c), (Value.bool up_3'), (Value.pointer d_9'), (Value.pointer j_10'), (Value.int .i64 f_12'), (Value.int .i64 i_13')] w')  (fun (r0 : Bool) (w' : World) => Kv (Value.bool r0) w') w = goalAt Try.prog probitylaw27_JournalPower_E 132 (probitylaw27_JournalPower_O Kv) 0 (N0 :: ρ) [(Value.slice l_0p l_0l l_0c), (Value.bool up_3), (Value.pointer d_9), (Value.pointer j_10), (Value.int .i64 f_12), (Value.int .i64 i_13)] w := by kernel_rfl

theorem probitylaw27_JournalPower_q0 (Kv : VW) (ρ : Rho) (vs : List Value) (w : World) : labAt (probitylaw27_JournalPower_O Kv) 0 ρ vs w = probitylaw27_JournalPower_P0 Kv ρ vs w := by kernel_rfl

def probitylaw27_JournalPower_I0 (l_00 : Sl) (up_30 : Bool) (d_90 : Option Addr) (j_100 : Option Addr) (f_120 : Int) (I : Int → World → Prop) (vs : List Value) (w : World) : Prop :=
  match vs with
  | [.slice l_0p l_0l l_0c, .bool up_3, .pointer d_9, .pointer j_10, .int .i64 f_12, .int .i64 i_13] => (⟨l_0p, l_0l, l_0c⟩ = l_00 ∧ up_3 = up_30 ∧ d_9 = d_90 ∧ j_10 = j_100 ∧ f_12 = f_120 ∧ True) ∧ I i_13 w
  | _ => False

def probitylaw27_JournalPower_M0 (μ : Int → World → Nat) (vs : List Value) (w : World) : Nat :=
  match vs with
  | [.slice _l_0p _l_0l _l_0c, .bool _up_3, .pointer _d_9, .pointer _j_10, .int .i64 _f_12, .int .i64 i_13] => μ i_13 w
  | _ => 0

theorem probitylaw27_JournalPower_h0 (Kv : VW) : holdsAt Try.prog probitylaw27_JournalPower_E 132 (probitylaw27_JournalPower_O Kv) 0 := holdsAt_loop (by kernel_rfl) (fun ρ vs w h => by
  rw [probitylaw27_JournalPower_q0] at h
  unfold probitylaw27_JournalPower_P0 at h
  split at h
  · rename_i ρt l_0p l_0l l_0c up_3 d_9 j_10 f_12 i_13
    obtain ⟨I, μ, h0, hr⟩ := h.out
    refine ⟨probitylaw27_JournalPower_I0 ⟨l_0p, l_0l, l_0c⟩ up_3 d_9 j_10 f_12 I, probitylaw27_JournalPower_M0 μ, ⟨⟨rfl, rfl, rfl, rfl, rfl, trivial⟩, h0⟩, fun vs w hI => ?_⟩
    unfold probitylaw27_JournalPower_I0 at hI
    split at hI
    · obtain ⟨⟨h0, h1, h2, h3, h4, _⟩, hI⟩ := hI
      cases h0; cases h1; cases h2; cases h3; cases h4
      rw [← probitylaw27_JournalPower_e0]
      exact hr _ _ hI
    · exact hI.elim
  · exact h.elim)

theorem probitylaw27_JournalPower_e1 (Kv : VW) (ρ : Rho) (l_0p : Option Addr) (l_0l l_0c : Nat) (up_3 : Bool) (d_9 : Option Addr) (w : World) : probitylaw27_JournalPower_k1d ⟨l_0p, l_0l, l_0c⟩ up_3 d_9  (fun (r0 : Bool) (w' : World) => Kv (Value.bool r0) w') w = goalAt Try.prog probitylaw27_JournalPower_E 132 (probitylaw27_JournalPower_O Kv) 1 (ρ) [(Value.slice l_0p l_0l l_0c), (Value.bool up_3), (Value.pointer d_9)] w := by kernel_rfl

theorem probitylaw27_JournalPower_q1 (Kv : VW) (ρ : Rho) (vs : List Value) (w : World) : labAt (probitylaw27_JournalPower_O Kv) 1 ρ vs w = probitylaw27_JournalPower_P1 Kv ρ vs w := by kernel_rfl

theorem probitylaw27_JournalPower_h1 (Kv : VW) : holdsAt Try.prog probitylaw27_JournalPower_E 132 (probitylaw27_JournalPower_O Kv) 1 := holdsAt_cut (.inl (by kernel_rfl)) (fun ρ vs w h => by
  rw [probitylaw27_JournalPower_q1] at h
  unfold probitylaw27_JournalPower_P1 at h
  split at h
  · rw [← probitylaw27_JournalPower_e1]; exact h.out
  · exact h.elim)

theorem probitylaw27_JournalPower_n (Kv : VW) : obAt (probitylaw27_JournalPower_O Kv) 2 = none := by kernel_rfl

theorem probitylaw27_JournalPower_h (Kv : VW) : ∀ k, holdsAt Try.prog probitylaw27_JournalPower_E 132 (probitylaw27_JournalPower_O Kv) k := fun k => match k with
  | 0 => probitylaw27_JournalPower_h0 Kv
  | 1 => probitylaw27_JournalPower_h1 Kv
  | _k + 2 => holdsAt_ge (probitylaw27_JournalPower_n Kv) (Nat.le_add_left _ _)

theorem probitylaw27_JournalPower_ok : Sound Try.prog 7 probitylaw27_JournalPower_S := ⟨Try.call7, fun vs w Kv h => by
  unfold probitylaw27_JournalPower_S at h
  split at h
  · have h := h.out
    rw [probitylaw27_JournalPower_e] at h
    exact calls_sound (Γ := probitylaw27_JournalPower_E) progMixed ⟨probitylaw27_sanity_ok, disk_New_ok, journal_Open_ok, journal_Journal_Append_ok, probitylaw27_short_ok, journal_Journal_Many_ok, disk_Disk_Fail_ok, trivial⟩ Try.func7 (code := probitylaw27_JournalPower_C) (by kernel_rfl) (probitylaw27_JournalPower_A Kv) Kv (holds_all (probitylaw27_JournalPower_h Kv)) (Nat.le_of_ble_eq_true rfl) h
  · exact h.elim⟩

/-! probitylaw27_JournalFull -/
def probitylaw27_JournalFull_k1d (sizes_0 : Sl) (last_1 : Int) (up_5 : Bool) (d_6 : Option Addr) (j_7 : Option Addr) (bytes_10 : Int) (many_11 : Int) (text_12 : Sl) (i_13 : Int) (n_14 : Int) (f_15 : Int) (want_16 : Int) (N0 : Sl → Int → Bool → Option Addr → Option Addr → Int → Int → Sl → Int → World → Prop) (K : Bool → World → Prop) (w : World) : Prop :=
  cnd (f_15 != want_16)
    (K false w)
    (cnd (f_15 == (0 : Int))
    (inR .i64 (bytes_10 + n_14) ∧ inR .i64 ((bytes_10 + n_14) + (16 : Int)) ∧ inR .i64 (many_11 + (1 : Int)) ∧ inR .i64 (i_13 + (1 : Int)) ∧ N0 sizes_0 last_1 up_5 d_6 j_7 ((bytes_10 + n_14) + (16 : Int)) (many_11 + (1 : Int)) text_12 (i_13 + (1 : Int)) w)
    (inR .i64 (i_13 + (1 : Int)) ∧ N0 sizes_0 last_1 up_5 d_6 j_7 bytes_10 many_11 text_12 (i_13 + (1 : Int)) w))
structure probitylaw27_JournalFull_k1 (sizes_0 : Sl) (last_1 : Int) (up_5 : Bool) (d_6 : Option Addr) (j_7 : Option Addr) (bytes_10 : Int) (many_11 : Int) (text_12 : Sl) (i_13 : Int) (n_14 : Int) (f_15 : Int) (want_16 : Int) (N0 : Sl → Int → Bool → Option Addr → Option Addr → Int → Int → Sl → Int → World → Prop) (K : Bool → World → Prop) (w : World) : Prop where
  out : probitylaw27_JournalFull_k1d sizes_0 last_1 up_5 d_6 j_7 bytes_10 many_11 text_12 i_13 n_14 f_15 want_16 N0 K w

def probitylaw27_JournalFull_k3d (up_5 : Bool) (d_6 : Option Addr) (j_7 : Option Addr) (many_11 : Int) (f_18 : Int)  (K : Bool → World → Prop) (w : World) : Prop :=
  disk_Disk_Crash_sh d_6 (Sl.mk none 0 0) (fun (r20 : Option Addr) (w19 : World) => journal_Open_sh r20 (fun (_r22 : Option Addr) (r23 : Sl) (r24 : Int) (w21 : World) => cnd up_5
    (cnd (f_18 == (0 : Int))
    (cnd (r24 == (0 : Int))
    (cnd ((r23.l : Int) == many_11)
    (journal_Journal_Many_sh j_7 (fun (r26 : Int) (w25 : World) => K (r26 == many_11) w25) w21)
    (K false w21))
    (K false w21))
    (cnd (f_18 == (2 : Int))
    (cnd (r24 == (0 : Int))
    (cnd ((r23.l : Int) == many_11)
    (journal_Journal_Many_sh j_7 (fun (r28 : Int) (w27 : World) => K (r28 == many_11) w27) w21)
    (K false w21))
    (K false w21))
    (K false w21)))
    (K false w21)) w19) w
structure probitylaw27_JournalFull_k3 (up_5 : Bool) (d_6 : Option Addr) (j_7 : Option Addr) (many_11 : Int) (f_18 : Int)  (K : Bool → World → Prop) (w : World) : Prop where
  out : probitylaw27_JournalFull_k3d up_5 d_6 j_7 many_11 f_18 K w

def probitylaw27_JournalFull_k2d (last_1 : Int) (up_5 : Bool) (d_6 : Option Addr) (j_7 : Option Addr) (bytes_10 : Int) (many_11 : Int) (text_12 : Sl)  (K : Bool → World → Prop) (w : World) : Prop :=
  (16777216 : Int) ≠ 0 ∧ inR .i64 (Int.tmod last_1 (16777216 : Int)) ∧ (0 ≤ (0 : Int) ∧ (0 : Int) ≤ (Int.tmod last_1 (16777216 : Int)) ∧ (Int.tmod last_1 (16777216 : Int)) ≤ (text_12.c : Nat)) ∧ btsS (Sl.mk (subP text_12.p 0 text_12.c 1) ((Int.tmod last_1 (16777216 : Int)).toNat - 0) (text_12.c - 0)) w fun (s16 : ByteArray) => journal_Journal_Append_sh j_7 s16 (fun (r18 : Int) (w17 : World) => inR .i64 (bytes_10 + (Int.tmod last_1 (16777216 : Int))) ∧ inR .i64 ((bytes_10 + (Int.tmod last_1 (16777216 : Int))) + (16 : Int)) ∧ inR .i64 (((bytes_10 + (Int.tmod last_1 (16777216 : Int))) + (16 : Int)) + (256 : Int)) ∧ cnd (!((r18 == (0 : Int)) == (decide ((((bytes_10 + (Int.tmod last_1 (16777216 : Int))) + (16 : Int)) + (256 : Int)) ≤ (16777216 : Int)))))
    (K false w17)
    (cnd (r18 == (0 : Int))
    (inR .i64 (many_11 + (1 : Int)) ∧ probitylaw27_JournalFull_k3 up_5 d_6 j_7 (many_11 + (1 : Int)) r18 K w17)
    (probitylaw27_JournalFull_k3 up_5 d_6 j_7 many_11 r18 K w17))) w
structure probitylaw27_JournalFull_k2 (last_1 : Int) (up_5 : Bool) (d_6 : Option Addr) (j_7 : Option Addr) (bytes_10 : Int) (many_11 : Int) (text_12 : Sl)  (K : Bool → World → Prop) (w : World) : Prop where
  out : probitylaw27_JournalFull_k2d last_1 up_5 d_6 j_7 bytes_10 many_11 text_12 K w

def probitylaw27_JournalFull_b0 (sizes_0 : Sl) (last_1 : Int) (up_5 : Bool) (d_6 : Option Addr) (j_7 : Option Addr) (bytes_10 : Int) (many_11 : Int) (text_12 : Sl) (i_13 : Int) (N0 : Sl → Int → Bool → Option Addr → Option Addr → Int → Int → Sl → Int → World → Prop)  (K : Bool → World → Prop) (w : World) : Prop :=
  cnd (decide (i_13 < (sizes_0.l : Int)))
    (cnd (decide (i_13 < (6 : Int)))
    (nz sizes_0.p fun a11 => (0 ≤ i_13 ∧ i_13 < (sizes_0.l : Nat)) ∧ ∃ x12 : Int, w.cell? (a11.add (i_13.toNat * 1)) = some (Value.int .u32 x12) ∧ (8388608 : Int) ≠ 0 ∧ inR .i64 (Int.tmod x12 (8388608 : Int)) ∧ (0 ≤ (0 : Int) ∧ (0 : Int) ≤ (Int.tmod x12 (8388608 : Int)) ∧ (Int.tmod x12 (8388608 : Int)) ≤ (text_12.c : Nat)) ∧ btsS (Sl.mk (subP text_12.p 0 text_12.c 1) ((Int.tmod x12 (8388608 : Int)).toNat - 0) (text_12.c - 0)) w fun (s13 : ByteArray) => journal_Journal_Append_sh j_7 s13 (fun (r15 : Int) (w14 : World) => inR .i64 (bytes_10 + (Int.tmod x12 (8388608 : Int))) ∧ inR .i64 ((bytes_10 + (Int.tmod x12 (8388608 : Int))) + (16 : Int)) ∧ inR .i64 (((bytes_10 + (Int.tmod x12 (8388608 : Int))) + (16 : Int)) + (256 : Int)) ∧ cnd (decide ((((bytes_10 + (Int.tmod x12 (8388608 : Int))) + (16 : Int)) + (256 : Int)) > (16777216 : Int)))
    (probitylaw27_JournalFull_k1 sizes_0 last_1 up_5 d_6 j_7 bytes_10 many_11 text_12 i_13 (Int.tmod x12 (8388608 : Int)) r15 (2 : Int) N0 K w14)
    (probitylaw27_JournalFull_k1 sizes_0 last_1 up_5 d_6 j_7 bytes_10 many_11 text_12 i_13 (Int.tmod x12 (8388608 : Int)) r15 (0 : Int) N0 K w14)) w)
    (probitylaw27_JournalFull_k2 last_1 up_5 d_6 j_7 bytes_10 many_11 text_12 K w))
    (probitylaw27_JournalFull_k2 last_1 up_5 d_6 j_7 bytes_10 many_11 text_12 K w)
def probitylaw27_JournalFull_l0d (sizes_0 : Sl) (last_1 : Int) (up_5 : Bool) (d_6 : Option Addr) (j_7 : Option Addr) (bytes_10 : Int) (many_11 : Int) (text_12 : Sl) (i_13 : Int)  (K : Bool → World → Prop) (w : World) : Prop :=
  ∃ (I : Int → Int → Int → World → Prop) (μ : Int → Int → Int → World → Nat), I bytes_10 many_11 i_13 w ∧ ∀ (bytes_101 : Int) (many_111 : Int) (i_131 : Int) (w1 : World), I bytes_101 many_111 i_131 w1 →
    probitylaw27_JournalFull_b0 sizes_0 last_1 up_5 d_6 j_7 bytes_101 many_111 text_12 i_131 (fun (sizes_0' : Sl) (last_1' : Int) (up_5' : Bool) (d_6' : Option Addr) (j_7' : Option Addr) (bytes_10' : Int) (many_11' : Int) (text_12' : Sl) (i_13' : Int) (w' : World) => ((sizes_0' = sizes_0 ∧ last_1' = last_1 ∧ up_5' = up_5 ∧ d_6' = d_6 ∧ j_7' = j_7 ∧ text_12' = text_12 ∧ True) ∧ I bytes_10' many_11' i_13' w') ∧ μ bytes_10' many_11' i_13' w' < μ bytes_101 many_111 i_131 w1)  K w1
structure probitylaw27_JournalFull_l0 (sizes_0 : Sl) (last_1 : Int) (up_5 : Bool) (d_6 : Option Addr) (j_7 : Option Addr) (bytes_10 : Int) (many_11 : Int) (text_12 : Sl) (i_13 : Int)  (K : Bool → World → Prop) (w : World) : Prop where
  out : probitylaw27_JournalFull_l0d sizes_0 last_1 up_5 d_6 j_7 bytes_10 many_11 text_12 i_13 K w

def probitylaw27_JournalFull_sd (sizes_0 : Sl) (last_1 : Int) (K : Bool → World → Prop) (w : World) : Prop :=
  probitylaw27_sanity_sh (fun (r2 : Bool) (w1 : World) => disk_New_sh (fun (r4 : Option Addr) (w3 : World) => journal_Open_sh r4 (fun (r6 : Option Addr) (_r7 : Sl) (r8 : Int) (w5 : World) => cnd (r8 != (0 : Int))
    (K false w5)
    (cnd r6.isNone
    (K false w5)
    (mkS 1 [(Value.int .u8 (0 : Int))] 5 (16777216 : Int) (16777216 : Int) w5 fun (s9 : Sl) (w10 : World) => probitylaw27_JournalFull_l0 sizes_0 last_1 r2 r4 r6 (0 : Int) (0 : Int) s9 (0 : Int) K w10))) w3) w1) w

structure probitylaw27_JournalFull_sh (sizes_0 : Sl) (last_1 : Int) (K : Bool → World → Prop) (w : World) : Prop where
  out : probitylaw27_JournalFull_sd sizes_0 last_1 K w

def probitylaw27_JournalFull_P0 (Kv : VW) (ρ : Rho) (vs : List Value) (w : World) : Prop :=
  match ρ, vs with
  | _, [.slice sizes_0p sizes_0l sizes_0c, .int .u32 last_1, .bool up_5, .pointer d_6, .pointer j_7, .int .i64 bytes_10, .int .i64 many_11, .slice text_12p text_12l text_12c, .int .i64 i_13] => probitylaw27_JournalFull_l0 ⟨sizes_0p, sizes_0l, sizes_0c⟩ last_1 up_5 d_6 j_7 bytes_10 many_11 ⟨text_12p, text_12l, text_12c⟩ i_13  (fun (r0 : Bool) (w' : World) => Kv (Value.bool r0) w') w
  | _, _ => False

def probitylaw27_JournalFull_P1 (Kv : VW) (ρ : Rho) (vs : List Value) (w : World) : Prop :=
  match ρ, vs with
  | N0 :: _, [.slice sizes_0p sizes_0l sizes_0c, .int .u32 last_1, .bool up_5, .pointer d_6, .pointer j_7, .int .i64 bytes_10, .int .i64 many_11, .slice text_12p text_12l text_12c, .int .i64 i_13, .int .i64 n_14, .int .i64 f_15, .int .i64 want_16] => probitylaw27_JournalFull_k1 ⟨sizes_0p, sizes_0l, sizes_0c⟩ last_1 up_5 d_6 j_7 bytes_10 many_11 ⟨text_12p, text_12l, text_12c⟩ i_13 n_14 f_15 want_16 (fun (sizes_0' : Sl) (last_1' : Int) (up_5' : Bool) (d_6' : Option Addr) (j_7' : Option Addr) (bytes_10' : Int) (many_11' : Int) (text_12' : Sl) (i_13' : Int) (w' : World) => N0 [(Value.slice sizes_0'.p sizes_0'.l sizes_0'.c), (Value.int .u32 last_1'), (Value.bool up_5'), (Value.pointer d_6'), (Value.pointer j_7'), (Value.int .i64 bytes_10'), (Value.int .i64 many_11'), (Value.slice text_12'.p text_12'.l text_12'.c), (Value.int .i64 i_13')] w') (fun (r0 : Bool) (w' : World) => Kv (Value.bool r0) w') w
  | _, _ => False

def probitylaw27_JournalFull_P2 (Kv : VW) (ρ : Rho) (vs : List Value) (w : World) : Prop :=
  match ρ, vs with
  | _, [.int .u32 last_1, .bool up_5, .pointer d_6, .pointer j_7, .int .i64 bytes_10, .int .i64 many_11, .slice text_12p text_12l text_12c] => probitylaw27_JournalFull_k2 last_1 up_5 d_6 j_7 bytes_10 many_11 ⟨text_12p, text_12l, text_12c⟩  (fun (r0 : Bool) (w' : World) => Kv (Value.bool r0) w') w
  | _, _ => False

def probitylaw27_JournalFull_P3 (Kv : VW) (ρ : Rho) (vs : List Value) (w : World) : Prop :=
  match ρ, vs with
  | _, [.bool up_5, .pointer d_6, .pointer j_7, .int .i64 many_11, .int .i64 f_18] => probitylaw27_JournalFull_k3 up_5 d_6 j_7 many_11 f_18  (fun (r0 : Bool) (w' : World) => Kv (Value.bool r0) w') w
  | _, _ => False

noncomputable def probitylaw27_JournalFull_S : Pw.Spec := fun vs w Kv =>
  match vs with
  | [.slice sizes_0p sizes_0l sizes_0c, .int .u32 last_1] => probitylaw27_JournalFull_sh ⟨sizes_0p, sizes_0l, sizes_0c⟩ last_1 (fun (r0 : Bool) (w' : World) => Kv (Value.bool r0) w') w
  | _ => False

noncomputable def probitylaw27_JournalFull_E : Pw.Env := [(10, probitylaw27_sanity_S), (11, disk_New_S), (12, journal_Open_S), (14, journal_Journal_Append_S), (17, journal_Journal_Many_S), (18, disk_Disk_Crash_S)]

noncomputable def probitylaw27_JournalFull_C : Code := (Try.f8.body).getD .skip

noncomputable def probitylaw27_JournalFull_A (Kv : VW) : Pw.A :=
  (A.seq (A.reg (RA.run RA.done))
   (A.seq (A.reg (RA.run (RA.run RA.done)))
   (A.seq (A.reg (RA.run (RA.run RA.done)))
   (A.seq (A.reg (RA.run (RA.run (RA.run (RA.run (RA.run (RA.run (RA.run (RA.run (RA.run RA.done))))))))))
   (A.seq (A.seq (A.reg (RA.run (RA.run (RA.run (RA.spl 32 (RA.skp (RA.skp (RA.run RA.done))) (RA.run (RA.run (RA.run RA.done))))))))
   (A.cond (A.seq (A.reg (RA.run RA.done))
   A.leaf)
   A.leaf))
   (A.seq (A.reg (RA.run RA.done))
   (A.seq (A.reg (RA.run RA.done))
   (A.seq (A.reg (RA.run (RA.run RA.done)))
   (A.seq (A.seq (A.reg (RA.run RA.done))
   (A.blk (A.loop [0, 1, 5, 6, 7, 10, 11, 12, 13] (probitylaw27_JournalFull_P0 Kv) (A.seq (A.seq (A.reg (RA.run (RA.run (RA.run (RA.run (RA.run (RA.spl 41 (RA.run (RA.run (RA.run RA.done))) (RA.skp (RA.skp (RA.run RA.done))))))))))
   (A.cond A.leaf
   A.leaf))
   (A.seq (A.blk (A.seq (A.reg (RA.run (RA.run (RA.run (RA.run (RA.run (RA.run (RA.run RA.done))))))))
   (A.seq (A.reg (RA.run (RA.run (RA.run (RA.run (RA.run (RA.run (RA.run RA.done))))))))
   (A.seq (A.reg (RA.run RA.done))
   (A.seq (A.seq (A.reg (RA.run (RA.run (RA.run (RA.run (RA.run (RA.run RA.done)))))))
   (A.cond (A.reg (RA.run RA.done))
   A.leaf))
   (A.cut [0, 1, 5, 6, 7, 10, 11, 12, 13, 14, 15, 16] (probitylaw27_JournalFull_P1 Kv) (A.seq (A.seq (A.reg (RA.run (RA.run (RA.run RA.done))))
   (A.cond (A.seq (A.reg (RA.run RA.done))
   A.leaf)
   A.leaf))
   (A.seq (A.reg (RA.run (RA.run RA.done)))
   (A.cond (A.seq (A.reg (RA.run (RA.run (RA.run (RA.run (RA.run RA.done))))))
   (A.reg (RA.run (RA.run (RA.run RA.done)))))
   A.leaf)))))))))
   (A.reg (RA.run (RA.run (RA.run RA.done)))))))))
   (A.cut [1, 5, 6, 7, 10, 11, 12] (probitylaw27_JournalFull_P2 Kv) (A.seq (A.reg (RA.run (RA.run (RA.run (RA.run RA.done)))))
   (A.seq (A.reg (RA.run (RA.run (RA.run (RA.run (RA.run (RA.run (RA.run RA.done))))))))
   (A.seq (A.seq (A.reg (RA.run (RA.run (RA.run (RA.run (RA.run (RA.run (RA.run (RA.run (RA.run RA.done))))))))))
   (A.cond (A.seq (A.reg (RA.run RA.done))
   A.leaf)
   A.leaf))
   (A.seq (A.seq (A.reg (RA.run (RA.run RA.done)))
   (A.cond (A.reg (RA.run (RA.run (RA.run RA.done))))
   A.leaf))
   (A.cut [5, 6, 7, 11, 18] (probitylaw27_JournalFull_P3 Kv) (A.seq (A.reg (RA.run (RA.run (RA.run (RA.run (RA.run (RA.run (RA.run (RA.run (RA.run (RA.run RA.done)))))))))))
   (A.seq (A.reg (RA.run (RA.run (RA.spl 106 (RA.run (RA.run (RA.run (RA.spl 109 (RA.skp (RA.skp (RA.run (RA.run (RA.run (RA.run (RA.run (RA.run (RA.run (RA.spl 118 (RA.run (RA.run (RA.run (RA.run (RA.run (RA.run (RA.spl 124 (RA.run (RA.run (RA.run (RA.run (RA.run (RA.run RA.done)))))) (RA.skp (RA.skp (RA.skp (RA.skp (RA.run (RA.run RA.done))))))))))))) (RA.skp (RA.skp (RA.skp (RA.skp (RA.run (RA.run (RA.skp (RA.skp (RA.skp (RA.skp (RA.run (RA.run RA.done)))))))))))))))))))))) (RA.run (RA.run (RA.run (RA.run (RA.run (RA.spl 114 (RA.run (RA.run (RA.run (RA.run (RA.spl 118 (RA.run (RA.run (RA.run (RA.run (RA.run (RA.run (RA.spl 124 (RA.run (RA.run (RA.run (RA.run (RA.run (RA.run RA.done)))))) (RA.skp (RA.skp (RA.skp (RA.skp (RA.run (RA.run RA.done))))))))))))) (RA.skp (RA.skp (RA.skp (RA.skp (RA.run (RA.run (RA.skp (RA.skp (RA.skp (RA.skp (RA.run (RA.run RA.done))))))))))))))))) (RA.skp (RA.skp (RA.run (RA.run (RA.skp (RA.skp (RA.skp (RA.skp (RA.run (RA.run (RA.skp (RA.skp (RA.skp (RA.skp (RA.run (RA.run RA.done)))))))))))))))))))))))))) (RA.skp (RA.skp (RA.skp (RA.skp (RA.skp (RA.skp (RA.run (RA.run (RA.skp (RA.skp (RA.run (RA.run (RA.skp (RA.skp (RA.skp (RA.skp (RA.run (RA.run (RA.skp (RA.skp (RA.skp (RA.skp (RA.run (RA.run RA.done))))))))))))))))))))))))))))
   A.leaf)))))))))))))))))

noncomputable def probitylaw27_JournalFull_O (Kv : VW) : List Ob := (obs Try.prog probitylaw27_JournalFull_E 130 (probitylaw27_JournalFull_A Kv) probitylaw27_JournalFull_C (fun _ => retQ Try.prog Try.f8.results Kv))

theorem probitylaw27_JournalFull_e (Kv : VW) (sizes_0p : Option Addr) (sizes_0l sizes_0c : Nat) (last_1 : Int) (w : World) : probitylaw27_JournalFull_sd ⟨sizes_0p, sizes_0l, sizes_0c⟩ last_1 (fun (r0 : Bool) (w' : World) => Kv (Value.bool r0) w') w = W Try.prog probitylaw27_JournalFull_E 130 (probitylaw27_JournalFull_A Kv) probitylaw27_JournalFull_C [] (retQ Try.prog Try.f8.results Kv) [] (startS [(Value.slice sizes_0p sizes_0l sizes_0c), (Value.int .u32 last_1)]) w := by kernel_rfl

theorem probitylaw27_JournalFull_e0 (Kv : VW) (N0 : List Value → World → Prop) (ρ : Rho) (sizes_0p : Option Addr) (sizes_0l sizes_0c : Nat) (last_1 : Int) (up_5 : Bool) (d_6 : Option Addr) (j_7 : Option Addr) (bytes_10 : Int) (many_11 : Int) (text_12p : Option Addr) (text_12l text_12c : Nat) (i_13 : Int) (w : World) : probitylaw27_JournalFull_b0 ⟨sizes_0p, sizes_0l, sizes_0c⟩ last_1 up_5 d_6 j_7 bytes_10 many_11 ⟨text_12p, text_12l, text_12c⟩ i_13 (fun (sizes_0' : Sl) (last_1' : Int) (up_5' : Bool) (d_6' : Option Addr) (j_7' : Option Addr) (bytes_10' : Int) (many_11' : Int) (text_12' : Sl) (i_13' : Int) (w' : World) => N0 [(Value.slice sizes_0'.p sizes_0'.l sizes_0'.c), (Value.int .u32 last_1'), (Value.bool up_5'), (Value.pointer d_6'), (Value.pointer j_7'), (Value.int .i64 bytes_10'), (Value.int .i64 many_11'), (Value.slice text_12'.p text_12'.l text_12'.c), (Value.int .i64 i_13')] w')  (fun (r0 : Bool) (w' : World) => Kv (Value.bool r0) w') w = goalAt Try.prog probitylaw27_JournalFull_E 130 (probitylaw27_JournalFull_O Kv) 0 (N0 :: ρ) [(Value.slice sizes_0p sizes_0l sizes_0c), (Value.int .u32 last_1), (Value.bool up_5), (Value.pointer d_6), (Value.pointer j_7), (Value.int .i64 bytes_10), (Value.int .i64 many_11), (Value.slice text_12p text_12l text_12c), (Value.int .i64 i_13)] w := by kernel_rfl

theorem probitylaw27_JournalFull_q0 (Kv : VW) (ρ : Rho) (vs : List Value) (w : World) : labAt (probitylaw27_JournalFull_O Kv) 0 ρ vs w = probitylaw27_JournalFull_P0 Kv ρ vs w := by kernel_rfl

def probitylaw27_JournalFull_I0 (sizes_00 : Sl) (last_10 : Int) (up_50 : Bool) (d_60 : Option Addr) (j_70 : Option Addr) (text_120 : Sl) (I : Int → Int → Int → World → Prop) (vs : List Value) (w : World) : Prop :=
  match vs with
  | [.slice sizes_0p sizes_0l sizes_0c, .int .u32 last_1, .bool up_5, .pointer d_6, .pointer j_7, .int .i64 bytes_10, .int .i64 many_11, .slice text_12p text_12l text_12c, .int .i64 i_13] => (⟨sizes_0p, sizes_0l, sizes_0c⟩ = sizes_00 ∧ last_1 = last_10 ∧ up_5 = up_50 ∧ d_6 = d_60 ∧ j_7 = j_70 ∧ ⟨text_12p, text_12l, text_12c⟩ = text_120 ∧ True) ∧ I bytes_10 many_11 i_13 w
  | _ => False

def probitylaw27_JournalFull_M0 (μ : Int → Int → Int → World → Nat) (vs : List Value) (w : World) : Nat :=
  match vs with
  | [.slice _sizes_0p _sizes_0l _sizes_0c, .int .u32 _last_1, .bool _up_5, .pointer _d_6, .pointer _j_7, .int .i64 bytes_10, .int .i64 many_11, .slice _text_12p _text_12l _text_12c, .int .i64 i_13] => μ bytes_10 many_11 i_13 w
  | _ => 0

theorem probitylaw27_JournalFull_h0 (Kv : VW) : holdsAt Try.prog probitylaw27_JournalFull_E 130 (probitylaw27_JournalFull_O Kv) 0 := holdsAt_loop (by kernel_rfl) (fun ρ vs w h => by
  rw [probitylaw27_JournalFull_q0] at h
  unfold probitylaw27_JournalFull_P0 at h
  split at h
  · rename_i ρt sizes_0p sizes_0l sizes_0c last_1 up_5 d_6 j_7 bytes_10 many_11 text_12p text_12l text_12c i_13
    obtain ⟨I, μ, h0, hr⟩ := h.out
    refine ⟨probitylaw27_JournalFull_I0 ⟨sizes_0p, sizes_0l, sizes_0c⟩ last_1 up_5 d_6 j_7 ⟨text_12p, text_12l, text_12c⟩ I, probitylaw27_JournalFull_M0 μ, ⟨⟨rfl, rfl, rfl, rfl, rfl, rfl, trivial⟩, h0⟩, fun vs w hI => ?_⟩
    unfold probitylaw27_JournalFull_I0 at hI
    split at hI
    · obtain ⟨⟨h0, h1, h2, h3, h4, h5, _⟩, hI⟩ := hI
      cases h0; cases h1; cases h2; cases h3; cases h4; cases h5
      rw [← probitylaw27_JournalFull_e0]
      exact hr _ _ _ _ hI
    · exact hI.elim
  · exact h.elim)

theorem probitylaw27_JournalFull_e1 (Kv : VW) (N0 : List Value → World → Prop) (ρ : Rho) (sizes_0p : Option Addr) (sizes_0l sizes_0c : Nat) (last_1 : Int) (up_5 : Bool) (d_6 : Option Addr) (j_7 : Option Addr) (bytes_10 : Int) (many_11 : Int) (text_12p : Option Addr) (text_12l text_12c : Nat) (i_13 : Int) (n_14 : Int) (f_15 : Int) (want_16 : Int) (w : World) : probitylaw27_JournalFull_k1d ⟨sizes_0p, sizes_0l, sizes_0c⟩ last_1 up_5 d_6 j_7 bytes_10 many_11 ⟨text_12p, text_12l, text_12c⟩ i_13 n_14 f_15 want_16 (fun (sizes_0' : Sl) (last_1' : Int) (up_5' : Bool) (d_6' : Option Addr) (j_7' : Option Addr) (bytes_10' : Int) (many_11' : Int) (text_12' : Sl) (i_13' : Int) (w' : World) => N0 [(Value.slice sizes_0'.p sizes_0'.l sizes_0'.c), (Value.int .u32 last_1'), (Value.bool up_5'), (Value.pointer d_6'), (Value.pointer j_7'), (Value.int .i64 bytes_10'), (Value.int .i64 many_11'), (Value.slice text_12'.p text_12'.l text_12'.c), (Value.int .i64 i_13')] w') (fun (r0 : Bool) (w' : World) => Kv (Value.bool r0) w') w = goalAt Try.prog probitylaw27_JournalFull_E 130 (probitylaw27_JournalFull_O Kv) 1 (N0 :: ρ) [(Value.slice sizes_0p sizes_0l sizes_0c), (Value.int .u32 last_1), (Value.bool up_5), (Value.pointer d_6), (Value.pointer j_7), (Value.int .i64 bytes_10), (Value.int .i64 many_11), (Value.slice text_12p text_12l text_12c), (Value.int .i64 i_13), (Value.int .i64 n_14), (Value.int .i64 f_15), (Value.int .i64 want_16)] w := by kernel_rfl

theorem probitylaw27_JournalFull_q1 (Kv : VW) (ρ : Rho) (vs : List Value) (w : World) : labAt (probitylaw27_JournalFull_O Kv) 1 ρ vs w = probitylaw27_JournalFull_P1 Kv ρ vs w := by kernel_rfl

theorem probitylaw27_JournalFull_h1 (Kv : VW) : holdsAt Try.prog probitylaw27_JournalFull_E 130 (probitylaw27_JournalFull_O Kv) 1 := holdsAt_cut (.inl (by kernel_rfl)) (fun ρ vs w h => by
  rw [probitylaw27_JournalFull_q1] at h
  unfold probitylaw27_JournalFull_P1 at h
  split at h
  · rw [← probitylaw27_JournalFull_e1]; exact h.out
  · exact h.elim)

theorem probitylaw27_JournalFull_e2 (Kv : VW) (ρ : Rho) (last_1 : Int) (up_5 : Bool) (d_6 : Option Addr) (j_7 : Option Addr) (bytes_10 : Int) (many_11 : Int) (text_12p : Option Addr) (text_12l text_12c : Nat) (w : World) : probitylaw27_JournalFull_k2d last_1 up_5 d_6 j_7 bytes_10 many_11 ⟨text_12p, text_12l, text_12c⟩  (fun (r0 : Bool) (w' : World) => Kv (Value.bool r0) w') w = goalAt Try.prog probitylaw27_JournalFull_E 130 (probitylaw27_JournalFull_O Kv) 2 (ρ) [(Value.int .u32 last_1), (Value.bool up_5), (Value.pointer d_6), (Value.pointer j_7), (Value.int .i64 bytes_10), (Value.int .i64 many_11), (Value.slice text_12p text_12l text_12c)] w := by kernel_rfl

theorem probitylaw27_JournalFull_q2 (Kv : VW) (ρ : Rho) (vs : List Value) (w : World) : labAt (probitylaw27_JournalFull_O Kv) 2 ρ vs w = probitylaw27_JournalFull_P2 Kv ρ vs w := by kernel_rfl

theorem probitylaw27_JournalFull_h2 (Kv : VW) : holdsAt Try.prog probitylaw27_JournalFull_E 130 (probitylaw27_JournalFull_O Kv) 2 := holdsAt_cut (.inl (by kernel_rfl)) (fun ρ vs w h => by
  rw [probitylaw27_JournalFull_q2] at h
  unfold probitylaw27_JournalFull_P2 at h
  split at h
  · rw [← probitylaw27_JournalFull_e2]; exact h.out
  · exact h.elim)

theorem probitylaw27_JournalFull_e3 (Kv : VW) (ρ : Rho) (up_5 : Bool) (d_6 : Option Addr) (j_7 : Option Addr) (many_11 : Int) (f_18 : Int) (w : World) : probitylaw27_JournalFull_k3d up_5 d_6 j_7 many_11 f_18  (fun (r0 : Bool) (w' : World) => Kv (Value.bool r0) w') w = goalAt Try.prog probitylaw27_JournalFull_E 130 (probitylaw27_JournalFull_O Kv) 3 (ρ) [(Value.bool up_5), (Value.pointer d_6), (Value.pointer j_7), (Value.int .i64 many_11), (Value.int .i64 f_18)] w := by kernel_rfl

theorem probitylaw27_JournalFull_q3 (Kv : VW) (ρ : Rho) (vs : List Value) (w : World) : labAt (probitylaw27_JournalFull_O Kv) 3 ρ vs w = probitylaw27_JournalFull_P3 Kv ρ vs w := by kernel_rfl

theorem probitylaw27_JournalFull_h3 (Kv : VW) : holdsAt Try.prog probitylaw27_JournalFull_E 130 (probitylaw27_JournalFull_O Kv) 3 := holdsAt_cut (.inl (by kernel_rfl)) (fun ρ vs w h => by
  rw [probitylaw27_JournalFull_q3] at h
  unfold probitylaw27_JournalFull_P3 at h
  split at h
  · rw [← probitylaw27_JournalFull_e3]; exact h.out
  · exact h.elim)

theorem probitylaw27_JournalFull_n (Kv : VW) : obAt (probitylaw27_JournalFull_O Kv) 4 = none := by kernel_rfl

theorem probitylaw27_JournalFull_h (Kv : VW) : ∀ k, holdsAt Try.prog probitylaw27_JournalFull_E 130 (probitylaw27_JournalFull_O Kv) k := fun k => match k with
  | 0 => probitylaw27_JournalFull_h0 Kv
  | 1 => probitylaw27_JournalFull_h1 Kv
  | 2 => probitylaw27_JournalFull_h2 Kv
  | 3 => probitylaw27_JournalFull_h3 Kv
  | _k + 4 => holdsAt_ge (probitylaw27_JournalFull_n Kv) (Nat.le_add_left _ _)

theorem probitylaw27_JournalFull_ok : Sound Try.prog 8 probitylaw27_JournalFull_S := ⟨Try.call8, fun vs w Kv h => by
  unfold probitylaw27_JournalFull_S at h
  split at h
  · have h := h.out
    rw [probitylaw27_JournalFull_e] at h
    exact calls_sound (Γ := probitylaw27_JournalFull_E) progMixed ⟨probitylaw27_sanity_ok, disk_New_ok, journal_Open_ok, journal_Journal_Append_ok, journal_Journal_Many_ok, disk_Disk_Crash_ok, trivial⟩ Try.func8 (code := probitylaw27_JournalFull_C) (by kernel_rfl) (probitylaw27_JournalFull_A Kv) Kv (holds_all (probitylaw27_JournalFull_h Kv)) (Nat.le_of_ble_eq_true rfl) h
  · exact h.elim⟩

/-! probitylaw27_JournalApart -/
def probitylaw27_JournalApart_k3d (l_0 : Sl) (m_1 : Sl) (up_5 : Bool) (d_6 : Option Addr) (c_11 : Option Addr)  (K : Bool → World → Prop) (w : World) : Prop :=
  journal_Open_sh d_6 (fun (_r28 : Option Addr) (r29 : Sl) (r30 : Int) (w27 : World) => journal_Open_sh c_11 (fun (_r32 : Option Addr) (r33 : Sl) (r34 : Int) (w31 : World) => cnd up_5
    (cnd (r30 == (0 : Int))
    (cnd (r34 == (0 : Int))
    (cnd ((r29.l : Int) == (min (l_0.l : Int) (10 : Int)))
    (inR .i64 ((r29.l : Int) + (min (m_1.l : Int) (10 : Int))) ∧ cnd ((r33.l : Int) == ((r29.l : Int) + (min (m_1.l : Int) (10 : Int))))
    ((0 ≤ (0 : Int) ∧ (0 : Int) ≤ (min (r29.l : Int) (r33.l : Int)) ∧ (min (r29.l : Int) (r33.l : Int)) ≤ (r33.c : Nat)) ∧ probityref27_Same_sh r29 (Sl.mk (subP r33.p 0 r33.c 1) ((min (r29.l : Int) (r33.l : Int)).toNat - 0) (r33.c - 0)) (fun (r36 : Bool) (w35 : World) => K r36 w35) w31)
    (K false w31))
    (K false w31))
    (K false w31))
    (K false w31))
    (K false w31)) w27) w
structure probitylaw27_JournalApart_k3 (l_0 : Sl) (m_1 : Sl) (up_5 : Bool) (d_6 : Option Addr) (c_11 : Option Addr)  (K : Bool → World → Prop) (w : World) : Prop where
  out : probitylaw27_JournalApart_k3d l_0 m_1 up_5 d_6 c_11 K w

def probitylaw27_JournalApart_b2 (l_0 : Sl) (m_1 : Sl) (up_5 : Bool) (d_6 : Option Addr) (c_11 : Option Addr) (k_12 : Option Addr) (i_15 : Int) (N2 : Sl → Sl → Bool → Option Addr → Option Addr → Option Addr → Int → World → Prop)  (K : Bool → World → Prop) (w : World) : Prop :=
  cnd (decide (i_15 < (m_1.l : Int)))
    (cnd (decide (i_15 < (10 : Int)))
    (nz m_1.p fun a21 => (0 ≤ i_15 ∧ i_15 < (m_1.l : Nat)) ∧ ∃ x22 : ByteArray, w.cell? (a21.add (i_15.toNat * 1)) = some (Value.string x22) ∧ probitylaw27_short_sh x22 (fun (r24 : ByteArray) (w23 : World) => journal_Journal_Append_sh k_12 r24 (fun (_r26 : Int) (w25 : World) => inR .i64 (i_15 + (1 : Int)) ∧ N2 l_0 m_1 up_5 d_6 c_11 k_12 (i_15 + (1 : Int)) w25) w23) w)
    (probitylaw27_JournalApart_k3 l_0 m_1 up_5 d_6 c_11 K w))
    (probitylaw27_JournalApart_k3 l_0 m_1 up_5 d_6 c_11 K w)
def probitylaw27_JournalApart_l2d (l_0 : Sl) (m_1 : Sl) (up_5 : Bool) (d_6 : Option Addr) (c_11 : Option Addr) (k_12 : Option Addr) (i_15 : Int)  (K : Bool → World → Prop) (w : World) : Prop :=
  ∃ (I : Int → World → Prop) (μ : Int → World → Nat), I i_15 w ∧ ∀ (i_151 : Int) (w1 : World), I i_151 w1 →
    probitylaw27_JournalApart_b2 l_0 m_1 up_5 d_6 c_11 k_12 i_151 (fun (l_0' : Sl) (m_1' : Sl) (up_5' : Bool) (d_6' : Option Addr) (c_11' : Option Addr) (k_12' : Option Addr) (i_15' : Int) (w' : World) => ((l_0' = l_0 ∧ m_1' = m_1 ∧ up_5' = up_5 ∧ d_6' = d_6 ∧ c_11' = c_11 ∧ k_12' = k_12 ∧ True) ∧ I i_15' w') ∧ μ i_15' w' < μ i_151 w1)  K w1
structure probitylaw27_JournalApart_l2 (l_0 : Sl) (m_1 : Sl) (up_5 : Bool) (d_6 : Option Addr) (c_11 : Option Addr) (k_12 : Option Addr) (i_15 : Int)  (K : Bool → World → Prop) (w : World) : Prop where
  out : probitylaw27_JournalApart_l2d l_0 m_1 up_5 d_6 c_11 k_12 i_15 K w

def probitylaw27_JournalApart_k1d (l_0 : Sl) (m_1 : Sl) (up_5 : Bool) (d_6 : Option Addr)  (K : Bool → World → Prop) (w : World) : Prop :=
  disk_Disk_Crash_sh d_6 (Sl.mk none 0 0) (fun (r16 : Option Addr) (w15 : World) => journal_Open_sh r16 (fun (r18 : Option Addr) (r19 : Sl) (r20 : Int) (w17 : World) => cnd (r20 != (0 : Int))
    (K false w17)
    (cnd r18.isNone
    (K false w17)
    (cnd ((r19.l : Int) != (min (l_0.l : Int) (10 : Int)))
    (K false w17)
    (probitylaw27_JournalApart_l2 l_0 m_1 up_5 d_6 r16 r18 (0 : Int) K w17)))) w15) w
structure probitylaw27_JournalApart_k1 (l_0 : Sl) (m_1 : Sl) (up_5 : Bool) (d_6 : Option Addr)  (K : Bool → World → Prop) (w : World) : Prop where
  out : probitylaw27_JournalApart_k1d l_0 m_1 up_5 d_6 K w

def probitylaw27_JournalApart_b0 (l_0 : Sl) (m_1 : Sl) (up_5 : Bool) (d_6 : Option Addr) (j_7 : Option Addr) (i_10 : Int) (N0 : Sl → Sl → Bool → Option Addr → Option Addr → Int → World → Prop)  (K : Bool → World → Prop) (w : World) : Prop :=
  cnd (decide (i_10 < (l_0.l : Int)))
    (cnd (decide (i_10 < (10 : Int)))
    (nz l_0.p fun a9 => (0 ≤ i_10 ∧ i_10 < (l_0.l : Nat)) ∧ ∃ x10 : ByteArray, w.cell? (a9.add (i_10.toNat * 1)) = some (Value.string x10) ∧ probitylaw27_short_sh x10 (fun (r12 : ByteArray) (w11 : World) => journal_Journal_Append_sh j_7 r12 (fun (_r14 : Int) (w13 : World) => inR .i64 (i_10 + (1 : Int)) ∧ N0 l_0 m_1 up_5 d_6 j_7 (i_10 + (1 : Int)) w13) w11) w)
    (probitylaw27_JournalApart_k1 l_0 m_1 up_5 d_6 K w))
    (probitylaw27_JournalApart_k1 l_0 m_1 up_5 d_6 K w)
def probitylaw27_JournalApart_l0d (l_0 : Sl) (m_1 : Sl) (up_5 : Bool) (d_6 : Option Addr) (j_7 : Option Addr) (i_10 : Int)  (K : Bool → World → Prop) (w : World) : Prop :=
  ∃ (I : Int → World → Prop) (μ : Int → World → Nat), I i_10 w ∧ ∀ (i_101 : Int) (w1 : World), I i_101 w1 →
    probitylaw27_JournalApart_b0 l_0 m_1 up_5 d_6 j_7 i_101 (fun (l_0' : Sl) (m_1' : Sl) (up_5' : Bool) (d_6' : Option Addr) (j_7' : Option Addr) (i_10' : Int) (w' : World) => ((l_0' = l_0 ∧ m_1' = m_1 ∧ up_5' = up_5 ∧ d_6' = d_6 ∧ j_7' = j_7 ∧ True) ∧ I i_10' w') ∧ μ i_10' w' < μ i_101 w1)  K w1
structure probitylaw27_JournalApart_l0 (l_0 : Sl) (m_1 : Sl) (up_5 : Bool) (d_6 : Option Addr) (j_7 : Option Addr) (i_10 : Int)  (K : Bool → World → Prop) (w : World) : Prop where
  out : probitylaw27_JournalApart_l0d l_0 m_1 up_5 d_6 j_7 i_10 K w

def probitylaw27_JournalApart_sd (l_0 : Sl) (m_1 : Sl) (K : Bool → World → Prop) (w : World) : Prop :=
  probitylaw27_sanity_sh (fun (r2 : Bool) (w1 : World) => disk_New_sh (fun (r4 : Option Addr) (w3 : World) => journal_Open_sh r4 (fun (r6 : Option Addr) (_r7 : Sl) (r8 : Int) (w5 : World) => cnd (r8 != (0 : Int))
    (K false w5)
    (cnd r6.isNone
    (K false w5)
    (probitylaw27_JournalApart_l0 l_0 m_1 r2 r4 r6 (0 : Int) K w5))) w3) w1) w

structure probitylaw27_JournalApart_sh (l_0 : Sl) (m_1 : Sl) (K : Bool → World → Prop) (w : World) : Prop where
  out : probitylaw27_JournalApart_sd l_0 m_1 K w

def probitylaw27_JournalApart_P0 (Kv : VW) (ρ : Rho) (vs : List Value) (w : World) : Prop :=
  match ρ, vs with
  | _, [.slice l_0p l_0l l_0c, .slice m_1p m_1l m_1c, .bool up_5, .pointer d_6, .pointer j_7, .int .i64 i_10] => probitylaw27_JournalApart_l0 ⟨l_0p, l_0l, l_0c⟩ ⟨m_1p, m_1l, m_1c⟩ up_5 d_6 j_7 i_10  (fun (r0 : Bool) (w' : World) => Kv (Value.bool r0) w') w
  | _, _ => False

def probitylaw27_JournalApart_P1 (Kv : VW) (ρ : Rho) (vs : List Value) (w : World) : Prop :=
  match ρ, vs with
  | _, [.slice l_0p l_0l l_0c, .slice m_1p m_1l m_1c, .bool up_5, .pointer d_6] => probitylaw27_JournalApart_k1 ⟨l_0p, l_0l, l_0c⟩ ⟨m_1p, m_1l, m_1c⟩ up_5 d_6  (fun (r0 : Bool) (w' : World) => Kv (Value.bool r0) w') w
  | _, _ => False

def probitylaw27_JournalApart_P2 (Kv : VW) (ρ : Rho) (vs : List Value) (w : World) : Prop :=
  match ρ, vs with
  | _, [.slice l_0p l_0l l_0c, .slice m_1p m_1l m_1c, .bool up_5, .pointer d_6, .pointer c_11, .pointer k_12, .int .i64 i_15] => probitylaw27_JournalApart_l2 ⟨l_0p, l_0l, l_0c⟩ ⟨m_1p, m_1l, m_1c⟩ up_5 d_6 c_11 k_12 i_15  (fun (r0 : Bool) (w' : World) => Kv (Value.bool r0) w') w
  | _, _ => False

def probitylaw27_JournalApart_P3 (Kv : VW) (ρ : Rho) (vs : List Value) (w : World) : Prop :=
  match ρ, vs with
  | _, [.slice l_0p l_0l l_0c, .slice m_1p m_1l m_1c, .bool up_5, .pointer d_6, .pointer c_11] => probitylaw27_JournalApart_k3 ⟨l_0p, l_0l, l_0c⟩ ⟨m_1p, m_1l, m_1c⟩ up_5 d_6 c_11  (fun (r0 : Bool) (w' : World) => Kv (Value.bool r0) w') w
  | _, _ => False

noncomputable def probitylaw27_JournalApart_S : Pw.Spec := fun vs w Kv =>
  match vs with
  | [.slice l_0p l_0l l_0c, .slice m_1p m_1l m_1c] => probitylaw27_JournalApart_sh ⟨l_0p, l_0l, l_0c⟩ ⟨m_1p, m_1l, m_1c⟩ (fun (r0 : Bool) (w' : World) => Kv (Value.bool r0) w') w
  | _ => False

noncomputable def probitylaw27_JournalApart_E : Pw.Env := [(10, probitylaw27_sanity_S), (11, disk_New_S), (12, journal_Open_S), (14, journal_Journal_Append_S), (15, probitylaw27_short_S), (18, disk_Disk_Crash_S), (21, probityref27_Same_S)]

noncomputable def probitylaw27_JournalApart_C : Code := (Try.f9.body).getD .skip

noncomputable def probitylaw27_JournalApart_A (Kv : VW) : Pw.A :=
  (A.seq (A.reg (RA.run RA.done))
   (A.seq (A.reg (RA.run (RA.run RA.done)))
   (A.seq (A.reg (RA.run (RA.run RA.done)))
   (A.seq (A.reg (RA.run (RA.run (RA.run (RA.run (RA.run (RA.run (RA.run (RA.run (RA.run RA.done))))))))))
   (A.seq (A.seq (A.reg (RA.run (RA.run (RA.run (RA.spl 32 (RA.skp (RA.skp (RA.run RA.done))) (RA.run (RA.run (RA.run RA.done))))))))
   (A.cond (A.seq (A.reg (RA.run RA.done))
   A.leaf)
   A.leaf))
   (A.seq (A.seq (A.reg (RA.run RA.done))
   (A.blk (A.loop [0, 1, 5, 6, 7, 10] (probitylaw27_JournalApart_P0 Kv) (A.seq (A.seq (A.reg (RA.run (RA.run (RA.run (RA.run (RA.run (RA.spl 40 (RA.run (RA.run (RA.run RA.done))) (RA.skp (RA.skp (RA.run RA.done))))))))))
   (A.cond A.leaf
   A.leaf))
   (A.seq (A.blk (A.reg (RA.run (RA.run (RA.run (RA.run (RA.run (RA.run (RA.run RA.done)))))))))
   (A.reg (RA.run (RA.run (RA.run RA.done)))))))))
   (A.cut [0, 1, 5, 6] (probitylaw27_JournalApart_P1 Kv) (A.seq (A.reg (RA.run (RA.run (RA.run RA.done))))
   (A.seq (A.reg (RA.run (RA.run (RA.run (RA.run (RA.run (RA.run (RA.run (RA.run (RA.run RA.done))))))))))
   (A.seq (A.seq (A.reg (RA.run (RA.run (RA.run (RA.spl 63 (RA.skp (RA.skp (RA.run (RA.run (RA.skp (RA.skp (RA.skp (RA.skp (RA.skp (RA.skp (RA.run RA.done))))))))))) (RA.run (RA.run (RA.run (RA.run (RA.spl 67 (RA.skp (RA.skp (RA.skp (RA.skp (RA.skp (RA.skp (RA.run RA.done))))))) (RA.run (RA.run (RA.run (RA.run (RA.run (RA.run (RA.run RA.done)))))))))))))))))
   (A.cond (A.seq (A.reg (RA.run RA.done))
   A.leaf)
   A.leaf))
   (A.seq (A.seq (A.reg (RA.run RA.done))
   (A.blk (A.loop [0, 1, 5, 6, 11, 12, 15] (probitylaw27_JournalApart_P2 Kv) (A.seq (A.seq (A.reg (RA.run (RA.run (RA.run (RA.run (RA.run (RA.spl 79 (RA.run (RA.run (RA.run RA.done))) (RA.skp (RA.skp (RA.run RA.done))))))))))
   (A.cond A.leaf
   A.leaf))
   (A.seq (A.blk (A.reg (RA.run (RA.run (RA.run (RA.run (RA.run (RA.run (RA.run RA.done)))))))))
   (A.reg (RA.run (RA.run (RA.run RA.done)))))))))
   (A.cut [0, 1, 5, 6, 11] (probitylaw27_JournalApart_P3 Kv) (A.seq (A.reg (RA.run (RA.run (RA.run (RA.run (RA.run (RA.run (RA.run (RA.run (RA.run RA.done))))))))))
   (A.seq (A.reg (RA.run (RA.run (RA.run (RA.run (RA.run (RA.run (RA.run (RA.run (RA.run RA.done))))))))))
   (A.seq (A.reg (RA.run (RA.run (RA.spl 105 (RA.run (RA.run (RA.run (RA.run (RA.spl 109 (RA.run (RA.run (RA.run (RA.run (RA.spl 113 (RA.run (RA.run (RA.run (RA.run (RA.run (RA.run (RA.run (RA.run (RA.spl 121 (RA.run (RA.run (RA.run (RA.run (RA.run (RA.run (RA.run (RA.run (RA.run (RA.run (RA.run (RA.spl 132 (RA.run (RA.run (RA.run (RA.run (RA.run (RA.run (RA.run (RA.run (RA.run (RA.run (RA.run RA.done))))))))))) (RA.skp (RA.skp (RA.skp (RA.skp (RA.skp (RA.skp (RA.skp (RA.skp (RA.skp (RA.run (RA.run RA.done))))))))))))))))))))))) (RA.skp (RA.skp (RA.skp (RA.skp (RA.skp (RA.skp (RA.skp (RA.skp (RA.skp (RA.run (RA.run (RA.skp (RA.skp (RA.skp (RA.skp (RA.skp (RA.skp (RA.skp (RA.skp (RA.skp (RA.run (RA.run RA.done))))))))))))))))))))))))))))))) (RA.skp (RA.skp (RA.skp (RA.skp (RA.skp (RA.skp (RA.run (RA.run (RA.skp (RA.skp (RA.skp (RA.skp (RA.skp (RA.skp (RA.skp (RA.skp (RA.skp (RA.run (RA.run (RA.skp (RA.skp (RA.skp (RA.skp (RA.skp (RA.skp (RA.skp (RA.skp (RA.skp (RA.run (RA.run RA.done))))))))))))))))))))))))))))))))))) (RA.skp (RA.skp (RA.run (RA.run (RA.skp (RA.skp (RA.skp (RA.skp (RA.skp (RA.skp (RA.run (RA.run (RA.skp (RA.skp (RA.skp (RA.skp (RA.skp (RA.skp (RA.skp (RA.skp (RA.skp (RA.run (RA.run (RA.skp (RA.skp (RA.skp (RA.skp (RA.skp (RA.skp (RA.skp (RA.skp (RA.skp (RA.run (RA.run RA.done))))))))))))))))))))))))))))))))))))))) (RA.skp (RA.skp (RA.run (RA.run (RA.skp (RA.skp (RA.run (RA.run (RA.skp (RA.skp (RA.skp (RA.skp (RA.skp (RA.skp (RA.run (RA.run (RA.skp (RA.skp (RA.skp (RA.skp (RA.skp (RA.skp (RA.skp (RA.skp (RA.skp (RA.run (RA.run (RA.skp (RA.skp (RA.skp (RA.skp (RA.skp (RA.skp (RA.skp (RA.skp (RA.skp (RA.run (RA.run RA.done))))))))))))))))))))))))))))))))))))))))))
   A.leaf)))))))))))))))

noncomputable def probitylaw27_JournalApart_O (Kv : VW) : List Ob := (obs Try.prog probitylaw27_JournalApart_E 143 (probitylaw27_JournalApart_A Kv) probitylaw27_JournalApart_C (fun _ => retQ Try.prog Try.f9.results Kv))

theorem probitylaw27_JournalApart_e (Kv : VW) (l_0p : Option Addr) (l_0l l_0c : Nat) (m_1p : Option Addr) (m_1l m_1c : Nat) (w : World) : probitylaw27_JournalApart_sd ⟨l_0p, l_0l, l_0c⟩ ⟨m_1p, m_1l, m_1c⟩ (fun (r0 : Bool) (w' : World) => Kv (Value.bool r0) w') w = W Try.prog probitylaw27_JournalApart_E 143 (probitylaw27_JournalApart_A Kv) probitylaw27_JournalApart_C [] (retQ Try.prog Try.f9.results Kv) [] (startS [(Value.slice l_0p l_0l l_0c), (Value.slice m_1p m_1l m_1c)]) w := by kernel_rfl

theorem probitylaw27_JournalApart_e0 (Kv : VW) (N0 : List Value → World → Prop) (ρ : Rho) (l_0p : Option Addr) (l_0l l_0c : Nat) (m_1p : Option Addr) (m_1l m_1c : Nat) (up_5 : Bool) (d_6 : Option Addr) (j_7 : Option Addr) (i_10 : Int) (w : World) : probitylaw27_JournalApart_b0 ⟨l_0p, l_0l, l_0c⟩ ⟨m_1p, m_1l, m_1c⟩ up_5 d_6 j_7 i_10 (fun (l_0' : Sl) (m_1' : Sl) (up_5' : Bool) (d_6' : Option Addr) (j_7' : Option Addr) (i_10' : Int) (w' : World) => N0 [(Value.slice l_0'.p l_0'.l l_0'.c), (Value.slice m_1'.p m_1'.l m_1'.c), (Value.bool up_5'), (Value.pointer d_6'), (Value.pointer j_7'), (Value.int .i64 i_10')] w')  (fun (r0 : Bool) (w' : World) => Kv (Value.bool r0) w') w = goalAt Try.prog probitylaw27_JournalApart_E 143 (probitylaw27_JournalApart_O Kv) 0 (N0 :: ρ) [(Value.slice l_0p l_0l l_0c), (Value.slice m_1p m_1l m_1c), (Value.bool up_5), (Value.pointer d_6), (Value.pointer j_7), (Value.int .i64 i_10)] w := by kernel_rfl

theorem probitylaw27_JournalApart_q0 (Kv : VW) (ρ : Rho) (vs : List Value) (w : World) : labAt (probitylaw27_JournalApart_O Kv) 0 ρ vs w = probitylaw27_JournalApart_P0 Kv ρ vs w := by kernel_rfl

def probitylaw27_JournalApart_I0 (l_00 : Sl) (m_10 : Sl) (up_50 : Bool) (d_60 : Option Addr) (j_70 : Option Addr) (I : Int → World → Prop) (vs : List Value) (w : World) : Prop :=
  match vs with
  | [.slice l_0p l_0l l_0c, .slice m_1p m_1l m_1c, .bool up_5, .pointer d_6, .pointer j_7, .int .i64 i_10] => (⟨l_0p, l_0l, l_0c⟩ = l_00 ∧ ⟨m_1p, m_1l, m_1c⟩ = m_10 ∧ up_5 = up_50 ∧ d_6 = d_60 ∧ j_7 = j_70 ∧ True) ∧ I i_10 w
  | _ => False

def probitylaw27_JournalApart_M0 (μ : Int → World → Nat) (vs : List Value) (w : World) : Nat :=
  match vs with
  | [.slice _l_0p _l_0l _l_0c, .slice _m_1p _m_1l _m_1c, .bool _up_5, .pointer _d_6, .pointer _j_7, .int .i64 i_10] => μ i_10 w
  | _ => 0

theorem probitylaw27_JournalApart_h0 (Kv : VW) : holdsAt Try.prog probitylaw27_JournalApart_E 143 (probitylaw27_JournalApart_O Kv) 0 := holdsAt_loop (by kernel_rfl) (fun ρ vs w h => by
  rw [probitylaw27_JournalApart_q0] at h
  unfold probitylaw27_JournalApart_P0 at h
  split at h
  · rename_i ρt l_0p l_0l l_0c m_1p m_1l m_1c up_5 d_6 j_7 i_10
    obtain ⟨I, μ, h0, hr⟩ := h.out
    refine ⟨probitylaw27_JournalApart_I0 ⟨l_0p, l_0l, l_0c⟩ ⟨m_1p, m_1l, m_1c⟩ up_5 d_6 j_7 I, probitylaw27_JournalApart_M0 μ, ⟨⟨rfl, rfl, rfl, rfl, rfl, trivial⟩, h0⟩, fun vs w hI => ?_⟩
    unfold probitylaw27_JournalApart_I0 at hI
    split at hI
    · obtain ⟨⟨h0, h1, h2, h3, h4, _⟩, hI⟩ := hI
      cases h0; cases h1; cases h2; cases h3; cases h4
      rw [← probitylaw27_JournalApart_e0]
      exact hr _ _ hI
    · exact hI.elim
  · exact h.elim)

theorem probitylaw27_JournalApart_e1 (Kv : VW) (ρ : Rho) (l_0p : Option Addr) (l_0l l_0c : Nat) (m_1p : Option Addr) (m_1l m_1c : Nat) (up_5 : Bool) (d_6 : Option Addr) (w : World) : probitylaw27_JournalApart_k1d ⟨l_0p, l_0l, l_0c⟩ ⟨m_1p, m_1l, m_1c⟩ up_5 d_6  (fun (r0 : Bool) (w' : World) => Kv (Value.bool r0) w') w = goalAt Try.prog probitylaw27_JournalApart_E 143 (probitylaw27_JournalApart_O Kv) 1 (ρ) [(Value.slice l_0p l_0l l_0c), (Value.slice m_1p m_1l m_1c), (Value.bool up_5), (Value.pointer d_6)] w := by kernel_rfl

theorem probitylaw27_JournalApart_q1 (Kv : VW) (ρ : Rho) (vs : List Value) (w : World) : labAt (probitylaw27_JournalApart_O Kv) 1 ρ vs w = probitylaw27_JournalApart_P1 Kv ρ vs w := by kernel_rfl

theorem probitylaw27_JournalApart_h1 (Kv : VW) : holdsAt Try.prog probitylaw27_JournalApart_E 143 (probitylaw27_JournalApart_O Kv) 1 := holdsAt_cut (.inl (by kernel_rfl)) (fun ρ vs w h => by
  rw [probitylaw27_JournalApart_q1] at h
  unfold probitylaw27_JournalApart_P1 at h
  split at h
  · rw [← probitylaw27_JournalApart_e1]; exact h.out
  · exact h.elim)

theorem probitylaw27_JournalApart_e2 (Kv : VW) (N2 : List Value → World → Prop) (ρ : Rho) (l_0p : Option Addr) (l_0l l_0c : Nat) (m_1p : Option Addr) (m_1l m_1c : Nat) (up_5 : Bool) (d_6 : Option Addr) (c_11 : Option Addr) (k_12 : Option Addr) (i_15 : Int) (w : World) : probitylaw27_JournalApart_b2 ⟨l_0p, l_0l, l_0c⟩ ⟨m_1p, m_1l, m_1c⟩ up_5 d_6 c_11 k_12 i_15 (fun (l_0' : Sl) (m_1' : Sl) (up_5' : Bool) (d_6' : Option Addr) (c_11' : Option Addr) (k_12' : Option Addr) (i_15' : Int) (w' : World) => N2 [(Value.slice l_0'.p l_0'.l l_0'.c), (Value.slice m_1'.p m_1'.l m_1'.c), (Value.bool up_5'), (Value.pointer d_6'), (Value.pointer c_11'), (Value.pointer k_12'), (Value.int .i64 i_15')] w')  (fun (r0 : Bool) (w' : World) => Kv (Value.bool r0) w') w = goalAt Try.prog probitylaw27_JournalApart_E 143 (probitylaw27_JournalApart_O Kv) 2 (N2 :: ρ) [(Value.slice l_0p l_0l l_0c), (Value.slice m_1p m_1l m_1c), (Value.bool up_5), (Value.pointer d_6), (Value.pointer c_11), (Value.pointer k_12), (Value.int .i64 i_15)] w := by kernel_rfl

theorem probitylaw27_JournalApart_q2 (Kv : VW) (ρ : Rho) (vs : List Value) (w : World) : labAt (probitylaw27_JournalApart_O Kv) 2 ρ vs w = probitylaw27_JournalApart_P2 Kv ρ vs w := by kernel_rfl

def probitylaw27_JournalApart_I2 (l_00 : Sl) (m_10 : Sl) (up_50 : Bool) (d_60 : Option Addr) (c_110 : Option Addr) (k_120 : Option Addr) (I : Int → World → Prop) (vs : List Value) (w : World) : Prop :=
  match vs with
  | [.slice l_0p l_0l l_0c, .slice m_1p m_1l m_1c, .bool up_5, .pointer d_6, .pointer c_11, .pointer k_12, .int .i64 i_15] => (⟨l_0p, l_0l, l_0c⟩ = l_00 ∧ ⟨m_1p, m_1l, m_1c⟩ = m_10 ∧ up_5 = up_50 ∧ d_6 = d_60 ∧ c_11 = c_110 ∧ k_12 = k_120 ∧ True) ∧ I i_15 w
  | _ => False

def probitylaw27_JournalApart_M2 (μ : Int → World → Nat) (vs : List Value) (w : World) : Nat :=
  match vs with
  | [.slice _l_0p _l_0l _l_0c, .slice _m_1p _m_1l _m_1c, .bool _up_5, .pointer _d_6, .pointer _c_11, .pointer _k_12, .int .i64 i_15] => μ i_15 w
  | _ => 0

theorem probitylaw27_JournalApart_h2 (Kv : VW) : holdsAt Try.prog probitylaw27_JournalApart_E 143 (probitylaw27_JournalApart_O Kv) 2 := holdsAt_loop (by kernel_rfl) (fun ρ vs w h => by
  rw [probitylaw27_JournalApart_q2] at h
  unfold probitylaw27_JournalApart_P2 at h
  split at h
  · rename_i ρt l_0p l_0l l_0c m_1p m_1l m_1c up_5 d_6 c_11 k_12 i_15
    obtain ⟨I, μ, h0, hr⟩ := h.out
    refine ⟨probitylaw27_JournalApart_I2 ⟨l_0p, l_0l, l_0c⟩ ⟨m_1p, m_1l, m_1c⟩ up_5 d_6 c_11 k_12 I, probitylaw27_JournalApart_M2 μ, ⟨⟨rfl, rfl, rfl, rfl, rfl, rfl, trivial⟩, h0⟩, fun vs w hI => ?_⟩
    unfold probitylaw27_JournalApart_I2 at hI
    split at hI
    · obtain ⟨⟨h0, h1, h2, h3, h4, h5, _⟩, hI⟩ := hI
      cases h0; cases h1; cases h2; cases h3; cases h4; cases h5
      rw [← probitylaw27_JournalApart_e2]
      exact hr _ _ hI
    · exact hI.elim
  · exact h.elim)

theorem probitylaw27_JournalApart_e3 (Kv : VW) (ρ : Rho) (l_0p : Option Addr) (l_0l l_0c : Nat) (m_1p : Option Addr) (m_1l m_1c : Nat) (up_5 : Bool) (d_6 : Option Addr) (c_11 : Option Addr) (w : World) : probitylaw27_JournalApart_k3d ⟨l_0p, l_0l, l_0c⟩ ⟨m_1p, m_1l, m_1c⟩ up_5 d_6 c_11  (fun (r0 : Bool) (w' : World) => Kv (Value.bool r0) w') w = goalAt Try.prog probitylaw27_JournalApart_E 143 (probitylaw27_JournalApart_O Kv) 3 (ρ) [(Value.slice l_0p l_0l l_0c), (Value.slice m_1p m_1l m_1c), (Value.bool up_5), (Value.pointer d_6), (Value.pointer c_11)] w := by kernel_rfl

theorem probitylaw27_JournalApart_q3 (Kv : VW) (ρ : Rho) (vs : List Value) (w : World) : labAt (probitylaw27_JournalApart_O Kv) 3 ρ vs w = probitylaw27_JournalApart_P3 Kv ρ vs w := by kernel_rfl

theorem probitylaw27_JournalApart_h3 (Kv : VW) : holdsAt Try.prog probitylaw27_JournalApart_E 143 (probitylaw27_JournalApart_O Kv) 3 := holdsAt_cut (.inl (by kernel_rfl)) (fun ρ vs w h => by
  rw [probitylaw27_JournalApart_q3] at h
  unfold probitylaw27_JournalApart_P3 at h
  split at h
  · rw [← probitylaw27_JournalApart_e3]; exact h.out
  · exact h.elim)

theorem probitylaw27_JournalApart_n (Kv : VW) : obAt (probitylaw27_JournalApart_O Kv) 4 = none := by kernel_rfl

theorem probitylaw27_JournalApart_h (Kv : VW) : ∀ k, holdsAt Try.prog probitylaw27_JournalApart_E 143 (probitylaw27_JournalApart_O Kv) k := fun k => match k with
  | 0 => probitylaw27_JournalApart_h0 Kv
  | 1 => probitylaw27_JournalApart_h1 Kv
  | 2 => probitylaw27_JournalApart_h2 Kv
  | 3 => probitylaw27_JournalApart_h3 Kv
  | _k + 4 => holdsAt_ge (probitylaw27_JournalApart_n Kv) (Nat.le_add_left _ _)

theorem probitylaw27_JournalApart_ok : Sound Try.prog 9 probitylaw27_JournalApart_S := ⟨Try.call9, fun vs w Kv h => by
  unfold probitylaw27_JournalApart_S at h
  split at h
  · have h := h.out
    rw [probitylaw27_JournalApart_e] at h
    exact calls_sound (Γ := probitylaw27_JournalApart_E) progMixed ⟨probitylaw27_sanity_ok, disk_New_ok, journal_Open_ok, journal_Journal_Append_ok, probitylaw27_short_ok, disk_Disk_Crash_ok, probityref27_Same_ok, trivial⟩ Try.func9 (code := probitylaw27_JournalApart_C) (by kernel_rfl) (probitylaw27_JournalApart_A Kv) Kv (holds_all (probitylaw27_JournalApart_h Kv)) (Nat.le_of_ble_eq_true rfl) h
  · exact h.elim⟩

end Go.Proofs.Ytamkecjpcfnpjaa
