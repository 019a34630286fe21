/- The bodies' formulas, by program. -/
import Derived.Test.YtmhjekbdpnocaaaProg
import Derived.KernelRfl
import Derived.Test.YtmhjekbdpnocaaaPwF
import Derived.Test.YtmhjekbdpnocaaaG0
namespace Go.Proofs.Ytmhjekbdpnocaaa
open Go Pw
/-! probitylaw26_sanity -/
def probitylaw26_sanity_k1d (a_2 : Bool) (c_3 : Option Addr) (b_5 : Bool) (f_6 : Option Addr) (x_8 : Bool)  (K : Bool → World → Prop) (w : World) : Prop :=
  cnd a_2
    (cnd b_5
    (cnd x_8
    (disk_Disk_Read_sh c_3 (0 : Int) (9 : Int) (fun (r36 : ByteArray) (w35 : World) => cnd (decide (r36 = (str [0, 0, 97, 98])))
    (disk_Disk_Size_sh f_6 (fun (r38 : Int) (w37 : World) => cnd (r38 == (128 : Int))
    (disk_Disk_Read_sh f_6 (60 : Int) (9 : Int) (fun (r40 : ByteArray) (w39 : World) => K (decide (r40 = (str [0, 0, 0, 0, 120, 120, 120, 120, 120]))) w39) w37)
    (K false w37)) w35)
    (K false w35)) w)
    (K false w))
    (K false w))
    (K false w)
structure probitylaw26_sanity_k1 (a_2 : Bool) (c_3 : Option Addr) (b_5 : Bool) (f_6 : Option Addr) (x_8 : Bool)  (K : Bool → World → Prop) (w : World) : Prop where
  out : probitylaw26_sanity_k1d a_2 c_3 b_5 f_6 x_8 K w

def probitylaw26_sanity_k0d (d_1 : Option Addr) (a_2 : Bool)  (K : Bool → World → Prop) (w : World) : Prop :=
  disk_Disk_Crash_sh d_1 (Sl.mk none 0 0) (fun (r14 : Option Addr) (w13 : World) => disk_New_sh (fun (r16 : Option Addr) (w15 : World) => probitylaw26_repeated_sh (120 : Int) (70 : Int) (fun (r18 : ByteArray) (w17 : World) => disk_Disk_Write_sh r16 (60 : Int) r18 (fun (r20 : Int) (w19 : World) => let w21 : World := w19.alloc (Obj.cells #[(Value.int .i64 (0 : Int)), (Value.int .i64 (1 : Int))] 3)
  disk_Disk_Crash_sh r16 (Sl.mk (some (Addr.mk w19.heap.size 0 none)) 2 2) (fun (r23 : Option Addr) (w22 : World) => cnd r14.isNone
    (K false w22)
    (cnd r23.isNone
    (K false w22)
    (disk_New_sh (fun (r25 : Option Addr) (w24 : World) => disk_Disk_Fail_sh r25 (1 : Int) (fun (w26 : World) => disk_Disk_Sync_sh r25 (fun (r28 : Int) (w27 : World) => cnd (r28 == (0 : Int))
    (disk_Disk_Write_sh r25 (0 : Int) (str [97]) (fun (r30 : Int) (w29 : World) => cnd (r30 == (70 : Int))
    (disk_Disk_Write_sh r25 (-1 : Int) (str [97]) (fun (r32 : Int) (w31 : World) => cnd (r32 == (1 : Int))
    (disk_Disk_Calls_sh r25 (fun (r34 : Int) (w33 : World) => probitylaw26_sanity_k1 a_2 r14 (r20 == (0 : Int)) r23 (r34 == (1 : Int)) K w33) w31)
    (probitylaw26_sanity_k1 a_2 r14 (r20 == (0 : Int)) r23 false K w31)) w29)
    (probitylaw26_sanity_k1 a_2 r14 (r20 == (0 : Int)) r23 false K w29)) w27)
    (probitylaw26_sanity_k1 a_2 r14 (r20 == (0 : Int)) r23 false K w27)) w26) w24) w22))) w21) w17) w15) w13) w
structure probitylaw26_sanity_k0 (d_1 : Option Addr) (a_2 : Bool)  (K : Bool → World → Prop) (w : World) : Prop where
  out : probitylaw26_sanity_k0d d_1 a_2 K w

def probitylaw26_sanity_sd  (K : Bool → World → Prop) (w : World) : Prop :=
  disk_New_sh (fun (r2 : Option Addr) (w1 : World) => cnd r2.isNone
    (K false w1)
    (disk_Disk_Write_sh r2 (2 : Int) (str [97, 98]) (fun (r4 : Int) (w3 : World) => cnd (r4 == (0 : Int))
    (disk_Disk_Size_sh r2 (fun (r6 : Int) (w5 : World) => cnd (r6 == (4 : Int))
    (disk_Disk_Read_sh r2 (0 : Int) (9 : Int) (fun (r8 : ByteArray) (w7 : World) => cnd (decide (r8 = (str [0, 0, 97, 98])))
    (disk_Disk_Sync_sh r2 (fun (r10 : Int) (w9 : World) => cnd (r10 == (0 : Int))
    (disk_Disk_Write_sh r2 (3 : Int) (str [120, 121, 122]) (fun (r12 : Int) (w11 : World) => probitylaw26_sanity_k0 r2 (r12 == (0 : Int)) K w11) w9)
    (probitylaw26_sanity_k0 r2 false K w9)) w7)
    (probitylaw26_sanity_k0 r2 false K w7)) w5)
    (probitylaw26_sanity_k0 r2 false K w5)) w3)
    (probitylaw26_sanity_k0 r2 false K w3)) w1)) w

structure probitylaw26_sanity_sh  (K : Bool → World → Prop) (w : World) : Prop where
  out : probitylaw26_sanity_sd  K w

def probitylaw26_sanity_P0 (Kv : VW) (ρ : Rho) (vs : List Value) (w : World) : Prop :=
  match ρ, vs with
  | _, [.pointer d_1, .bool a_2] => probitylaw26_sanity_k0 d_1 a_2  (fun (r0 : Bool) (w' : World) => Kv (Value.bool r0) w') w
  | _, _ => False

def probitylaw26_sanity_P1 (Kv : VW) (ρ : Rho) (vs : List Value) (w : World) : Prop :=
  match ρ, vs with
  | _, [.bool a_2, .pointer c_3, .bool b_5, .pointer f_6, .bool x_8] => probitylaw26_sanity_k1 a_2 c_3 b_5 f_6 x_8  (fun (r0 : Bool) (w' : World) => Kv (Value.bool r0) w') w
  | _, _ => False

noncomputable def probitylaw26_sanity_S : Pw.Spec := fun vs w Kv =>
  match vs with
  | [] => probitylaw26_sanity_sh  (fun (r0 : Bool) (w' : World) => Kv (Value.bool r0) w') w
  | _ => False

noncomputable def probitylaw26_sanity_E : Pw.Env := [(13, disk_New_S), (16, disk_Disk_Size_S), (18, disk_Disk_Calls_S), (22, disk_Disk_Crash_S), (25, disk_Disk_Sync_S), (26, disk_Disk_Read_S), (27, disk_Disk_Write_S), (28, probitylaw26_repeated_S), (29, disk_Disk_Fail_S)]

noncomputable def probitylaw26_sanity_C : Code := (Try.f12.body).getD .skip

noncomputable def probitylaw26_sanity_A (Kv : VW) : Pw.A :=
  (A.seq (A.reg (RA.run RA.done))
   (A.seq (A.reg (RA.run (RA.run RA.done)))
   (A.seq (A.seq (A.reg (RA.run (RA.run RA.done)))
   (A.cond (A.seq (A.reg (RA.run RA.done))
   A.leaf)
   A.leaf))
   (A.seq (A.reg (RA.run (RA.run (RA.run (RA.run (RA.spl 15 (RA.run (RA.run (RA.run (RA.run (RA.run (RA.spl 20 (RA.run (RA.run (RA.run (RA.run (RA.run (RA.spl 25 (RA.run (RA.run (RA.run (RA.run (RA.run (RA.spl 30 (RA.run (RA.run (RA.run (RA.run (RA.run RA.done))))) (RA.skp (RA.skp (RA.skp (RA.run (RA.run RA.done))))))))))) (RA.skp (RA.skp (RA.skp (RA.run (RA.run (RA.skp (RA.skp (RA.skp (RA.run (RA.run RA.done)))))))))))))))) (RA.skp (RA.skp (RA.skp (RA.run (RA.run (RA.skp (RA.skp (RA.skp (RA.run (RA.run (RA.skp (RA.skp (RA.skp (RA.run (RA.run RA.done))))))))))))))))))))) (RA.skp (RA.skp (RA.skp (RA.run (RA.run (RA.skp (RA.skp (RA.skp (RA.run (RA.run (RA.skp (RA.skp (RA.skp (RA.run (RA.run (RA.skp (RA.skp (RA.skp (RA.run (RA.run RA.done))))))))))))))))))))))))))
   (A.cut [1, 2] (probitylaw26_sanity_P0 Kv) (A.seq (A.reg (RA.run (RA.run (RA.run RA.done))))
   (A.seq (A.reg (RA.run (RA.run RA.done)))
   (A.seq (A.reg (RA.run (RA.run (RA.run (RA.run (RA.run RA.done))))))
   (A.seq (A.reg (RA.run (RA.run (RA.run (RA.run RA.done)))))
   (A.seq (A.seq (A.reg (RA.run (RA.run (RA.run (RA.spl 47 (RA.skp (RA.skp (RA.run RA.done))) (RA.run (RA.run (RA.run RA.done))))))))
   (A.cond (A.seq (A.reg (RA.run RA.done))
   A.leaf)
   A.leaf))
   (A.seq (A.reg (RA.run (RA.run RA.done)))
   (A.seq (A.reg (RA.run (RA.run RA.done)))
   (A.seq (A.reg (RA.run (RA.run (RA.run (RA.run (RA.spl 57 (RA.run (RA.run (RA.run (RA.run (RA.run (RA.spl 62 (RA.run (RA.run (RA.run (RA.run (RA.run (RA.spl 67 (RA.run (RA.run (RA.run (RA.run (RA.run RA.done))))) (RA.skp (RA.skp (RA.skp (RA.run (RA.run RA.done))))))))))) (RA.skp (RA.skp (RA.skp (RA.run (RA.run (RA.skp (RA.skp (RA.skp (RA.run (RA.run RA.done)))))))))))))))) (RA.skp (RA.skp (RA.skp (RA.run (RA.run (RA.skp (RA.skp (RA.skp (RA.run (RA.run (RA.skp (RA.skp (RA.skp (RA.run (RA.run RA.done)))))))))))))))))))))
   (A.cut [2, 3, 5, 6, 8] (probitylaw26_sanity_P1 Kv) (A.seq (A.reg (RA.run (RA.run (RA.spl 73 (RA.run (RA.run (RA.run (RA.spl 76 (RA.run (RA.run (RA.run (RA.spl 79 (RA.run (RA.run (RA.run (RA.run (RA.run (RA.spl 84 (RA.run (RA.run (RA.run (RA.run (RA.run (RA.spl 89 (RA.run (RA.run (RA.run (RA.run (RA.run RA.done))))) (RA.skp (RA.skp (RA.skp (RA.run (RA.run RA.done))))))))))) (RA.skp (RA.skp (RA.skp (RA.run (RA.run (RA.skp (RA.skp (RA.skp (RA.run (RA.run RA.done)))))))))))))))) (RA.skp (RA.skp (RA.skp (RA.run (RA.run (RA.skp (RA.skp (RA.skp (RA.run (RA.run (RA.skp (RA.skp (RA.skp (RA.run (RA.run RA.done))))))))))))))))))) (RA.skp (RA.run (RA.run (RA.skp (RA.skp (RA.skp (RA.run (RA.run (RA.skp (RA.skp (RA.skp (RA.run (RA.run (RA.skp (RA.skp (RA.skp (RA.run (RA.run RA.done)))))))))))))))))))))) (RA.skp (RA.run (RA.run (RA.skp (RA.run (RA.run (RA.skp (RA.skp (RA.skp (RA.run (RA.run (RA.skp (RA.skp (RA.skp (RA.run (RA.run (RA.skp (RA.skp (RA.skp (RA.run (RA.run RA.done)))))))))))))))))))))))))
   A.leaf)))))))))))))))

noncomputable def probitylaw26_sanity_O (Kv : VW) : List Ob := (obs Try.prog probitylaw26_sanity_E 94 (probitylaw26_sanity_A Kv) probitylaw26_sanity_C (fun _ => retQ Try.prog Try.f12.results Kv))

theorem probitylaw26_sanity_e (Kv : VW)  (w : World) : probitylaw26_sanity_sd  (fun (r0 : Bool) (w' : World) => Kv (Value.bool r0) w') w = W Try.prog probitylaw26_sanity_E 94 (probitylaw26_sanity_A Kv) probitylaw26_sanity_C [] (retQ Try.prog Try.f12.results Kv) (startS []) w := by kernel_rfl

theorem probitylaw26_sanity_e0 (Kv : VW) (ρ : Rho) (d_1 : Option Addr) (a_2 : Bool) (w : World) : probitylaw26_sanity_k0d d_1 a_2  (fun (r0 : Bool) (w' : World) => Kv (Value.bool r0) w') w = goalAt Try.prog probitylaw26_sanity_E 94 (probitylaw26_sanity_O Kv) 0 (ρ) [(Value.pointer d_1), (Value.bool a_2)] w := by kernel_rfl

theorem probitylaw26_sanity_q0 (Kv : VW) (ρ : Rho) (vs : List Value) (w : World) : labAt (probitylaw26_sanity_O Kv) 0 ρ vs w = probitylaw26_sanity_P0 Kv ρ vs w := by kernel_rfl

theorem probitylaw26_sanity_h0 (Kv : VW) : holdsAt Try.prog probitylaw26_sanity_E 94 (probitylaw26_sanity_O Kv) 0 := holdsAt_cut (by kernel_rfl) (fun ρ vs w h => by
  rw [probitylaw26_sanity_q0] at h
  unfold probitylaw26_sanity_P0 at h
  split at h
  · rw [← probitylaw26_sanity_e0]; exact h.out
  · exact h.elim)

theorem probitylaw26_sanity_e1 (Kv : VW) (ρ : Rho) (a_2 : Bool) (c_3 : Option Addr) (b_5 : Bool) (f_6 : Option Addr) (x_8 : Bool) (w : World) : probitylaw26_sanity_k1d a_2 c_3 b_5 f_6 x_8  (fun (r0 : Bool) (w' : World) => Kv (Value.bool r0) w') w = goalAt Try.prog probitylaw26_sanity_E 94 (probitylaw26_sanity_O Kv) 1 (ρ) [(Value.bool a_2), (Value.pointer c_3), (Value.bool b_5), (Value.pointer f_6), (Value.bool x_8)] w := by kernel_rfl

theorem probitylaw26_sanity_q1 (Kv : VW) (ρ : Rho) (vs : List Value) (w : World) : labAt (probitylaw26_sanity_O Kv) 1 ρ vs w = probitylaw26_sanity_P1 Kv ρ vs w := by kernel_rfl

theorem probitylaw26_sanity_h1 (Kv : VW) : holdsAt Try.prog probitylaw26_sanity_E 94 (probitylaw26_sanity_O Kv) 1 := holdsAt_cut (by kernel_rfl) (fun ρ vs w h => by
  rw [probitylaw26_sanity_q1] at h
  unfold probitylaw26_sanity_P1 at h
  split at h
  · rw [← probitylaw26_sanity_e1]; exact h.out
  · exact h.elim)

theorem probitylaw26_sanity_n (Kv : VW) : obAt (probitylaw26_sanity_O Kv) 2 = none := by kernel_rfl

theorem probitylaw26_sanity_h (Kv : VW) : ∀ k, holdsAt Try.prog probitylaw26_sanity_E 94 (probitylaw26_sanity_O Kv) k := fun k => match k with
  | 0 => probitylaw26_sanity_h0 Kv
  | 1 => probitylaw26_sanity_h1 Kv
  | k + 2 => holdsAt_ge (probitylaw26_sanity_n Kv) (Nat.le_add_left _ _)

theorem probitylaw26_sanity_ok : Sound Try.prog 12 probitylaw26_sanity_S := ⟨Try.call12, fun vs w Kv h => by
  unfold probitylaw26_sanity_S at h
  split at h
  · have h := h.out
    rw [probitylaw26_sanity_e] at h
    exact calls_sound (Γ := probitylaw26_sanity_E) progMixed ⟨disk_New_ok, disk_Disk_Size_ok, disk_Disk_Calls_ok, disk_Disk_Crash_ok, disk_Disk_Sync_ok, disk_Disk_Read_ok, disk_Disk_Write_ok, probitylaw26_repeated_ok, disk_Disk_Fail_ok, trivial⟩ Try.func12 (code := probitylaw26_sanity_C) (by kernel_rfl) (probitylaw26_sanity_A Kv) Kv (holds_all (probitylaw26_sanity_h Kv)) (Nat.le_of_ble_eq_true rfl) h
  · exact h.elim⟩

/-! probitylaw26_DiskFails -/
def probitylaw26_DiskFails_k1d (bits_1 : Int) (more_2 : Int) (up_7 : Bool) (d_8 : Option Addr) (many_9 : Int) (i_10 : Int) (want_11 : Int) (N0 : Int → Int → Bool → Option Addr → Int → Int → World → Prop) (K : Bool → World → Prop) (w : World) : Prop :=
  (32 : Int) ≠ 0 ∧ 0 ≤ (Int.tmod i_10 (32 : Int)) ∧ cnd ((IntKind.wrap .u32 (((BitVec.ofInt (IntKind.bits .u32) (Int.fdiv bits_1 (2 ^ (min (Int.tmod i_10 (32 : Int)).toNat (IntKind.bits .u32)))) &&& BitVec.ofInt (IntKind.bits .u32) (1 : Int))).toNat : Int)) == (1 : Int))
    (disk_Disk_Sync_sh d_8 (fun (r7 : Int) (w6 : World) => cnd (r7 != want_11)
    (K false w6)
    (inR .i64 (i_10 + (1 : Int)) ∧ N0 bits_1 more_2 up_7 d_8 many_9 (i_10 + (1 : Int)) w6)) w)
    (disk_Disk_Write_sh d_8 i_10 (str [122]) (fun (r9 : Int) (w8 : World) => cnd (r9 != want_11)
    (K false w8)
    (inR .i64 (i_10 + (1 : Int)) ∧ N0 bits_1 more_2 up_7 d_8 many_9 (i_10 + (1 : Int)) w8)) w)
structure probitylaw26_DiskFails_k1 (bits_1 : Int) (more_2 : Int) (up_7 : Bool) (d_8 : Option Addr) (many_9 : Int) (i_10 : Int) (want_11 : Int) (N0 : Int → Int → Bool → Option Addr → Int → Int → World → Prop) (K : Bool → World → Prop) (w : World) : Prop where
  out : probitylaw26_DiskFails_k1d bits_1 more_2 up_7 d_8 many_9 i_10 want_11 N0 K w

def probitylaw26_DiskFails_b0 (bits_1 : Int) (more_2 : Int) (up_7 : Bool) (d_8 : Option Addr) (many_9 : Int) (i_10 : Int) (N0 : Int → Int → Bool → Option Addr → Int → Int → World → Prop)  (K : Bool → World → Prop) (w : World) : Prop :=
  (5 : Int) ≠ 0 ∧ inR .i64 (Int.tmod more_2 (5 : Int)) ∧ inR .i64 (many_9 + (Int.tmod more_2 (5 : Int))) ∧ inR .i64 ((many_9 + (Int.tmod more_2 (5 : Int))) + (1 : Int)) ∧ cnd (decide (i_10 < ((many_9 + (Int.tmod more_2 (5 : Int))) + (1 : Int))))
    (cnd (decide (i_10 ≥ many_9))
    (probitylaw26_DiskFails_k1 bits_1 more_2 up_7 d_8 many_9 i_10 (70 : Int) N0 K w)
    (probitylaw26_DiskFails_k1 bits_1 more_2 up_7 d_8 many_9 i_10 (0 : Int) N0 K w))
    (disk_Disk_Calls_sh d_8 (fun (r11 : Int) (w10 : World) => disk_Disk_Size_sh d_8 (fun (r13 : Int) (w12 : World) => disk_Disk_Fail_sh d_8 (-1 : Int) (fun (w14 : World) => disk_Disk_Write_sh d_8 (0 : Int) (str [97, 103, 97, 105, 110]) (fun (r16 : Int) (w15 : World) => cnd up_7
    (cnd (r11 == many_9)
    (cnd (decide (r13 ≤ many_9))
    (cnd (r16 == (0 : Int))
    (disk_Disk_Calls_sh d_8 (fun (r18 : Int) (w17 : World) => inR .i64 (many_9 + (1 : Int)) ∧ K (r18 == (many_9 + (1 : Int))) w17) w15)
    (K false w15))
    (K false w15))
    (K false w15))
    (K false w15)) w14) w12) w10) w)
def probitylaw26_DiskFails_l0d (bits_1 : Int) (more_2 : Int) (up_7 : Bool) (d_8 : Option Addr) (many_9 : Int) (i_10 : Int)  (K : Bool → World → Prop) (w : World) : Prop :=
  ∃ (I : Int → World → Prop) (μ : Int → World → Nat), I i_10 w ∧ ∀ (i_101 : Int) (w1 : World), I i_101 w1 →
    probitylaw26_DiskFails_b0 bits_1 more_2 up_7 d_8 many_9 i_101 (fun (bits_1' : Int) (more_2' : Int) (up_7' : Bool) (d_8' : Option Addr) (many_9' : Int) (i_10' : Int) (w' : World) => ((bits_1' = bits_1 ∧ more_2' = more_2 ∧ up_7' = up_7 ∧ d_8' = d_8 ∧ many_9' = many_9 ∧ True) ∧ I i_10' w') ∧ μ i_10' w' < μ i_101 w1)  K w1
structure probitylaw26_DiskFails_l0 (bits_1 : Int) (more_2 : Int) (up_7 : Bool) (d_8 : Option Addr) (many_9 : Int) (i_10 : Int)  (K : Bool → World → Prop) (w : World) : Prop where
  out : probitylaw26_DiskFails_l0d bits_1 more_2 up_7 d_8 many_9 i_10 K w

def probitylaw26_DiskFails_sd (n_0 : Int) (bits_1 : Int) (more_2 : Int) (K : Bool → World → Prop) (w : World) : Prop :=
  probitylaw26_sanity_sh (fun (r2 : Bool) (w1 : World) => disk_New_sh (fun (r4 : Option Addr) (w3 : World) => cnd r4.isNone
    (K false w3)
    ((30 : Int) ≠ 0 ∧ inR .i64 (Int.tmod n_0 (30 : Int)) ∧ disk_Disk_Fail_sh r4 (Int.tmod n_0 (30 : Int)) (fun (w5 : World) => probitylaw26_DiskFails_l0 bits_1 more_2 r2 r4 (Int.tmod n_0 (30 : Int)) (0 : Int) K w5) w3)) w1) w

structure probitylaw26_DiskFails_sh (n_0 : Int) (bits_1 : Int) (more_2 : Int) (K : Bool → World → Prop) (w : World) : Prop where
  out : probitylaw26_DiskFails_sd n_0 bits_1 more_2 K w

def probitylaw26_DiskFails_P0 (Kv : VW) (ρ : Rho) (vs : List Value) (w : World) : Prop :=
  match ρ, vs with
  | _, [.int .u32 bits_1, .int .u8 more_2, .bool up_7, .pointer d_8, .int .i64 many_9, .int .i64 i_10] => probitylaw26_DiskFails_l0 bits_1 more_2 up_7 d_8 many_9 i_10  (fun (r0 : Bool) (w' : World) => Kv (Value.bool r0) w') w
  | _, _ => False

def probitylaw26_DiskFails_P1 (Kv : VW) (ρ : Rho) (vs : List Value) (w : World) : Prop :=
  match ρ, vs with
  | N0 :: _, [.int .u32 bits_1, .int .u8 more_2, .bool up_7, .pointer d_8, .int .i64 many_9, .int .i64 i_10, .int .i64 want_11] => probitylaw26_DiskFails_k1 bits_1 more_2 up_7 d_8 many_9 i_10 want_11 (fun (bits_1' : Int) (more_2' : Int) (up_7' : Bool) (d_8' : Option Addr) (many_9' : Int) (i_10' : Int) (w' : World) => N0 [(Value.int .u32 bits_1'), (Value.int .u8 more_2'), (Value.bool up_7'), (Value.pointer d_8'), (Value.int .i64 many_9'), (Value.int .i64 i_10')] w') (fun (r0 : Bool) (w' : World) => Kv (Value.bool r0) w') w
  | _, _ => False

noncomputable def probitylaw26_DiskFails_S : Pw.Spec := fun vs w Kv =>
  match vs with
  | [.int .u8 n_0, .int .u32 bits_1, .int .u8 more_2] => probitylaw26_DiskFails_sh n_0 bits_1 more_2 (fun (r0 : Bool) (w' : World) => Kv (Value.bool r0) w') w
  | _ => False

noncomputable def probitylaw26_DiskFails_E : Pw.Env := [(12, probitylaw26_sanity_S), (13, disk_New_S), (16, disk_Disk_Size_S), (18, disk_Disk_Calls_S), (25, disk_Disk_Sync_S), (27, disk_Disk_Write_S), (29, disk_Disk_Fail_S)]

noncomputable def probitylaw26_DiskFails_C : Code := (Try.f6.body).getD .skip

noncomputable def probitylaw26_DiskFails_A (Kv : VW) : Pw.A :=
  (A.seq (A.reg (RA.run RA.done))
   (A.seq (A.reg (RA.run (RA.run RA.done)))
   (A.seq (A.reg (RA.run (RA.run RA.done)))
   (A.seq (A.seq (A.reg (RA.run (RA.run RA.done)))
   (A.cond (A.seq (A.reg (RA.run RA.done))
   A.leaf)
   A.leaf))
   (A.seq (A.reg (RA.run (RA.run (RA.run (RA.run RA.done)))))
   (A.seq (A.reg (RA.run (RA.run (RA.run RA.done))))
   (A.seq (A.seq (A.reg (RA.run RA.done))
   (A.blk (A.loop [1, 2, 7, 8, 9, 10] (probitylaw26_DiskFails_P0 Kv) (A.seq (A.seq (A.reg (RA.run (RA.run (RA.run (RA.run (RA.run (RA.run (RA.run (RA.run RA.done)))))))))
   (A.cond A.leaf
   A.leaf))
   (A.seq (A.blk (A.seq (A.reg (RA.run RA.done))
   (A.seq (A.seq (A.reg (RA.run (RA.run (RA.run RA.done))))
   (A.cond (A.reg (RA.run RA.done))
   A.leaf))
   (A.cut [1, 2, 7, 8, 9, 10, 11] (probitylaw26_DiskFails_P1 Kv) (A.seq (A.reg (RA.run (RA.run (RA.run (RA.run (RA.run (RA.run RA.done)))))))
   (A.cond (A.seq (A.reg (RA.run (RA.run (RA.run (RA.run RA.done)))))
   (A.cond (A.seq (A.reg (RA.run RA.done))
   A.leaf)
   A.leaf))
   (A.seq (A.reg (RA.run (RA.run (RA.run (RA.run (RA.run RA.done))))))
   (A.cond (A.seq (A.reg (RA.run RA.done))
   A.leaf)
   A.leaf))))))))
   (A.reg (RA.run (RA.run (RA.run RA.done)))))))))
   (A.seq (A.reg (RA.run (RA.run (RA.run RA.done))))
   (A.seq (A.reg (RA.run (RA.run (RA.run RA.done))))
   (A.seq (A.reg (RA.run (RA.run RA.done)))
   (A.seq (A.reg (RA.run (RA.run (RA.run RA.done))))
   (A.seq (A.reg (RA.run (RA.run (RA.spl 62 (RA.run (RA.run (RA.run (RA.run (RA.run (RA.spl 67 (RA.run (RA.run (RA.run (RA.run (RA.run (RA.spl 72 (RA.run (RA.run (RA.run (RA.run (RA.spl 76 (RA.run (RA.run (RA.run (RA.run (RA.run (RA.run (RA.run RA.done))))))) (RA.skp (RA.skp (RA.skp (RA.skp (RA.skp (RA.run (RA.run RA.done)))))))))))) (RA.skp (RA.skp (RA.run (RA.run (RA.skp (RA.skp (RA.skp (RA.skp (RA.skp (RA.run (RA.run RA.done))))))))))))))))) (RA.skp (RA.skp (RA.skp (RA.run (RA.run (RA.skp (RA.skp (RA.run (RA.run (RA.skp (RA.skp (RA.skp (RA.skp (RA.skp (RA.run (RA.run RA.done)))))))))))))))))))))) (RA.skp (RA.skp (RA.skp (RA.run (RA.run (RA.skp (RA.skp (RA.skp (RA.run (RA.run (RA.skp (RA.skp (RA.run (RA.run (RA.skp (RA.skp (RA.skp (RA.skp (RA.skp (RA.run (RA.run RA.done)))))))))))))))))))))))))
   A.leaf))))))))))))

noncomputable def probitylaw26_DiskFails_O (Kv : VW) : List Ob := (obs Try.prog probitylaw26_DiskFails_E 83 (probitylaw26_DiskFails_A Kv) probitylaw26_DiskFails_C (fun _ => retQ Try.prog Try.f6.results Kv))

theorem probitylaw26_DiskFails_e (Kv : VW) (n_0 : Int) (bits_1 : Int) (more_2 : Int) (w : World) : probitylaw26_DiskFails_sd n_0 bits_1 more_2 (fun (r0 : Bool) (w' : World) => Kv (Value.bool r0) w') w = W Try.prog probitylaw26_DiskFails_E 83 (probitylaw26_DiskFails_A Kv) probitylaw26_DiskFails_C [] (retQ Try.prog Try.f6.results Kv) (startS [(Value.int .u8 n_0), (Value.int .u32 bits_1), (Value.int .u8 more_2)]) w := by kernel_rfl

theorem probitylaw26_DiskFails_e0 (Kv : VW) (N0 : List Value → World → Prop) (ρ : Rho) (bits_1 : Int) (more_2 : Int) (up_7 : Bool) (d_8 : Option Addr) (many_9 : Int) (i_10 : Int) (w : World) : probitylaw26_DiskFails_b0 bits_1 more_2 up_7 d_8 many_9 i_10 (fun (bits_1' : Int) (more_2' : Int) (up_7' : Bool) (d_8' : Option Addr) (many_9' : Int) (i_10' : Int) (w' : World) => N0 [(Value.int .u32 bits_1'), (Value.int .u8 more_2'), (Value.bool up_7'), (Value.pointer d_8'), (Value.int .i64 many_9'), (Value.int .i64 i_10')] w')  (fun (r0 : Bool) (w' : World) => Kv (Value.bool r0) w') w = goalAt Try.prog probitylaw26_DiskFails_E 83 (probitylaw26_DiskFails_O Kv) 0 (N0 :: ρ) [(Value.int .u32 bits_1), (Value.int .u8 more_2), (Value.bool up_7), (Value.pointer d_8), (Value.int .i64 many_9), (Value.int .i64 i_10)] w := by kernel_rfl

theorem probitylaw26_DiskFails_q0 (Kv : VW) (ρ : Rho) (vs : List Value) (w : World) : labAt (probitylaw26_DiskFails_O Kv) 0 ρ vs w = probitylaw26_DiskFails_P0 Kv ρ vs w := by kernel_rfl

def probitylaw26_DiskFails_I0 (bits_10 : Int) (more_20 : Int) (up_70 : Bool) (d_80 : Option Addr) (many_90 : Int) (I : Int → World → Prop) (vs : List Value) (w : World) : Prop :=
  match vs with
  | [.int .u32 bits_1, .int .u8 more_2, .bool up_7, .pointer d_8, .int .i64 many_9, .int .i64 i_10] => (bits_1 = bits_10 ∧ more_2 = more_20 ∧ up_7 = up_70 ∧ d_8 = d_80 ∧ many_9 = many_90 ∧ True) ∧ I i_10 w
  | _ => False

def probitylaw26_DiskFails_M0 (μ : Int → World → Nat) (vs : List Value) (w : World) : Nat :=
  match vs with
  | [.int .u32 bits_1, .int .u8 more_2, .bool up_7, .pointer d_8, .int .i64 many_9, .int .i64 i_10] => μ i_10 w
  | _ => 0

theorem probitylaw26_DiskFails_h0 (Kv : VW) : holdsAt Try.prog probitylaw26_DiskFails_E 83 (probitylaw26_DiskFails_O Kv) 0 := holdsAt_loop (by kernel_rfl) (fun ρ vs w h => by
  rw [probitylaw26_DiskFails_q0] at h
  unfold probitylaw26_DiskFails_P0 at h
  split at h
  · rename_i ρt bits_1 more_2 up_7 d_8 many_9 i_10
    obtain ⟨I, μ, h0, hr⟩ := h.out
    refine ⟨probitylaw26_DiskFails_I0 bits_1 more_2 up_7 d_8 many_9 I, probitylaw26_DiskFails_M0 μ, ⟨⟨rfl, rfl, rfl, rfl, rfl, trivial⟩, h0⟩, fun vs w hI => ?_⟩
    unfold probitylaw26_DiskFails_I0 at hI
    split at hI
    · obtain ⟨⟨h0, h1, h2, h3, h4, _⟩, hI⟩ := hI
      cases h0; cases h1; cases h2; cases h3; cases h4
      rw [← probitylaw26_DiskFails_e0]
      exact hr _ _ hI
    · exact hI.elim
  · exact h.elim)

theorem probitylaw26_DiskFails_e1 (Kv : VW) (N0 : List Value → World → Prop) (ρ : Rho) (bits_1 : Int) (more_2 : Int) (up_7 : Bool) (d_8 : Option Addr) (many_9 : Int) (i_10 : Int) (want_11 : Int) (w : World) : probitylaw26_DiskFails_k1d bits_1 more_2 up_7 d_8 many_9 i_10 want_11 (fun (bits_1' : Int) (more_2' : Int) (up_7' : Bool) (d_8' : Option Addr) (many_9' : Int) (i_10' : Int) (w' : World) => N0 [(Value.int .u32 bits_1'), (Value.int .u8 more_2'), (Value.bool up_7'), (Value.pointer d_8'), (Value.int .i64 many_9'), (Value.int .i64 i_10')] w') (fun (r0 : Bool) (w' : World) => Kv (Value.bool r0) w') w = goalAt Try.prog probitylaw26_DiskFails_E 83 (probitylaw26_DiskFails_O Kv) 1 (N0 :: ρ) [(Value.int .u32 bits_1), (Value.int .u8 more_2), (Value.bool up_7), (Value.pointer d_8), (Value.int .i64 many_9), (Value.int .i64 i_10), (Value.int .i64 want_11)] w := by kernel_rfl

theorem probitylaw26_DiskFails_q1 (Kv : VW) (ρ : Rho) (vs : List Value) (w : World) : labAt (probitylaw26_DiskFails_O Kv) 1 ρ vs w = probitylaw26_DiskFails_P1 Kv ρ vs w := by kernel_rfl

theorem probitylaw26_DiskFails_h1 (Kv : VW) : holdsAt Try.prog probitylaw26_DiskFails_E 83 (probitylaw26_DiskFails_O Kv) 1 := holdsAt_cut (by kernel_rfl) (fun ρ vs w h => by
  rw [probitylaw26_DiskFails_q1] at h
  unfold probitylaw26_DiskFails_P1 at h
  split at h
  · rw [← probitylaw26_DiskFails_e1]; exact h.out
  · exact h.elim)

theorem probitylaw26_DiskFails_n (Kv : VW) : obAt (probitylaw26_DiskFails_O Kv) 2 = none := by kernel_rfl

theorem probitylaw26_DiskFails_h (Kv : VW) : ∀ k, holdsAt Try.prog probitylaw26_DiskFails_E 83 (probitylaw26_DiskFails_O Kv) k := fun k => match k with
  | 0 => probitylaw26_DiskFails_h0 Kv
  | 1 => probitylaw26_DiskFails_h1 Kv
  | k + 2 => holdsAt_ge (probitylaw26_DiskFails_n Kv) (Nat.le_add_left _ _)

theorem probitylaw26_DiskFails_ok : Sound Try.prog 6 probitylaw26_DiskFails_S := ⟨Try.call6, fun vs w Kv h => by
  unfold probitylaw26_DiskFails_S at h
  split at h
  · have h := h.out
    rw [probitylaw26_DiskFails_e] at h
    exact calls_sound (Γ := probitylaw26_DiskFails_E) progMixed ⟨probitylaw26_sanity_ok, disk_New_ok, disk_Disk_Size_ok, disk_Disk_Calls_ok, disk_Disk_Sync_ok, disk_Disk_Write_ok, disk_Disk_Fail_ok, trivial⟩ Try.func6 (code := probitylaw26_DiskFails_C) (by kernel_rfl) (probitylaw26_DiskFails_A Kv) Kv (holds_all (probitylaw26_DiskFails_h Kv)) (Nat.le_of_ble_eq_true rfl) h
  · exact h.elim⟩

/-! probitylaw26_DiskOwn -/
def probitylaw26_DiskOwn_sd (s_0 : ByteArray) (q_1 : Sl) (t_2_0 : Int) (t_2_1 : Int) (K : Bool → World → Prop) (w : World) : Prop :=
  let w1 : World := w.alloc (Obj.cells #[(Value.int .i64 t_2_0), (Value.int .i64 t_2_1)] 42)
  probitylaw26_sanity_sh (fun (r3 : Bool) (w2 : World) => disk_New_sh (fun (r5 : Option Addr) (w4 : World) => cnd r5.isNone
    (K false w4)
    ((0 ≤ (0 : Int) ∧ (0 : Int) ≤ (min (s_0.size : Int) (150 : Int)) ∧ (min (s_0.size : Int) (150 : Int)) ≤ (s_0.size : Nat)) ∧ ((((s_0.extract 0 (min (s_0.size : Int) (150 : Int)).toNat).size + (str [101, 110, 100]).size : Nat) : Int) ≤ maxI) ∧ disk_Disk_Write_sh r5 (0 : Int) ((s_0.extract 0 (min (s_0.size : Int) (150 : Int)).toNat) ++ (str [101, 110, 100])) (fun (r7 : Int) (w6 : World) => disk_Disk_Sync_sh r5 (fun (r9 : Int) (w8 : World) => (0 ≤ (0 : Int) ∧ (0 : Int) < (2 : Nat)) ∧ ∃ x10 : Int, w8.cell? ((Addr.mk w.heap.size 0 none).add ((0 : Int).toNat * 1)) = some (Value.int .i64 x10) ∧ probityref26_Mod_sh x10 (100 : Int) (fun (r12 : Int) (w11 : World) => disk_Disk_Write_sh r5 r12 (str [110, 101, 119]) (fun (r14 : Int) (w13 : World) => disk_Disk_Crash_sh r5 q_1 (fun (r16 : Option Addr) (w15 : World) => cnd r16.isNone
    (K false w15)
    (disk_Disk_Read_sh r5 (0 : Int) (500 : Int) (fun (r18 : ByteArray) (w17 : World) => (0 ≤ (1 : Int) ∧ (1 : Int) < (2 : Nat)) ∧ ∃ x19 : Int, w17.cell? ((Addr.mk w.heap.size 0 none).add ((1 : Int).toNat * 1)) = some (Value.int .i64 x19) ∧ probityref26_Mod_sh x19 (100 : Int) (fun (r21 : Int) (w20 : World) => disk_Disk_Write_sh r16 r21 (str [99, 114, 97, 115, 104]) (fun (r23 : Int) (w22 : World) => disk_Disk_Read_sh r16 (0 : Int) (500 : Int) (fun (r25 : ByteArray) (w24 : World) => disk_Disk_Read_sh r5 (0 : Int) (500 : Int) (fun (r27 : ByteArray) (w26 : World) => disk_Disk_Write_sh r5 (0 : Int) (str [99, 104, 97, 110, 103, 101, 100, 32, 97, 103, 97, 105, 110]) (fun (r29 : Int) (w28 : World) => cnd r3
    (cnd (r7 == (0 : Int))
    (cnd (r9 == (0 : Int))
    (cnd (r14 == (0 : Int))
    (cnd (r23 == (0 : Int))
    (cnd (r29 == (0 : Int))
    (cnd (decide (r27 = r18))
    (disk_Disk_Read_sh r16 (0 : Int) (500 : Int) (fun (r31 : ByteArray) (w30 : World) => cnd (decide (r31 = r25))
    (disk_Disk_Calls_sh r16 (fun (r33 : Int) (w32 : World) => K (r33 == (1 : Int)) w32) w30)
    (K false w30)) w28)
    (K false w28))
    (K false w28))
    (K false w28))
    (K false w28))
    (K false w28))
    (K false w28))
    (K false w28)) w26) w24) w22) w20) w17) w15)) w13) w11) w8) w6) w4)) w2) w1

structure probitylaw26_DiskOwn_sh (s_0 : ByteArray) (q_1 : Sl) (t_2_0 : Int) (t_2_1 : Int) (K : Bool → World → Prop) (w : World) : Prop where
  out : probitylaw26_DiskOwn_sd s_0 q_1 t_2_0 t_2_1 K w

noncomputable def probitylaw26_DiskOwn_S : Pw.Spec := fun vs w Kv =>
  match vs with
  | [.string s_0, .slice q_1p q_1l q_1c, .agg ⟨[.int .i64 t_2_0, .int .i64 t_2_1]⟩] => probitylaw26_DiskOwn_sh s_0 ⟨q_1p, q_1l, q_1c⟩ t_2_0 t_2_1 (fun (r0 : Bool) (w' : World) => Kv (Value.bool r0) w') w
  | _ => False

noncomputable def probitylaw26_DiskOwn_E : Pw.Env := [(12, probitylaw26_sanity_S), (13, disk_New_S), (18, disk_Disk_Calls_S), (21, probityref26_Mod_S), (22, disk_Disk_Crash_S), (25, disk_Disk_Sync_S), (26, disk_Disk_Read_S), (27, disk_Disk_Write_S)]

noncomputable def probitylaw26_DiskOwn_C : Code := (Try.f7.body).getD .skip

noncomputable def probitylaw26_DiskOwn_A (Kv : VW) : Pw.A :=
  (A.seq (A.reg (RA.run (RA.run RA.done)))
   (A.seq (A.reg (RA.run (RA.run RA.done)))
   (A.seq (A.reg (RA.run (RA.run RA.done)))
   (A.seq (A.seq (A.reg (RA.run (RA.run RA.done)))
   (A.cond (A.seq (A.reg (RA.run RA.done))
   A.leaf)
   A.leaf))
   (A.seq (A.reg (RA.run (RA.run (RA.run (RA.run (RA.run (RA.run (RA.run RA.done))))))))
   (A.seq (A.reg (RA.run (RA.run (RA.run (RA.run RA.done)))))
   (A.seq (A.reg (RA.run (RA.run (RA.run RA.done))))
   (A.seq (A.reg (RA.run (RA.run (RA.run (RA.run (RA.run (RA.run RA.done)))))))
   (A.seq (A.reg (RA.run (RA.run (RA.run (RA.run RA.done)))))
   (A.seq (A.seq (A.reg (RA.run (RA.run RA.done)))
   (A.cond (A.seq (A.reg (RA.run RA.done))
   A.leaf)
   A.leaf))
   (A.seq (A.reg (RA.run (RA.run (RA.run RA.done))))
   (A.seq (A.reg (RA.run (RA.run (RA.run (RA.run (RA.run (RA.run RA.done)))))))
   (A.seq (A.reg (RA.run (RA.run (RA.run RA.done))))
   (A.seq (A.reg (RA.run (RA.run (RA.run (RA.run (RA.run RA.done))))))
   (A.seq (A.reg (RA.run (RA.run (RA.run RA.done))))
   (A.seq (A.reg (RA.run (RA.run (RA.spl 60 (RA.run (RA.run (RA.run (RA.run (RA.spl 64 (RA.run (RA.run (RA.run (RA.run (RA.spl 68 (RA.run (RA.run (RA.run (RA.run (RA.spl 72 (RA.run (RA.run (RA.run (RA.run (RA.spl 76 (RA.run (RA.run (RA.run (RA.run (RA.spl 80 (RA.run (RA.run (RA.run (RA.spl 83 (RA.run (RA.run (RA.run (RA.run (RA.run (RA.run (RA.spl 89 (RA.run (RA.run (RA.run (RA.run (RA.run RA.done))))) (RA.skp (RA.skp (RA.skp (RA.run (RA.run RA.done)))))))))))) (RA.skp (RA.skp (RA.skp (RA.skp (RA.run (RA.run (RA.skp (RA.skp (RA.skp (RA.run (RA.run RA.done))))))))))))))) (RA.skp (RA.run (RA.run (RA.skp (RA.skp (RA.skp (RA.skp (RA.run (RA.run (RA.skp (RA.skp (RA.skp (RA.run (RA.run RA.done))))))))))))))))))) (RA.skp (RA.skp (RA.run (RA.run (RA.skp (RA.run (RA.run (RA.skp (RA.skp (RA.skp (RA.skp (RA.run (RA.run (RA.skp (RA.skp (RA.skp (RA.run (RA.run RA.done))))))))))))))))))))))) (RA.skp (RA.skp (RA.run (RA.run (RA.skp (RA.skp (RA.run (RA.run (RA.skp (RA.run (RA.run (RA.skp (RA.skp (RA.skp (RA.skp (RA.run (RA.run (RA.skp (RA.skp (RA.skp (RA.run (RA.run RA.done))))))))))))))))))))))))))) (RA.skp (RA.skp (RA.run (RA.run (RA.skp (RA.skp (RA.run (RA.run (RA.skp (RA.skp (RA.run (RA.run (RA.skp (RA.run (RA.run (RA.skp (RA.skp (RA.skp (RA.skp (RA.run (RA.run (RA.skp (RA.skp (RA.skp (RA.run (RA.run RA.done))))))))))))))))))))))))))))))) (RA.skp (RA.skp (RA.run (RA.run (RA.skp (RA.skp (RA.run (RA.run (RA.skp (RA.skp (RA.run (RA.run (RA.skp (RA.skp (RA.run (RA.run (RA.skp (RA.run (RA.run (RA.skp (RA.skp (RA.skp (RA.skp (RA.run (RA.run (RA.skp (RA.skp (RA.skp (RA.run (RA.run RA.done))))))))))))))))))))))))))))))))))) (RA.skp (RA.skp (RA.run (RA.run (RA.skp (RA.skp (RA.run (RA.run (RA.skp (RA.skp (RA.run (RA.run (RA.skp (RA.skp (RA.run (RA.run (RA.skp (RA.skp (RA.run (RA.run (RA.skp (RA.run (RA.run (RA.skp (RA.skp (RA.skp (RA.skp (RA.run (RA.run (RA.skp (RA.skp (RA.skp (RA.run (RA.run RA.done))))))))))))))))))))))))))))))))))))))
   A.leaf))))))))))))))))

noncomputable def probitylaw26_DiskOwn_O (Kv : VW) : List Ob := (obs Try.prog probitylaw26_DiskOwn_E 94 (probitylaw26_DiskOwn_A Kv) probitylaw26_DiskOwn_C (fun _ => retQ Try.prog Try.f7.results Kv))

theorem probitylaw26_DiskOwn_e (Kv : VW) (s_0 : ByteArray) (q_1p : Option Addr) (q_1l q_1c : Nat) (t_2_0 : Int) (t_2_1 : Int) (w : World) : probitylaw26_DiskOwn_sd s_0 ⟨q_1p, q_1l, q_1c⟩ t_2_0 t_2_1 (fun (r0 : Bool) (w' : World) => Kv (Value.bool r0) w') w = W Try.prog probitylaw26_DiskOwn_E 94 (probitylaw26_DiskOwn_A Kv) probitylaw26_DiskOwn_C [] (retQ Try.prog Try.f7.results Kv) (startS [(Value.string s_0), (Value.slice q_1p q_1l q_1c), (Value.agg #[(Value.int .i64 t_2_0), (Value.int .i64 t_2_1)])]) w := by kernel_rfl

theorem probitylaw26_DiskOwn_n (Kv : VW) : obAt (probitylaw26_DiskOwn_O Kv) 0 = none := by kernel_rfl

theorem probitylaw26_DiskOwn_h (Kv : VW) : ∀ k, holdsAt Try.prog probitylaw26_DiskOwn_E 94 (probitylaw26_DiskOwn_O Kv) k := fun _ => holdsAt_ge (probitylaw26_DiskOwn_n Kv) (Nat.zero_le _)

theorem probitylaw26_DiskOwn_ok : Sound Try.prog 7 probitylaw26_DiskOwn_S := ⟨Try.call7, fun vs w Kv h => by
  unfold probitylaw26_DiskOwn_S at h
  split at h
  · have h := h.out
    rw [probitylaw26_DiskOwn_e] at h
    exact calls_sound (Γ := probitylaw26_DiskOwn_E) progMixed ⟨probitylaw26_sanity_ok, disk_New_ok, disk_Disk_Calls_ok, probityref26_Mod_ok, disk_Disk_Crash_ok, disk_Disk_Sync_ok, disk_Disk_Read_ok, disk_Disk_Write_ok, trivial⟩ Try.func7 (code := probitylaw26_DiskOwn_C) (by kernel_rfl) (probitylaw26_DiskOwn_A Kv) Kv (holds_all (probitylaw26_DiskOwn_h Kv)) (Nat.le_of_ble_eq_true rfl) h
  · exact h.elim⟩

end Go.Proofs.Ytmhjekbdpnocaaa
