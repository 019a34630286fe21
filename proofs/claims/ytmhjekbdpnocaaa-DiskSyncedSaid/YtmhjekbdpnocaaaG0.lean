/- The bodies' formulas, by program. -/
import Derived.Test.YtmhjekbdpnocaaaProg
import Derived.KernelRfl
import Derived.Test.YtmhjekbdpnocaaaPwF
namespace Go.Proofs.Ytmhjekbdpnocaaa
open Go Pw
theorem progMixed : Try.prog.follows .mixedOrders = true := by kernel_rfl
/-! disk_New -/
def disk_New_sd  (K : Option Addr → World → Prop) (w : World) : Prop :=
  let w1 : World := w.alloc (Obj.cells #[(Value.slice none 0 0), (Value.slice none 0 0), (Value.slice none 0 0), (Value.int .i64 (0 : Int)), (Value.bool false), (Value.int .i64 (0 : Int))] 61)
  K (some (Addr.mk w.heap.size 0 none)) w1

structure disk_New_sh  (K : Option Addr → World → Prop) (w : World) : Prop where
  out : disk_New_sd  K w

noncomputable def disk_New_S : Pw.Spec := fun vs w Kv =>
  match vs with
  | [] => disk_New_sh  (fun (r0 : Option Addr) (w' : World) => Kv (Value.pointer r0) w') w
  | _ => False

noncomputable def disk_New_E : Pw.Env := []

noncomputable def disk_New_C : Code := (Try.f13.body).getD .skip

noncomputable def disk_New_A (Kv : VW) : Pw.A :=
  (A.seq (A.reg (RA.run RA.done))
   (A.seq (A.reg (RA.run (RA.run (RA.run RA.done))))
   A.leaf))

noncomputable def disk_New_O (Kv : VW) : List Ob := (obs Try.prog disk_New_E 3 (disk_New_A Kv) disk_New_C (fun _ => retQ Try.prog Try.f13.results Kv))

theorem disk_New_e (Kv : VW)  (w : World) : disk_New_sd  (fun (r0 : Option Addr) (w' : World) => Kv (Value.pointer r0) w') w = W Try.prog disk_New_E 3 (disk_New_A Kv) disk_New_C [] (retQ Try.prog Try.f13.results Kv) (startS []) w := by kernel_rfl

theorem disk_New_n (Kv : VW) : obAt (disk_New_O Kv) 0 = none := by kernel_rfl

theorem disk_New_h (Kv : VW) : ∀ k, holdsAt Try.prog disk_New_E 3 (disk_New_O Kv) k := fun _ => holdsAt_ge (disk_New_n Kv) (Nat.zero_le _)

theorem disk_New_ok : Sound Try.prog 13 disk_New_S := ⟨Try.call13, fun vs w Kv h => by
  unfold disk_New_S at h
  split at h
  · have h := h.out
    rw [disk_New_e] at h
    exact calls_sound (Γ := disk_New_E) progMixed trivial Try.func13 (code := disk_New_C) (by kernel_rfl) (disk_New_A Kv) Kv (holds_all (disk_New_h Kv)) (Nat.le_of_ble_eq_true rfl) h
  · exact h.elim⟩

/-! probityref26_New -/
def probityref26_New_sd  (K : Option Addr → World → Prop) (w : World) : Prop :=
  let w1 : World := w.alloc (Obj.cells #[(Value.string (str [])), (Value.string (str [])), (Value.slice none 0 0), (Value.int .i64 (0 : Int)), (Value.int .i64 (0 : Int)), (Value.bool false)] 65)
  K (some (Addr.mk w.heap.size 0 none)) w1

structure probityref26_New_sh  (K : Option Addr → World → Prop) (w : World) : Prop where
  out : probityref26_New_sd  K w

noncomputable def probityref26_New_S : Pw.Spec := fun vs w Kv =>
  match vs with
  | [] => probityref26_New_sh  (fun (r0 : Option Addr) (w' : World) => Kv (Value.pointer r0) w') w
  | _ => False

noncomputable def probityref26_New_E : Pw.Env := []

noncomputable def probityref26_New_C : Code := (Try.f14.body).getD .skip

noncomputable def probityref26_New_A (Kv : VW) : Pw.A :=
  (A.seq (A.reg (RA.run RA.done))
   (A.seq (A.reg (RA.run (RA.run (RA.run RA.done))))
   A.leaf))

noncomputable def probityref26_New_O (Kv : VW) : List Ob := (obs Try.prog probityref26_New_E 3 (probityref26_New_A Kv) probityref26_New_C (fun _ => retQ Try.prog Try.f14.results Kv))

theorem probityref26_New_e (Kv : VW)  (w : World) : probityref26_New_sd  (fun (r0 : Option Addr) (w' : World) => Kv (Value.pointer r0) w') w = W Try.prog probityref26_New_E 3 (probityref26_New_A Kv) probityref26_New_C [] (retQ Try.prog Try.f14.results Kv) (startS []) w := by kernel_rfl

theorem probityref26_New_n (Kv : VW) : obAt (probityref26_New_O Kv) 0 = none := by kernel_rfl

theorem probityref26_New_h (Kv : VW) : ∀ k, holdsAt Try.prog probityref26_New_E 3 (probityref26_New_O Kv) k := fun _ => holdsAt_ge (probityref26_New_n Kv) (Nat.zero_le _)

theorem probityref26_New_ok : Sound Try.prog 14 probityref26_New_S := ⟨Try.call14, fun vs w Kv h => by
  unfold probityref26_New_S at h
  split at h
  · have h := h.out
    rw [probityref26_New_e] at h
    exact calls_sound (Γ := probityref26_New_E) progMixed trivial Try.func14 (code := probityref26_New_C) (by kernel_rfl) (probityref26_New_A Kv) Kv (holds_all (probityref26_New_h Kv)) (Nat.le_of_ble_eq_true rfl) h
  · exact h.elim⟩

/-! probityref26_Mod -/
def probityref26_Mod_sd (n_0 : Int) (m_1 : Int) (K : Int → World → Prop) (w : World) : Prop :=
  m_1 ≠ 0 ∧ inR .i64 ((Int.tmod n_0 m_1) + m_1) ∧ m_1 ≠ 0 ∧ K (Int.tmod ((Int.tmod n_0 m_1) + m_1) m_1) w

structure probityref26_Mod_sh (n_0 : Int) (m_1 : Int) (K : Int → World → Prop) (w : World) : Prop where
  out : probityref26_Mod_sd n_0 m_1 K w

noncomputable def probityref26_Mod_S : Pw.Spec := fun vs w Kv =>
  match vs with
  | [.int .i64 n_0, .int .i64 m_1] => probityref26_Mod_sh n_0 m_1 (fun (r0 : Int) (w' : World) => Kv (Value.int .i64 r0) w') w
  | _ => False

noncomputable def probityref26_Mod_E : Pw.Env := []

noncomputable def probityref26_Mod_C : Code := (Try.f21.body).getD .skip

noncomputable def probityref26_Mod_A (Kv : VW) : Pw.A :=
  (A.seq (A.reg (RA.run RA.done))
   (A.seq (A.reg (RA.run (RA.run (RA.run (RA.run (RA.run (RA.run (RA.run (RA.run RA.done)))))))))
   A.leaf))

noncomputable def probityref26_Mod_O (Kv : VW) : List Ob := (obs Try.prog probityref26_Mod_E 12 (probityref26_Mod_A Kv) probityref26_Mod_C (fun _ => retQ Try.prog Try.f21.results Kv))

theorem probityref26_Mod_e (Kv : VW) (n_0 : Int) (m_1 : Int) (w : World) : probityref26_Mod_sd n_0 m_1 (fun (r0 : Int) (w' : World) => Kv (Value.int .i64 r0) w') w = W Try.prog probityref26_Mod_E 12 (probityref26_Mod_A Kv) probityref26_Mod_C [] (retQ Try.prog Try.f21.results Kv) (startS [(Value.int .i64 n_0), (Value.int .i64 m_1)]) w := by kernel_rfl

theorem probityref26_Mod_n (Kv : VW) : obAt (probityref26_Mod_O Kv) 0 = none := by kernel_rfl

theorem probityref26_Mod_h (Kv : VW) : ∀ k, holdsAt Try.prog probityref26_Mod_E 12 (probityref26_Mod_O Kv) k := fun _ => holdsAt_ge (probityref26_Mod_n Kv) (Nat.zero_le _)

theorem probityref26_Mod_ok : Sound Try.prog 21 probityref26_Mod_S := ⟨Try.call21, fun vs w Kv h => by
  unfold probityref26_Mod_S at h
  split at h
  · have h := h.out
    rw [probityref26_Mod_e] at h
    exact calls_sound (Γ := probityref26_Mod_E) progMixed trivial Try.func21 (code := probityref26_Mod_C) (by kernel_rfl) (probityref26_Mod_A Kv) Kv (holds_all (probityref26_Mod_h Kv)) (Nat.le_of_ble_eq_true rfl) h
  · exact h.elim⟩

/-! disk_Disk_Size -/
def disk_Disk_Size_sd (d_0 : Option Addr) (K : Int → World → Prop) (w : World) : Prop :=
  cnd d_0.isNone
    (K (0 : Int) w)
    (nz d_0 fun a1 => ∃ x2 : Sl, w.cell? a1 = some (Value.slice x2.p x2.l x2.c) ∧ K (x2.l : Int) w)

structure disk_Disk_Size_sh (d_0 : Option Addr) (K : Int → World → Prop) (w : World) : Prop where
  out : disk_Disk_Size_sd d_0 K w

noncomputable def disk_Disk_Size_S : Pw.Spec := fun vs w Kv =>
  match vs with
  | [.pointer d_0] => disk_Disk_Size_sh d_0 (fun (r0 : Int) (w' : World) => Kv (Value.int .i64 r0) w') w
  | _ => False

noncomputable def disk_Disk_Size_E : Pw.Env := []

noncomputable def disk_Disk_Size_C : Code := (Try.f16.body).getD .skip

noncomputable def disk_Disk_Size_A (Kv : VW) : Pw.A :=
  (A.seq (A.reg (RA.run RA.done))
   (A.seq (A.seq (A.reg (RA.run (RA.run RA.done)))
   (A.cond (A.seq (A.reg (RA.run RA.done))
   A.leaf)
   A.leaf))
   (A.seq (A.reg (RA.run (RA.run (RA.run (RA.run (RA.run (RA.run RA.done)))))))
   A.leaf)))

noncomputable def disk_Disk_Size_O (Kv : VW) : List Ob := (obs Try.prog disk_Disk_Size_E 10 (disk_Disk_Size_A Kv) disk_Disk_Size_C (fun _ => retQ Try.prog Try.f16.results Kv))

theorem disk_Disk_Size_e (Kv : VW) (d_0 : Option Addr) (w : World) : disk_Disk_Size_sd d_0 (fun (r0 : Int) (w' : World) => Kv (Value.int .i64 r0) w') w = W Try.prog disk_Disk_Size_E 10 (disk_Disk_Size_A Kv) disk_Disk_Size_C [] (retQ Try.prog Try.f16.results Kv) (startS [(Value.pointer d_0)]) w := by kernel_rfl

theorem disk_Disk_Size_n (Kv : VW) : obAt (disk_Disk_Size_O Kv) 0 = none := by kernel_rfl

theorem disk_Disk_Size_h (Kv : VW) : ∀ k, holdsAt Try.prog disk_Disk_Size_E 10 (disk_Disk_Size_O Kv) k := fun _ => holdsAt_ge (disk_Disk_Size_n Kv) (Nat.zero_le _)

theorem disk_Disk_Size_ok : Sound Try.prog 16 disk_Disk_Size_S := ⟨Try.call16, fun vs w Kv h => by
  unfold disk_Disk_Size_S at h
  split at h
  · have h := h.out
    rw [disk_Disk_Size_e] at h
    exact calls_sound (Γ := disk_Disk_Size_E) progMixed trivial Try.func16 (code := disk_Disk_Size_C) (by kernel_rfl) (disk_Disk_Size_A Kv) Kv (holds_all (disk_Disk_Size_h Kv)) (Nat.le_of_ble_eq_true rfl) h
  · exact h.elim⟩

/-! probityref26_Disk_Size -/
def probityref26_Disk_Size_sd (d_0 : Option Addr) (K : Int → World → Prop) (w : World) : Prop :=
  nz d_0 fun a1 => ∃ x2 : ByteArray, w.cell? a1 = some (Value.string x2) ∧ K (x2.size : Int) w

structure probityref26_Disk_Size_sh (d_0 : Option Addr) (K : Int → World → Prop) (w : World) : Prop where
  out : probityref26_Disk_Size_sd d_0 K w

noncomputable def probityref26_Disk_Size_S : Pw.Spec := fun vs w Kv =>
  match vs with
  | [.pointer d_0] => probityref26_Disk_Size_sh d_0 (fun (r0 : Int) (w' : World) => Kv (Value.int .i64 r0) w') w
  | _ => False

noncomputable def probityref26_Disk_Size_E : Pw.Env := []

noncomputable def probityref26_Disk_Size_C : Code := (Try.f17.body).getD .skip

noncomputable def probityref26_Disk_Size_A (Kv : VW) : Pw.A :=
  (A.seq (A.reg (RA.run RA.done))
   (A.seq (A.reg (RA.run (RA.run (RA.run (RA.run (RA.run (RA.run RA.done)))))))
   A.leaf))

noncomputable def probityref26_Disk_Size_O (Kv : VW) : List Ob := (obs Try.prog probityref26_Disk_Size_E 8 (probityref26_Disk_Size_A Kv) probityref26_Disk_Size_C (fun _ => retQ Try.prog Try.f17.results Kv))

theorem probityref26_Disk_Size_e (Kv : VW) (d_0 : Option Addr) (w : World) : probityref26_Disk_Size_sd d_0 (fun (r0 : Int) (w' : World) => Kv (Value.int .i64 r0) w') w = W Try.prog probityref26_Disk_Size_E 8 (probityref26_Disk_Size_A Kv) probityref26_Disk_Size_C [] (retQ Try.prog Try.f17.results Kv) (startS [(Value.pointer d_0)]) w := by kernel_rfl

theorem probityref26_Disk_Size_n (Kv : VW) : obAt (probityref26_Disk_Size_O Kv) 0 = none := by kernel_rfl

theorem probityref26_Disk_Size_h (Kv : VW) : ∀ k, holdsAt Try.prog probityref26_Disk_Size_E 8 (probityref26_Disk_Size_O Kv) k := fun _ => holdsAt_ge (probityref26_Disk_Size_n Kv) (Nat.zero_le _)

theorem probityref26_Disk_Size_ok : Sound Try.prog 17 probityref26_Disk_Size_S := ⟨Try.call17, fun vs w Kv h => by
  unfold probityref26_Disk_Size_S at h
  split at h
  · have h := h.out
    rw [probityref26_Disk_Size_e] at h
    exact calls_sound (Γ := probityref26_Disk_Size_E) progMixed trivial Try.func17 (code := probityref26_Disk_Size_C) (by kernel_rfl) (probityref26_Disk_Size_A Kv) Kv (holds_all (probityref26_Disk_Size_h Kv)) (Nat.le_of_ble_eq_true rfl) h
  · exact h.elim⟩

/-! disk_Disk_Calls -/
def disk_Disk_Calls_sd (d_0 : Option Addr) (K : Int → World → Prop) (w : World) : Prop :=
  cnd d_0.isNone
    (K (0 : Int) w)
    (nz d_0 fun a1 => ∃ x2 : Int, w.cell? (a1.add 3) = some (Value.int .i64 x2) ∧ K x2 w)

structure disk_Disk_Calls_sh (d_0 : Option Addr) (K : Int → World → Prop) (w : World) : Prop where
  out : disk_Disk_Calls_sd d_0 K w

noncomputable def disk_Disk_Calls_S : Pw.Spec := fun vs w Kv =>
  match vs with
  | [.pointer d_0] => disk_Disk_Calls_sh d_0 (fun (r0 : Int) (w' : World) => Kv (Value.int .i64 r0) w') w
  | _ => False

noncomputable def disk_Disk_Calls_E : Pw.Env := []

noncomputable def disk_Disk_Calls_C : Code := (Try.f18.body).getD .skip

noncomputable def disk_Disk_Calls_A (Kv : VW) : Pw.A :=
  (A.seq (A.reg (RA.run RA.done))
   (A.seq (A.seq (A.reg (RA.run (RA.run RA.done)))
   (A.cond (A.seq (A.reg (RA.run RA.done))
   A.leaf)
   A.leaf))
   (A.seq (A.reg (RA.run (RA.run (RA.run (RA.run (RA.run RA.done))))))
   A.leaf)))

noncomputable def disk_Disk_Calls_O (Kv : VW) : List Ob := (obs Try.prog disk_Disk_Calls_E 9 (disk_Disk_Calls_A Kv) disk_Disk_Calls_C (fun _ => retQ Try.prog Try.f18.results Kv))

theorem disk_Disk_Calls_e (Kv : VW) (d_0 : Option Addr) (w : World) : disk_Disk_Calls_sd d_0 (fun (r0 : Int) (w' : World) => Kv (Value.int .i64 r0) w') w = W Try.prog disk_Disk_Calls_E 9 (disk_Disk_Calls_A Kv) disk_Disk_Calls_C [] (retQ Try.prog Try.f18.results Kv) (startS [(Value.pointer d_0)]) w := by kernel_rfl

theorem disk_Disk_Calls_n (Kv : VW) : obAt (disk_Disk_Calls_O Kv) 0 = none := by kernel_rfl

theorem disk_Disk_Calls_h (Kv : VW) : ∀ k, holdsAt Try.prog disk_Disk_Calls_E 9 (disk_Disk_Calls_O Kv) k := fun _ => holdsAt_ge (disk_Disk_Calls_n Kv) (Nat.zero_le _)

theorem disk_Disk_Calls_ok : Sound Try.prog 18 disk_Disk_Calls_S := ⟨Try.call18, fun vs w Kv h => by
  unfold disk_Disk_Calls_S at h
  split at h
  · have h := h.out
    rw [disk_Disk_Calls_e] at h
    exact calls_sound (Γ := disk_Disk_Calls_E) progMixed trivial Try.func18 (code := disk_Disk_Calls_C) (by kernel_rfl) (disk_Disk_Calls_A Kv) Kv (holds_all (disk_Disk_Calls_h Kv)) (Nat.le_of_ble_eq_true rfl) h
  · exact h.elim⟩

/-! probityref26_Disk_Calls -/
def probityref26_Disk_Calls_sd (d_0 : Option Addr) (K : Int → World → Prop) (w : World) : Prop :=
  nz d_0 fun a1 => ∃ x2 : Int, w.cell? (a1.add 3) = some (Value.int .i64 x2) ∧ K x2 w

structure probityref26_Disk_Calls_sh (d_0 : Option Addr) (K : Int → World → Prop) (w : World) : Prop where
  out : probityref26_Disk_Calls_sd d_0 K w

noncomputable def probityref26_Disk_Calls_S : Pw.Spec := fun vs w Kv =>
  match vs with
  | [.pointer d_0] => probityref26_Disk_Calls_sh d_0 (fun (r0 : Int) (w' : World) => Kv (Value.int .i64 r0) w') w
  | _ => False

noncomputable def probityref26_Disk_Calls_E : Pw.Env := []

noncomputable def probityref26_Disk_Calls_C : Code := (Try.f19.body).getD .skip

noncomputable def probityref26_Disk_Calls_A (Kv : VW) : Pw.A :=
  (A.seq (A.reg (RA.run RA.done))
   (A.seq (A.reg (RA.run (RA.run (RA.run (RA.run (RA.run RA.done))))))
   A.leaf))

noncomputable def probityref26_Disk_Calls_O (Kv : VW) : List Ob := (obs Try.prog probityref26_Disk_Calls_E 7 (probityref26_Disk_Calls_A Kv) probityref26_Disk_Calls_C (fun _ => retQ Try.prog Try.f19.results Kv))

theorem probityref26_Disk_Calls_e (Kv : VW) (d_0 : Option Addr) (w : World) : probityref26_Disk_Calls_sd d_0 (fun (r0 : Int) (w' : World) => Kv (Value.int .i64 r0) w') w = W Try.prog probityref26_Disk_Calls_E 7 (probityref26_Disk_Calls_A Kv) probityref26_Disk_Calls_C [] (retQ Try.prog Try.f19.results Kv) (startS [(Value.pointer d_0)]) w := by kernel_rfl

theorem probityref26_Disk_Calls_n (Kv : VW) : obAt (probityref26_Disk_Calls_O Kv) 0 = none := by kernel_rfl

theorem probityref26_Disk_Calls_h (Kv : VW) : ∀ k, holdsAt Try.prog probityref26_Disk_Calls_E 7 (probityref26_Disk_Calls_O Kv) k := fun _ => holdsAt_ge (probityref26_Disk_Calls_n Kv) (Nat.zero_le _)

theorem probityref26_Disk_Calls_ok : Sound Try.prog 19 probityref26_Disk_Calls_S := ⟨Try.call19, fun vs w Kv h => by
  unfold probityref26_Disk_Calls_S at h
  split at h
  · have h := h.out
    rw [probityref26_Disk_Calls_e] at h
    exact calls_sound (Γ := probityref26_Disk_Calls_E) progMixed trivial Try.func19 (code := probityref26_Disk_Calls_C) (by kernel_rfl) (probityref26_Disk_Calls_A Kv) Kv (holds_all (probityref26_Disk_Calls_h Kv)) (Nat.le_of_ble_eq_true rfl) h
  · exact h.elim⟩

/-! disk_Disk_call -/
def disk_Disk_call_k1d (d_0 : Option Addr)  (K : Int → World → Prop) (w : World) : Prop :=
  nz d_0 fun a11 => ∃ x12 : Int, w.cell? (a11.add 3) = some (Value.int .i64 x12) ∧ inR .i64 (x12 + (1 : Int)) ∧ nz d_0 fun a13 => wrOk w (a13.add 3) ∧ 
  (let w14 : World := w.setCell (a13.add 3) (Value.int .i64 (x12 + (1 : Int)))
  K (0 : Int) w14)
structure disk_Disk_call_k1 (d_0 : Option Addr)  (K : Int → World → Prop) (w : World) : Prop where
  out : disk_Disk_call_k1d d_0 K w

def disk_Disk_call_k0d (d_0 : Option Addr)  (K : Int → World → Prop) (w : World) : Prop :=
  nz d_0 fun a5 => ∃ x6 : Bool, w.cell? (a5.add 4) = some (Value.bool x6) ∧ cnd x6
    (nz d_0 fun a7 => ∃ x8 : Int, w.cell? (a7.add 5) = some (Value.int .i64 x8) ∧ inR .i64 (x8 - (1 : Int)) ∧ nz d_0 fun a9 => wrOk w (a9.add 5) ∧ 
  (let w10 : World := w.setCell (a9.add 5) (Value.int .i64 (x8 - (1 : Int)))
  disk_Disk_call_k1 d_0 K w10))
    (disk_Disk_call_k1 d_0 K w)
structure disk_Disk_call_k0 (d_0 : Option Addr)  (K : Int → World → Prop) (w : World) : Prop where
  out : disk_Disk_call_k0d d_0 K w

def disk_Disk_call_sd (d_0 : Option Addr) (K : Int → World → Prop) (w : World) : Prop :=
  nz d_0 fun a1 => ∃ x2 : Bool, w.cell? (a1.add 4) = some (Value.bool x2) ∧ cnd x2
    (nz d_0 fun a3 => ∃ x4 : Int, w.cell? (a3.add 5) = some (Value.int .i64 x4) ∧ cnd (x4 == (0 : Int))
    (K (70 : Int) w)
    (disk_Disk_call_k0 d_0 K w))
    (disk_Disk_call_k0 d_0 K w)

structure disk_Disk_call_sh (d_0 : Option Addr) (K : Int → World → Prop) (w : World) : Prop where
  out : disk_Disk_call_sd d_0 K w

def disk_Disk_call_P0 (Kv : VW) (ρ : Rho) (vs : List Value) (w : World) : Prop :=
  match ρ, vs with
  | _, [.pointer d_0] => disk_Disk_call_k0 d_0  (fun (r0 : Int) (w' : World) => Kv (Value.int .i64 r0) w') w
  | _, _ => False

def disk_Disk_call_P1 (Kv : VW) (ρ : Rho) (vs : List Value) (w : World) : Prop :=
  match ρ, vs with
  | _, [.pointer d_0] => disk_Disk_call_k1 d_0  (fun (r0 : Int) (w' : World) => Kv (Value.int .i64 r0) w') w
  | _, _ => False

noncomputable def disk_Disk_call_S : Pw.Spec := fun vs w Kv =>
  match vs with
  | [.pointer d_0] => disk_Disk_call_sh d_0 (fun (r0 : Int) (w' : World) => Kv (Value.int .i64 r0) w') w
  | _ => False

noncomputable def disk_Disk_call_E : Pw.Env := []

noncomputable def disk_Disk_call_C : Code := (Try.f38.body).getD .skip

noncomputable def disk_Disk_call_A (Kv : VW) : Pw.A :=
  (A.seq (A.reg (RA.run RA.done))
   (A.seq (A.seq (A.reg (RA.run (RA.run (RA.run (RA.run (RA.run (RA.spl 7 (RA.run (RA.run (RA.run (RA.run (RA.run (RA.run RA.done)))))) (RA.skp (RA.skp (RA.skp (RA.skp (RA.skp (RA.run RA.done)))))))))))))
   (A.cond (A.seq (A.reg (RA.run RA.done))
   A.leaf)
   A.leaf))
   (A.cut [0] (disk_Disk_call_P0 Kv) (A.seq (A.seq (A.reg (RA.run (RA.run (RA.run (RA.run RA.done)))))
   (A.cond (A.reg (RA.run (RA.run (RA.run (RA.run (RA.run (RA.run (RA.run (RA.run RA.done)))))))))
   A.leaf))
   (A.cut [0] (disk_Disk_call_P1 Kv) (A.seq (A.reg (RA.run (RA.run (RA.run (RA.run (RA.run (RA.run (RA.run (RA.run RA.done)))))))))
   (A.seq (A.reg (RA.run RA.done))
   A.leaf)))))))

noncomputable def disk_Disk_call_O (Kv : VW) : List Ob := (obs Try.prog disk_Disk_call_E 32 (disk_Disk_call_A Kv) disk_Disk_call_C (fun _ => retQ Try.prog Try.f38.results Kv))

theorem disk_Disk_call_e (Kv : VW) (d_0 : Option Addr) (w : World) : disk_Disk_call_sd d_0 (fun (r0 : Int) (w' : World) => Kv (Value.int .i64 r0) w') w = W Try.prog disk_Disk_call_E 32 (disk_Disk_call_A Kv) disk_Disk_call_C [] (retQ Try.prog Try.f38.results Kv) (startS [(Value.pointer d_0)]) w := by kernel_rfl

theorem disk_Disk_call_e0 (Kv : VW) (ρ : Rho) (d_0 : Option Addr) (w : World) : disk_Disk_call_k0d d_0  (fun (r0 : Int) (w' : World) => Kv (Value.int .i64 r0) w') w = goalAt Try.prog disk_Disk_call_E 32 (disk_Disk_call_O Kv) 0 (ρ) [(Value.pointer d_0)] w := by kernel_rfl

theorem disk_Disk_call_q0 (Kv : VW) (ρ : Rho) (vs : List Value) (w : World) : labAt (disk_Disk_call_O Kv) 0 ρ vs w = disk_Disk_call_P0 Kv ρ vs w := by kernel_rfl

theorem disk_Disk_call_h0 (Kv : VW) : holdsAt Try.prog disk_Disk_call_E 32 (disk_Disk_call_O Kv) 0 := holdsAt_cut (by kernel_rfl) (fun ρ vs w h => by
  rw [disk_Disk_call_q0] at h
  unfold disk_Disk_call_P0 at h
  split at h
  · rw [← disk_Disk_call_e0]; exact h.out
  · exact h.elim)

theorem disk_Disk_call_e1 (Kv : VW) (ρ : Rho) (d_0 : Option Addr) (w : World) : disk_Disk_call_k1d d_0  (fun (r0 : Int) (w' : World) => Kv (Value.int .i64 r0) w') w = goalAt Try.prog disk_Disk_call_E 32 (disk_Disk_call_O Kv) 1 (ρ) [(Value.pointer d_0)] w := by kernel_rfl

theorem disk_Disk_call_q1 (Kv : VW) (ρ : Rho) (vs : List Value) (w : World) : labAt (disk_Disk_call_O Kv) 1 ρ vs w = disk_Disk_call_P1 Kv ρ vs w := by kernel_rfl

theorem disk_Disk_call_h1 (Kv : VW) : holdsAt Try.prog disk_Disk_call_E 32 (disk_Disk_call_O Kv) 1 := holdsAt_cut (by kernel_rfl) (fun ρ vs w h => by
  rw [disk_Disk_call_q1] at h
  unfold disk_Disk_call_P1 at h
  split at h
  · rw [← disk_Disk_call_e1]; exact h.out
  · exact h.elim)

theorem disk_Disk_call_n (Kv : VW) : obAt (disk_Disk_call_O Kv) 2 = none := by kernel_rfl

theorem disk_Disk_call_h (Kv : VW) : ∀ k, holdsAt Try.prog disk_Disk_call_E 32 (disk_Disk_call_O Kv) k := fun k => match k with
  | 0 => disk_Disk_call_h0 Kv
  | 1 => disk_Disk_call_h1 Kv
  | k + 2 => holdsAt_ge (disk_Disk_call_n Kv) (Nat.le_add_left _ _)

theorem disk_Disk_call_ok : Sound Try.prog 38 disk_Disk_call_S := ⟨Try.call38, fun vs w Kv h => by
  unfold disk_Disk_call_S at h
  split at h
  · have h := h.out
    rw [disk_Disk_call_e] at h
    exact calls_sound (Γ := disk_Disk_call_E) progMixed trivial Try.func38 (code := disk_Disk_call_C) (by kernel_rfl) (disk_Disk_call_A Kv) Kv (holds_all (disk_Disk_call_h Kv)) (Nat.le_of_ble_eq_true rfl) h
  · exact h.elim⟩

/-! disk_piece__settle -/
def disk_piece__settle_sd (x_0 : Option Addr) (K : World → Prop) (w : World) : Prop :=
  nz x_0 fun a1 => wrOk w a1 ∧ 
  (let w2 : World := w.setCell a1 (Value.slice none 0 0)
  K w2)

structure disk_piece__settle_sh (x_0 : Option Addr) (K : World → Prop) (w : World) : Prop where
  out : disk_piece__settle_sd x_0 K w

noncomputable def disk_piece__settle_S : Pw.Spec := fun vs w Kv =>
  match vs with
  | [.pointer x_0] => disk_piece__settle_sh x_0 (fun (w' : World) => Kv (Value.tuple #[]) w') w
  | _ => False

noncomputable def disk_piece__settle_E : Pw.Env := []

noncomputable def disk_piece__settle_C : Code := (Try.f39.body).getD .skip

noncomputable def disk_piece__settle_A (Kv : VW) : Pw.A :=
  (A.reg (RA.run (RA.run (RA.run (RA.run RA.done)))))

noncomputable def disk_piece__settle_O (Kv : VW) : List Ob := (obs Try.prog disk_piece__settle_E 5 (disk_piece__settle_A Kv) disk_piece__settle_C (fun _ => retQ Try.prog Try.f39.results Kv))

theorem disk_piece__settle_e (Kv : VW) (x_0 : Option Addr) (w : World) : disk_piece__settle_sd x_0 (fun (w' : World) => Kv (Value.tuple #[]) w') w = W Try.prog disk_piece__settle_E 5 (disk_piece__settle_A Kv) disk_piece__settle_C [] (retQ Try.prog Try.f39.results Kv) (startS [(Value.pointer x_0)]) w := by kernel_rfl

theorem disk_piece__settle_n (Kv : VW) : obAt (disk_piece__settle_O Kv) 0 = none := by kernel_rfl

theorem disk_piece__settle_h (Kv : VW) : ∀ k, holdsAt Try.prog disk_piece__settle_E 5 (disk_piece__settle_O Kv) k := fun _ => holdsAt_ge (disk_piece__settle_n Kv) (Nat.zero_le _)

theorem disk_piece__settle_ok : Sound Try.prog 39 disk_piece__settle_S := ⟨Try.call39, fun vs w Kv h => by
  unfold disk_piece__settle_S at h
  split at h
  · have h := h.out
    rw [disk_piece__settle_e] at h
    exact calls_sound (Γ := disk_piece__settle_E) progMixed trivial Try.func39 (code := disk_piece__settle_C) (by kernel_rfl) (disk_piece__settle_A Kv) Kv (holds_all (disk_piece__settle_h Kv)) (Nat.le_of_ble_eq_true rfl) h
  · exact h.elim⟩

/-! disk_piece__add -/
def disk_piece__add_sd (x_0 : Option Addr) (t_1_0 : Int) (t_1_1 : Sl) (K : World → Prop) (w : World) : Prop :=
  let w1 : World := w.alloc (Obj.cells #[(Value.int .i64 t_1_0), (Value.slice t_1_1.p t_1_1.l t_1_1.c)] 68)
  let w2 : World := w1.drew
  ∃ S3 : World → Prop, S3 w2 ∧ nz x_0 fun a4 => ∃ x5 : Sl, (∀ w' : World, S3 w' → w'.cell? a4 = some (Value.slice x5.p x5.l x5.c)) ∧ ∃ x6 : Int, (∀ w' : World, S3 w' → w'.cell? (Addr.mk w.heap.size 0 none) = some (Value.int .i64 x6)) ∧ ∃ x7 : Sl, (∀ w' : World, S3 w' → w'.cell? (Addr.mk w.heap.size 1 none) = some (Value.slice x7.p x7.l x7.c)) ∧ let w8 : World := w2.alloc (Obj.cells #[(Value.int .i64 x6), (Value.slice x7.p x7.l x7.c)] 68)
  S3 w8 ∧ apS 2 32 [(Value.int .i64 (0 : Int)), (Value.slice none 0 0)] 68 x5 (Sl.mk (some (Addr.mk w2.heap.size 0 none)) 1 1) w8 fun (s9 : Sl) (w10 : World) => S3 w10 ∧ nz x_0 fun a11 => wrOk w10 a11 ∧ 
  (let w12 : World := w10.setCell a11 (Value.slice s9.p s9.l s9.c)
  K w12)

structure disk_piece__add_sh (x_0 : Option Addr) (t_1_0 : Int) (t_1_1 : Sl) (K : World → Prop) (w : World) : Prop where
  out : disk_piece__add_sd x_0 t_1_0 t_1_1 K w

noncomputable def disk_piece__add_S : Pw.Spec := fun vs w Kv =>
  match vs with
  | [.pointer x_0, .agg ⟨[.int .i64 t_1_0, .slice t_1_1p t_1_1l t_1_1c]⟩] => disk_piece__add_sh x_0 t_1_0 ⟨t_1_1p, t_1_1l, t_1_1c⟩ (fun (w' : World) => Kv (Value.tuple #[]) w') w
  | _ => False

noncomputable def disk_piece__add_E : Pw.Env := []

noncomputable def disk_piece__add_C : Code := (Try.f40.body).getD .skip

noncomputable def disk_piece__add_A (Kv : VW) : Pw.A :=
  (A.seq (A.reg (RA.run RA.done))
   (A.drw (DA.pur 0 (DA.pur 1 (DA.pur 2 (DA.pur 3 (DA.pur 4 (DA.pur 5 (DA.eff 6 (DA.eff 7 (DA.pur 8 (DA.pur 9 (DA.eff 10 DA.done)))))))))))))

noncomputable def disk_piece__add_O (Kv : VW) : List Ob := (obs Try.prog disk_piece__add_E 14 (disk_piece__add_A Kv) disk_piece__add_C (fun _ => retQ Try.prog Try.f40.results Kv))

theorem disk_piece__add_e (Kv : VW) (x_0 : Option Addr) (t_1_0 : Int) (t_1_1p : Option Addr) (t_1_1l t_1_1c : Nat) (w : World) : disk_piece__add_sd x_0 t_1_0 ⟨t_1_1p, t_1_1l, t_1_1c⟩ (fun (w' : World) => Kv (Value.tuple #[]) w') w = W Try.prog disk_piece__add_E 14 (disk_piece__add_A Kv) disk_piece__add_C [] (retQ Try.prog Try.f40.results Kv) (startS [(Value.pointer x_0), (Value.agg #[(Value.int .i64 t_1_0), (Value.slice t_1_1p t_1_1l t_1_1c)])]) w := by kernel_rfl

theorem disk_piece__add_n (Kv : VW) : obAt (disk_piece__add_O Kv) 0 = none := by kernel_rfl

theorem disk_piece__add_h (Kv : VW) : ∀ k, holdsAt Try.prog disk_piece__add_E 14 (disk_piece__add_O Kv) k := fun _ => holdsAt_ge (disk_piece__add_n Kv) (Nat.zero_le _)

theorem disk_piece__add_ok : Sound Try.prog 40 disk_piece__add_S := ⟨Try.call40, fun vs w Kv h => by
  unfold disk_piece__add_S at h
  split at h
  · have h := h.out
    rw [disk_piece__add_e] at h
    exact calls_sound (Γ := disk_piece__add_E) progMixed trivial Try.func40 (code := disk_piece__add_C) (by kernel_rfl) (disk_piece__add_A Kv) Kv (holds_all (disk_piece__add_h Kv)) (Nat.le_of_ble_eq_true rfl) h
  · exact h.elim⟩

/-! disk_put -/
def disk_put_k0d (c_0 : Sl) (off_1 : Int) (s_2 : Sl)  (K : Sl → World → Prop) (w : World) : Prop :=
  (0 ≤ off_1 ∧ off_1 ≤ (c_0.l : Nat)) ∧ cpS 1 (Sl.mk (subP c_0.p off_1.toNat c_0.c 1) (c_0.l - off_1.toNat) (c_0.c - off_1.toNat)) s_2 w fun (x3 : Int) (w4 : World) => K c_0 w4
structure disk_put_k0 (c_0 : Sl) (off_1 : Int) (s_2 : Sl)  (K : Sl → World → Prop) (w : World) : Prop where
  out : disk_put_k0d c_0 off_1 s_2 K w

def disk_put_sd (c_0 : Sl) (off_1 : Int) (s_2 : Sl) (K : Sl → World → Prop) (w : World) : Prop :=
  inR .i64 (off_1 + (s_2.l : Int)) ∧ inR .i64 ((off_1 + (s_2.l : Int)) - (c_0.l : Int)) ∧ cnd (decide (((off_1 + (s_2.l : Int)) - (c_0.l : Int)) > (0 : Int)))
    (apZ 1 1 [(Value.int .u8 (0 : Int))] 5 c_0 ((off_1 + (s_2.l : Int)) - (c_0.l : Int)) w fun (s1 : Sl) (w2 : World) => disk_put_k0 s1 off_1 s_2 K w2)
    (disk_put_k0 c_0 off_1 s_2 K w)

structure disk_put_sh (c_0 : Sl) (off_1 : Int) (s_2 : Sl) (K : Sl → World → Prop) (w : World) : Prop where
  out : disk_put_sd c_0 off_1 s_2 K w

def disk_put_P0 (Kv : VW) (ρ : Rho) (vs : List Value) (w : World) : Prop :=
  match ρ, vs with
  | _, [.slice c_0p c_0l c_0c, .int .i64 off_1, .slice s_2p s_2l s_2c] => disk_put_k0 ⟨c_0p, c_0l, c_0c⟩ off_1 ⟨s_2p, s_2l, s_2c⟩  (fun (r0 : Sl) (w' : World) => Kv (Value.slice r0.p r0.l r0.c) w') w
  | _, _ => False

noncomputable def disk_put_S : Pw.Spec := fun vs w Kv =>
  match vs with
  | [.slice c_0p c_0l c_0c, .int .i64 off_1, .slice s_2p s_2l s_2c] => disk_put_sh ⟨c_0p, c_0l, c_0c⟩ off_1 ⟨s_2p, s_2l, s_2c⟩ (fun (r0 : Sl) (w' : World) => Kv (Value.slice r0.p r0.l r0.c) w') w
  | _ => False

noncomputable def disk_put_E : Pw.Env := []

noncomputable def disk_put_C : Code := (Try.f36.body).getD .skip

noncomputable def disk_put_A (Kv : VW) : Pw.A :=
  (A.seq (A.reg (RA.run RA.done))
   (A.seq (A.seq (A.reg (RA.run (RA.run (RA.run (RA.run (RA.run (RA.run (RA.run (RA.run RA.done)))))))))
   (A.seq (A.reg (RA.run (RA.run RA.done)))
   (A.cond (A.reg (RA.run (RA.run (RA.run (RA.run RA.done)))))
   A.leaf)))
   (A.cut [0, 1, 2] (disk_put_P0 Kv) (A.seq (A.reg (RA.run (RA.run (RA.run (RA.run (RA.run RA.done))))))
   (A.seq (A.reg (RA.run (RA.run RA.done)))
   A.leaf)))))

noncomputable def disk_put_O (Kv : VW) : List Ob := (obs Try.prog disk_put_E 26 (disk_put_A Kv) disk_put_C (fun _ => retQ Try.prog Try.f36.results Kv))

theorem disk_put_e (Kv : VW) (c_0p : Option Addr) (c_0l c_0c : Nat) (off_1 : Int) (s_2p : Option Addr) (s_2l s_2c : Nat) (w : World) : disk_put_sd ⟨c_0p, c_0l, c_0c⟩ off_1 ⟨s_2p, s_2l, s_2c⟩ (fun (r0 : Sl) (w' : World) => Kv (Value.slice r0.p r0.l r0.c) w') w = W Try.prog disk_put_E 26 (disk_put_A Kv) disk_put_C [] (retQ Try.prog Try.f36.results Kv) (startS [(Value.slice c_0p c_0l c_0c), (Value.int .i64 off_1), (Value.slice s_2p s_2l s_2c)]) w := by kernel_rfl

theorem disk_put_e0 (Kv : VW) (ρ : Rho) (c_0p : Option Addr) (c_0l c_0c : Nat) (off_1 : Int) (s_2p : Option Addr) (s_2l s_2c : Nat) (w : World) : disk_put_k0d ⟨c_0p, c_0l, c_0c⟩ off_1 ⟨s_2p, s_2l, s_2c⟩  (fun (r0 : Sl) (w' : World) => Kv (Value.slice r0.p r0.l r0.c) w') w = goalAt Try.prog disk_put_E 26 (disk_put_O Kv) 0 (ρ) [(Value.slice c_0p c_0l c_0c), (Value.int .i64 off_1), (Value.slice s_2p s_2l s_2c)] w := by kernel_rfl

theorem disk_put_q0 (Kv : VW) (ρ : Rho) (vs : List Value) (w : World) : labAt (disk_put_O Kv) 0 ρ vs w = disk_put_P0 Kv ρ vs w := by kernel_rfl

theorem disk_put_h0 (Kv : VW) : holdsAt Try.prog disk_put_E 26 (disk_put_O Kv) 0 := holdsAt_cut (by kernel_rfl) (fun ρ vs w h => by
  rw [disk_put_q0] at h
  unfold disk_put_P0 at h
  split at h
  · rw [← disk_put_e0]; exact h.out
  · exact h.elim)

theorem disk_put_n (Kv : VW) : obAt (disk_put_O Kv) 1 = none := by kernel_rfl

theorem disk_put_h (Kv : VW) : ∀ k, holdsAt Try.prog disk_put_E 26 (disk_put_O Kv) k := fun k => match k with
  | 0 => disk_put_h0 Kv
  | k + 1 => holdsAt_ge (disk_put_n Kv) (Nat.le_add_left _ _)

theorem disk_put_ok : Sound Try.prog 36 disk_put_S := ⟨Try.call36, fun vs w Kv h => by
  unfold disk_put_S at h
  split at h
  · have h := h.out
    rw [disk_put_e] at h
    exact calls_sound (Γ := disk_put_E) progMixed trivial Try.func36 (code := disk_put_C) (by kernel_rfl) (disk_put_A Kv) Kv (holds_all (disk_put_h Kv)) (Nat.le_of_ble_eq_true rfl) h
  · exact h.elim⟩

/-! disk_Disk_Fail -/
def disk_Disk_Fail_sd (d_0 : Option Addr) (after_1 : Int) (K : World → Prop) (w : World) : Prop :=
  cnd (!d_0.isNone)
    (nz d_0 fun a1 => wrOk w (a1.add 4) ∧ 
  (let w2 : World := w.setCell (a1.add 4) (Value.bool (decide (after_1 > (-1 : Int))))
  nz d_0 fun a3 => wrOk w2 (a3.add 5) ∧ 
  (let w4 : World := w2.setCell (a3.add 5) (Value.int .i64 after_1)
  K w4)))
    (K w)

structure disk_Disk_Fail_sh (d_0 : Option Addr) (after_1 : Int) (K : World → Prop) (w : World) : Prop where
  out : disk_Disk_Fail_sd d_0 after_1 K w

noncomputable def disk_Disk_Fail_S : Pw.Spec := fun vs w Kv =>
  match vs with
  | [.pointer d_0, .int .i64 after_1] => disk_Disk_Fail_sh d_0 after_1 (fun (w' : World) => Kv (Value.tuple #[]) w') w
  | _ => False

noncomputable def disk_Disk_Fail_E : Pw.Env := []

noncomputable def disk_Disk_Fail_C : Code := (Try.f29.body).getD .skip

noncomputable def disk_Disk_Fail_A (Kv : VW) : Pw.A :=
  (A.seq (A.reg (RA.run (RA.run RA.done)))
   (A.cond (A.reg (RA.run (RA.run (RA.run (RA.run (RA.run (RA.run (RA.run (RA.run (RA.run (RA.run (RA.run RA.done))))))))))))
   A.leaf))

noncomputable def disk_Disk_Fail_O (Kv : VW) : List Ob := (obs Try.prog disk_Disk_Fail_E 15 (disk_Disk_Fail_A Kv) disk_Disk_Fail_C (fun _ => retQ Try.prog Try.f29.results Kv))

theorem disk_Disk_Fail_e (Kv : VW) (d_0 : Option Addr) (after_1 : Int) (w : World) : disk_Disk_Fail_sd d_0 after_1 (fun (w' : World) => Kv (Value.tuple #[]) w') w = W Try.prog disk_Disk_Fail_E 15 (disk_Disk_Fail_A Kv) disk_Disk_Fail_C [] (retQ Try.prog Try.f29.results Kv) (startS [(Value.pointer d_0), (Value.int .i64 after_1)]) w := by kernel_rfl

theorem disk_Disk_Fail_n (Kv : VW) : obAt (disk_Disk_Fail_O Kv) 0 = none := by kernel_rfl

theorem disk_Disk_Fail_h (Kv : VW) : ∀ k, holdsAt Try.prog disk_Disk_Fail_E 15 (disk_Disk_Fail_O Kv) k := fun _ => holdsAt_ge (disk_Disk_Fail_n Kv) (Nat.zero_le _)

theorem disk_Disk_Fail_ok : Sound Try.prog 29 disk_Disk_Fail_S := ⟨Try.call29, fun vs w Kv h => by
  unfold disk_Disk_Fail_S at h
  split at h
  · have h := h.out
    rw [disk_Disk_Fail_e] at h
    exact calls_sound (Γ := disk_Disk_Fail_E) progMixed trivial Try.func29 (code := disk_Disk_Fail_C) (by kernel_rfl) (disk_Disk_Fail_A Kv) Kv (holds_all (disk_Disk_Fail_h Kv)) (Nat.le_of_ble_eq_true rfl) h
  · exact h.elim⟩

/-! probityref26_Disk_Fail -/
def probityref26_Disk_Fail_sd (d_0 : Option Addr) (after_1 : Int) (K : World → Prop) (w : World) : Prop :=
  nz d_0 fun a1 => wrOk w (a1.add 5) ∧ 
  (let w2 : World := w.setCell (a1.add 5) (Value.bool (decide (after_1 ≥ (0 : Int))))
  nz d_0 fun a3 => wrOk w2 (a3.add 4) ∧ 
  (let w4 : World := w2.setCell (a3.add 4) (Value.int .i64 after_1)
  K w4))

structure probityref26_Disk_Fail_sh (d_0 : Option Addr) (after_1 : Int) (K : World → Prop) (w : World) : Prop where
  out : probityref26_Disk_Fail_sd d_0 after_1 K w

noncomputable def probityref26_Disk_Fail_S : Pw.Spec := fun vs w Kv =>
  match vs with
  | [.pointer d_0, .int .i64 after_1] => probityref26_Disk_Fail_sh d_0 after_1 (fun (w' : World) => Kv (Value.tuple #[]) w') w
  | _ => False

noncomputable def probityref26_Disk_Fail_E : Pw.Env := []

noncomputable def probityref26_Disk_Fail_C : Code := (Try.f34.body).getD .skip

noncomputable def probityref26_Disk_Fail_A (Kv : VW) : Pw.A :=
  (A.seq (A.reg (RA.run (RA.run (RA.run (RA.run (RA.run (RA.run RA.done)))))))
   (A.reg (RA.run (RA.run (RA.run (RA.run (RA.run RA.done)))))))

noncomputable def probityref26_Disk_Fail_O (Kv : VW) : List Ob := (obs Try.prog probityref26_Disk_Fail_E 13 (probityref26_Disk_Fail_A Kv) probityref26_Disk_Fail_C (fun _ => retQ Try.prog Try.f34.results Kv))

theorem probityref26_Disk_Fail_e (Kv : VW) (d_0 : Option Addr) (after_1 : Int) (w : World) : probityref26_Disk_Fail_sd d_0 after_1 (fun (w' : World) => Kv (Value.tuple #[]) w') w = W Try.prog probityref26_Disk_Fail_E 13 (probityref26_Disk_Fail_A Kv) probityref26_Disk_Fail_C [] (retQ Try.prog Try.f34.results Kv) (startS [(Value.pointer d_0), (Value.int .i64 after_1)]) w := by kernel_rfl

theorem probityref26_Disk_Fail_n (Kv : VW) : obAt (probityref26_Disk_Fail_O Kv) 0 = none := by kernel_rfl

theorem probityref26_Disk_Fail_h (Kv : VW) : ∀ k, holdsAt Try.prog probityref26_Disk_Fail_E 13 (probityref26_Disk_Fail_O Kv) k := fun _ => holdsAt_ge (probityref26_Disk_Fail_n Kv) (Nat.zero_le _)

theorem probityref26_Disk_Fail_ok : Sound Try.prog 34 probityref26_Disk_Fail_S := ⟨Try.call34, fun vs w Kv h => by
  unfold probityref26_Disk_Fail_S at h
  split at h
  · have h := h.out
    rw [probityref26_Disk_Fail_e] at h
    exact calls_sound (Γ := probityref26_Disk_Fail_E) progMixed trivial Try.func34 (code := probityref26_Disk_Fail_C) (by kernel_rfl) (probityref26_Disk_Fail_A Kv) Kv (holds_all (probityref26_Disk_Fail_h Kv)) (Nat.le_of_ble_eq_true rfl) h
  · exact h.elim⟩

/-! probityref26_Act_Where -/
def probityref26_Act_Where_k0d (a_1 : Addr)  (K : Int → World → Prop) (w : World) : Prop :=
  ∃ x4 : Int, w.cell? (a_1.add 1) = some (Value.int .i64 x4) ∧ K x4 w
structure probityref26_Act_Where_k0 (a_1 : Addr)  (K : Int → World → Prop) (w : World) : Prop where
  out : probityref26_Act_Where_k0d a_1 K w

def probityref26_Act_Where_sd (a_0_0 : Int) (a_0_1 : Int) (a_0_2 : Int) (a_0_3 : ByteArray) (K : Int → World → Prop) (w : World) : Prop :=
  let w1 : World := w.alloc (Obj.cells #[(Value.int .i64 a_0_0), (Value.int .i64 a_0_1), (Value.int .i64 a_0_2), (Value.string a_0_3)] 33)
  ∃ x2 : Int, w1.cell? (Addr.mk w.heap.size 1 none) = some (Value.int .i64 x2) ∧ cnd (decide (x2 < (0 : Int)))
    (probityref26_Act_Where_k0 (Addr.mk w.heap.size 0 none) K w1)
    (∃ x3 : Int, w1.cell? (Addr.mk w.heap.size 1 none) = some (Value.int .i64 x3) ∧ cnd (decide (x3 > (16777216 : Int)))
    (probityref26_Act_Where_k0 (Addr.mk w.heap.size 0 none) K w1)
    (∃ x5 : Int, w1.cell? (Addr.mk w.heap.size 1 none) = some (Value.int .i64 x5) ∧ probityref26_Mod_sh x5 (300 : Int) (fun (r7 : Int) (w6 : World) => K r7 w6) w1))

structure probityref26_Act_Where_sh (a_0_0 : Int) (a_0_1 : Int) (a_0_2 : Int) (a_0_3 : ByteArray) (K : Int → World → Prop) (w : World) : Prop where
  out : probityref26_Act_Where_sd a_0_0 a_0_1 a_0_2 a_0_3 K w

def probityref26_Act_Where_P0 (Kv : VW) (ρ : Rho) (vs : List Value) (w : World) : Prop :=
  match ρ, vs with
  | _, [.pointer (some a_1)] => probityref26_Act_Where_k0 a_1  (fun (r0 : Int) (w' : World) => Kv (Value.int .i64 r0) w') w
  | _, _ => False

noncomputable def probityref26_Act_Where_S : Pw.Spec := fun vs w Kv =>
  match vs with
  | [.agg ⟨[.int .i64 a_0_0, .int .i64 a_0_1, .int .i64 a_0_2, .string a_0_3]⟩] => probityref26_Act_Where_sh a_0_0 a_0_1 a_0_2 a_0_3 (fun (r0 : Int) (w' : World) => Kv (Value.int .i64 r0) w') w
  | _ => False

noncomputable def probityref26_Act_Where_E : Pw.Env := [(21, probityref26_Mod_S)]

noncomputable def probityref26_Act_Where_C : Code := (Try.f33.body).getD .skip

noncomputable def probityref26_Act_Where_A (Kv : VW) : Pw.A :=
  (A.seq (A.reg (RA.run (RA.run RA.done)))
   (A.seq (A.seq (A.reg (RA.run (RA.run (RA.run (RA.run (RA.spl 6 (RA.skp (RA.skp (RA.skp (RA.run RA.done)))) (RA.run (RA.run (RA.run (RA.run RA.done))))))))))
   (A.cond (A.cut [1] (probityref26_Act_Where_P0 Kv) (A.seq (A.reg (RA.run (RA.run (RA.run RA.done))))
   A.leaf))
   A.leaf))
   (A.seq (A.reg (RA.run (RA.run (RA.run (RA.run RA.done)))))
   A.leaf)))

noncomputable def probityref26_Act_Where_O (Kv : VW) : List Ob := (obs Try.prog probityref26_Act_Where_E 16 (probityref26_Act_Where_A Kv) probityref26_Act_Where_C (fun _ => retQ Try.prog Try.f33.results Kv))

theorem probityref26_Act_Where_e (Kv : VW) (a_0_0 : Int) (a_0_1 : Int) (a_0_2 : Int) (a_0_3 : ByteArray) (w : World) : probityref26_Act_Where_sd a_0_0 a_0_1 a_0_2 a_0_3 (fun (r0 : Int) (w' : World) => Kv (Value.int .i64 r0) w') w = W Try.prog probityref26_Act_Where_E 16 (probityref26_Act_Where_A Kv) probityref26_Act_Where_C [] (retQ Try.prog Try.f33.results Kv) (startS [(Value.agg #[(Value.int .i64 a_0_0), (Value.int .i64 a_0_1), (Value.int .i64 a_0_2), (Value.string a_0_3)])]) w := by kernel_rfl

theorem probityref26_Act_Where_e0 (Kv : VW) (ρ : Rho) (a_1 : Addr) (w : World) : probityref26_Act_Where_k0d a_1  (fun (r0 : Int) (w' : World) => Kv (Value.int .i64 r0) w') w = goalAt Try.prog probityref26_Act_Where_E 16 (probityref26_Act_Where_O Kv) 0 (ρ) [(Value.pointer (some a_1))] w := by kernel_rfl

theorem probityref26_Act_Where_q0 (Kv : VW) (ρ : Rho) (vs : List Value) (w : World) : labAt (probityref26_Act_Where_O Kv) 0 ρ vs w = probityref26_Act_Where_P0 Kv ρ vs w := by kernel_rfl

theorem probityref26_Act_Where_h0 (Kv : VW) : holdsAt Try.prog probityref26_Act_Where_E 16 (probityref26_Act_Where_O Kv) 0 := holdsAt_cut (by kernel_rfl) (fun ρ vs w h => by
  rw [probityref26_Act_Where_q0] at h
  unfold probityref26_Act_Where_P0 at h
  split at h
  · rw [← probityref26_Act_Where_e0]; exact h.out
  · exact h.elim)

theorem probityref26_Act_Where_n (Kv : VW) : obAt (probityref26_Act_Where_O Kv) 1 = none := by kernel_rfl

theorem probityref26_Act_Where_h (Kv : VW) : ∀ k, holdsAt Try.prog probityref26_Act_Where_E 16 (probityref26_Act_Where_O Kv) k := fun k => match k with
  | 0 => probityref26_Act_Where_h0 Kv
  | k + 1 => holdsAt_ge (probityref26_Act_Where_n Kv) (Nat.le_add_left _ _)

theorem probityref26_Act_Where_ok : Sound Try.prog 33 probityref26_Act_Where_S := ⟨Try.call33, fun vs w Kv h => by
  unfold probityref26_Act_Where_S at h
  split at h
  · have h := h.out
    rw [probityref26_Act_Where_e] at h
    exact calls_sound (Γ := probityref26_Act_Where_E) progMixed ⟨probityref26_Mod_ok, trivial⟩ Try.func33 (code := probityref26_Act_Where_C) (by kernel_rfl) (probityref26_Act_Where_A Kv) Kv (holds_all (probityref26_Act_Where_h Kv)) (Nat.le_of_ble_eq_true rfl) h
  · exact h.elim⟩

/-! probityref26_Disk_off -/
def probityref26_Disk_off_k0d (d_0 : Option Addr)  (K : Bool → World → Prop) (w : World) : Prop :=
  nz d_0 fun a5 => ∃ x6 : Int, w.cell? (a5.add 4) = some (Value.int .i64 x6) ∧ inR .i64 (x6 - (1 : Int)) ∧ nz d_0 fun a7 => wrOk w (a7.add 4) ∧ 
  (let w8 : World := w.setCell (a7.add 4) (Value.int .i64 (x6 - (1 : Int)))
  nz d_0 fun a9 => ∃ x10 : Int, w8.cell? (a9.add 3) = some (Value.int .i64 x10) ∧ inR .i64 (x10 + (1 : Int)) ∧ nz d_0 fun a11 => wrOk w8 (a11.add 3) ∧ 
  (let w12 : World := w8.setCell (a11.add 3) (Value.int .i64 (x10 + (1 : Int)))
  K false w12))
structure probityref26_Disk_off_k0 (d_0 : Option Addr)  (K : Bool → World → Prop) (w : World) : Prop where
  out : probityref26_Disk_off_k0d d_0 K w

def probityref26_Disk_off_sd (d_0 : Option Addr) (K : Bool → World → Prop) (w : World) : Prop :=
  nz d_0 fun a1 => ∃ x2 : Bool, w.cell? (a1.add 5) = some (Value.bool x2) ∧ cnd x2
    (nz d_0 fun a3 => ∃ x4 : Int, w.cell? (a3.add 4) = some (Value.int .i64 x4) ∧ cnd (x4 == (0 : Int))
    (K true w)
    (probityref26_Disk_off_k0 d_0 K w))
    (probityref26_Disk_off_k0 d_0 K w)

structure probityref26_Disk_off_sh (d_0 : Option Addr) (K : Bool → World → Prop) (w : World) : Prop where
  out : probityref26_Disk_off_sd d_0 K w

def probityref26_Disk_off_P0 (Kv : VW) (ρ : Rho) (vs : List Value) (w : World) : Prop :=
  match ρ, vs with
  | _, [.pointer d_0] => probityref26_Disk_off_k0 d_0  (fun (r0 : Bool) (w' : World) => Kv (Value.bool r0) w') w
  | _, _ => False

noncomputable def probityref26_Disk_off_S : Pw.Spec := fun vs w Kv =>
  match vs with
  | [.pointer d_0] => probityref26_Disk_off_sh d_0 (fun (r0 : Bool) (w' : World) => Kv (Value.bool r0) w') w
  | _ => False

noncomputable def probityref26_Disk_off_E : Pw.Env := []

noncomputable def probityref26_Disk_off_C : Code := (Try.f41.body).getD .skip

noncomputable def probityref26_Disk_off_A (Kv : VW) : Pw.A :=
  (A.seq (A.reg (RA.run RA.done))
   (A.seq (A.seq (A.reg (RA.run (RA.run (RA.run (RA.run (RA.run (RA.spl 7 (RA.run (RA.run (RA.run (RA.run (RA.run (RA.run RA.done)))))) (RA.skp (RA.skp (RA.skp (RA.skp (RA.skp (RA.run RA.done)))))))))))))
   (A.cond (A.seq (A.reg (RA.run RA.done))
   A.leaf)
   A.leaf))
   (A.cut [0] (probityref26_Disk_off_P0 Kv) (A.seq (A.reg (RA.run (RA.run (RA.run (RA.run (RA.run (RA.run (RA.run (RA.run RA.done)))))))))
   (A.seq (A.reg (RA.run (RA.run (RA.run (RA.run (RA.run (RA.run (RA.run (RA.run RA.done)))))))))
   (A.seq (A.reg (RA.run RA.done))
   A.leaf))))))

noncomputable def probityref26_Disk_off_O (Kv : VW) : List Ob := (obs Try.prog probityref26_Disk_off_E 28 (probityref26_Disk_off_A Kv) probityref26_Disk_off_C (fun _ => retQ Try.prog Try.f41.results Kv))

theorem probityref26_Disk_off_e (Kv : VW) (d_0 : Option Addr) (w : World) : probityref26_Disk_off_sd d_0 (fun (r0 : Bool) (w' : World) => Kv (Value.bool r0) w') w = W Try.prog probityref26_Disk_off_E 28 (probityref26_Disk_off_A Kv) probityref26_Disk_off_C [] (retQ Try.prog Try.f41.results Kv) (startS [(Value.pointer d_0)]) w := by kernel_rfl

theorem probityref26_Disk_off_e0 (Kv : VW) (ρ : Rho) (d_0 : Option Addr) (w : World) : probityref26_Disk_off_k0d d_0  (fun (r0 : Bool) (w' : World) => Kv (Value.bool r0) w') w = goalAt Try.prog probityref26_Disk_off_E 28 (probityref26_Disk_off_O Kv) 0 (ρ) [(Value.pointer d_0)] w := by kernel_rfl

theorem probityref26_Disk_off_q0 (Kv : VW) (ρ : Rho) (vs : List Value) (w : World) : labAt (probityref26_Disk_off_O Kv) 0 ρ vs w = probityref26_Disk_off_P0 Kv ρ vs w := by kernel_rfl

theorem probityref26_Disk_off_h0 (Kv : VW) : holdsAt Try.prog probityref26_Disk_off_E 28 (probityref26_Disk_off_O Kv) 0 := holdsAt_cut (by kernel_rfl) (fun ρ vs w h => by
  rw [probityref26_Disk_off_q0] at h
  unfold probityref26_Disk_off_P0 at h
  split at h
  · rw [← probityref26_Disk_off_e0]; exact h.out
  · exact h.elim)

theorem probityref26_Disk_off_n (Kv : VW) : obAt (probityref26_Disk_off_O Kv) 1 = none := by kernel_rfl

theorem probityref26_Disk_off_h (Kv : VW) : ∀ k, holdsAt Try.prog probityref26_Disk_off_E 28 (probityref26_Disk_off_O Kv) k := fun k => match k with
  | 0 => probityref26_Disk_off_h0 Kv
  | k + 1 => holdsAt_ge (probityref26_Disk_off_n Kv) (Nat.le_add_left _ _)

theorem probityref26_Disk_off_ok : Sound Try.prog 41 probityref26_Disk_off_S := ⟨Try.call41, fun vs w Kv h => by
  unfold probityref26_Disk_off_S at h
  split at h
  · have h := h.out
    rw [probityref26_Disk_off_e] at h
    exact calls_sound (Γ := probityref26_Disk_off_E) progMixed trivial Try.func41 (code := probityref26_Disk_off_C) (by kernel_rfl) (probityref26_Disk_off_A Kv) Kv (holds_all (probityref26_Disk_off_h Kv)) (Nat.le_of_ble_eq_true rfl) h
  · exact h.elim⟩

/-! disk_Disk_Sync -/
def disk_Disk_Sync_sd (d_0 : Option Addr) (K : Int → World → Prop) (w : World) : Prop :=
  cnd d_0.isNone
    (K (1 : Int) w)
    (disk_Disk_call_sh d_0 (fun (r2 : Int) (w1 : World) => cnd (r2 != (0 : Int))
    (K r2 w1)
    (let w3 : World := w1.drew
  ∃ S4 : World → Prop, S4 w3 ∧ nz d_0 fun a5 => ∃ x6 : Sl, (∀ w' : World, S4 w' → w'.cell? (a5.add 1) = some (Value.slice x6.p x6.l x6.c)) ∧ (0 ≤ (0 : Int) ∧ (0 : Int) ≤ (0 : Int) ∧ (0 : Int) ≤ (x6.c : Nat)) ∧ nz d_0 fun a7 => ∃ x8 : Sl, (∀ w' : World, S4 w' → w'.cell? a7 = some (Value.slice x8.p x8.l x8.c)) ∧ apS 1 1 [(Value.int .u8 (0 : Int))] 5 (Sl.mk (subP x6.p 0 x6.c 1) (0 - 0) (x6.c - 0)) x8 w3 fun (s9 : Sl) (w10 : World) => S4 w10 ∧ nz d_0 fun a11 => wrOk w10 (a11.add 1) ∧ 
  (let w12 : World := w10.setCell (a11.add 1) (Value.slice s9.p s9.l s9.c)
  nz d_0 fun a13 => disk_piece__settle_sh (some (a13.add 2)) (fun (w14 : World) => K (0 : Int) w14) w12))) w)

structure disk_Disk_Sync_sh (d_0 : Option Addr) (K : Int → World → Prop) (w : World) : Prop where
  out : disk_Disk_Sync_sd d_0 K w

noncomputable def disk_Disk_Sync_S : Pw.Spec := fun vs w Kv =>
  match vs with
  | [.pointer d_0] => disk_Disk_Sync_sh d_0 (fun (r0 : Int) (w' : World) => Kv (Value.int .i64 r0) w') w
  | _ => False

noncomputable def disk_Disk_Sync_E : Pw.Env := [(38, disk_Disk_call_S), (39, disk_piece__settle_S)]

noncomputable def disk_Disk_Sync_C : Code := (Try.f25.body).getD .skip

noncomputable def disk_Disk_Sync_A (Kv : VW) : Pw.A :=
  (A.seq (A.reg (RA.run RA.done))
   (A.seq (A.seq (A.reg (RA.run (RA.run RA.done)))
   (A.cond (A.seq (A.reg (RA.run RA.done))
   A.leaf)
   A.leaf))
   (A.seq (A.seq (A.reg (RA.run (RA.run (RA.run RA.done))))
   (A.seq (A.reg (RA.run (RA.run RA.done)))
   (A.cond (A.seq (A.reg (RA.run (RA.run RA.done)))
   A.leaf)
   A.leaf)))
   (A.seq (A.drw (DA.pur 0 (DA.pur 1 (DA.pur 2 (DA.pur 3 (DA.pur 4 (DA.pur 5 (DA.pur 6 (DA.pur 7 (DA.pur 8 (DA.pur 9 (DA.eff 10 (DA.pur 11 (DA.pur 12 (DA.eff 13 DA.done)))))))))))))))
   (A.seq (A.reg (RA.run (RA.run (RA.run (RA.run RA.done)))))
   (A.seq (A.reg (RA.run RA.done))
   A.leaf))))))

noncomputable def disk_Disk_Sync_O (Kv : VW) : List Ob := (obs Try.prog disk_Disk_Sync_E 28 (disk_Disk_Sync_A Kv) disk_Disk_Sync_C (fun _ => retQ Try.prog Try.f25.results Kv))

theorem disk_Disk_Sync_e (Kv : VW) (d_0 : Option Addr) (w : World) : disk_Disk_Sync_sd d_0 (fun (r0 : Int) (w' : World) => Kv (Value.int .i64 r0) w') w = W Try.prog disk_Disk_Sync_E 28 (disk_Disk_Sync_A Kv) disk_Disk_Sync_C [] (retQ Try.prog Try.f25.results Kv) (startS [(Value.pointer d_0)]) w := by kernel_rfl

theorem disk_Disk_Sync_n (Kv : VW) : obAt (disk_Disk_Sync_O Kv) 0 = none := by kernel_rfl

theorem disk_Disk_Sync_h (Kv : VW) : ∀ k, holdsAt Try.prog disk_Disk_Sync_E 28 (disk_Disk_Sync_O Kv) k := fun _ => holdsAt_ge (disk_Disk_Sync_n Kv) (Nat.zero_le _)

theorem disk_Disk_Sync_ok : Sound Try.prog 25 disk_Disk_Sync_S := ⟨Try.call25, fun vs w Kv h => by
  unfold disk_Disk_Sync_S at h
  split at h
  · have h := h.out
    rw [disk_Disk_Sync_e] at h
    exact calls_sound (Γ := disk_Disk_Sync_E) progMixed ⟨disk_Disk_call_ok, disk_piece__settle_ok, trivial⟩ Try.func25 (code := disk_Disk_Sync_C) (by kernel_rfl) (disk_Disk_Sync_A Kv) Kv (holds_all (disk_Disk_Sync_h Kv)) (Nat.le_of_ble_eq_true rfl) h
  · exact h.elim⟩

/-! probityref26_Disk_Sync -/
def probityref26_Disk_Sync_sd (d_0 : Option Addr) (K : Int → World → Prop) (w : World) : Prop :=
  probityref26_Disk_off_sh d_0 (fun (r2 : Bool) (w1 : World) => cnd r2
    (K (70 : Int) w1)
    (nz d_0 fun a3 => ∃ x4 : ByteArray, w1.cell? a3 = some (Value.string x4) ∧ nz d_0 fun a5 => wrOk w1 (a5.add 1) ∧ 
  (let w6 : World := w1.setCell (a5.add 1) (Value.string x4)
  nz d_0 fun a7 => wrOk w6 (a7.add 2) ∧ 
  (let w8 : World := w6.setCell (a7.add 2) (Value.slice none 0 0)
  K (0 : Int) w8)))) w

structure probityref26_Disk_Sync_sh (d_0 : Option Addr) (K : Int → World → Prop) (w : World) : Prop where
  out : probityref26_Disk_Sync_sd d_0 K w

noncomputable def probityref26_Disk_Sync_S : Pw.Spec := fun vs w Kv =>
  match vs with
  | [.pointer d_0] => probityref26_Disk_Sync_sh d_0 (fun (r0 : Int) (w' : World) => Kv (Value.int .i64 r0) w') w
  | _ => False

noncomputable def probityref26_Disk_Sync_E : Pw.Env := [(41, probityref26_Disk_off_S)]

noncomputable def probityref26_Disk_Sync_C : Code := (Try.f32.body).getD .skip

noncomputable def probityref26_Disk_Sync_A (Kv : VW) : Pw.A :=
  (A.seq (A.reg (RA.run RA.done))
   (A.seq (A.reg (RA.run (RA.run (RA.run RA.done))))
   (A.seq (A.seq (A.reg (RA.run RA.done))
   (A.cond (A.seq (A.reg (RA.run RA.done))
   A.leaf)
   A.leaf))
   (A.seq (A.reg (RA.run (RA.run (RA.run (RA.run (RA.run (RA.run (RA.run (RA.run RA.done)))))))))
   (A.seq (A.reg (RA.run (RA.run (RA.run (RA.run RA.done)))))
   (A.seq (A.reg (RA.run RA.done))
   A.leaf))))))

noncomputable def probityref26_Disk_Sync_O (Kv : VW) : List Ob := (obs Try.prog probityref26_Disk_Sync_E 17 (probityref26_Disk_Sync_A Kv) probityref26_Disk_Sync_C (fun _ => retQ Try.prog Try.f32.results Kv))

theorem probityref26_Disk_Sync_e (Kv : VW) (d_0 : Option Addr) (w : World) : probityref26_Disk_Sync_sd d_0 (fun (r0 : Int) (w' : World) => Kv (Value.int .i64 r0) w') w = W Try.prog probityref26_Disk_Sync_E 17 (probityref26_Disk_Sync_A Kv) probityref26_Disk_Sync_C [] (retQ Try.prog Try.f32.results Kv) (startS [(Value.pointer d_0)]) w := by kernel_rfl

theorem probityref26_Disk_Sync_n (Kv : VW) : obAt (probityref26_Disk_Sync_O Kv) 0 = none := by kernel_rfl

theorem probityref26_Disk_Sync_h (Kv : VW) : ∀ k, holdsAt Try.prog probityref26_Disk_Sync_E 17 (probityref26_Disk_Sync_O Kv) k := fun _ => holdsAt_ge (probityref26_Disk_Sync_n Kv) (Nat.zero_le _)

theorem probityref26_Disk_Sync_ok : Sound Try.prog 32 probityref26_Disk_Sync_S := ⟨Try.call32, fun vs w Kv h => by
  unfold probityref26_Disk_Sync_S at h
  split at h
  · have h := h.out
    rw [probityref26_Disk_Sync_e] at h
    exact calls_sound (Γ := probityref26_Disk_Sync_E) progMixed ⟨probityref26_Disk_off_ok, trivial⟩ Try.func32 (code := probityref26_Disk_Sync_C) (by kernel_rfl) (probityref26_Disk_Sync_A Kv) Kv (holds_all (probityref26_Disk_Sync_h Kv)) (Nat.le_of_ble_eq_true rfl) h
  · exact h.elim⟩

/-! probitylaw26_survive -/
def probitylaw26_survive_sd (n_0 : Int) (K : Sl → World → Prop) (w : World) : Prop :=
  (2 : Int) ≠ 0 ∧ inR .i64 (Int.tdiv n_0 (2 : Int)) ∧ (3 : Int) ≠ 0 ∧ inR .i64 (Int.tdiv n_0 (3 : Int)) ∧ (5 : Int) ≠ 0 ∧ inR .i64 (Int.tdiv n_0 (5 : Int)) ∧ (7 : Int) ≠ 0 ∧ inR .i64 (Int.tdiv n_0 (7 : Int)) ∧ let w1 : World := w.alloc (Obj.cells #[(Value.int .i64 n_0), (Value.int .i64 (Int.tdiv n_0 (2 : Int))), (Value.int .i64 (Int.tdiv n_0 (3 : Int))), (Value.int .i64 (Int.tdiv n_0 (5 : Int))), (Value.int .i64 (Int.tdiv n_0 (7 : Int)))] 3)
  probityref26_Mod_sh n_0 (6 : Int) (fun (r3 : Int) (w2 : World) => (0 ≤ (0 : Int) ∧ (0 : Int) ≤ r3 ∧ r3 ≤ (5 : Nat)) ∧ K (Sl.mk (subP (some (Addr.mk w.heap.size 0 none)) 0 5 1) (r3.toNat - 0) (5 - 0)) w2) w1

structure probitylaw26_survive_sh (n_0 : Int) (K : Sl → World → Prop) (w : World) : Prop where
  out : probitylaw26_survive_sd n_0 K w

noncomputable def probitylaw26_survive_S : Pw.Spec := fun vs w Kv =>
  match vs with
  | [.int .i64 n_0] => probitylaw26_survive_sh n_0 (fun (r0 : Sl) (w' : World) => Kv (Value.slice r0.p r0.l r0.c) w') w
  | _ => False

noncomputable def probitylaw26_survive_E : Pw.Env := [(21, probityref26_Mod_S)]

noncomputable def probitylaw26_survive_C : Code := (Try.f24.body).getD .skip

noncomputable def probitylaw26_survive_A (Kv : VW) : Pw.A :=
  (A.seq (A.reg (RA.run RA.done))
   (A.seq (A.reg (RA.run (RA.run (RA.run (RA.run (RA.run (RA.run (RA.run (RA.run (RA.run (RA.run (RA.run RA.done))))))))))))
   (A.seq (A.reg (RA.run (RA.run (RA.run (RA.run (RA.run RA.done))))))
   A.leaf)))

noncomputable def probitylaw26_survive_O (Kv : VW) : List Ob := (obs Try.prog probitylaw26_survive_E 18 (probitylaw26_survive_A Kv) probitylaw26_survive_C (fun _ => retQ Try.prog Try.f24.results Kv))

theorem probitylaw26_survive_e (Kv : VW) (n_0 : Int) (w : World) : probitylaw26_survive_sd n_0 (fun (r0 : Sl) (w' : World) => Kv (Value.slice r0.p r0.l r0.c) w') w = W Try.prog probitylaw26_survive_E 18 (probitylaw26_survive_A Kv) probitylaw26_survive_C [] (retQ Try.prog Try.f24.results Kv) (startS [(Value.int .i64 n_0)]) w := by kernel_rfl

theorem probitylaw26_survive_n (Kv : VW) : obAt (probitylaw26_survive_O Kv) 0 = none := by kernel_rfl

theorem probitylaw26_survive_h (Kv : VW) : ∀ k, holdsAt Try.prog probitylaw26_survive_E 18 (probitylaw26_survive_O Kv) k := fun _ => holdsAt_ge (probitylaw26_survive_n Kv) (Nat.zero_le _)

theorem probitylaw26_survive_ok : Sound Try.prog 24 probitylaw26_survive_S := ⟨Try.call24, fun vs w Kv h => by
  unfold probitylaw26_survive_S at h
  split at h
  · have h := h.out
    rw [probitylaw26_survive_e] at h
    exact calls_sound (Γ := probitylaw26_survive_E) progMixed ⟨probityref26_Mod_ok, trivial⟩ Try.func24 (code := probitylaw26_survive_C) (by kernel_rfl) (probitylaw26_survive_A Kv) Kv (holds_all (probitylaw26_survive_h Kv)) (Nat.le_of_ble_eq_true rfl) h
  · exact h.elim⟩

/-! probitylaw26_repeated -/
def probitylaw26_repeated_b0 (c_0 : Int) (n_1 : Int) (b_5 : Sl) (i_6 : Int) (N0 : Int → Int → Sl → Int → World → Prop)  (K : ByteArray → World → Prop) (w : World) : Prop :=
  cnd (decide (i_6 < n_1))
    (nz b_5.p fun a3 => (0 ≤ i_6 ∧ i_6 < (b_5.l : Nat)) ∧ wrOk w (a3.add (i_6.toNat * 1)) ∧ 
  (let w4 : World := w.setCell (a3.add (i_6.toNat * 1)) (Value.int .u8 c_0)
  inR .i64 (i_6 + (1 : Int)) ∧ N0 c_0 n_1 b_5 (i_6 + (1 : Int)) w4))
    (btsS b_5 w fun (s5 : ByteArray) => K s5 w)
def probitylaw26_repeated_l0d (c_0 : Int) (n_1 : Int) (b_5 : Sl) (i_6 : Int)  (K : ByteArray → World → Prop) (w : World) : Prop :=
  ∃ (I : Int → World → Prop) (μ : Int → World → Nat), I i_6 w ∧ ∀ (i_61 : Int) (w1 : World), I i_61 w1 →
    probitylaw26_repeated_b0 c_0 n_1 b_5 i_61 (fun (c_0' : Int) (n_1' : Int) (b_5' : Sl) (i_6' : Int) (w' : World) => ((c_0' = c_0 ∧ n_1' = n_1 ∧ b_5' = b_5 ∧ True) ∧ I i_6' w') ∧ μ i_6' w' < μ i_61 w1)  K w1
structure probitylaw26_repeated_l0 (c_0 : Int) (n_1 : Int) (b_5 : Sl) (i_6 : Int)  (K : ByteArray → World → Prop) (w : World) : Prop where
  out : probitylaw26_repeated_l0d c_0 n_1 b_5 i_6 K w

def probitylaw26_repeated_sd (c_0 : Int) (n_1 : Int) (K : ByteArray → World → Prop) (w : World) : Prop :=
  mkS 1 [(Value.int .u8 (0 : Int))] 5 n_1 n_1 w fun (s1 : Sl) (w2 : World) => probitylaw26_repeated_l0 c_0 n_1 s1 (0 : Int) K w2

structure probitylaw26_repeated_sh (c_0 : Int) (n_1 : Int) (K : ByteArray → World → Prop) (w : World) : Prop where
  out : probitylaw26_repeated_sd c_0 n_1 K w

def probitylaw26_repeated_P0 (Kv : VW) (ρ : Rho) (vs : List Value) (w : World) : Prop :=
  match ρ, vs with
  | _, [.int .u8 c_0, .int .i64 n_1, .slice b_5p b_5l b_5c, .int .i64 i_6] => probitylaw26_repeated_l0 c_0 n_1 ⟨b_5p, b_5l, b_5c⟩ i_6  (fun (r0 : ByteArray) (w' : World) => Kv (Value.string r0) w') w
  | _, _ => False

noncomputable def probitylaw26_repeated_S : Pw.Spec := fun vs w Kv =>
  match vs with
  | [.int .u8 c_0, .int .i64 n_1] => probitylaw26_repeated_sh c_0 n_1 (fun (r0 : ByteArray) (w' : World) => Kv (Value.string r0) w') w
  | _ => False

noncomputable def probitylaw26_repeated_E : Pw.Env := []

noncomputable def probitylaw26_repeated_C : Code := (Try.f28.body).getD .skip

noncomputable def probitylaw26_repeated_A (Kv : VW) : Pw.A :=
  (A.seq (A.reg (RA.run RA.done))
   (A.seq (A.reg (RA.run (RA.run (RA.run RA.done))))
   (A.seq (A.seq (A.reg (RA.run RA.done))
   (A.blk (A.loop [0, 1, 5, 6] (probitylaw26_repeated_P0 Kv) (A.seq (A.seq (A.reg (RA.run (RA.run (RA.run RA.done))))
   (A.cond A.leaf
   A.leaf))
   (A.seq (A.blk (A.reg (RA.run (RA.run (RA.run (RA.run (RA.run RA.done)))))))
   (A.reg (RA.run (RA.run (RA.run RA.done)))))))))
   (A.seq (A.reg (RA.run (RA.run (RA.run RA.done))))
   A.leaf))))

noncomputable def probitylaw26_repeated_O (Kv : VW) : List Ob := (obs Try.prog probitylaw26_repeated_E 20 (probitylaw26_repeated_A Kv) probitylaw26_repeated_C (fun _ => retQ Try.prog Try.f28.results Kv))

theorem probitylaw26_repeated_e (Kv : VW) (c_0 : Int) (n_1 : Int) (w : World) : probitylaw26_repeated_sd c_0 n_1 (fun (r0 : ByteArray) (w' : World) => Kv (Value.string r0) w') w = W Try.prog probitylaw26_repeated_E 20 (probitylaw26_repeated_A Kv) probitylaw26_repeated_C [] (retQ Try.prog Try.f28.results Kv) (startS [(Value.int .u8 c_0), (Value.int .i64 n_1)]) w := by kernel_rfl

theorem probitylaw26_repeated_e0 (Kv : VW) (N0 : List Value → World → Prop) (ρ : Rho) (c_0 : Int) (n_1 : Int) (b_5p : Option Addr) (b_5l b_5c : Nat) (i_6 : Int) (w : World) : probitylaw26_repeated_b0 c_0 n_1 ⟨b_5p, b_5l, b_5c⟩ i_6 (fun (c_0' : Int) (n_1' : Int) (b_5' : Sl) (i_6' : Int) (w' : World) => N0 [(Value.int .u8 c_0'), (Value.int .i64 n_1'), (Value.slice b_5'.p b_5'.l b_5'.c), (Value.int .i64 i_6')] w')  (fun (r0 : ByteArray) (w' : World) => Kv (Value.string r0) w') w = goalAt Try.prog probitylaw26_repeated_E 20 (probitylaw26_repeated_O Kv) 0 (N0 :: ρ) [(Value.int .u8 c_0), (Value.int .i64 n_1), (Value.slice b_5p b_5l b_5c), (Value.int .i64 i_6)] w := by kernel_rfl

theorem probitylaw26_repeated_q0 (Kv : VW) (ρ : Rho) (vs : List Value) (w : World) : labAt (probitylaw26_repeated_O Kv) 0 ρ vs w = probitylaw26_repeated_P0 Kv ρ vs w := by kernel_rfl

def probitylaw26_repeated_I0 (c_00 : Int) (n_10 : Int) (b_50 : Sl) (I : Int → World → Prop) (vs : List Value) (w : World) : Prop :=
  match vs with
  | [.int .u8 c_0, .int .i64 n_1, .slice b_5p b_5l b_5c, .int .i64 i_6] => (c_0 = c_00 ∧ n_1 = n_10 ∧ ⟨b_5p, b_5l, b_5c⟩ = b_50 ∧ True) ∧ I i_6 w
  | _ => False

def probitylaw26_repeated_M0 (μ : Int → World → Nat) (vs : List Value) (w : World) : Nat :=
  match vs with
  | [.int .u8 c_0, .int .i64 n_1, .slice b_5p b_5l b_5c, .int .i64 i_6] => μ i_6 w
  | _ => 0

theorem probitylaw26_repeated_h0 (Kv : VW) : holdsAt Try.prog probitylaw26_repeated_E 20 (probitylaw26_repeated_O Kv) 0 := holdsAt_loop (by kernel_rfl) (fun ρ vs w h => by
  rw [probitylaw26_repeated_q0] at h
  unfold probitylaw26_repeated_P0 at h
  split at h
  · rename_i ρt c_0 n_1 b_5p b_5l b_5c i_6
    obtain ⟨I, μ, h0, hr⟩ := h.out
    refine ⟨probitylaw26_repeated_I0 c_0 n_1 ⟨b_5p, b_5l, b_5c⟩ I, probitylaw26_repeated_M0 μ, ⟨⟨rfl, rfl, rfl, trivial⟩, h0⟩, fun vs w hI => ?_⟩
    unfold probitylaw26_repeated_I0 at hI
    split at hI
    · obtain ⟨⟨h0, h1, h2, _⟩, hI⟩ := hI
      cases h0; cases h1; cases h2
      rw [← probitylaw26_repeated_e0]
      exact hr _ _ hI
    · exact hI.elim
  · exact h.elim)

theorem probitylaw26_repeated_n (Kv : VW) : obAt (probitylaw26_repeated_O Kv) 1 = none := by kernel_rfl

theorem probitylaw26_repeated_h (Kv : VW) : ∀ k, holdsAt Try.prog probitylaw26_repeated_E 20 (probitylaw26_repeated_O Kv) k := fun k => match k with
  | 0 => probitylaw26_repeated_h0 Kv
  | k + 1 => holdsAt_ge (probitylaw26_repeated_n Kv) (Nat.le_add_left _ _)

theorem probitylaw26_repeated_ok : Sound Try.prog 28 probitylaw26_repeated_S := ⟨Try.call28, fun vs w Kv h => by
  unfold probitylaw26_repeated_S at h
  split at h
  · have h := h.out
    rw [probitylaw26_repeated_e] at h
    exact calls_sound (Γ := probitylaw26_repeated_E) progMixed trivial Try.func28 (code := probitylaw26_repeated_C) (by kernel_rfl) (probitylaw26_repeated_A Kv) Kv (holds_all (probitylaw26_repeated_h Kv)) (Nat.le_of_ble_eq_true rfl) h
  · exact h.elim⟩

/-! disk_Disk_Read -/
def disk_Disk_Read_sd (d_0 : Option Addr) (off_1 : Int) (n_2 : Int) (K : ByteArray → World → Prop) (w : World) : Prop :=
  cnd d_0.isNone
    (K (str []) w)
    (cnd (decide (off_1 < (0 : Int)))
    (K (str []) w)
    (cnd (decide (n_2 < (1 : Int)))
    (K (str []) w)
    (nz d_0 fun a1 => ∃ x2 : Sl, w.cell? a1 = some (Value.slice x2.p x2.l x2.c) ∧ cnd (decide (off_1 ≥ (x2.l : Int)))
    (K (str []) w)
    (let w3 : World := w.drew
  ∃ S4 : World → Prop, S4 w3 ∧ nz d_0 fun a5 => ∃ x6 : Sl, (∀ w' : World, S4 w' → w'.cell? a5 = some (Value.slice x6.p x6.l x6.c)) ∧ (0 ≤ off_1 ∧ off_1 ≤ (x6.l : Nat)) ∧ nz d_0 fun a7 => ∃ x8 : Sl, (∀ w' : World, S4 w' → w'.cell? a7 = some (Value.slice x8.p x8.l x8.c)) ∧ inR .i64 ((x8.l : Int) - off_1) ∧ (0 ≤ (0 : Int) ∧ (0 : Int) ≤ (min n_2 ((x8.l : Int) - off_1)) ∧ (min n_2 ((x8.l : Int) - off_1)) ≤ ((x6.c - off_1.toNat) : Nat)) ∧ btsS (Sl.mk (subP (subP x6.p off_1.toNat x6.c 1) 0 (x6.c - off_1.toNat) 1) ((min n_2 ((x8.l : Int) - off_1)).toNat - 0) ((x6.c - off_1.toNat) - 0)) w3 fun (s9 : ByteArray) => S4 w3 ∧ K s9 w3))))

structure disk_Disk_Read_sh (d_0 : Option Addr) (off_1 : Int) (n_2 : Int) (K : ByteArray → World → Prop) (w : World) : Prop where
  out : disk_Disk_Read_sd d_0 off_1 n_2 K w

noncomputable def disk_Disk_Read_S : Pw.Spec := fun vs w Kv =>
  match vs with
  | [.pointer d_0, .int .i64 off_1, .int .i64 n_2] => disk_Disk_Read_sh d_0 off_1 n_2 (fun (r0 : ByteArray) (w' : World) => Kv (Value.string r0) w') w
  | _ => False

noncomputable def disk_Disk_Read_E : Pw.Env := []

noncomputable def disk_Disk_Read_C : Code := (Try.f26.body).getD .skip

noncomputable def disk_Disk_Read_A (Kv : VW) : Pw.A :=
  (A.seq (A.reg (RA.run RA.done))
   (A.seq (A.seq (A.reg (RA.run (RA.run (RA.run (RA.spl 9 (RA.skp (RA.skp (RA.run (RA.run (RA.skp (RA.skp (RA.run (RA.run (RA.skp (RA.skp (RA.skp (RA.skp (RA.skp (RA.skp (RA.skp (RA.run RA.done)))))))))))))))) (RA.run (RA.run (RA.run (RA.run (RA.spl 13 (RA.skp (RA.skp (RA.run (RA.run (RA.skp (RA.skp (RA.skp (RA.skp (RA.skp (RA.skp (RA.skp (RA.run RA.done)))))))))))) (RA.run (RA.run (RA.run (RA.run (RA.spl 17 (RA.skp (RA.skp (RA.skp (RA.skp (RA.skp (RA.skp (RA.skp (RA.run RA.done)))))))) (RA.run (RA.run (RA.run (RA.run (RA.run (RA.run (RA.run (RA.run RA.done)))))))))))))))))))))))
   (A.cond (A.seq (A.reg (RA.run RA.done))
   A.leaf)
   A.leaf))
   (A.seq (A.drw (DA.pur 0 (DA.pur 1 (DA.pur 2 (DA.pur 3 (DA.pur 4 (DA.pur 5 (DA.pur 6 (DA.pur 7 (DA.pur 8 (DA.pur 9 (DA.pur 10 (DA.pur 11 (DA.pur 12 (DA.pur 13 (DA.pur 14 (DA.pur 15 (DA.eff 16 (DA.pur 17 DA.done)))))))))))))))))))
   A.leaf)))

noncomputable def disk_Disk_Read_O (Kv : VW) : List Ob := (obs Try.prog disk_Disk_Read_E 43 (disk_Disk_Read_A Kv) disk_Disk_Read_C (fun _ => retQ Try.prog Try.f26.results Kv))

theorem disk_Disk_Read_e (Kv : VW) (d_0 : Option Addr) (off_1 : Int) (n_2 : Int) (w : World) : disk_Disk_Read_sd d_0 off_1 n_2 (fun (r0 : ByteArray) (w' : World) => Kv (Value.string r0) w') w = W Try.prog disk_Disk_Read_E 43 (disk_Disk_Read_A Kv) disk_Disk_Read_C [] (retQ Try.prog Try.f26.results Kv) (startS [(Value.pointer d_0), (Value.int .i64 off_1), (Value.int .i64 n_2)]) w := by kernel_rfl

theorem disk_Disk_Read_n (Kv : VW) : obAt (disk_Disk_Read_O Kv) 0 = none := by kernel_rfl

theorem disk_Disk_Read_h (Kv : VW) : ∀ k, holdsAt Try.prog disk_Disk_Read_E 43 (disk_Disk_Read_O Kv) k := fun _ => holdsAt_ge (disk_Disk_Read_n Kv) (Nat.zero_le _)

theorem disk_Disk_Read_ok : Sound Try.prog 26 disk_Disk_Read_S := ⟨Try.call26, fun vs w Kv h => by
  unfold disk_Disk_Read_S at h
  split at h
  · have h := h.out
    rw [disk_Disk_Read_e] at h
    exact calls_sound (Γ := disk_Disk_Read_E) progMixed trivial Try.func26 (code := disk_Disk_Read_C) (by kernel_rfl) (disk_Disk_Read_A Kv) Kv (holds_all (disk_Disk_Read_h Kv)) (Nat.le_of_ble_eq_true rfl) h
  · exact h.elim⟩

/-! probityref26_Disk_Read -/
def probityref26_Disk_Read_sd (d_0 : Option Addr) (off_1 : Int) (n_2 : Int) (K : ByteArray → World → Prop) (w : World) : Prop :=
  cnd (decide (off_1 < (0 : Int)))
    (K (str []) w)
    (cnd (decide (n_2 < (1 : Int)))
    (K (str []) w)
    (nz d_0 fun a1 => ∃ x2 : ByteArray, w.cell? a1 = some (Value.string x2) ∧ cnd (decide (off_1 ≥ (x2.size : Int)))
    (K (str []) w)
    (let w3 : World := w.drew
  nz d_0 fun a4 => ∃ x5 : ByteArray, w3.cell? a4 = some (Value.string x5) ∧ nz d_0 fun a6 => ∃ x7 : ByteArray, w3.cell? a6 = some (Value.string x7) ∧ inR .i64 ((x7.size : Int) - off_1) ∧ inR .i64 (off_1 + (min n_2 ((x7.size : Int) - off_1))) ∧ (0 ≤ off_1 ∧ off_1 ≤ (off_1 + (min n_2 ((x7.size : Int) - off_1))) ∧ (off_1 + (min n_2 ((x7.size : Int) - off_1))) ≤ (x5.size : Nat)) ∧ K (x5.extract off_1.toNat (off_1 + (min n_2 ((x7.size : Int) - off_1))).toNat) w3)))

structure probityref26_Disk_Read_sh (d_0 : Option Addr) (off_1 : Int) (n_2 : Int) (K : ByteArray → World → Prop) (w : World) : Prop where
  out : probityref26_Disk_Read_sd d_0 off_1 n_2 K w

noncomputable def probityref26_Disk_Read_S : Pw.Spec := fun vs w Kv =>
  match vs with
  | [.pointer d_0, .int .i64 off_1, .int .i64 n_2] => probityref26_Disk_Read_sh d_0 off_1 n_2 (fun (r0 : ByteArray) (w' : World) => Kv (Value.string r0) w') w
  | _ => False

noncomputable def probityref26_Disk_Read_E : Pw.Env := []

noncomputable def probityref26_Disk_Read_C : Code := (Try.f30.body).getD .skip

noncomputable def probityref26_Disk_Read_A (Kv : VW) : Pw.A :=
  (A.seq (A.reg (RA.run RA.done))
   (A.seq (A.seq (A.reg (RA.run (RA.run (RA.run (RA.spl 9 (RA.skp (RA.skp (RA.run (RA.run (RA.skp (RA.skp (RA.skp (RA.skp (RA.skp (RA.skp (RA.skp (RA.run RA.done)))))))))))) (RA.run (RA.run (RA.run (RA.run (RA.spl 13 (RA.skp (RA.skp (RA.skp (RA.skp (RA.skp (RA.skp (RA.skp (RA.run RA.done)))))))) (RA.run (RA.run (RA.run (RA.run (RA.run (RA.run (RA.run (RA.run RA.done))))))))))))))))))
   (A.cond (A.seq (A.reg (RA.run RA.done))
   A.leaf)
   A.leaf))
   (A.seq (A.drp (DA.pur 0 (DA.pur 1 (DA.pur 2 (DA.pur 3 (DA.pur 4 (DA.pur 5 (DA.pur 6 (DA.pur 7 (DA.pur 8 (DA.pur 9 (DA.pur 10 (DA.pur 11 (DA.pur 12 (DA.pur 13 (DA.pur 14 (DA.pur 15 (DA.pur 16 (DA.pur 17 DA.done)))))))))))))))))))
   A.leaf)))

noncomputable def probityref26_Disk_Read_O (Kv : VW) : List Ob := (obs Try.prog probityref26_Disk_Read_E 39 (probityref26_Disk_Read_A Kv) probityref26_Disk_Read_C (fun _ => retQ Try.prog Try.f30.results Kv))

theorem probityref26_Disk_Read_e (Kv : VW) (d_0 : Option Addr) (off_1 : Int) (n_2 : Int) (w : World) : probityref26_Disk_Read_sd d_0 off_1 n_2 (fun (r0 : ByteArray) (w' : World) => Kv (Value.string r0) w') w = W Try.prog probityref26_Disk_Read_E 39 (probityref26_Disk_Read_A Kv) probityref26_Disk_Read_C [] (retQ Try.prog Try.f30.results Kv) (startS [(Value.pointer d_0), (Value.int .i64 off_1), (Value.int .i64 n_2)]) w := by kernel_rfl

theorem probityref26_Disk_Read_n (Kv : VW) : obAt (probityref26_Disk_Read_O Kv) 0 = none := by kernel_rfl

theorem probityref26_Disk_Read_h (Kv : VW) : ∀ k, holdsAt Try.prog probityref26_Disk_Read_E 39 (probityref26_Disk_Read_O Kv) k := fun _ => holdsAt_ge (probityref26_Disk_Read_n Kv) (Nat.zero_le _)

theorem probityref26_Disk_Read_ok : Sound Try.prog 30 probityref26_Disk_Read_S := ⟨Try.call30, fun vs w Kv h => by
  unfold probityref26_Disk_Read_S at h
  split at h
  · have h := h.out
    rw [probityref26_Disk_Read_e] at h
    exact calls_sound (Γ := probityref26_Disk_Read_E) progMixed trivial Try.func30 (code := probityref26_Disk_Read_C) (by kernel_rfl) (probityref26_Disk_Read_A Kv) Kv (holds_all (probityref26_Disk_Read_h Kv)) (Nat.le_of_ble_eq_true rfl) h
  · exact h.elim⟩

/-! probityref26_Put -/
def probityref26_Put_b0 (c_0 : ByteArray) (off_1 : Int) (s_2 : ByteArray) (N0 : ByteArray → Int → ByteArray → World → Prop)  (K : ByteArray → World → Prop) (w : World) : Prop :=
  cnd (decide ((c_0.size : Int) < off_1))
    (inR .i64 (off_1 - (c_0.size : Int)) ∧ mkS 1 [(Value.int .u8 (0 : Int))] 5 (off_1 - (c_0.size : Int)) (off_1 - (c_0.size : Int)) w fun (s1 : Sl) (w2 : World) => btsS s1 w2 fun (s3 : ByteArray) => (((c_0.size + s3.size : Nat) : Int) ≤ maxI) ∧ N0 (c_0 ++ s3) off_1 s_2 w2)
    (inR .i64 (off_1 + (s_2.size : Int)) ∧ cnd (decide ((off_1 + (s_2.size : Int)) ≥ (c_0.size : Int)))
    ((0 ≤ (0 : Int) ∧ (0 : Int) ≤ off_1 ∧ off_1 ≤ (c_0.size : Nat)) ∧ ((((c_0.extract 0 off_1.toNat).size + s_2.size : Nat) : Int) ≤ maxI) ∧ K ((c_0.extract 0 off_1.toNat) ++ s_2) w)
    (let w4 : World := w.drew
  (0 ≤ (0 : Int) ∧ (0 : Int) ≤ off_1 ∧ off_1 ≤ (c_0.size : Nat)) ∧ ((((c_0.extract 0 off_1.toNat).size + s_2.size : Nat) : Int) ≤ maxI) ∧ (0 ≤ (off_1 + (s_2.size : Int)) ∧ (off_1 + (s_2.size : Int)) ≤ (c_0.size : Nat)) ∧ (((((c_0.extract 0 off_1.toNat) ++ s_2).size + (c_0.extract (off_1 + (s_2.size : Int)).toNat c_0.size).size : Nat) : Int) ≤ maxI) ∧ K (((c_0.extract 0 off_1.toNat) ++ s_2) ++ (c_0.extract (off_1 + (s_2.size : Int)).toNat c_0.size)) w4))
def probityref26_Put_l0d (c_0 : ByteArray) (off_1 : Int) (s_2 : ByteArray)  (K : ByteArray → World → Prop) (w : World) : Prop :=
  ∃ (I : ByteArray → World → Prop) (μ : ByteArray → World → Nat), I c_0 w ∧ ∀ (c_01 : ByteArray) (w1 : World), I c_01 w1 →
    probityref26_Put_b0 c_01 off_1 s_2 (fun (c_0' : ByteArray) (off_1' : Int) (s_2' : ByteArray) (w' : World) => ((off_1' = off_1 ∧ s_2' = s_2 ∧ True) ∧ I c_0' w') ∧ μ c_0' w' < μ c_01 w1)  K w1
structure probityref26_Put_l0 (c_0 : ByteArray) (off_1 : Int) (s_2 : ByteArray)  (K : ByteArray → World → Prop) (w : World) : Prop where
  out : probityref26_Put_l0d c_0 off_1 s_2 K w

def probityref26_Put_sd (c_0 : ByteArray) (off_1 : Int) (s_2 : ByteArray) (K : ByteArray → World → Prop) (w : World) : Prop :=
  probityref26_Put_l0 c_0 off_1 s_2 K w

structure probityref26_Put_sh (c_0 : ByteArray) (off_1 : Int) (s_2 : ByteArray) (K : ByteArray → World → Prop) (w : World) : Prop where
  out : probityref26_Put_sd c_0 off_1 s_2 K w

def probityref26_Put_P0 (Kv : VW) (ρ : Rho) (vs : List Value) (w : World) : Prop :=
  match ρ, vs with
  | _, [.string c_0, .int .i64 off_1, .string s_2] => probityref26_Put_l0 c_0 off_1 s_2  (fun (r0 : ByteArray) (w' : World) => Kv (Value.string r0) w') w
  | _, _ => False

noncomputable def probityref26_Put_S : Pw.Spec := fun vs w Kv =>
  match vs with
  | [.string c_0, .int .i64 off_1, .string s_2] => probityref26_Put_sh c_0 off_1 s_2 (fun (r0 : ByteArray) (w' : World) => Kv (Value.string r0) w') w
  | _ => False

noncomputable def probityref26_Put_E : Pw.Env := []

noncomputable def probityref26_Put_C : Code := (Try.f37.body).getD .skip

noncomputable def probityref26_Put_A (Kv : VW) : Pw.A :=
  (A.seq (A.reg (RA.run RA.done))
   (A.seq (A.blk (A.loop [0, 1, 2] (probityref26_Put_P0 Kv) (A.seq (A.seq (A.reg (RA.run (RA.run (RA.run (RA.run RA.done)))))
   (A.cond A.leaf
   A.leaf))
   (A.blk (A.reg (RA.run (RA.run (RA.run (RA.run (RA.run (RA.run (RA.run (RA.run (RA.run RA.done))))))))))))))
   (A.seq (A.reg (RA.run (RA.run (RA.run (RA.run (RA.run RA.done))))))
   (A.seq (A.seq (A.reg (RA.run (RA.run (RA.run (RA.run RA.done)))))
   (A.cond (A.seq (A.reg (RA.run (RA.run (RA.run (RA.run (RA.run (RA.run RA.done)))))))
   A.leaf)
   A.leaf))
   (A.seq (A.drp (DA.pur 0 (DA.pur 1 (DA.pur 2 (DA.pur 3 (DA.pur 4 (DA.pur 5 (DA.pur 6 (DA.pur 7 (DA.pur 8 (DA.pur 9 DA.done)))))))))))
   A.leaf)))))

noncomputable def probityref26_Put_O (Kv : VW) : List Ob := (obs Try.prog probityref26_Put_E 42 (probityref26_Put_A Kv) probityref26_Put_C (fun _ => retQ Try.prog Try.f37.results Kv))

theorem probityref26_Put_e (Kv : VW) (c_0 : ByteArray) (off_1 : Int) (s_2 : ByteArray) (w : World) : probityref26_Put_sd c_0 off_1 s_2 (fun (r0 : ByteArray) (w' : World) => Kv (Value.string r0) w') w = W Try.prog probityref26_Put_E 42 (probityref26_Put_A Kv) probityref26_Put_C [] (retQ Try.prog Try.f37.results Kv) (startS [(Value.string c_0), (Value.int .i64 off_1), (Value.string s_2)]) w := by kernel_rfl

theorem probityref26_Put_e0 (Kv : VW) (N0 : List Value → World → Prop) (ρ : Rho) (c_0 : ByteArray) (off_1 : Int) (s_2 : ByteArray) (w : World) : probityref26_Put_b0 c_0 off_1 s_2 (fun (c_0' : ByteArray) (off_1' : Int) (s_2' : ByteArray) (w' : World) => N0 [(Value.string c_0'), (Value.int .i64 off_1'), (Value.string s_2')] w')  (fun (r0 : ByteArray) (w' : World) => Kv (Value.string r0) w') w = goalAt Try.prog probityref26_Put_E 42 (probityref26_Put_O Kv) 0 (N0 :: ρ) [(Value.string c_0), (Value.int .i64 off_1), (Value.string s_2)] w := by kernel_rfl

theorem probityref26_Put_q0 (Kv : VW) (ρ : Rho) (vs : List Value) (w : World) : labAt (probityref26_Put_O Kv) 0 ρ vs w = probityref26_Put_P0 Kv ρ vs w := by kernel_rfl

def probityref26_Put_I0 (off_10 : Int) (s_20 : ByteArray) (I : ByteArray → World → Prop) (vs : List Value) (w : World) : Prop :=
  match vs with
  | [.string c_0, .int .i64 off_1, .string s_2] => (off_1 = off_10 ∧ s_2 = s_20 ∧ True) ∧ I c_0 w
  | _ => False

def probityref26_Put_M0 (μ : ByteArray → World → Nat) (vs : List Value) (w : World) : Nat :=
  match vs with
  | [.string c_0, .int .i64 off_1, .string s_2] => μ c_0 w
  | _ => 0

theorem probityref26_Put_h0 (Kv : VW) : holdsAt Try.prog probityref26_Put_E 42 (probityref26_Put_O Kv) 0 := holdsAt_loop (by kernel_rfl) (fun ρ vs w h => by
  rw [probityref26_Put_q0] at h
  unfold probityref26_Put_P0 at h
  split at h
  · rename_i ρt c_0 off_1 s_2
    obtain ⟨I, μ, h0, hr⟩ := h.out
    refine ⟨probityref26_Put_I0 off_1 s_2 I, probityref26_Put_M0 μ, ⟨⟨rfl, rfl, trivial⟩, h0⟩, fun vs w hI => ?_⟩
    unfold probityref26_Put_I0 at hI
    split at hI
    · obtain ⟨⟨h0, h1, _⟩, hI⟩ := hI
      cases h0; cases h1
      rw [← probityref26_Put_e0]
      exact hr _ _ hI
    · exact hI.elim
  · exact h.elim)

theorem probityref26_Put_n (Kv : VW) : obAt (probityref26_Put_O Kv) 1 = none := by kernel_rfl

theorem probityref26_Put_h (Kv : VW) : ∀ k, holdsAt Try.prog probityref26_Put_E 42 (probityref26_Put_O Kv) k := fun k => match k with
  | 0 => probityref26_Put_h0 Kv
  | k + 1 => holdsAt_ge (probityref26_Put_n Kv) (Nat.le_add_left _ _)

theorem probityref26_Put_ok : Sound Try.prog 37 probityref26_Put_S := ⟨Try.call37, fun vs w Kv h => by
  unfold probityref26_Put_S at h
  split at h
  · have h := h.out
    rw [probityref26_Put_e] at h
    exact calls_sound (Γ := probityref26_Put_E) progMixed trivial Try.func37 (code := probityref26_Put_C) (by kernel_rfl) (probityref26_Put_A Kv) Kv (holds_all (probityref26_Put_h Kv)) (Nat.le_of_ble_eq_true rfl) h
  · exact h.elim⟩

/-! probityref26_Act_Long -/
def probityref26_Act_Long_k1d (s_3 : ByteArray)  (K : ByteArray → World → Prop) (w : World) : Prop :=
  (0 ≤ (0 : Int) ∧ (0 : Int) ≤ (min (s_3.size : Int) (200 : Int)) ∧ (min (s_3.size : Int) (200 : Int)) ≤ (s_3.size : Nat)) ∧ K (s_3.extract 0 (min (s_3.size : Int) (200 : Int)).toNat) w
structure probityref26_Act_Long_k1 (s_3 : ByteArray)  (K : ByteArray → World → Prop) (w : World) : Prop where
  out : probityref26_Act_Long_k1d s_3 K w

def probityref26_Act_Long_b0 (a_1 : Addr) (s_3 : ByteArray) (N0 : Addr → ByteArray → World → Prop)  (K : ByteArray → World → Prop) (w : World) : Prop :=
  cnd (decide ((s_3.size : Int) > (0 : Int)))
    (∃ x3 : Int, w.cell? (a_1.add 2) = some (Value.int .i64 x3) ∧ probityref26_Mod_sh x3 (200 : Int) (fun (r5 : Int) (w4 : World) => cnd (decide ((s_3.size : Int) < r5))
    (∃ x6 : ByteArray, w4.cell? (a_1.add 3) = some (Value.string x6) ∧ (((s_3.size + x6.size : Nat) : Int) ≤ maxI) ∧ N0 a_1 (s_3 ++ x6) w4)
    (probityref26_Act_Long_k1 s_3 K w4)) w)
    (probityref26_Act_Long_k1 s_3 K w)
def probityref26_Act_Long_l0d (a_1 : Addr) (s_3 : ByteArray)  (K : ByteArray → World → Prop) (w : World) : Prop :=
  ∃ (I : ByteArray → World → Prop) (μ : ByteArray → World → Nat), I s_3 w ∧ ∀ (s_31 : ByteArray) (w1 : World), I s_31 w1 →
    probityref26_Act_Long_b0 a_1 s_31 (fun (a_1' : Addr) (s_3' : ByteArray) (w' : World) => ((a_1' = a_1 ∧ True) ∧ I s_3' w') ∧ μ s_3' w' < μ s_31 w1)  K w1
structure probityref26_Act_Long_l0 (a_1 : Addr) (s_3 : ByteArray)  (K : ByteArray → World → Prop) (w : World) : Prop where
  out : probityref26_Act_Long_l0d a_1 s_3 K w

def probityref26_Act_Long_sd (a_0_0 : Int) (a_0_1 : Int) (a_0_2 : Int) (a_0_3 : ByteArray) (K : ByteArray → World → Prop) (w : World) : Prop :=
  let w1 : World := w.alloc (Obj.cells #[(Value.int .i64 a_0_0), (Value.int .i64 a_0_1), (Value.int .i64 a_0_2), (Value.string a_0_3)] 33)
  ∃ x2 : ByteArray, w1.cell? (Addr.mk w.heap.size 3 none) = some (Value.string x2) ∧ probityref26_Act_Long_l0 (Addr.mk w.heap.size 0 none) x2 K w1

structure probityref26_Act_Long_sh (a_0_0 : Int) (a_0_1 : Int) (a_0_2 : Int) (a_0_3 : ByteArray) (K : ByteArray → World → Prop) (w : World) : Prop where
  out : probityref26_Act_Long_sd a_0_0 a_0_1 a_0_2 a_0_3 K w

def probityref26_Act_Long_P0 (Kv : VW) (ρ : Rho) (vs : List Value) (w : World) : Prop :=
  match ρ, vs with
  | _, [.pointer (some a_1), .string s_3] => probityref26_Act_Long_l0 a_1 s_3  (fun (r0 : ByteArray) (w' : World) => Kv (Value.string r0) w') w
  | _, _ => False

def probityref26_Act_Long_P1 (Kv : VW) (ρ : Rho) (vs : List Value) (w : World) : Prop :=
  match ρ, vs with
  | _, [.string s_3] => probityref26_Act_Long_k1 s_3  (fun (r0 : ByteArray) (w' : World) => Kv (Value.string r0) w') w
  | _, _ => False

noncomputable def probityref26_Act_Long_S : Pw.Spec := fun vs w Kv =>
  match vs with
  | [.agg ⟨[.int .i64 a_0_0, .int .i64 a_0_1, .int .i64 a_0_2, .string a_0_3]⟩] => probityref26_Act_Long_sh a_0_0 a_0_1 a_0_2 a_0_3 (fun (r0 : ByteArray) (w' : World) => Kv (Value.string r0) w') w
  | _ => False

noncomputable def probityref26_Act_Long_E : Pw.Env := [(21, probityref26_Mod_S)]

noncomputable def probityref26_Act_Long_C : Code := (Try.f35.body).getD .skip

noncomputable def probityref26_Act_Long_A (Kv : VW) : Pw.A :=
  (A.seq (A.reg (RA.run (RA.run RA.done)))
   (A.seq (A.reg (RA.run (RA.run (RA.run RA.done))))
   (A.seq (A.blk (A.loop [1, 3] (probityref26_Act_Long_P0 Kv) (A.seq (A.seq (A.reg (RA.run (RA.run (RA.run (RA.run (RA.spl 9 (RA.run (RA.run (RA.run (RA.run (RA.run (RA.run (RA.run RA.done))))))) (RA.skp (RA.skp (RA.skp (RA.skp (RA.skp (RA.skp (RA.run RA.done)))))))))))))
   (A.cond A.leaf
   A.leaf))
   (A.blk (A.reg (RA.run (RA.run (RA.run (RA.run (RA.run RA.done))))))))))
   (A.cut [3] (probityref26_Act_Long_P1 Kv) (A.seq (A.reg (RA.run (RA.run (RA.run (RA.run (RA.run (RA.run RA.done)))))))
   A.leaf)))))

noncomputable def probityref26_Act_Long_O (Kv : VW) : List Ob := (obs Try.prog probityref26_Act_Long_E 26 (probityref26_Act_Long_A Kv) probityref26_Act_Long_C (fun _ => retQ Try.prog Try.f35.results Kv))

theorem probityref26_Act_Long_e (Kv : VW) (a_0_0 : Int) (a_0_1 : Int) (a_0_2 : Int) (a_0_3 : ByteArray) (w : World) : probityref26_Act_Long_sd a_0_0 a_0_1 a_0_2 a_0_3 (fun (r0 : ByteArray) (w' : World) => Kv (Value.string r0) w') w = W Try.prog probityref26_Act_Long_E 26 (probityref26_Act_Long_A Kv) probityref26_Act_Long_C [] (retQ Try.prog Try.f35.results Kv) (startS [(Value.agg #[(Value.int .i64 a_0_0), (Value.int .i64 a_0_1), (Value.int .i64 a_0_2), (Value.string a_0_3)])]) w := by kernel_rfl

theorem probityref26_Act_Long_e0 (Kv : VW) (N0 : List Value → World → Prop) (ρ : Rho) (a_1 : Addr) (s_3 : ByteArray) (w : World) : probityref26_Act_Long_b0 a_1 s_3 (fun (a_1' : Addr) (s_3' : ByteArray) (w' : World) => N0 [(Value.pointer (some a_1')), (Value.string s_3')] w')  (fun (r0 : ByteArray) (w' : World) => Kv (Value.string r0) w') w = goalAt Try.prog probityref26_Act_Long_E 26 (probityref26_Act_Long_O Kv) 0 (N0 :: ρ) [(Value.pointer (some a_1)), (Value.string s_3)] w := by kernel_rfl

theorem probityref26_Act_Long_q0 (Kv : VW) (ρ : Rho) (vs : List Value) (w : World) : labAt (probityref26_Act_Long_O Kv) 0 ρ vs w = probityref26_Act_Long_P0 Kv ρ vs w := by kernel_rfl

def probityref26_Act_Long_I0 (a_10 : Addr) (I : ByteArray → World → Prop) (vs : List Value) (w : World) : Prop :=
  match vs with
  | [.pointer (some a_1), .string s_3] => (a_1 = a_10 ∧ True) ∧ I s_3 w
  | _ => False

def probityref26_Act_Long_M0 (μ : ByteArray → World → Nat) (vs : List Value) (w : World) : Nat :=
  match vs with
  | [.pointer (some a_1), .string s_3] => μ s_3 w
  | _ => 0

theorem probityref26_Act_Long_h0 (Kv : VW) : holdsAt Try.prog probityref26_Act_Long_E 26 (probityref26_Act_Long_O Kv) 0 := holdsAt_loop (by kernel_rfl) (fun ρ vs w h => by
  rw [probityref26_Act_Long_q0] at h
  unfold probityref26_Act_Long_P0 at h
  split at h
  · rename_i ρt a_1 s_3
    obtain ⟨I, μ, h0, hr⟩ := h.out
    refine ⟨probityref26_Act_Long_I0 a_1 I, probityref26_Act_Long_M0 μ, ⟨⟨rfl, trivial⟩, h0⟩, fun vs w hI => ?_⟩
    unfold probityref26_Act_Long_I0 at hI
    split at hI
    · obtain ⟨⟨h0, _⟩, hI⟩ := hI
      cases h0
      rw [← probityref26_Act_Long_e0]
      exact hr _ _ hI
    · exact hI.elim
  · exact h.elim)

theorem probityref26_Act_Long_e1 (Kv : VW) (ρ : Rho) (s_3 : ByteArray) (w : World) : probityref26_Act_Long_k1d s_3  (fun (r0 : ByteArray) (w' : World) => Kv (Value.string r0) w') w = goalAt Try.prog probityref26_Act_Long_E 26 (probityref26_Act_Long_O Kv) 1 (ρ) [(Value.string s_3)] w := by kernel_rfl

theorem probityref26_Act_Long_q1 (Kv : VW) (ρ : Rho) (vs : List Value) (w : World) : labAt (probityref26_Act_Long_O Kv) 1 ρ vs w = probityref26_Act_Long_P1 Kv ρ vs w := by kernel_rfl

theorem probityref26_Act_Long_h1 (Kv : VW) : holdsAt Try.prog probityref26_Act_Long_E 26 (probityref26_Act_Long_O Kv) 1 := holdsAt_cut (by kernel_rfl) (fun ρ vs w h => by
  rw [probityref26_Act_Long_q1] at h
  unfold probityref26_Act_Long_P1 at h
  split at h
  · rw [← probityref26_Act_Long_e1]; exact h.out
  · exact h.elim)

theorem probityref26_Act_Long_n (Kv : VW) : obAt (probityref26_Act_Long_O Kv) 2 = none := by kernel_rfl

theorem probityref26_Act_Long_h (Kv : VW) : ∀ k, holdsAt Try.prog probityref26_Act_Long_E 26 (probityref26_Act_Long_O Kv) k := fun k => match k with
  | 0 => probityref26_Act_Long_h0 Kv
  | 1 => probityref26_Act_Long_h1 Kv
  | k + 2 => holdsAt_ge (probityref26_Act_Long_n Kv) (Nat.le_add_left _ _)

theorem probityref26_Act_Long_ok : Sound Try.prog 35 probityref26_Act_Long_S := ⟨Try.call35, fun vs w Kv h => by
  unfold probityref26_Act_Long_S at h
  split at h
  · have h := h.out
    rw [probityref26_Act_Long_e] at h
    exact calls_sound (Γ := probityref26_Act_Long_E) progMixed ⟨probityref26_Mod_ok, trivial⟩ Try.func35 (code := probityref26_Act_Long_C) (by kernel_rfl) (probityref26_Act_Long_A Kv) Kv (holds_all (probityref26_Act_Long_h Kv)) (Nat.le_of_ble_eq_true rfl) h
  · exact h.elim⟩

/-! disk_Disk_Crash -/
def disk_Disk_Crash_b0 (survive_1 : Sl) (out_5 : Option Addr) (c_6 : Sl) (t_23 : Sl) (t_24 : Int) (t_25 : Int) (N0 : Sl → Option Addr → Sl → Sl → Int → Int → World → Prop)  (K : Option Addr → World → Prop) (w : World) : Prop :=
  cnd (decide (t_25 < t_24))
    (nz t_23.p fun a10 => (0 ≤ t_25 ∧ t_25 < (t_23.l : Nat)) ∧ ∃ x11 : Int, w.cell? (a10.add (t_25.toNat * 2)) = some (Value.int .i64 x11) ∧ ∃ x12 : Sl, w.cell? ((a10.add (t_25.toNat * 2)).add 1) = some (Value.slice x12.p x12.l x12.c) ∧ let w13 : World := w.alloc (Obj.cells #[(Value.int .i64 (0 : Int)), (Value.slice none 0 0)] 68)
  wrOk w13 (Addr.mk w.heap.size 0 none) ∧ 
  (let w14 : World := w13.setCell (Addr.mk w.heap.size 0 none) (Value.int .i64 x11)
  wrOk w14 (Addr.mk w.heap.size 1 none) ∧ 
  (let w15 : World := w14.setCell (Addr.mk w.heap.size 1 none) (Value.slice x12.p x12.l x12.c)
  cnd (decide ((survive_1.l : Int) > (0 : Int)))
    ((survive_1.l : Int) ≠ 0 ∧ nz survive_1.p fun a16 => (0 ≤ (Int.tmod t_25 (survive_1.l : Int)) ∧ (Int.tmod t_25 (survive_1.l : Int)) < (survive_1.l : Nat)) ∧ ∃ x17 : Int, w15.cell? (a16.add ((Int.tmod t_25 (survive_1.l : Int)).toNat * 1)) = some (Value.int .i64 x17) ∧ (2 : Int) ≠ 0 ∧ cnd ((Int.tmod x17 (2 : Int)) != (0 : Int))
    (∃ x18 : Int, w15.cell? (Addr.mk w.heap.size 0 none) = some (Value.int .i64 x18) ∧ ∃ x19 : Sl, w15.cell? (Addr.mk w.heap.size 1 none) = some (Value.slice x19.p x19.l x19.c) ∧ disk_put_sh c_6 x18 x19 (fun (r21 : Sl) (w20 : World) => inR .i64 (t_25 + (1 : Int)) ∧ N0 survive_1 out_5 r21 t_23 t_24 (t_25 + (1 : Int)) w20) w15)
    (inR .i64 (t_25 + (1 : Int)) ∧ N0 survive_1 out_5 c_6 t_23 t_24 (t_25 + (1 : Int)) w15))
    (inR .i64 (t_25 + (1 : Int)) ∧ N0 survive_1 out_5 c_6 t_23 t_24 (t_25 + (1 : Int)) w15))))
    (nz out_5 fun a22 => wrOk w a22 ∧ 
  (let w23 : World := w.setCell a22 (Value.slice c_6.p c_6.l c_6.c)
  let w24 : World := w23.alloc (Obj.cells #[] 5)
  apS 1 1 [(Value.int .u8 (0 : Int))] 5 (Sl.mk (some (Addr.mk w23.heap.size 0 none)) 0 0) c_6 w24 fun (s25 : Sl) (w26 : World) => nz out_5 fun a27 => wrOk w26 (a27.add 1) ∧ 
  (let w28 : World := w26.setCell (a27.add 1) (Value.slice s25.p s25.l s25.c)
  K out_5 w28)))
def disk_Disk_Crash_l0d (survive_1 : Sl) (out_5 : Option Addr) (c_6 : Sl) (t_23 : Sl) (t_24 : Int) (t_25 : Int)  (K : Option Addr → World → Prop) (w : World) : Prop :=
  ∃ (I : Sl → Int → World → Prop) (μ : Sl → Int → World → Nat), I c_6 t_25 w ∧ ∀ (c_61 : Sl) (t_251 : Int) (w1 : World), I c_61 t_251 w1 →
    disk_Disk_Crash_b0 survive_1 out_5 c_61 t_23 t_24 t_251 (fun (survive_1' : Sl) (out_5' : Option Addr) (c_6' : Sl) (t_23' : Sl) (t_24' : Int) (t_25' : Int) (w' : World) => ((survive_1' = survive_1 ∧ out_5' = out_5 ∧ t_23' = t_23 ∧ t_24' = t_24 ∧ True) ∧ I c_6' t_25' w') ∧ μ c_6' t_25' w' < μ c_61 t_251 w1)  K w1
structure disk_Disk_Crash_l0 (survive_1 : Sl) (out_5 : Option Addr) (c_6 : Sl) (t_23 : Sl) (t_24 : Int) (t_25 : Int)  (K : Option Addr → World → Prop) (w : World) : Prop where
  out : disk_Disk_Crash_l0d survive_1 out_5 c_6 t_23 t_24 t_25 K w

def disk_Disk_Crash_sd (d_0 : Option Addr) (survive_1 : Sl) (K : Option Addr → World → Prop) (w : World) : Prop :=
  disk_New_sh (fun (r2 : Option Addr) (w1 : World) => cnd d_0.isNone
    (K r2 w1)
    (let w3 : World := w1.alloc (Obj.cells #[] 5)
  nz d_0 fun a4 => ∃ x5 : Sl, w3.cell? (a4.add 1) = some (Value.slice x5.p x5.l x5.c) ∧ apS 1 1 [(Value.int .u8 (0 : Int))] 5 (Sl.mk (some (Addr.mk w1.heap.size 0 none)) 0 0) x5 w3 fun (s6 : Sl) (w7 : World) => nz d_0 fun a8 => ∃ x9 : Sl, w7.cell? (a8.add 2) = some (Value.slice x9.p x9.l x9.c) ∧ disk_Disk_Crash_l0 survive_1 r2 s6 x9 (x9.l : Int) (0 : Int) K w7)) w

structure disk_Disk_Crash_sh (d_0 : Option Addr) (survive_1 : Sl) (K : Option Addr → World → Prop) (w : World) : Prop where
  out : disk_Disk_Crash_sd d_0 survive_1 K w

def disk_Disk_Crash_P0 (Kv : VW) (ρ : Rho) (vs : List Value) (w : World) : Prop :=
  match ρ, vs with
  | _, [.slice survive_1p survive_1l survive_1c, .pointer out_5, .slice c_6p c_6l c_6c, .slice t_23p t_23l t_23c, .int .i64 t_24, .int .i64 t_25] => disk_Disk_Crash_l0 ⟨survive_1p, survive_1l, survive_1c⟩ out_5 ⟨c_6p, c_6l, c_6c⟩ ⟨t_23p, t_23l, t_23c⟩ t_24 t_25  (fun (r0 : Option Addr) (w' : World) => Kv (Value.pointer r0) w') w
  | _, _ => False

noncomputable def disk_Disk_Crash_S : Pw.Spec := fun vs w Kv =>
  match vs with
  | [.pointer d_0, .slice survive_1p survive_1l survive_1c] => disk_Disk_Crash_sh d_0 ⟨survive_1p, survive_1l, survive_1c⟩ (fun (r0 : Option Addr) (w' : World) => Kv (Value.pointer r0) w') w
  | _ => False

noncomputable def disk_Disk_Crash_E : Pw.Env := [(13, disk_New_S), (36, disk_put_S)]

noncomputable def disk_Disk_Crash_C : Code := (Try.f22.body).getD .skip

noncomputable def disk_Disk_Crash_A (Kv : VW) : Pw.A :=
  (A.seq (A.reg (RA.run RA.done))
   (A.seq (A.reg (RA.run (RA.run RA.done)))
   (A.seq (A.seq (A.reg (RA.run (RA.run RA.done)))
   (A.cond (A.seq (A.reg (RA.run (RA.run RA.done)))
   A.leaf)
   A.leaf))
   (A.seq (A.reg (RA.run (RA.run (RA.run (RA.run (RA.run (RA.run (RA.run RA.done))))))))
   (A.seq (A.seq (A.reg (RA.run (RA.run (RA.run (RA.run (RA.run (RA.run (RA.run RA.done))))))))
   (A.blk (A.loop [1, 5, 6, 23, 24, 25] (disk_Disk_Crash_P0 Kv) (A.seq (A.reg (RA.run RA.done))
   (A.seq (A.cond A.leaf
   A.leaf)
   (A.seq (A.blk (A.seq (A.reg (RA.run (RA.run (RA.run (RA.run (RA.run (RA.run RA.done)))))))
   (A.seq (A.reg (RA.run (RA.run (RA.run (RA.run (RA.spl 33 (RA.run (RA.run (RA.run (RA.run (RA.run (RA.run (RA.run (RA.run (RA.run (RA.run RA.done)))))))))) (RA.skp (RA.skp (RA.skp (RA.skp (RA.skp (RA.skp (RA.skp (RA.skp (RA.skp (RA.run RA.done))))))))))))))))
   (A.cond (A.reg (RA.run (RA.run (RA.run (RA.run (RA.run (RA.run (RA.run RA.done))))))))
   A.leaf))))
   (A.reg (RA.run (RA.run RA.done)))))))))
   (A.seq (A.reg (RA.run (RA.run (RA.run (RA.run (RA.run RA.done))))))
   (A.seq (A.reg (RA.run (RA.run (RA.run (RA.run (RA.run (RA.run (RA.run RA.done))))))))
   (A.seq (A.reg (RA.run (RA.run RA.done)))
   A.leaf))))))))

noncomputable def disk_Disk_Crash_O (Kv : VW) : List Ob := (obs Try.prog disk_Disk_Crash_E 62 (disk_Disk_Crash_A Kv) disk_Disk_Crash_C (fun _ => retQ Try.prog Try.f22.results Kv))

theorem disk_Disk_Crash_e (Kv : VW) (d_0 : Option Addr) (survive_1p : Option Addr) (survive_1l survive_1c : Nat) (w : World) : disk_Disk_Crash_sd d_0 ⟨survive_1p, survive_1l, survive_1c⟩ (fun (r0 : Option Addr) (w' : World) => Kv (Value.pointer r0) w') w = W Try.prog disk_Disk_Crash_E 62 (disk_Disk_Crash_A Kv) disk_Disk_Crash_C [] (retQ Try.prog Try.f22.results Kv) (startS [(Value.pointer d_0), (Value.slice survive_1p survive_1l survive_1c)]) w := by kernel_rfl

theorem disk_Disk_Crash_e0 (Kv : VW) (N0 : List Value → World → Prop) (ρ : Rho) (survive_1p : Option Addr) (survive_1l survive_1c : Nat) (out_5 : Option Addr) (c_6p : Option Addr) (c_6l c_6c : Nat) (t_23p : Option Addr) (t_23l t_23c : Nat) (t_24 : Int) (t_25 : Int) (w : World) : disk_Disk_Crash_b0 ⟨survive_1p, survive_1l, survive_1c⟩ out_5 ⟨c_6p, c_6l, c_6c⟩ ⟨t_23p, t_23l, t_23c⟩ t_24 t_25 (fun (survive_1' : Sl) (out_5' : Option Addr) (c_6' : Sl) (t_23' : Sl) (t_24' : Int) (t_25' : Int) (w' : World) => N0 [(Value.slice survive_1'.p survive_1'.l survive_1'.c), (Value.pointer out_5'), (Value.slice c_6'.p c_6'.l c_6'.c), (Value.slice t_23'.p t_23'.l t_23'.c), (Value.int .i64 t_24'), (Value.int .i64 t_25')] w')  (fun (r0 : Option Addr) (w' : World) => Kv (Value.pointer r0) w') w = goalAt Try.prog disk_Disk_Crash_E 62 (disk_Disk_Crash_O Kv) 0 (N0 :: ρ) [(Value.slice survive_1p survive_1l survive_1c), (Value.pointer out_5), (Value.slice c_6p c_6l c_6c), (Value.slice t_23p t_23l t_23c), (Value.int .i64 t_24), (Value.int .i64 t_25)] w := by kernel_rfl

theorem disk_Disk_Crash_q0 (Kv : VW) (ρ : Rho) (vs : List Value) (w : World) : labAt (disk_Disk_Crash_O Kv) 0 ρ vs w = disk_Disk_Crash_P0 Kv ρ vs w := by kernel_rfl

def disk_Disk_Crash_I0 (survive_10 : Sl) (out_50 : Option Addr) (t_230 : Sl) (t_240 : Int) (I : Sl → Int → World → Prop) (vs : List Value) (w : World) : Prop :=
  match vs with
  | [.slice survive_1p survive_1l survive_1c, .pointer out_5, .slice c_6p c_6l c_6c, .slice t_23p t_23l t_23c, .int .i64 t_24, .int .i64 t_25] => (⟨survive_1p, survive_1l, survive_1c⟩ = survive_10 ∧ out_5 = out_50 ∧ ⟨t_23p, t_23l, t_23c⟩ = t_230 ∧ t_24 = t_240 ∧ True) ∧ I ⟨c_6p, c_6l, c_6c⟩ t_25 w
  | _ => False

def disk_Disk_Crash_M0 (μ : Sl → Int → World → Nat) (vs : List Value) (w : World) : Nat :=
  match vs with
  | [.slice survive_1p survive_1l survive_1c, .pointer out_5, .slice c_6p c_6l c_6c, .slice t_23p t_23l t_23c, .int .i64 t_24, .int .i64 t_25] => μ ⟨c_6p, c_6l, c_6c⟩ t_25 w
  | _ => 0

theorem disk_Disk_Crash_h0 (Kv : VW) : holdsAt Try.prog disk_Disk_Crash_E 62 (disk_Disk_Crash_O Kv) 0 := holdsAt_loop (by kernel_rfl) (fun ρ vs w h => by
  rw [disk_Disk_Crash_q0] at h
  unfold disk_Disk_Crash_P0 at h
  split at h
  · rename_i ρt survive_1p survive_1l survive_1c out_5 c_6p c_6l c_6c t_23p t_23l t_23c t_24 t_25
    obtain ⟨I, μ, h0, hr⟩ := h.out
    refine ⟨disk_Disk_Crash_I0 ⟨survive_1p, survive_1l, survive_1c⟩ out_5 ⟨t_23p, t_23l, t_23c⟩ t_24 I, disk_Disk_Crash_M0 μ, ⟨⟨rfl, rfl, rfl, rfl, trivial⟩, h0⟩, fun vs w hI => ?_⟩
    unfold disk_Disk_Crash_I0 at hI
    split at hI
    · obtain ⟨⟨h0, h1, h2, h3, _⟩, hI⟩ := hI
      cases h0; cases h1; cases h2; cases h3
      rw [← disk_Disk_Crash_e0]
      exact hr _ _ _ hI
    · exact hI.elim
  · exact h.elim)

theorem disk_Disk_Crash_n (Kv : VW) : obAt (disk_Disk_Crash_O Kv) 1 = none := by kernel_rfl

theorem disk_Disk_Crash_h (Kv : VW) : ∀ k, holdsAt Try.prog disk_Disk_Crash_E 62 (disk_Disk_Crash_O Kv) k := fun k => match k with
  | 0 => disk_Disk_Crash_h0 Kv
  | k + 1 => holdsAt_ge (disk_Disk_Crash_n Kv) (Nat.le_add_left _ _)

theorem disk_Disk_Crash_ok : Sound Try.prog 22 disk_Disk_Crash_S := ⟨Try.call22, fun vs w Kv h => by
  unfold disk_Disk_Crash_S at h
  split at h
  · have h := h.out
    rw [disk_Disk_Crash_e] at h
    exact calls_sound (Γ := disk_Disk_Crash_E) progMixed ⟨disk_New_ok, disk_put_ok, trivial⟩ Try.func22 (code := disk_Disk_Crash_C) (by kernel_rfl) (disk_Disk_Crash_A Kv) Kv (holds_all (disk_Disk_Crash_h Kv)) (Nat.le_of_ble_eq_true rfl) h
  · exact h.elim⟩

/-! probityref26_Disk_Crash -/
def probityref26_Disk_Crash_k1d (c_5 : ByteArray)  (K : Option Addr → World → Prop) (w : World) : Prop :=
  let w19 : World := w.alloc (Obj.cells #[(Value.string c_5), (Value.string c_5), (Value.slice none 0 0), (Value.int .i64 (0 : Int)), (Value.int .i64 (0 : Int)), (Value.bool false)] 65)
  K (some (Addr.mk w.heap.size 0 none)) w19
structure probityref26_Disk_Crash_k1 (c_5 : ByteArray)  (K : Option Addr → World → Prop) (w : World) : Prop where
  out : probityref26_Disk_Crash_k1d c_5 K w

def probityref26_Disk_Crash_b0 (d_0 : Option Addr) (survive_1 : Sl) (c_5 : ByteArray) (k_6 : Int) (N0 : Option Addr → Sl → ByteArray → Int → World → Prop)  (K : Option Addr → World → Prop) (w : World) : Prop :=
  nz d_0 fun a3 => ∃ x4 : Sl, w.cell? (a3.add 2) = some (Value.slice x4.p x4.l x4.c) ∧ cnd (decide (k_6 < (x4.l : Int)))
    (cnd (decide ((survive_1.l : Int) > (0 : Int)))
    ((survive_1.l : Int) ≠ 0 ∧ nz survive_1.p fun a5 => (0 ≤ (Int.tmod k_6 (survive_1.l : Int)) ∧ (Int.tmod k_6 (survive_1.l : Int)) < (survive_1.l : Nat)) ∧ ∃ x6 : Int, w.cell? (a5.add ((Int.tmod k_6 (survive_1.l : Int)).toNat * 1)) = some (Value.int .i64 x6) ∧ (2 : Int) ≠ 0 ∧ cnd ((Int.tmod x6 (2 : Int)) != (0 : Int))
    (let w7 : World := w.drew
  ∃ S8 : World → Prop, S8 w7 ∧ nz d_0 fun a9 => ∃ x10 : Sl, (∀ w' : World, S8 w' → w'.cell? (a9.add 2) = some (Value.slice x10.p x10.l x10.c)) ∧ nz x10.p fun a11 => (0 ≤ k_6 ∧ k_6 < (x10.l : Nat)) ∧ ∃ x12 : Int, (∀ w' : World, S8 w' → w'.cell? (a11.add (k_6.toNat * 2)) = some (Value.int .i64 x12)) ∧ nz d_0 fun a13 => ∃ x14 : Sl, (∀ w' : World, S8 w' → w'.cell? (a13.add 2) = some (Value.slice x14.p x14.l x14.c)) ∧ nz x14.p fun a15 => (0 ≤ k_6 ∧ k_6 < (x14.l : Nat)) ∧ ∃ x16 : ByteArray, (∀ w' : World, S8 w' → w'.cell? ((a15.add (k_6.toNat * 2)).add 1) = some (Value.string x16)) ∧ probityref26_Put_sh c_5 x12 x16 (fun (r18 : ByteArray) (w17 : World) => S8 w17 ∧ inR .i64 (k_6 + (1 : Int)) ∧ N0 d_0 survive_1 r18 (k_6 + (1 : Int)) w17) w7)
    (inR .i64 (k_6 + (1 : Int)) ∧ N0 d_0 survive_1 c_5 (k_6 + (1 : Int)) w))
    (probityref26_Disk_Crash_k1 c_5 K w))
    (probityref26_Disk_Crash_k1 c_5 K w)
def probityref26_Disk_Crash_l0d (d_0 : Option Addr) (survive_1 : Sl) (c_5 : ByteArray) (k_6 : Int)  (K : Option Addr → World → Prop) (w : World) : Prop :=
  ∃ (I : ByteArray → Int → World → Prop) (μ : ByteArray → Int → World → Nat), I c_5 k_6 w ∧ ∀ (c_51 : ByteArray) (k_61 : Int) (w1 : World), I c_51 k_61 w1 →
    probityref26_Disk_Crash_b0 d_0 survive_1 c_51 k_61 (fun (d_0' : Option Addr) (survive_1' : Sl) (c_5' : ByteArray) (k_6' : Int) (w' : World) => ((d_0' = d_0 ∧ survive_1' = survive_1 ∧ True) ∧ I c_5' k_6' w') ∧ μ c_5' k_6' w' < μ c_51 k_61 w1)  K w1
structure probityref26_Disk_Crash_l0 (d_0 : Option Addr) (survive_1 : Sl) (c_5 : ByteArray) (k_6 : Int)  (K : Option Addr → World → Prop) (w : World) : Prop where
  out : probityref26_Disk_Crash_l0d d_0 survive_1 c_5 k_6 K w

def probityref26_Disk_Crash_sd (d_0 : Option Addr) (survive_1 : Sl) (K : Option Addr → World → Prop) (w : World) : Prop :=
  nz d_0 fun a1 => ∃ x2 : ByteArray, w.cell? (a1.add 1) = some (Value.string x2) ∧ probityref26_Disk_Crash_l0 d_0 survive_1 x2 (0 : Int) K w

structure probityref26_Disk_Crash_sh (d_0 : Option Addr) (survive_1 : Sl) (K : Option Addr → World → Prop) (w : World) : Prop where
  out : probityref26_Disk_Crash_sd d_0 survive_1 K w

def probityref26_Disk_Crash_P0 (Kv : VW) (ρ : Rho) (vs : List Value) (w : World) : Prop :=
  match ρ, vs with
  | _, [.pointer d_0, .slice survive_1p survive_1l survive_1c, .string c_5, .int .i64 k_6] => probityref26_Disk_Crash_l0 d_0 ⟨survive_1p, survive_1l, survive_1c⟩ c_5 k_6  (fun (r0 : Option Addr) (w' : World) => Kv (Value.pointer r0) w') w
  | _, _ => False

def probityref26_Disk_Crash_P1 (Kv : VW) (ρ : Rho) (vs : List Value) (w : World) : Prop :=
  match ρ, vs with
  | _, [.string c_5] => probityref26_Disk_Crash_k1 c_5  (fun (r0 : Option Addr) (w' : World) => Kv (Value.pointer r0) w') w
  | _, _ => False

noncomputable def probityref26_Disk_Crash_S : Pw.Spec := fun vs w Kv =>
  match vs with
  | [.pointer d_0, .slice survive_1p survive_1l survive_1c] => probityref26_Disk_Crash_sh d_0 ⟨survive_1p, survive_1l, survive_1c⟩ (fun (r0 : Option Addr) (w' : World) => Kv (Value.pointer r0) w') w
  | _ => False

noncomputable def probityref26_Disk_Crash_E : Pw.Env := [(37, probityref26_Put_S)]

noncomputable def probityref26_Disk_Crash_C : Code := (Try.f23.body).getD .skip

noncomputable def probityref26_Disk_Crash_A (Kv : VW) : Pw.A :=
  (A.seq (A.reg (RA.run RA.done))
   (A.seq (A.reg (RA.run (RA.run (RA.run (RA.run (RA.run RA.done))))))
   (A.seq (A.seq (A.reg (RA.run RA.done))
   (A.blk (A.loop [0, 1, 5, 6] (probityref26_Disk_Crash_P0 Kv) (A.seq (A.seq (A.reg (RA.run (RA.run (RA.run (RA.run (RA.run (RA.run (RA.run (RA.run (RA.spl 18 (RA.run (RA.run (RA.run (RA.run RA.done)))) (RA.skp (RA.skp (RA.skp (RA.run RA.done))))))))))))))
   (A.cond A.leaf
   A.leaf))
   (A.seq (A.blk (A.seq (A.reg (RA.run (RA.run (RA.run (RA.run (RA.run (RA.run (RA.run (RA.run (RA.run RA.done))))))))))
   (A.cond (A.drw (DA.pur 0 (DA.pur 1 (DA.pur 2 (DA.pur 3 (DA.pur 4 (DA.pur 5 (DA.pur 6 (DA.pur 7 (DA.pur 8 (DA.pur 9 (DA.pur 10 (DA.pur 11 (DA.pur 12 (DA.pur 13 (DA.pur 14 (DA.pur 15 (DA.pur 16 (DA.eff 17 (DA.pur 18 DA.done))))))))))))))))))))
   A.leaf)))
   (A.reg (RA.run (RA.run (RA.run RA.done)))))))))
   (A.cut [5] (probityref26_Disk_Crash_P1 Kv) (A.seq (A.reg (RA.run (RA.run (RA.run (RA.run (RA.run RA.done))))))
   A.leaf)))))

noncomputable def probityref26_Disk_Crash_O (Kv : VW) : List Ob := (obs Try.prog probityref26_Disk_Crash_E 56 (probityref26_Disk_Crash_A Kv) probityref26_Disk_Crash_C (fun _ => retQ Try.prog Try.f23.results Kv))

theorem probityref26_Disk_Crash_e (Kv : VW) (d_0 : Option Addr) (survive_1p : Option Addr) (survive_1l survive_1c : Nat) (w : World) : probityref26_Disk_Crash_sd d_0 ⟨survive_1p, survive_1l, survive_1c⟩ (fun (r0 : Option Addr) (w' : World) => Kv (Value.pointer r0) w') w = W Try.prog probityref26_Disk_Crash_E 56 (probityref26_Disk_Crash_A Kv) probityref26_Disk_Crash_C [] (retQ Try.prog Try.f23.results Kv) (startS [(Value.pointer d_0), (Value.slice survive_1p survive_1l survive_1c)]) w := by kernel_rfl

theorem probityref26_Disk_Crash_e0 (Kv : VW) (N0 : List Value → World → Prop) (ρ : Rho) (d_0 : Option Addr) (survive_1p : Option Addr) (survive_1l survive_1c : Nat) (c_5 : ByteArray) (k_6 : Int) (w : World) : probityref26_Disk_Crash_b0 d_0 ⟨survive_1p, survive_1l, survive_1c⟩ c_5 k_6 (fun (d_0' : Option Addr) (survive_1' : Sl) (c_5' : ByteArray) (k_6' : Int) (w' : World) => N0 [(Value.pointer d_0'), (Value.slice survive_1'.p survive_1'.l survive_1'.c), (Value.string c_5'), (Value.int .i64 k_6')] w')  (fun (r0 : Option Addr) (w' : World) => Kv (Value.pointer r0) w') w = goalAt Try.prog probityref26_Disk_Crash_E 56 (probityref26_Disk_Crash_O Kv) 0 (N0 :: ρ) [(Value.pointer d_0), (Value.slice survive_1p survive_1l survive_1c), (Value.string c_5), (Value.int .i64 k_6)] w := by kernel_rfl

theorem probityref26_Disk_Crash_q0 (Kv : VW) (ρ : Rho) (vs : List Value) (w : World) : labAt (probityref26_Disk_Crash_O Kv) 0 ρ vs w = probityref26_Disk_Crash_P0 Kv ρ vs w := by kernel_rfl

def probityref26_Disk_Crash_I0 (d_00 : Option Addr) (survive_10 : Sl) (I : ByteArray → Int → World → Prop) (vs : List Value) (w : World) : Prop :=
  match vs with
  | [.pointer d_0, .slice survive_1p survive_1l survive_1c, .string c_5, .int .i64 k_6] => (d_0 = d_00 ∧ ⟨survive_1p, survive_1l, survive_1c⟩ = survive_10 ∧ True) ∧ I c_5 k_6 w
  | _ => False

def probityref26_Disk_Crash_M0 (μ : ByteArray → Int → World → Nat) (vs : List Value) (w : World) : Nat :=
  match vs with
  | [.pointer d_0, .slice survive_1p survive_1l survive_1c, .string c_5, .int .i64 k_6] => μ c_5 k_6 w
  | _ => 0

theorem probityref26_Disk_Crash_h0 (Kv : VW) : holdsAt Try.prog probityref26_Disk_Crash_E 56 (probityref26_Disk_Crash_O Kv) 0 := holdsAt_loop (by kernel_rfl) (fun ρ vs w h => by
  rw [probityref26_Disk_Crash_q0] at h
  unfold probityref26_Disk_Crash_P0 at h
  split at h
  · rename_i ρt d_0 survive_1p survive_1l survive_1c c_5 k_6
    obtain ⟨I, μ, h0, hr⟩ := h.out
    refine ⟨probityref26_Disk_Crash_I0 d_0 ⟨survive_1p, survive_1l, survive_1c⟩ I, probityref26_Disk_Crash_M0 μ, ⟨⟨rfl, rfl, trivial⟩, h0⟩, fun vs w hI => ?_⟩
    unfold probityref26_Disk_Crash_I0 at hI
    split at hI
    · obtain ⟨⟨h0, h1, _⟩, hI⟩ := hI
      cases h0; cases h1
      rw [← probityref26_Disk_Crash_e0]
      exact hr _ _ _ hI
    · exact hI.elim
  · exact h.elim)

theorem probityref26_Disk_Crash_e1 (Kv : VW) (ρ : Rho) (c_5 : ByteArray) (w : World) : probityref26_Disk_Crash_k1d c_5  (fun (r0 : Option Addr) (w' : World) => Kv (Value.pointer r0) w') w = goalAt Try.prog probityref26_Disk_Crash_E 56 (probityref26_Disk_Crash_O Kv) 1 (ρ) [(Value.string c_5)] w := by kernel_rfl

theorem probityref26_Disk_Crash_q1 (Kv : VW) (ρ : Rho) (vs : List Value) (w : World) : labAt (probityref26_Disk_Crash_O Kv) 1 ρ vs w = probityref26_Disk_Crash_P1 Kv ρ vs w := by kernel_rfl

theorem probityref26_Disk_Crash_h1 (Kv : VW) : holdsAt Try.prog probityref26_Disk_Crash_E 56 (probityref26_Disk_Crash_O Kv) 1 := holdsAt_cut (by kernel_rfl) (fun ρ vs w h => by
  rw [probityref26_Disk_Crash_q1] at h
  unfold probityref26_Disk_Crash_P1 at h
  split at h
  · rw [← probityref26_Disk_Crash_e1]; exact h.out
  · exact h.elim)

theorem probityref26_Disk_Crash_n (Kv : VW) : obAt (probityref26_Disk_Crash_O Kv) 2 = none := by kernel_rfl

theorem probityref26_Disk_Crash_h (Kv : VW) : ∀ k, holdsAt Try.prog probityref26_Disk_Crash_E 56 (probityref26_Disk_Crash_O Kv) k := fun k => match k with
  | 0 => probityref26_Disk_Crash_h0 Kv
  | 1 => probityref26_Disk_Crash_h1 Kv
  | k + 2 => holdsAt_ge (probityref26_Disk_Crash_n Kv) (Nat.le_add_left _ _)

theorem probityref26_Disk_Crash_ok : Sound Try.prog 23 probityref26_Disk_Crash_S := ⟨Try.call23, fun vs w Kv h => by
  unfold probityref26_Disk_Crash_S at h
  split at h
  · have h := h.out
    rw [probityref26_Disk_Crash_e] at h
    exact calls_sound (Γ := probityref26_Disk_Crash_E) progMixed ⟨probityref26_Put_ok, trivial⟩ Try.func23 (code := probityref26_Disk_Crash_C) (by kernel_rfl) (probityref26_Disk_Crash_A Kv) Kv (holds_all (probityref26_Disk_Crash_h Kv)) (Nat.le_of_ble_eq_true rfl) h
  · exact h.elim⟩

/-! disk_Disk_Write -/
def disk_Disk_Write_b0 (d_0 : Option Addr) (off_1 : Int) (s_2 : ByteArray) (N0 : Option Addr → Int → ByteArray → World → Prop)  (K : Int → World → Prop) (w : World) : Prop :=
  cnd (decide ((s_2.size : Int) > (0 : Int)))
    ((64 : Int) ≠ 0 ∧ inR .i64 ((64 : Int) - (Int.tmod off_1 (64 : Int))) ∧ let w11 : World := w.drew
  ∃ S12 : World → Prop, S12 w11 ∧ nz d_0 fun a13 => (0 ≤ (0 : Int) ∧ (0 : Int) ≤ (min ((64 : Int) - (Int.tmod off_1 (64 : Int))) (s_2.size : Int)) ∧ (min ((64 : Int) - (Int.tmod off_1 (64 : Int))) (s_2.size : Int)) ≤ (s_2.size : Nat)) ∧ stbS 5 (s_2.extract 0 (min ((64 : Int) - (Int.tmod off_1 (64 : Int))) (s_2.size : Int)).toNat) w11 fun (s14 : Sl) (w15 : World) => disk_piece__add_sh (some (a13.add 2)) off_1 s14 (fun (w16 : World) => let w17 : World := w16.drew
  inR .i64 (off_1 + (min ((64 : Int) - (Int.tmod off_1 (64 : Int))) (s_2.size : Int))) ∧ (0 ≤ (min ((64 : Int) - (Int.tmod off_1 (64 : Int))) (s_2.size : Int)) ∧ (min ((64 : Int) - (Int.tmod off_1 (64 : Int))) (s_2.size : Int)) ≤ (s_2.size : Nat)) ∧ N0 d_0 (off_1 + (min ((64 : Int) - (Int.tmod off_1 (64 : Int))) (s_2.size : Int))) (s_2.extract (min ((64 : Int) - (Int.tmod off_1 (64 : Int))) (s_2.size : Int)).toNat s_2.size) w17) w15)
    (K (0 : Int) w)
def disk_Disk_Write_l0d (d_0 : Option Addr) (off_1 : Int) (s_2 : ByteArray)  (K : Int → World → Prop) (w : World) : Prop :=
  ∃ (I : Int → ByteArray → World → Prop) (μ : Int → ByteArray → World → Nat), I off_1 s_2 w ∧ ∀ (off_11 : Int) (s_21 : ByteArray) (w1 : World), I off_11 s_21 w1 →
    disk_Disk_Write_b0 d_0 off_11 s_21 (fun (d_0' : Option Addr) (off_1' : Int) (s_2' : ByteArray) (w' : World) => ((d_0' = d_0 ∧ True) ∧ I off_1' s_2' w') ∧ μ off_1' s_2' w' < μ off_11 s_21 w1)  K w1
structure disk_Disk_Write_l0 (d_0 : Option Addr) (off_1 : Int) (s_2 : ByteArray)  (K : Int → World → Prop) (w : World) : Prop where
  out : disk_Disk_Write_l0d d_0 off_1 s_2 K w

def disk_Disk_Write_sd (d_0 : Option Addr) (off_1 : Int) (s_2 : ByteArray) (K : Int → World → Prop) (w : World) : Prop :=
  cnd d_0.isNone
    (K (1 : Int) w)
    (cnd (decide (off_1 < (0 : Int)))
    (K (1 : Int) w)
    (cnd (decide (off_1 > (16777216 : Int)))
    (K (1 : Int) w)
    (inR .i64 ((16777216 : Int) - off_1) ∧ cnd (decide ((s_2.size : Int) > ((16777216 : Int) - off_1)))
    (K (1 : Int) w)
    (disk_Disk_call_sh d_0 (fun (r2 : Int) (w1 : World) => cnd (r2 != (0 : Int))
    (K r2 w1)
    (nz d_0 fun a3 => ∃ x4 : Sl, w1.cell? a3 = some (Value.slice x4.p x4.l x4.c) ∧ stbS 5 s_2 w1 fun (s5 : Sl) (w6 : World) => disk_put_sh x4 off_1 s5 (fun (r8 : Sl) (w7 : World) => nz d_0 fun a9 => wrOk w7 a9 ∧ 
  (let w10 : World := w7.setCell a9 (Value.slice r8.p r8.l r8.c)
  disk_Disk_Write_l0 d_0 off_1 s_2 K w10)) w6)) w))))

structure disk_Disk_Write_sh (d_0 : Option Addr) (off_1 : Int) (s_2 : ByteArray) (K : Int → World → Prop) (w : World) : Prop where
  out : disk_Disk_Write_sd d_0 off_1 s_2 K w

def disk_Disk_Write_P0 (Kv : VW) (ρ : Rho) (vs : List Value) (w : World) : Prop :=
  match ρ, vs with
  | _, [.pointer d_0, .int .i64 off_1, .string s_2] => disk_Disk_Write_l0 d_0 off_1 s_2  (fun (r0 : Int) (w' : World) => Kv (Value.int .i64 r0) w') w
  | _, _ => False

noncomputable def disk_Disk_Write_S : Pw.Spec := fun vs w Kv =>
  match vs with
  | [.pointer d_0, .int .i64 off_1, .string s_2] => disk_Disk_Write_sh d_0 off_1 s_2 (fun (r0 : Int) (w' : World) => Kv (Value.int .i64 r0) w') w
  | _ => False

noncomputable def disk_Disk_Write_E : Pw.Env := [(36, disk_put_S), (38, disk_Disk_call_S), (40, disk_piece__add_S)]

noncomputable def disk_Disk_Write_C : Code := (Try.f27.body).getD .skip

noncomputable def disk_Disk_Write_A (Kv : VW) : Pw.A :=
  (A.seq (A.reg (RA.run RA.done))
   (A.seq (A.seq (A.reg (RA.run (RA.run (RA.run (RA.spl 11 (RA.skp (RA.skp (RA.run (RA.run (RA.skp (RA.skp (RA.run (RA.run (RA.skp (RA.skp (RA.skp (RA.skp (RA.skp (RA.run RA.done)))))))))))))) (RA.run (RA.run (RA.run (RA.run (RA.spl 15 (RA.skp (RA.skp (RA.run (RA.run (RA.skp (RA.skp (RA.skp (RA.skp (RA.skp (RA.run RA.done)))))))))) (RA.run (RA.run (RA.run (RA.run (RA.spl 19 (RA.skp (RA.skp (RA.skp (RA.skp (RA.skp (RA.run RA.done)))))) (RA.run (RA.run (RA.run (RA.run (RA.run (RA.run RA.done)))))))))))))))))))))
   (A.cond (A.seq (A.reg (RA.run RA.done))
   A.leaf)
   A.leaf))
   (A.seq (A.seq (A.reg (RA.run (RA.run (RA.run RA.done))))
   (A.seq (A.reg (RA.run (RA.run RA.done)))
   (A.cond (A.seq (A.reg (RA.run (RA.run RA.done)))
   A.leaf)
   A.leaf)))
   (A.seq (A.reg (RA.run (RA.run (RA.run (RA.run (RA.run (RA.run (RA.run (RA.run (RA.run (RA.run (RA.run (RA.run RA.done)))))))))))))
   (A.seq (A.blk (A.loop [0, 1, 2] (disk_Disk_Write_P0 Kv) (A.seq (A.seq (A.reg (RA.run (RA.run (RA.run RA.done))))
   (A.cond A.leaf
   A.leaf))
   (A.blk (A.seq (A.reg (RA.run (RA.run (RA.run (RA.run (RA.run (RA.run (RA.run RA.done))))))))
   (A.seq (A.drw (DA.pur 0 (DA.pur 1 (DA.pur 2 (DA.pur 3 (DA.pur 4 (DA.pur 5 (DA.pur 6 (DA.eff 7 (DA.pur 8 (DA.eff 9 DA.done)))))))))))
   (A.drp (DA.pur 0 (DA.pur 1 (DA.pur 2 (DA.pur 3 (DA.pur 4 (DA.pur 5 (DA.pur 6 (DA.pur 7 DA.done)))))))))))))))
   (A.seq (A.reg (RA.run RA.done))
   A.leaf))))))

noncomputable def disk_Disk_Write_O (Kv : VW) : List Ob := (obs Try.prog disk_Disk_Write_E 67 (disk_Disk_Write_A Kv) disk_Disk_Write_C (fun _ => retQ Try.prog Try.f27.results Kv))

theorem disk_Disk_Write_e (Kv : VW) (d_0 : Option Addr) (off_1 : Int) (s_2 : ByteArray) (w : World) : disk_Disk_Write_sd d_0 off_1 s_2 (fun (r0 : Int) (w' : World) => Kv (Value.int .i64 r0) w') w = W Try.prog disk_Disk_Write_E 67 (disk_Disk_Write_A Kv) disk_Disk_Write_C [] (retQ Try.prog Try.f27.results Kv) (startS [(Value.pointer d_0), (Value.int .i64 off_1), (Value.string s_2)]) w := by kernel_rfl

theorem disk_Disk_Write_e0 (Kv : VW) (N0 : List Value → World → Prop) (ρ : Rho) (d_0 : Option Addr) (off_1 : Int) (s_2 : ByteArray) (w : World) : disk_Disk_Write_b0 d_0 off_1 s_2 (fun (d_0' : Option Addr) (off_1' : Int) (s_2' : ByteArray) (w' : World) => N0 [(Value.pointer d_0'), (Value.int .i64 off_1'), (Value.string s_2')] w')  (fun (r0 : Int) (w' : World) => Kv (Value.int .i64 r0) w') w = goalAt Try.prog disk_Disk_Write_E 67 (disk_Disk_Write_O Kv) 0 (N0 :: ρ) [(Value.pointer d_0), (Value.int .i64 off_1), (Value.string s_2)] w := by kernel_rfl

theorem disk_Disk_Write_q0 (Kv : VW) (ρ : Rho) (vs : List Value) (w : World) : labAt (disk_Disk_Write_O Kv) 0 ρ vs w = disk_Disk_Write_P0 Kv ρ vs w := by kernel_rfl

def disk_Disk_Write_I0 (d_00 : Option Addr) (I : Int → ByteArray → World → Prop) (vs : List Value) (w : World) : Prop :=
  match vs with
  | [.pointer d_0, .int .i64 off_1, .string s_2] => (d_0 = d_00 ∧ True) ∧ I off_1 s_2 w
  | _ => False

def disk_Disk_Write_M0 (μ : Int → ByteArray → World → Nat) (vs : List Value) (w : World) : Nat :=
  match vs with
  | [.pointer d_0, .int .i64 off_1, .string s_2] => μ off_1 s_2 w
  | _ => 0

theorem disk_Disk_Write_h0 (Kv : VW) : holdsAt Try.prog disk_Disk_Write_E 67 (disk_Disk_Write_O Kv) 0 := holdsAt_loop (by kernel_rfl) (fun ρ vs w h => by
  rw [disk_Disk_Write_q0] at h
  unfold disk_Disk_Write_P0 at h
  split at h
  · rename_i ρt d_0 off_1 s_2
    obtain ⟨I, μ, h0, hr⟩ := h.out
    refine ⟨disk_Disk_Write_I0 d_0 I, disk_Disk_Write_M0 μ, ⟨⟨rfl, trivial⟩, h0⟩, fun vs w hI => ?_⟩
    unfold disk_Disk_Write_I0 at hI
    split at hI
    · obtain ⟨⟨h0, _⟩, hI⟩ := hI
      cases h0
      rw [← disk_Disk_Write_e0]
      exact hr _ _ _ hI
    · exact hI.elim
  · exact h.elim)

theorem disk_Disk_Write_n (Kv : VW) : obAt (disk_Disk_Write_O Kv) 1 = none := by kernel_rfl

theorem disk_Disk_Write_h (Kv : VW) : ∀ k, holdsAt Try.prog disk_Disk_Write_E 67 (disk_Disk_Write_O Kv) k := fun k => match k with
  | 0 => disk_Disk_Write_h0 Kv
  | k + 1 => holdsAt_ge (disk_Disk_Write_n Kv) (Nat.le_add_left _ _)

theorem disk_Disk_Write_ok : Sound Try.prog 27 disk_Disk_Write_S := ⟨Try.call27, fun vs w Kv h => by
  unfold disk_Disk_Write_S at h
  split at h
  · have h := h.out
    rw [disk_Disk_Write_e] at h
    exact calls_sound (Γ := disk_Disk_Write_E) progMixed ⟨disk_put_ok, disk_Disk_call_ok, disk_piece__add_ok, trivial⟩ Try.func27 (code := disk_Disk_Write_C) (by kernel_rfl) (disk_Disk_Write_A Kv) Kv (holds_all (disk_Disk_Write_h Kv)) (Nat.le_of_ble_eq_true rfl) h
  · exact h.elim⟩

/-! probityref26_Disk_Write -/
def probityref26_Disk_Write_b0 (d_0 : Option Addr) (off_1 : Int) (s_2 : ByteArray) (at_8 : Int) (N0 : Option Addr → Int → ByteArray → Int → World → Prop)  (K : Int → World → Prop) (w : World) : Prop :=
  cnd (decide (at_8 < (s_2.size : Int)))
    (inR .i64 (off_1 + at_8) ∧ (64 : Int) ≠ 0 ∧ inR .i64 ((64 : Int) - (Int.tmod (off_1 + at_8) (64 : Int))) ∧ inR .i64 ((s_2.size : Int) - at_8) ∧ let w9 : World := w.drew
  ∃ S10 : World → Prop, S10 w9 ∧ nz d_0 fun a11 => ∃ x12 : Sl, (∀ w' : World, S10 w' → w'.cell? (a11.add 2) = some (Value.slice x12.p x12.l x12.c)) ∧ inR .i64 (off_1 + at_8) ∧ inR .i64 (at_8 + (min ((64 : Int) - (Int.tmod (off_1 + at_8) (64 : Int))) ((s_2.size : Int) - at_8))) ∧ (0 ≤ at_8 ∧ at_8 ≤ (at_8 + (min ((64 : Int) - (Int.tmod (off_1 + at_8) (64 : Int))) ((s_2.size : Int) - at_8))) ∧ (at_8 + (min ((64 : Int) - (Int.tmod (off_1 + at_8) (64 : Int))) ((s_2.size : Int) - at_8))) ≤ (s_2.size : Nat)) ∧ let w13 : World := w9.alloc (Obj.cells #[(Value.int .i64 (off_1 + at_8)), (Value.string (s_2.extract at_8.toNat (at_8 + (min ((64 : Int) - (Int.tmod (off_1 + at_8) (64 : Int))) ((s_2.size : Int) - at_8))).toNat))] 72)
  S10 w13 ∧ apS 2 24 [(Value.int .i64 (0 : Int)), (Value.string (str []))] 72 x12 (Sl.mk (some (Addr.mk w9.heap.size 0 none)) 1 1) w13 fun (s14 : Sl) (w15 : World) => nz d_0 fun a16 => wrOk w15 (a16.add 2) ∧ 
  (let w17 : World := w15.setCell (a16.add 2) (Value.slice s14.p s14.l s14.c)
  inR .i64 (at_8 + (min ((64 : Int) - (Int.tmod (off_1 + at_8) (64 : Int))) ((s_2.size : Int) - at_8))) ∧ N0 d_0 off_1 s_2 (at_8 + (min ((64 : Int) - (Int.tmod (off_1 + at_8) (64 : Int))) ((s_2.size : Int) - at_8))) w17))
    (K (0 : Int) w)
def probityref26_Disk_Write_l0d (d_0 : Option Addr) (off_1 : Int) (s_2 : ByteArray) (at_8 : Int)  (K : Int → World → Prop) (w : World) : Prop :=
  ∃ (I : Int → World → Prop) (μ : Int → World → Nat), I at_8 w ∧ ∀ (at_81 : Int) (w1 : World), I at_81 w1 →
    probityref26_Disk_Write_b0 d_0 off_1 s_2 at_81 (fun (d_0' : Option Addr) (off_1' : Int) (s_2' : ByteArray) (at_8' : Int) (w' : World) => ((d_0' = d_0 ∧ off_1' = off_1 ∧ s_2' = s_2 ∧ True) ∧ I at_8' w') ∧ μ at_8' w' < μ at_81 w1)  K w1
structure probityref26_Disk_Write_l0 (d_0 : Option Addr) (off_1 : Int) (s_2 : ByteArray) (at_8 : Int)  (K : Int → World → Prop) (w : World) : Prop where
  out : probityref26_Disk_Write_l0d d_0 off_1 s_2 at_8 K w

def probityref26_Disk_Write_sd (d_0 : Option Addr) (off_1 : Int) (s_2 : ByteArray) (K : Int → World → Prop) (w : World) : Prop :=
  cnd (decide (off_1 < (0 : Int)))
    (K (1 : Int) w)
    (cnd (decide (off_1 > (16777216 : Int)))
    (K (1 : Int) w)
    (inR .i64 (off_1 + (s_2.size : Int)) ∧ cnd (decide ((off_1 + (s_2.size : Int)) > (16777216 : Int)))
    (K (1 : Int) w)
    (probityref26_Disk_off_sh d_0 (fun (r2 : Bool) (w1 : World) => cnd r2
    (K (70 : Int) w1)
    (nz d_0 fun a3 => ∃ x4 : ByteArray, w1.cell? a3 = some (Value.string x4) ∧ probityref26_Put_sh x4 off_1 s_2 (fun (r6 : ByteArray) (w5 : World) => nz d_0 fun a7 => wrOk w5 a7 ∧ 
  (let w8 : World := w5.setCell a7 (Value.string r6)
  probityref26_Disk_Write_l0 d_0 off_1 s_2 (0 : Int) K w8)) w1)) w)))

structure probityref26_Disk_Write_sh (d_0 : Option Addr) (off_1 : Int) (s_2 : ByteArray) (K : Int → World → Prop) (w : World) : Prop where
  out : probityref26_Disk_Write_sd d_0 off_1 s_2 K w

def probityref26_Disk_Write_P0 (Kv : VW) (ρ : Rho) (vs : List Value) (w : World) : Prop :=
  match ρ, vs with
  | _, [.pointer d_0, .int .i64 off_1, .string s_2, .int .i64 at_8] => probityref26_Disk_Write_l0 d_0 off_1 s_2 at_8  (fun (r0 : Int) (w' : World) => Kv (Value.int .i64 r0) w') w
  | _, _ => False

noncomputable def probityref26_Disk_Write_S : Pw.Spec := fun vs w Kv =>
  match vs with
  | [.pointer d_0, .int .i64 off_1, .string s_2] => probityref26_Disk_Write_sh d_0 off_1 s_2 (fun (r0 : Int) (w' : World) => Kv (Value.int .i64 r0) w') w
  | _ => False

noncomputable def probityref26_Disk_Write_E : Pw.Env := [(37, probityref26_Put_S), (41, probityref26_Disk_off_S)]

noncomputable def probityref26_Disk_Write_C : Code := (Try.f31.body).getD .skip

noncomputable def probityref26_Disk_Write_A (Kv : VW) : Pw.A :=
  (A.seq (A.reg (RA.run RA.done))
   (A.seq (A.seq (A.reg (RA.run (RA.run (RA.run (RA.spl 12 (RA.skp (RA.skp (RA.run (RA.run (RA.skp (RA.skp (RA.skp (RA.skp (RA.skp (RA.run RA.done)))))))))) (RA.run (RA.run (RA.run (RA.run (RA.spl 16 (RA.skp (RA.skp (RA.skp (RA.skp (RA.skp (RA.run RA.done)))))) (RA.run (RA.run (RA.run (RA.run (RA.run (RA.run RA.done))))))))))))))))
   (A.cond (A.seq (A.reg (RA.run RA.done))
   A.leaf)
   A.leaf))
   (A.seq (A.reg (RA.run (RA.run (RA.run RA.done))))
   (A.seq (A.seq (A.reg (RA.run RA.done))
   (A.cond (A.seq (A.reg (RA.run RA.done))
   A.leaf)
   A.leaf))
   (A.seq (A.reg (RA.run (RA.run (RA.run (RA.run (RA.run (RA.run (RA.run (RA.run (RA.run (RA.run (RA.run RA.done))))))))))))
   (A.seq (A.reg (RA.run RA.done))
   (A.seq (A.blk (A.loop [0, 1, 2, 8] (probityref26_Disk_Write_P0 Kv) (A.seq (A.seq (A.reg (RA.run (RA.run (RA.run (RA.run RA.done)))))
   (A.cond A.leaf
   A.leaf))
   (A.blk (A.seq (A.reg (RA.run (RA.run (RA.run (RA.run (RA.run (RA.run (RA.run (RA.run (RA.run (RA.run (RA.run RA.done))))))))))))
   (A.seq (A.drw (DA.pur 0 (DA.pur 1 (DA.pur 2 (DA.pur 3 (DA.pur 4 (DA.pur 5 (DA.pur 6 (DA.pur 7 (DA.pur 8 (DA.pur 9 (DA.pur 10 (DA.pur 11 (DA.pur 12 (DA.pur 13 (DA.pur 14 (DA.eff 15 (DA.eff 16 (DA.pur 17 (DA.pur 18 (DA.eff 19 DA.done)))))))))))))))))))))
   (A.reg (RA.run (RA.run (RA.run (RA.run RA.done)))))))))))
   (A.seq (A.reg (RA.run RA.done))
   A.leaf))))))))

noncomputable def probityref26_Disk_Write_O (Kv : VW) : List Ob := (obs Try.prog probityref26_Disk_Write_E 72 (probityref26_Disk_Write_A Kv) probityref26_Disk_Write_C (fun _ => retQ Try.prog Try.f31.results Kv))

theorem probityref26_Disk_Write_e (Kv : VW) (d_0 : Option Addr) (off_1 : Int) (s_2 : ByteArray) (w : World) : probityref26_Disk_Write_sd d_0 off_1 s_2 (fun (r0 : Int) (w' : World) => Kv (Value.int .i64 r0) w') w = W Try.prog probityref26_Disk_Write_E 72 (probityref26_Disk_Write_A Kv) probityref26_Disk_Write_C [] (retQ Try.prog Try.f31.results Kv) (startS [(Value.pointer d_0), (Value.int .i64 off_1), (Value.string s_2)]) w := by kernel_rfl

theorem probityref26_Disk_Write_e0 (Kv : VW) (N0 : List Value → World → Prop) (ρ : Rho) (d_0 : Option Addr) (off_1 : Int) (s_2 : ByteArray) (at_8 : Int) (w : World) : probityref26_Disk_Write_b0 d_0 off_1 s_2 at_8 (fun (d_0' : Option Addr) (off_1' : Int) (s_2' : ByteArray) (at_8' : Int) (w' : World) => N0 [(Value.pointer d_0'), (Value.int .i64 off_1'), (Value.string s_2'), (Value.int .i64 at_8')] w')  (fun (r0 : Int) (w' : World) => Kv (Value.int .i64 r0) w') w = goalAt Try.prog probityref26_Disk_Write_E 72 (probityref26_Disk_Write_O Kv) 0 (N0 :: ρ) [(Value.pointer d_0), (Value.int .i64 off_1), (Value.string s_2), (Value.int .i64 at_8)] w := by kernel_rfl

theorem probityref26_Disk_Write_q0 (Kv : VW) (ρ : Rho) (vs : List Value) (w : World) : labAt (probityref26_Disk_Write_O Kv) 0 ρ vs w = probityref26_Disk_Write_P0 Kv ρ vs w := by kernel_rfl

def probityref26_Disk_Write_I0 (d_00 : Option Addr) (off_10 : Int) (s_20 : ByteArray) (I : Int → World → Prop) (vs : List Value) (w : World) : Prop :=
  match vs with
  | [.pointer d_0, .int .i64 off_1, .string s_2, .int .i64 at_8] => (d_0 = d_00 ∧ off_1 = off_10 ∧ s_2 = s_20 ∧ True) ∧ I at_8 w
  | _ => False

def probityref26_Disk_Write_M0 (μ : Int → World → Nat) (vs : List Value) (w : World) : Nat :=
  match vs with
  | [.pointer d_0, .int .i64 off_1, .string s_2, .int .i64 at_8] => μ at_8 w
  | _ => 0

theorem probityref26_Disk_Write_h0 (Kv : VW) : holdsAt Try.prog probityref26_Disk_Write_E 72 (probityref26_Disk_Write_O Kv) 0 := holdsAt_loop (by kernel_rfl) (fun ρ vs w h => by
  rw [probityref26_Disk_Write_q0] at h
  unfold probityref26_Disk_Write_P0 at h
  split at h
  · rename_i ρt d_0 off_1 s_2 at_8
    obtain ⟨I, μ, h0, hr⟩ := h.out
    refine ⟨probityref26_Disk_Write_I0 d_0 off_1 s_2 I, probityref26_Disk_Write_M0 μ, ⟨⟨rfl, rfl, rfl, trivial⟩, h0⟩, fun vs w hI => ?_⟩
    unfold probityref26_Disk_Write_I0 at hI
    split at hI
    · obtain ⟨⟨h0, h1, h2, _⟩, hI⟩ := hI
      cases h0; cases h1; cases h2
      rw [← probityref26_Disk_Write_e0]
      exact hr _ _ hI
    · exact hI.elim
  · exact h.elim)

theorem probityref26_Disk_Write_n (Kv : VW) : obAt (probityref26_Disk_Write_O Kv) 1 = none := by kernel_rfl

theorem probityref26_Disk_Write_h (Kv : VW) : ∀ k, holdsAt Try.prog probityref26_Disk_Write_E 72 (probityref26_Disk_Write_O Kv) k := fun k => match k with
  | 0 => probityref26_Disk_Write_h0 Kv
  | k + 1 => holdsAt_ge (probityref26_Disk_Write_n Kv) (Nat.le_add_left _ _)

theorem probityref26_Disk_Write_ok : Sound Try.prog 31 probityref26_Disk_Write_S := ⟨Try.call31, fun vs w Kv h => by
  unfold probityref26_Disk_Write_S at h
  split at h
  · have h := h.out
    rw [probityref26_Disk_Write_e] at h
    exact calls_sound (Γ := probityref26_Disk_Write_E) progMixed ⟨probityref26_Put_ok, probityref26_Disk_off_ok, trivial⟩ Try.func31 (code := probityref26_Disk_Write_C) (by kernel_rfl) (probityref26_Disk_Write_A Kv) Kv (holds_all (probityref26_Disk_Write_h Kv)) (Nat.le_of_ble_eq_true rfl) h
  · exact h.elim⟩

end Go.Proofs.Ytmhjekbdpnocaaa
