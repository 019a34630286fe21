/- The bodies' formulas, by program. -/
import Derived.Test.YtamkecjpcfnpjaaProg
import Derived.KernelRfl
import Derived.Test.YtamkecjpcfnpjaaPwF
namespace Go.Proofs.Ytamkecjpcfnpjaa
open Go Pw
theorem progMixed : Try.prog.follows .mixedOrders = true := by kernel_rfl
/-! disk_New -/
def disk_New_sd  (K : Option Addr → World → Prop) (w : World) : Prop :=
  let w1 : World := w.alloc (Obj.cells #[(Value.slice none 0 0), (Value.slice none 0 0), (Value.slice none 0 0), (Value.int .i64 (0 : Int)), (Value.bool false), (Value.int .i64 (0 : Int))] 59)
  K (some (Addr.mk w.heap.size 0 none)) w1

structure disk_New_sh  (K : Option Addr → World → Prop) (w : World) : Prop where
  out : disk_New_sd  K w

noncomputable def disk_New_S : Pw.Spec := fun vs w Kv =>
  match vs with
  | [] => disk_New_sh  (fun (r0 : Option Addr) (w' : World) => Kv (Value.pointer r0) w') w
  | _ => False

noncomputable def disk_New_E : Pw.Env := []

noncomputable def disk_New_C : Code := (Try.f11.body).getD .skip

noncomputable def disk_New_A (_Kv : VW) : Pw.A :=
  (A.seq (A.reg (RA.run RA.done))
   (A.seq (A.reg (RA.run (RA.run (RA.run RA.done))))
   A.leaf))

noncomputable def disk_New_O (Kv : VW) : List Ob := (obs Try.prog disk_New_E 3 (disk_New_A Kv) disk_New_C (fun _ => retQ Try.prog Try.f11.results Kv))

theorem disk_New_e (Kv : VW)  (w : World) : disk_New_sd  (fun (r0 : Option Addr) (w' : World) => Kv (Value.pointer r0) w') w = W Try.prog disk_New_E 3 (disk_New_A Kv) disk_New_C [] (retQ Try.prog Try.f11.results Kv) [] (startS []) w := by kernel_rfl

theorem disk_New_n (Kv : VW) : obAt (disk_New_O Kv) 0 = none := by kernel_rfl

theorem disk_New_h (Kv : VW) : ∀ k, holdsAt Try.prog disk_New_E 3 (disk_New_O Kv) k := fun _ => holdsAt_ge (disk_New_n Kv) (Nat.zero_le _)

theorem disk_New_ok : Sound Try.prog 11 disk_New_S := ⟨Try.call11, fun vs w Kv h => by
  unfold disk_New_S at h
  split at h
  · have h := h.out
    rw [disk_New_e] at h
    exact calls_sound (Γ := disk_New_E) progMixed trivial Try.func11 (code := disk_New_C) (by kernel_rfl) (disk_New_A Kv) Kv (holds_all (disk_New_h Kv)) (Nat.le_of_ble_eq_true rfl) h
  · exact h.elim⟩

/-! disk_Disk_call -/
def disk_Disk_call_k1d (d_0 : Option Addr)  (K : Int → World → Prop) (w : World) : Prop :=
  nz d_0 fun a11 => ∃ x12 : Int, w.cell? (a11.add 3) = some (Value.int .i64 x12) ∧ inR .i64 (x12 + (1 : Int)) ∧ nz d_0 fun a13 => wrOk w (a13.add 3) ∧ 
  (let w14 : World := w.setCell (a13.add 3) (Value.int .i64 (x12 + (1 : Int)))
  K (0 : Int) w14)
structure disk_Disk_call_k1 (d_0 : Option Addr)  (K : Int → World → Prop) (w : World) : Prop where
  out : disk_Disk_call_k1d d_0 K w

def disk_Disk_call_k0d (d_0 : Option Addr)  (K : Int → World → Prop) (w : World) : Prop :=
  nz d_0 fun a5 => ∃ x6 : Bool, w.cell? (a5.add 4) = some (Value.bool x6) ∧ cnd x6
    (nz d_0 fun a7 => ∃ x8 : Int, w.cell? (a7.add 5) = some (Value.int .i64 x8) ∧ inR .i64 (x8 - (1 : Int)) ∧ nz d_0 fun a9 => wrOk w (a9.add 5) ∧ 
  (let w10 : World := w.setCell (a9.add 5) (Value.int .i64 (x8 - (1 : Int)))
  disk_Disk_call_k1 d_0 K w10))
    (disk_Disk_call_k1 d_0 K w)
structure disk_Disk_call_k0 (d_0 : Option Addr)  (K : Int → World → Prop) (w : World) : Prop where
  out : disk_Disk_call_k0d d_0 K w

def disk_Disk_call_sd (d_0 : Option Addr) (K : Int → World → Prop) (w : World) : Prop :=
  nz d_0 fun a1 => ∃ x2 : Bool, w.cell? (a1.add 4) = some (Value.bool x2) ∧ cnd x2
    (nz d_0 fun a3 => ∃ x4 : Int, w.cell? (a3.add 5) = some (Value.int .i64 x4) ∧ cnd (x4 == (0 : Int))
    (K (70 : Int) w)
    (disk_Disk_call_k0 d_0 K w))
    (disk_Disk_call_k0 d_0 K w)

structure disk_Disk_call_sh (d_0 : Option Addr) (K : Int → World → Prop) (w : World) : Prop where
  out : disk_Disk_call_sd d_0 K w

def disk_Disk_call_P0 (Kv : VW) (ρ : Rho) (vs : List Value) (w : World) : Prop :=
  match ρ, vs with
  | _, [.pointer d_0] => disk_Disk_call_k0 d_0  (fun (r0 : Int) (w' : World) => Kv (Value.int .i64 r0) w') w
  | _, _ => False

def disk_Disk_call_P1 (Kv : VW) (ρ : Rho) (vs : List Value) (w : World) : Prop :=
  match ρ, vs with
  | _, [.pointer d_0] => disk_Disk_call_k1 d_0  (fun (r0 : Int) (w' : World) => Kv (Value.int .i64 r0) w') w
  | _, _ => False

noncomputable def disk_Disk_call_S : Pw.Spec := fun vs w Kv =>
  match vs with
  | [.pointer d_0] => disk_Disk_call_sh d_0 (fun (r0 : Int) (w' : World) => Kv (Value.int .i64 r0) w') w
  | _ => False

noncomputable def disk_Disk_call_E : Pw.Env := []

noncomputable def disk_Disk_call_C : Code := (Try.f35.body).getD .skip

noncomputable def disk_Disk_call_A (Kv : VW) : Pw.A :=
  (A.seq (A.reg (RA.run RA.done))
   (A.seq (A.seq (A.reg (RA.run (RA.run (RA.run (RA.run (RA.run (RA.spl 7 (RA.run (RA.run (RA.run (RA.run (RA.run (RA.run RA.done)))))) (RA.skp (RA.skp (RA.skp (RA.skp (RA.skp (RA.run RA.done)))))))))))))
   (A.cond (A.seq (A.reg (RA.run RA.done))
   A.leaf)
   A.leaf))
   (A.cut [0] (disk_Disk_call_P0 Kv) (A.seq (A.seq (A.reg (RA.run (RA.run (RA.run (RA.run RA.done)))))
   (A.cond (A.reg (RA.run (RA.run (RA.run (RA.run (RA.run (RA.run (RA.run (RA.run RA.done)))))))))
   A.leaf))
   (A.cut [0] (disk_Disk_call_P1 Kv) (A.seq (A.reg (RA.run (RA.run (RA.run (RA.run (RA.run (RA.run (RA.run (RA.run RA.done)))))))))
   (A.seq (A.reg (RA.run RA.done))
   A.leaf)))))))

noncomputable def disk_Disk_call_O (Kv : VW) : List Ob := (obs Try.prog disk_Disk_call_E 32 (disk_Disk_call_A Kv) disk_Disk_call_C (fun _ => retQ Try.prog Try.f35.results Kv))

theorem disk_Disk_call_e (Kv : VW) (d_0 : Option Addr) (w : World) : disk_Disk_call_sd d_0 (fun (r0 : Int) (w' : World) => Kv (Value.int .i64 r0) w') w = W Try.prog disk_Disk_call_E 32 (disk_Disk_call_A Kv) disk_Disk_call_C [] (retQ Try.prog Try.f35.results Kv) [] (startS [(Value.pointer d_0)]) w := by kernel_rfl

theorem disk_Disk_call_e0 (Kv : VW) (ρ : Rho) (d_0 : Option Addr) (w : World) : disk_Disk_call_k0d d_0  (fun (r0 : Int) (w' : World) => Kv (Value.int .i64 r0) w') w = goalAt Try.prog disk_Disk_call_E 32 (disk_Disk_call_O Kv) 0 (ρ) [(Value.pointer d_0)] w := by kernel_rfl

theorem disk_Disk_call_q0 (Kv : VW) (ρ : Rho) (vs : List Value) (w : World) : labAt (disk_Disk_call_O Kv) 0 ρ vs w = disk_Disk_call_P0 Kv ρ vs w := by kernel_rfl

theorem disk_Disk_call_h0 (Kv : VW) : holdsAt Try.prog disk_Disk_call_E 32 (disk_Disk_call_O Kv) 0 := holdsAt_cut (.inl (by kernel_rfl)) (fun ρ vs w h => by
  rw [disk_Disk_call_q0] at h
  unfold disk_Disk_call_P0 at h
  split at h
  · rw [← disk_Disk_call_e0]; exact h.out
  · exact h.elim)

theorem disk_Disk_call_e1 (Kv : VW) (ρ : Rho) (d_0 : Option Addr) (w : World) : disk_Disk_call_k1d d_0  (fun (r0 : Int) (w' : World) => Kv (Value.int .i64 r0) w') w = goalAt Try.prog disk_Disk_call_E 32 (disk_Disk_call_O Kv) 1 (ρ) [(Value.pointer d_0)] w := by kernel_rfl

theorem disk_Disk_call_q1 (Kv : VW) (ρ : Rho) (vs : List Value) (w : World) : labAt (disk_Disk_call_O Kv) 1 ρ vs w = disk_Disk_call_P1 Kv ρ vs w := by kernel_rfl

theorem disk_Disk_call_h1 (Kv : VW) : holdsAt Try.prog disk_Disk_call_E 32 (disk_Disk_call_O Kv) 1 := holdsAt_cut (.inl (by kernel_rfl)) (fun ρ vs w h => by
  rw [disk_Disk_call_q1] at h
  unfold disk_Disk_call_P1 at h
  split at h
  · rw [← disk_Disk_call_e1]; exact h.out
  · exact h.elim)

theorem disk_Disk_call_n (Kv : VW) : obAt (disk_Disk_call_O Kv) 2 = none := by kernel_rfl

theorem disk_Disk_call_h (Kv : VW) : ∀ k, holdsAt Try.prog disk_Disk_call_E 32 (disk_Disk_call_O Kv) k := fun k => match k with
  | 0 => disk_Disk_call_h0 Kv
  | 1 => disk_Disk_call_h1 Kv
  | _k + 2 => holdsAt_ge (disk_Disk_call_n Kv) (Nat.le_add_left _ _)

theorem disk_Disk_call_ok : Sound Try.prog 35 disk_Disk_call_S := ⟨Try.call35, fun vs w Kv h => by
  unfold disk_Disk_call_S at h
  split at h
  · have h := h.out
    rw [disk_Disk_call_e] at h
    exact calls_sound (Γ := disk_Disk_call_E) progMixed trivial Try.func35 (code := disk_Disk_call_C) (by kernel_rfl) (disk_Disk_call_A Kv) Kv (holds_all (disk_Disk_call_h Kv)) (Nat.le_of_ble_eq_true rfl) h
  · exact h.elim⟩

/-! disk_piece__settle -/
def disk_piece__settle_sd (x_0 : Option Addr) (K : World → Prop) (w : World) : Prop :=
  nz x_0 fun a1 => wrOk w a1 ∧ 
  (let w2 : World := w.setCell a1 (Value.slice none 0 0)
  K w2)

structure disk_piece__settle_sh (x_0 : Option Addr) (K : World → Prop) (w : World) : Prop where
  out : disk_piece__settle_sd x_0 K w

noncomputable def disk_piece__settle_S : Pw.Spec := fun vs w Kv =>
  match vs with
  | [.pointer x_0] => disk_piece__settle_sh x_0 (fun (w' : World) => Kv (Value.tuple #[]) w') w
  | _ => False

noncomputable def disk_piece__settle_E : Pw.Env := []

noncomputable def disk_piece__settle_C : Code := (Try.f37.body).getD .skip

noncomputable def disk_piece__settle_A (_Kv : VW) : Pw.A :=
  (A.reg (RA.run (RA.run (RA.run (RA.run RA.done)))))

noncomputable def disk_piece__settle_O (Kv : VW) : List Ob := (obs Try.prog disk_piece__settle_E 5 (disk_piece__settle_A Kv) disk_piece__settle_C (fun _ => retQ Try.prog Try.f37.results Kv))

theorem disk_piece__settle_e (Kv : VW) (x_0 : Option Addr) (w : World) : disk_piece__settle_sd x_0 (fun (w' : World) => Kv (Value.tuple #[]) w') w = W Try.prog disk_piece__settle_E 5 (disk_piece__settle_A Kv) disk_piece__settle_C [] (retQ Try.prog Try.f37.results Kv) [] (startS [(Value.pointer x_0)]) w := by kernel_rfl

theorem disk_piece__settle_n (Kv : VW) : obAt (disk_piece__settle_O Kv) 0 = none := by kernel_rfl

theorem disk_piece__settle_h (Kv : VW) : ∀ k, holdsAt Try.prog disk_piece__settle_E 5 (disk_piece__settle_O Kv) k := fun _ => holdsAt_ge (disk_piece__settle_n Kv) (Nat.zero_le _)

theorem disk_piece__settle_ok : Sound Try.prog 37 disk_piece__settle_S := ⟨Try.call37, fun vs w Kv h => by
  unfold disk_piece__settle_S at h
  split at h
  · have h := h.out
    rw [disk_piece__settle_e] at h
    exact calls_sound (Γ := disk_piece__settle_E) progMixed trivial Try.func37 (code := disk_piece__settle_C) (by kernel_rfl) (disk_piece__settle_A Kv) Kv (holds_all (disk_piece__settle_h Kv)) (Nat.le_of_ble_eq_true rfl) h
  · exact h.elim⟩

/-! disk_Disk_Sync -/
def disk_Disk_Sync_sd (d_0 : Option Addr) (K : Int → World → Prop) (w : World) : Prop :=
  cnd d_0.isNone
    (K (1 : Int) w)
    (disk_Disk_call_sh d_0 (fun (r2 : Int) (w1 : World) => cnd (r2 != (0 : Int))
    (K r2 w1)
    (let w3 : World := w1.drew
  ∃ S4 : World → Prop, S4 w3 ∧ nz d_0 fun a5 => ∃ x6 : Sl, (∀ w' : World, S4 w' → w'.cell? (a5.add 1) = some (Value.slice x6.p x6.l x6.c)) ∧ (0 ≤ (0 : Int) ∧ (0 : Int) ≤ (0 : Int) ∧ (0 : Int) ≤ (x6.c : Nat)) ∧ nz d_0 fun a7 => ∃ x8 : Sl, (∀ w' : World, S4 w' → w'.cell? a7 = some (Value.slice x8.p x8.l x8.c)) ∧ apS 1 1 [(Value.int .u8 (0 : Int))] 5 (Sl.mk (subP x6.p 0 x6.c 1) (0 - 0) (x6.c - 0)) x8 w3 fun (s9 : Sl) (w10 : World) => S4 w10 ∧ nz d_0 fun a11 => wrOk w10 (a11.add 1) ∧ 
  (let w12 : World := w10.setCell (a11.add 1) (Value.slice s9.p s9.l s9.c)
  nz d_0 fun a13 => disk_piece__settle_sh (some (a13.add 2)) (fun (w14 : World) => K (0 : Int) w14) w12))) w)

structure disk_Disk_Sync_sh (d_0 : Option Addr) (K : Int → World → Prop) (w : World) : Prop where
  out : disk_Disk_Sync_sd d_0 K w

noncomputable def disk_Disk_Sync_S : Pw.Spec := fun vs w Kv =>
  match vs with
  | [.pointer d_0] => disk_Disk_Sync_sh d_0 (fun (r0 : Int) (w' : World) => Kv (Value.int .i64 r0) w') w
  | _ => False

noncomputable def disk_Disk_Sync_E : Pw.Env := [(35, disk_Disk_call_S), (37, disk_piece__settle_S)]

noncomputable def disk_Disk_Sync_C : Code := (Try.f23.body).getD .skip

noncomputable def disk_Disk_Sync_A (_Kv : VW) : Pw.A :=
  (A.seq (A.reg (RA.run RA.done))
   (A.seq (A.seq (A.reg (RA.run (RA.run RA.done)))
   (A.cond (A.seq (A.reg (RA.run RA.done))
   A.leaf)
   A.leaf))
   (A.seq (A.seq (A.reg (RA.run (RA.run (RA.run RA.done))))
   (A.seq (A.reg (RA.run (RA.run RA.done)))
   (A.cond (A.seq (A.reg (RA.run (RA.run RA.done)))
   A.leaf)
   A.leaf)))
   (A.seq (A.drw (DA.pur 0 (DA.pur 1 (DA.pur 2 (DA.pur 3 (DA.pur 4 (DA.pur 5 (DA.pur 6 (DA.pur 7 (DA.pur 8 (DA.pur 9 (DA.eff 10 (DA.pur 11 (DA.pur 12 (DA.eff 13 DA.done)))))))))))))))
   (A.seq (A.reg (RA.run (RA.run (RA.run (RA.run RA.done)))))
   (A.seq (A.reg (RA.run RA.done))
   A.leaf))))))

noncomputable def disk_Disk_Sync_O (Kv : VW) : List Ob := (obs Try.prog disk_Disk_Sync_E 28 (disk_Disk_Sync_A Kv) disk_Disk_Sync_C (fun _ => retQ Try.prog Try.f23.results Kv))

theorem disk_Disk_Sync_e (Kv : VW) (d_0 : Option Addr) (w : World) : disk_Disk_Sync_sd d_0 (fun (r0 : Int) (w' : World) => Kv (Value.int .i64 r0) w') w = W Try.prog disk_Disk_Sync_E 28 (disk_Disk_Sync_A Kv) disk_Disk_Sync_C [] (retQ Try.prog Try.f23.results Kv) [] (startS [(Value.pointer d_0)]) w := by kernel_rfl

theorem disk_Disk_Sync_n (Kv : VW) : obAt (disk_Disk_Sync_O Kv) 0 = none := by kernel_rfl

theorem disk_Disk_Sync_h (Kv : VW) : ∀ k, holdsAt Try.prog disk_Disk_Sync_E 28 (disk_Disk_Sync_O Kv) k := fun _ => holdsAt_ge (disk_Disk_Sync_n Kv) (Nat.zero_le _)

theorem disk_Disk_Sync_ok : Sound Try.prog 23 disk_Disk_Sync_S := ⟨Try.call23, fun vs w Kv h => by
  unfold disk_Disk_Sync_S at h
  split at h
  · have h := h.out
    rw [disk_Disk_Sync_e] at h
    exact calls_sound (Γ := disk_Disk_Sync_E) progMixed ⟨disk_Disk_call_ok, disk_piece__settle_ok, trivial⟩ Try.func23 (code := disk_Disk_Sync_C) (by kernel_rfl) (disk_Disk_Sync_A Kv) Kv (holds_all (disk_Disk_Sync_h Kv)) (Nat.le_of_ble_eq_true rfl) h
  · exact h.elim⟩

/-! disk_piece__add -/
def disk_piece__add_sd (x_0 : Option Addr) (t_1_0 : Int) (t_1_1 : Sl) (K : World → Prop) (w : World) : Prop :=
  let w1 : World := w.alloc (Obj.cells #[(Value.int .i64 t_1_0), (Value.slice t_1_1.p t_1_1.l t_1_1.c)] 68)
  let w2 : World := w1.drew
  ∃ S3 : World → Prop, S3 w2 ∧ nz x_0 fun a4 => ∃ x5 : Sl, (∀ w' : World, S3 w' → w'.cell? a4 = some (Value.slice x5.p x5.l x5.c)) ∧ ∃ x6 : Int, (∀ w' : World, S3 w' → w'.cell? (Addr.mk w.heap.size 0 none) = some (Value.int .i64 x6)) ∧ ∃ x7 : Sl, (∀ w' : World, S3 w' → w'.cell? (Addr.mk w.heap.size 1 none) = some (Value.slice x7.p x7.l x7.c)) ∧ let w8 : World := w2.alloc (Obj.cells #[(Value.int .i64 x6), (Value.slice x7.p x7.l x7.c)] 68)
  S3 w8 ∧ apS 2 32 [(Value.int .i64 (0 : Int)), (Value.slice none 0 0)] 68 x5 (Sl.mk (some (Addr.mk w2.heap.size 0 none)) 1 1) w8 fun (s9 : Sl) (w10 : World) => S3 w10 ∧ nz x_0 fun a11 => wrOk w10 a11 ∧ 
  (let w12 : World := w10.setCell a11 (Value.slice s9.p s9.l s9.c)
  K w12)

structure disk_piece__add_sh (x_0 : Option Addr) (t_1_0 : Int) (t_1_1 : Sl) (K : World → Prop) (w : World) : Prop where
  out : disk_piece__add_sd x_0 t_1_0 t_1_1 K w

noncomputable def disk_piece__add_S : Pw.Spec := fun vs w Kv =>
  match vs with
  | [.pointer x_0, .agg ⟨[.int .i64 t_1_0, .slice t_1_1p t_1_1l t_1_1c]⟩] => disk_piece__add_sh x_0 t_1_0 ⟨t_1_1p, t_1_1l, t_1_1c⟩ (fun (w' : World) => Kv (Value.tuple #[]) w') w
  | _ => False

noncomputable def disk_piece__add_E : Pw.Env := []

noncomputable def disk_piece__add_C : Code := (Try.f36.body).getD .skip

noncomputable def disk_piece__add_A (_Kv : VW) : Pw.A :=
  (A.seq (A.reg (RA.run RA.done))
   (A.drw (DA.pur 0 (DA.pur 1 (DA.pur 2 (DA.pur 3 (DA.pur 4 (DA.pur 5 (DA.eff 6 (DA.eff 7 (DA.pur 8 (DA.pur 9 (DA.eff 10 DA.done)))))))))))))

noncomputable def disk_piece__add_O (Kv : VW) : List Ob := (obs Try.prog disk_piece__add_E 14 (disk_piece__add_A Kv) disk_piece__add_C (fun _ => retQ Try.prog Try.f36.results Kv))

theorem disk_piece__add_e (Kv : VW) (x_0 : Option Addr) (t_1_0 : Int) (t_1_1p : Option Addr) (t_1_1l t_1_1c : Nat) (w : World) : disk_piece__add_sd x_0 t_1_0 ⟨t_1_1p, t_1_1l, t_1_1c⟩ (fun (w' : World) => Kv (Value.tuple #[]) w') w = W Try.prog disk_piece__add_E 14 (disk_piece__add_A Kv) disk_piece__add_C [] (retQ Try.prog Try.f36.results Kv) [] (startS [(Value.pointer x_0), (Value.agg #[(Value.int .i64 t_1_0), (Value.slice t_1_1p t_1_1l t_1_1c)])]) w := by kernel_rfl

theorem disk_piece__add_n (Kv : VW) : obAt (disk_piece__add_O Kv) 0 = none := by kernel_rfl

theorem disk_piece__add_h (Kv : VW) : ∀ k, holdsAt Try.prog disk_piece__add_E 14 (disk_piece__add_O Kv) k := fun _ => holdsAt_ge (disk_piece__add_n Kv) (Nat.zero_le _)

theorem disk_piece__add_ok : Sound Try.prog 36 disk_piece__add_S := ⟨Try.call36, fun vs w Kv h => by
  unfold disk_piece__add_S at h
  split at h
  · have h := h.out
    rw [disk_piece__add_e] at h
    exact calls_sound (Γ := disk_piece__add_E) progMixed trivial Try.func36 (code := disk_piece__add_C) (by kernel_rfl) (disk_piece__add_A Kv) Kv (holds_all (disk_piece__add_h Kv)) (Nat.le_of_ble_eq_true rfl) h
  · exact h.elim⟩

/-! disk_put -/
def disk_put_k0d (c_0 : Sl) (off_1 : Int) (s_2 : Sl)  (K : Sl → World → Prop) (w : World) : Prop :=
  (0 ≤ off_1 ∧ off_1 ≤ (c_0.l : Nat)) ∧ cpS 1 (Sl.mk (subP c_0.p off_1.toNat c_0.c 1) (c_0.l - off_1.toNat) (c_0.c - off_1.toNat)) s_2 w fun (_x3 : Int) (w4 : World) => K c_0 w4
structure disk_put_k0 (c_0 : Sl) (off_1 : Int) (s_2 : Sl)  (K : Sl → World → Prop) (w : World) : Prop where
  out : disk_put_k0d c_0 off_1 s_2 K w

def disk_put_sd (c_0 : Sl) (off_1 : Int) (s_2 : Sl) (K : Sl → World → Prop) (w : World) : Prop :=
  inR .i64 (off_1 + (s_2.l : Int)) ∧ inR .i64 ((off_1 + (s_2.l : Int)) - (c_0.l : Int)) ∧ cnd (decide (((off_1 + (s_2.l : Int)) - (c_0.l : Int)) > (0 : Int)))
    (apZ 1 1 [(Value.int .u8 (0 : Int))] 5 c_0 ((off_1 + (s_2.l : Int)) - (c_0.l : Int)) w fun (s1 : Sl) (w2 : World) => disk_put_k0 s1 off_1 s_2 K w2)
    (disk_put_k0 c_0 off_1 s_2 K w)

structure disk_put_sh (c_0 : Sl) (off_1 : Int) (s_2 : Sl) (K : Sl → World → Prop) (w : World) : Prop where
  out : disk_put_sd c_0 off_1 s_2 K w

def disk_put_P0 (Kv : VW) (ρ : Rho) (vs : List Value) (w : World) : Prop :=
  match ρ, vs with
  | _, [.slice c_0p c_0l c_0c, .int .i64 off_1, .slice s_2p s_2l s_2c] => disk_put_k0 ⟨c_0p, c_0l, c_0c⟩ off_1 ⟨s_2p, s_2l, s_2c⟩  (fun (r0 : Sl) (w' : World) => Kv (Value.slice r0.p r0.l r0.c) w') w
  | _, _ => False

noncomputable def disk_put_S : Pw.Spec := fun vs w Kv =>
  match vs with
  | [.slice c_0p c_0l c_0c, .int .i64 off_1, .slice s_2p s_2l s_2c] => disk_put_sh ⟨c_0p, c_0l, c_0c⟩ off_1 ⟨s_2p, s_2l, s_2c⟩ (fun (r0 : Sl) (w' : World) => Kv (Value.slice r0.p r0.l r0.c) w') w
  | _ => False

noncomputable def disk_put_E : Pw.Env := []

noncomputable def disk_put_C : Code := (Try.f34.body).getD .skip

noncomputable def disk_put_A (Kv : VW) : Pw.A :=
  (A.seq (A.reg (RA.run RA.done))
   (A.seq (A.seq (A.reg (RA.run (RA.run (RA.run (RA.run (RA.run (RA.run (RA.run (RA.run RA.done)))))))))
   (A.seq (A.reg (RA.run (RA.run RA.done)))
   (A.cond (A.reg (RA.run (RA.run (RA.run (RA.run RA.done)))))
   A.leaf)))
   (A.cut [0, 1, 2] (disk_put_P0 Kv) (A.seq (A.reg (RA.run (RA.run (RA.run (RA.run (RA.run RA.done))))))
   (A.seq (A.reg (RA.run (RA.run RA.done)))
   A.leaf)))))

noncomputable def disk_put_O (Kv : VW) : List Ob := (obs Try.prog disk_put_E 26 (disk_put_A Kv) disk_put_C (fun _ => retQ Try.prog Try.f34.results Kv))

theorem disk_put_e (Kv : VW) (c_0p : Option Addr) (c_0l c_0c : Nat) (off_1 : Int) (s_2p : Option Addr) (s_2l s_2c : Nat) (w : World) : disk_put_sd ⟨c_0p, c_0l, c_0c⟩ off_1 ⟨s_2p, s_2l, s_2c⟩ (fun (r0 : Sl) (w' : World) => Kv (Value.slice r0.p r0.l r0.c) w') w = W Try.prog disk_put_E 26 (disk_put_A Kv) disk_put_C [] (retQ Try.prog Try.f34.results Kv) [] (startS [(Value.slice c_0p c_0l c_0c), (Value.int .i64 off_1), (Value.slice s_2p s_2l s_2c)]) w := by kernel_rfl

theorem disk_put_e0 (Kv : VW) (ρ : Rho) (c_0p : Option Addr) (c_0l c_0c : Nat) (off_1 : Int) (s_2p : Option Addr) (s_2l s_2c : Nat) (w : World) : disk_put_k0d ⟨c_0p, c_0l, c_0c⟩ off_1 ⟨s_2p, s_2l, s_2c⟩  (fun (r0 : Sl) (w' : World) => Kv (Value.slice r0.p r0.l r0.c) w') w = goalAt Try.prog disk_put_E 26 (disk_put_O Kv) 0 (ρ) [(Value.slice c_0p c_0l c_0c), (Value.int .i64 off_1), (Value.slice s_2p s_2l s_2c)] w := by kernel_rfl

theorem disk_put_q0 (Kv : VW) (ρ : Rho) (vs : List Value) (w : World) : labAt (disk_put_O Kv) 0 ρ vs w = disk_put_P0 Kv ρ vs w := by kernel_rfl

theorem disk_put_h0 (Kv : VW) : holdsAt Try.prog disk_put_E 26 (disk_put_O Kv) 0 := holdsAt_cut (.inl (by kernel_rfl)) (fun ρ vs w h => by
  rw [disk_put_q0] at h
  unfold disk_put_P0 at h
  split at h
  · rw [← disk_put_e0]; exact h.out
  · exact h.elim)

theorem disk_put_n (Kv : VW) : obAt (disk_put_O Kv) 1 = none := by kernel_rfl

theorem disk_put_h (Kv : VW) : ∀ k, holdsAt Try.prog disk_put_E 26 (disk_put_O Kv) k := fun k => match k with
  | 0 => disk_put_h0 Kv
  | _k + 1 => holdsAt_ge (disk_put_n Kv) (Nat.le_add_left _ _)

theorem disk_put_ok : Sound Try.prog 34 disk_put_S := ⟨Try.call34, fun vs w Kv h => by
  unfold disk_put_S at h
  split at h
  · have h := h.out
    rw [disk_put_e] at h
    exact calls_sound (Γ := disk_put_E) progMixed trivial Try.func34 (code := disk_put_C) (by kernel_rfl) (disk_put_A Kv) Kv (holds_all (disk_put_h Kv)) (Nat.le_of_ble_eq_true rfl) h
  · exact h.elim⟩

/-! disk_Disk_Write -/
def disk_Disk_Write_b0 (d_0 : Option Addr) (off_1 : Int) (s_2 : ByteArray) (N0 : Option Addr → Int → ByteArray → World → Prop)  (K : Int → World → Prop) (w : World) : Prop :=
  cnd (decide ((s_2.size : Int) > (0 : Int)))
    ((64 : Int) ≠ 0 ∧ inR .i64 ((64 : Int) - (Int.tmod off_1 (64 : Int))) ∧ let w11 : World := w.drew
  ∃ S12 : World → Prop, S12 w11 ∧ nz d_0 fun a13 => (0 ≤ (0 : Int) ∧ (0 : Int) ≤ (min ((64 : Int) - (Int.tmod off_1 (64 : Int))) (s_2.size : Int)) ∧ (min ((64 : Int) - (Int.tmod off_1 (64 : Int))) (s_2.size : Int)) ≤ (s_2.size : Nat)) ∧ stbS 5 (s_2.extract 0 (min ((64 : Int) - (Int.tmod off_1 (64 : Int))) (s_2.size : Int)).toNat) w11 fun (s14 : Sl) (w15 : World) => disk_piece__add_sh (some (a13.add 2)) off_1 s14 (fun (w16 : World) => let w17 : World := w16.drew
  inR .i64 (off_1 + (min ((64 : Int) - (Int.tmod off_1 (64 : Int))) (s_2.size : Int))) ∧ (0 ≤ (min ((64 : Int) - (Int.tmod off_1 (64 : Int))) (s_2.size : Int)) ∧ (min ((64 : Int) - (Int.tmod off_1 (64 : Int))) (s_2.size : Int)) ≤ (s_2.size : Nat)) ∧ N0 d_0 (off_1 + (min ((64 : Int) - (Int.tmod off_1 (64 : Int))) (s_2.size : Int))) (s_2.extract (min ((64 : Int) - (Int.tmod off_1 (64 : Int))) (s_2.size : Int)).toNat s_2.size) w17) w15)
    (K (0 : Int) w)
def disk_Disk_Write_l0d (d_0 : Option Addr) (off_1 : Int) (s_2 : ByteArray)  (K : Int → World → Prop) (w : World) : Prop :=
  ∃ (I : Int → ByteArray → World → Prop) (μ : Int → ByteArray → World → Nat), I off_1 s_2 w ∧ ∀ (off_11 : Int) (s_21 : ByteArray) (w1 : World), I off_11 s_21 w1 →
    disk_Disk_Write_b0 d_0 off_11 s_21 (fun (d_0' : Option Addr) (off_1' : Int) (s_2' : ByteArray) (w' : World) => ((d_0' = d_0 ∧ True) ∧ I off_1' s_2' w') ∧ μ off_1' s_2' w' < μ off_11 s_21 w1)  K w1
structure disk_Disk_Write_l0 (d_0 : Option Addr) (off_1 : Int) (s_2 : ByteArray)  (K : Int → World → Prop) (w : World) : Prop where
  out : disk_Disk_Write_l0d d_0 off_1 s_2 K w

def disk_Disk_Write_sd (d_0 : Option Addr) (off_1 : Int) (s_2 : ByteArray) (K : Int → World → Prop) (w : World) : Prop :=
  cnd d_0.isNone
    (K (1 : Int) w)
    (cnd (decide (off_1 < (0 : Int)))
    (K (1 : Int) w)
    (cnd (decide (off_1 > (16777216 : Int)))
    (K (1 : Int) w)
    (inR .i64 ((16777216 : Int) - off_1) ∧ cnd (decide ((s_2.size : Int) > ((16777216 : Int) - off_1)))
    (K (1 : Int) w)
    (disk_Disk_call_sh d_0 (fun (r2 : Int) (w1 : World) => cnd (r2 != (0 : Int))
    (K r2 w1)
    (nz d_0 fun a3 => ∃ x4 : Sl, w1.cell? a3 = some (Value.slice x4.p x4.l x4.c) ∧ stbS 5 s_2 w1 fun (s5 : Sl) (w6 : World) => disk_put_sh x4 off_1 s5 (fun (r8 : Sl) (w7 : World) => nz d_0 fun a9 => wrOk w7 a9 ∧ 
  (let w10 : World := w7.setCell a9 (Value.slice r8.p r8.l r8.c)
  disk_Disk_Write_l0 d_0 off_1 s_2 K w10)) w6)) w))))

structure disk_Disk_Write_sh (d_0 : Option Addr) (off_1 : Int) (s_2 : ByteArray) (K : Int → World → Prop) (w : World) : Prop where
  out : disk_Disk_Write_sd d_0 off_1 s_2 K w

def disk_Disk_Write_P0 (Kv : VW) (ρ : Rho) (vs : List Value) (w : World) : Prop :=
  match ρ, vs with
  | _, [.pointer d_0, .int .i64 off_1, .string s_2] => disk_Disk_Write_l0 d_0 off_1 s_2  (fun (r0 : Int) (w' : World) => Kv (Value.int .i64 r0) w') w
  | _, _ => False

noncomputable def disk_Disk_Write_S : Pw.Spec := fun vs w Kv =>
  match vs with
  | [.pointer d_0, .int .i64 off_1, .string s_2] => disk_Disk_Write_sh d_0 off_1 s_2 (fun (r0 : Int) (w' : World) => Kv (Value.int .i64 r0) w') w
  | _ => False

noncomputable def disk_Disk_Write_E : Pw.Env := [(34, disk_put_S), (35, disk_Disk_call_S), (36, disk_piece__add_S)]

noncomputable def disk_Disk_Write_C : Code := (Try.f22.body).getD .skip

noncomputable def disk_Disk_Write_A (Kv : VW) : Pw.A :=
  (A.seq (A.reg (RA.run RA.done))
   (A.seq (A.seq (A.reg (RA.run (RA.run (RA.run (RA.spl 11 (RA.skp (RA.skp (RA.run (RA.run (RA.skp (RA.skp (RA.run (RA.run (RA.skp (RA.skp (RA.skp (RA.skp (RA.skp (RA.run RA.done)))))))))))))) (RA.run (RA.run (RA.run (RA.run (RA.spl 15 (RA.skp (RA.skp (RA.run (RA.run (RA.skp (RA.skp (RA.skp (RA.skp (RA.skp (RA.run RA.done)))))))))) (RA.run (RA.run (RA.run (RA.run (RA.spl 19 (RA.skp (RA.skp (RA.skp (RA.skp (RA.skp (RA.run RA.done)))))) (RA.run (RA.run (RA.run (RA.run (RA.run (RA.run RA.done)))))))))))))))))))))
   (A.cond (A.seq (A.reg (RA.run RA.done))
   A.leaf)
   A.leaf))
   (A.seq (A.seq (A.reg (RA.run (RA.run (RA.run RA.done))))
   (A.seq (A.reg (RA.run (RA.run RA.done)))
   (A.cond (A.seq (A.reg (RA.run (RA.run RA.done)))
   A.leaf)
   A.leaf)))
   (A.seq (A.reg (RA.run (RA.run (RA.run (RA.run (RA.run (RA.run (RA.run (RA.run (RA.run (RA.run (RA.run (RA.run RA.done)))))))))))))
   (A.seq (A.blk (A.loop [0, 1, 2] (disk_Disk_Write_P0 Kv) (A.seq (A.seq (A.reg (RA.run (RA.run (RA.run RA.done))))
   (A.cond A.leaf
   A.leaf))
   (A.blk (A.seq (A.reg (RA.run (RA.run (RA.run (RA.run (RA.run (RA.run (RA.run RA.done))))))))
   (A.seq (A.drw (DA.pur 0 (DA.pur 1 (DA.pur 2 (DA.pur 3 (DA.pur 4 (DA.pur 5 (DA.pur 6 (DA.eff 7 (DA.pur 8 (DA.eff 9 DA.done)))))))))))
   (A.drp (DA.pur 0 (DA.pur 1 (DA.pur 2 (DA.pur 3 (DA.pur 4 (DA.pur 5 (DA.pur 6 (DA.pur 7 DA.done)))))))))))))))
   (A.seq (A.reg (RA.run RA.done))
   A.leaf))))))

noncomputable def disk_Disk_Write_O (Kv : VW) : List Ob := (obs Try.prog disk_Disk_Write_E 67 (disk_Disk_Write_A Kv) disk_Disk_Write_C (fun _ => retQ Try.prog Try.f22.results Kv))

theorem disk_Disk_Write_e (Kv : VW) (d_0 : Option Addr) (off_1 : Int) (s_2 : ByteArray) (w : World) : disk_Disk_Write_sd d_0 off_1 s_2 (fun (r0 : Int) (w' : World) => Kv (Value.int .i64 r0) w') w = W Try.prog disk_Disk_Write_E 67 (disk_Disk_Write_A Kv) disk_Disk_Write_C [] (retQ Try.prog Try.f22.results Kv) [] (startS [(Value.pointer d_0), (Value.int .i64 off_1), (Value.string s_2)]) w := by kernel_rfl

theorem disk_Disk_Write_e0 (Kv : VW) (N0 : List Value → World → Prop) (ρ : Rho) (d_0 : Option Addr) (off_1 : Int) (s_2 : ByteArray) (w : World) : disk_Disk_Write_b0 d_0 off_1 s_2 (fun (d_0' : Option Addr) (off_1' : Int) (s_2' : ByteArray) (w' : World) => N0 [(Value.pointer d_0'), (Value.int .i64 off_1'), (Value.string s_2')] w')  (fun (r0 : Int) (w' : World) => Kv (Value.int .i64 r0) w') w = goalAt Try.prog disk_Disk_Write_E 67 (disk_Disk_Write_O Kv) 0 (N0 :: ρ) [(Value.pointer d_0), (Value.int .i64 off_1), (Value.string s_2)] w := by kernel_rfl

theorem disk_Disk_Write_q0 (Kv : VW) (ρ : Rho) (vs : List Value) (w : World) : labAt (disk_Disk_Write_O Kv) 0 ρ vs w = disk_Disk_Write_P0 Kv ρ vs w := by kernel_rfl

def disk_Disk_Write_I0 (d_00 : Option Addr) (I : Int → ByteArray → World → Prop) (vs : List Value) (w : World) : Prop :=
  match vs with
  | [.pointer d_0, .int .i64 off_1, .string s_2] => (d_0 = d_00 ∧ True) ∧ I off_1 s_2 w
  | _ => False

def disk_Disk_Write_M0 (μ : Int → ByteArray → World → Nat) (vs : List Value) (w : World) : Nat :=
  match vs with
  | [.pointer _d_0, .int .i64 off_1, .string s_2] => μ off_1 s_2 w
  | _ => 0

theorem disk_Disk_Write_h0 (Kv : VW) : holdsAt Try.prog disk_Disk_Write_E 67 (disk_Disk_Write_O Kv) 0 := holdsAt_loop (by kernel_rfl) (fun ρ vs w h => by
  rw [disk_Disk_Write_q0] at h
  unfold disk_Disk_Write_P0 at h
  split at h
  · rename_i ρt d_0 off_1 s_2
    obtain ⟨I, μ, h0, hr⟩ := h.out
    refine ⟨disk_Disk_Write_I0 d_0 I, disk_Disk_Write_M0 μ, ⟨⟨rfl, trivial⟩, h0⟩, fun vs w hI => ?_⟩
    unfold disk_Disk_Write_I0 at hI
    split at hI
    · obtain ⟨⟨h0, _⟩, hI⟩ := hI
      cases h0
      rw [← disk_Disk_Write_e0]
      exact hr _ _ _ hI
    · exact hI.elim
  · exact h.elim)

theorem disk_Disk_Write_n (Kv : VW) : obAt (disk_Disk_Write_O Kv) 1 = none := by kernel_rfl

theorem disk_Disk_Write_h (Kv : VW) : ∀ k, holdsAt Try.prog disk_Disk_Write_E 67 (disk_Disk_Write_O Kv) k := fun k => match k with
  | 0 => disk_Disk_Write_h0 Kv
  | _k + 1 => holdsAt_ge (disk_Disk_Write_n Kv) (Nat.le_add_left _ _)

theorem disk_Disk_Write_ok : Sound Try.prog 22 disk_Disk_Write_S := ⟨Try.call22, fun vs w Kv h => by
  unfold disk_Disk_Write_S at h
  split at h
  · have h := h.out
    rw [disk_Disk_Write_e] at h
    exact calls_sound (Γ := disk_Disk_Write_E) progMixed ⟨disk_put_ok, disk_Disk_call_ok, disk_piece__add_ok, trivial⟩ Try.func22 (code := disk_Disk_Write_C) (by kernel_rfl) (disk_Disk_Write_A Kv) Kv (holds_all (disk_Disk_Write_h Kv)) (Nat.le_of_ble_eq_true rfl) h
  · exact h.elim⟩

/-! disk_Disk_Read -/
def disk_Disk_Read_sd (d_0 : Option Addr) (off_1 : Int) (n_2 : Int) (K : ByteArray → World → Prop) (w : World) : Prop :=
  cnd d_0.isNone
    (K (str []) w)
    (cnd (decide (off_1 < (0 : Int)))
    (K (str []) w)
    (cnd (decide (n_2 < (1 : Int)))
    (K (str []) w)
    (nz d_0 fun a1 => ∃ x2 : Sl, w.cell? a1 = some (Value.slice x2.p x2.l x2.c) ∧ cnd (decide (off_1 ≥ (x2.l : Int)))
    (K (str []) w)
    (let w3 : World := w.drew
  ∃ S4 : World → Prop, S4 w3 ∧ nz d_0 fun a5 => ∃ x6 : Sl, (∀ w' : World, S4 w' → w'.cell? a5 = some (Value.slice x6.p x6.l x6.c)) ∧ (0 ≤ off_1 ∧ off_1 ≤ (x6.l : Nat)) ∧ nz d_0 fun a7 => ∃ x8 : Sl, (∀ w' : World, S4 w' → w'.cell? a7 = some (Value.slice x8.p x8.l x8.c)) ∧ inR .i64 ((x8.l : Int) - off_1) ∧ (0 ≤ (0 : Int) ∧ (0 : Int) ≤ (min n_2 ((x8.l : Int) - off_1)) ∧ (min n_2 ((x8.l : Int) - off_1)) ≤ ((x6.c - off_1.toNat) : Nat)) ∧ btsS (Sl.mk (subP (subP x6.p off_1.toNat x6.c 1) 0 (x6.c - off_1.toNat) 1) ((min n_2 ((x8.l : Int) - off_1)).toNat - 0) ((x6.c - off_1.toNat) - 0)) w3 fun (s9 : ByteArray) => S4 w3 ∧ K s9 w3))))

structure disk_Disk_Read_sh (d_0 : Option Addr) (off_1 : Int) (n_2 : Int) (K : ByteArray → World → Prop) (w : World) : Prop where
  out : disk_Disk_Read_sd d_0 off_1 n_2 K w

noncomputable def disk_Disk_Read_S : Pw.Spec := fun vs w Kv =>
  match vs with
  | [.pointer d_0, .int .i64 off_1, .int .i64 n_2] => disk_Disk_Read_sh d_0 off_1 n_2 (fun (r0 : ByteArray) (w' : World) => Kv (Value.string r0) w') w
  | _ => False

noncomputable def disk_Disk_Read_E : Pw.Env := []

noncomputable def disk_Disk_Read_C : Code := (Try.f25.body).getD .skip

noncomputable def disk_Disk_Read_A (_Kv : VW) : Pw.A :=
  (A.seq (A.reg (RA.run RA.done))
   (A.seq (A.seq (A.reg (RA.run (RA.run (RA.run (RA.spl 9 (RA.skp (RA.skp (RA.run (RA.run (RA.skp (RA.skp (RA.run (RA.run (RA.skp (RA.skp (RA.skp (RA.skp (RA.skp (RA.skp (RA.skp (RA.run RA.done)))))))))))))))) (RA.run (RA.run (RA.run (RA.run (RA.spl 13 (RA.skp (RA.skp (RA.run (RA.run (RA.skp (RA.skp (RA.skp (RA.skp (RA.skp (RA.skp (RA.skp (RA.run RA.done)))))))))))) (RA.run (RA.run (RA.run (RA.run (RA.spl 17 (RA.skp (RA.skp (RA.skp (RA.skp (RA.skp (RA.skp (RA.skp (RA.run RA.done)))))))) (RA.run (RA.run (RA.run (RA.run (RA.run (RA.run (RA.run (RA.run RA.done)))))))))))))))))))))))
   (A.cond (A.seq (A.reg (RA.run RA.done))
   A.leaf)
   A.leaf))
   (A.seq (A.drw (DA.pur 0 (DA.pur 1 (DA.pur 2 (DA.pur 3 (DA.pur 4 (DA.pur 5 (DA.pur 6 (DA.pur 7 (DA.pur 8 (DA.pur 9 (DA.pur 10 (DA.pur 11 (DA.pur 12 (DA.pur 13 (DA.pur 14 (DA.pur 15 (DA.eff 16 (DA.pur 17 DA.done)))))))))))))))))))
   A.leaf)))

noncomputable def disk_Disk_Read_O (Kv : VW) : List Ob := (obs Try.prog disk_Disk_Read_E 43 (disk_Disk_Read_A Kv) disk_Disk_Read_C (fun _ => retQ Try.prog Try.f25.results Kv))

theorem disk_Disk_Read_e (Kv : VW) (d_0 : Option Addr) (off_1 : Int) (n_2 : Int) (w : World) : disk_Disk_Read_sd d_0 off_1 n_2 (fun (r0 : ByteArray) (w' : World) => Kv (Value.string r0) w') w = W Try.prog disk_Disk_Read_E 43 (disk_Disk_Read_A Kv) disk_Disk_Read_C [] (retQ Try.prog Try.f25.results Kv) [] (startS [(Value.pointer d_0), (Value.int .i64 off_1), (Value.int .i64 n_2)]) w := by kernel_rfl

theorem disk_Disk_Read_n (Kv : VW) : obAt (disk_Disk_Read_O Kv) 0 = none := by kernel_rfl

theorem disk_Disk_Read_h (Kv : VW) : ∀ k, holdsAt Try.prog disk_Disk_Read_E 43 (disk_Disk_Read_O Kv) k := fun _ => holdsAt_ge (disk_Disk_Read_n Kv) (Nat.zero_le _)

theorem disk_Disk_Read_ok : Sound Try.prog 25 disk_Disk_Read_S := ⟨Try.call25, fun vs w Kv h => by
  unfold disk_Disk_Read_S at h
  split at h
  · have h := h.out
    rw [disk_Disk_Read_e] at h
    exact calls_sound (Γ := disk_Disk_Read_E) progMixed trivial Try.func25 (code := disk_Disk_Read_C) (by kernel_rfl) (disk_Disk_Read_A Kv) Kv (holds_all (disk_Disk_Read_h Kv)) (Nat.le_of_ble_eq_true rfl) h
  · exact h.elim⟩

/-! disk_Disk_Size -/
def disk_Disk_Size_sd (d_0 : Option Addr) (K : Int → World → Prop) (w : World) : Prop :=
  cnd d_0.isNone
    (K (0 : Int) w)
    (nz d_0 fun a1 => ∃ x2 : Sl, w.cell? a1 = some (Value.slice x2.p x2.l x2.c) ∧ K (x2.l : Int) w)

structure disk_Disk_Size_sh (d_0 : Option Addr) (K : Int → World → Prop) (w : World) : Prop where
  out : disk_Disk_Size_sd d_0 K w

noncomputable def disk_Disk_Size_S : Pw.Spec := fun vs w Kv =>
  match vs with
  | [.pointer d_0] => disk_Disk_Size_sh d_0 (fun (r0 : Int) (w' : World) => Kv (Value.int .i64 r0) w') w
  | _ => False

noncomputable def disk_Disk_Size_E : Pw.Env := []

noncomputable def disk_Disk_Size_C : Code := (Try.f26.body).getD .skip

noncomputable def disk_Disk_Size_A (_Kv : VW) : Pw.A :=
  (A.seq (A.reg (RA.run RA.done))
   (A.seq (A.seq (A.reg (RA.run (RA.run RA.done)))
   (A.cond (A.seq (A.reg (RA.run RA.done))
   A.leaf)
   A.leaf))
   (A.seq (A.reg (RA.run (RA.run (RA.run (RA.run (RA.run (RA.run RA.done)))))))
   A.leaf)))

noncomputable def disk_Disk_Size_O (Kv : VW) : List Ob := (obs Try.prog disk_Disk_Size_E 10 (disk_Disk_Size_A Kv) disk_Disk_Size_C (fun _ => retQ Try.prog Try.f26.results Kv))

theorem disk_Disk_Size_e (Kv : VW) (d_0 : Option Addr) (w : World) : disk_Disk_Size_sd d_0 (fun (r0 : Int) (w' : World) => Kv (Value.int .i64 r0) w') w = W Try.prog disk_Disk_Size_E 10 (disk_Disk_Size_A Kv) disk_Disk_Size_C [] (retQ Try.prog Try.f26.results Kv) [] (startS [(Value.pointer d_0)]) w := by kernel_rfl

theorem disk_Disk_Size_n (Kv : VW) : obAt (disk_Disk_Size_O Kv) 0 = none := by kernel_rfl

theorem disk_Disk_Size_h (Kv : VW) : ∀ k, holdsAt Try.prog disk_Disk_Size_E 10 (disk_Disk_Size_O Kv) k := fun _ => holdsAt_ge (disk_Disk_Size_n Kv) (Nat.zero_le _)

theorem disk_Disk_Size_ok : Sound Try.prog 26 disk_Disk_Size_S := ⟨Try.call26, fun vs w Kv h => by
  unfold disk_Disk_Size_S at h
  split at h
  · have h := h.out
    rw [disk_Disk_Size_e] at h
    exact calls_sound (Γ := disk_Disk_Size_E) progMixed trivial Try.func26 (code := disk_Disk_Size_C) (by kernel_rfl) (disk_Disk_Size_A Kv) Kv (holds_all (disk_Disk_Size_h Kv)) (Nat.le_of_ble_eq_true rfl) h
  · exact h.elim⟩

/-! disk_Disk_Crash -/
def disk_Disk_Crash_b0 (survive_1 : Sl) (out_5 : Option Addr) (c_6 : Sl) (t_23 : Sl) (t_24 : Int) (t_25 : Int) (N0 : Sl → Option Addr → Sl → Sl → Int → Int → World → Prop)  (K : Option Addr → World → Prop) (w : World) : Prop :=
  cnd (decide (t_25 < t_24))
    (nz t_23.p fun a10 => (0 ≤ t_25 ∧ t_25 < (t_23.l : Nat)) ∧ ∃ x11 : Int, w.cell? (a10.add (t_25.toNat * 2)) = some (Value.int .i64 x11) ∧ ∃ x12 : Sl, w.cell? ((a10.add (t_25.toNat * 2)).add 1) = some (Value.slice x12.p x12.l x12.c) ∧ let w13 : World := w.alloc (Obj.cells #[(Value.int .i64 (0 : Int)), (Value.slice none 0 0)] 68)
  wrOk w13 (Addr.mk w.heap.size 0 none) ∧ 
  (let w14 : World := w13.setCell (Addr.mk w.heap.size 0 none) (Value.int .i64 x11)
  wrOk w14 (Addr.mk w.heap.size 1 none) ∧ 
  (let w15 : World := w14.setCell (Addr.mk w.heap.size 1 none) (Value.slice x12.p x12.l x12.c)
  cnd (decide ((survive_1.l : Int) > (0 : Int)))
    ((survive_1.l : Int) ≠ 0 ∧ nz survive_1.p fun a16 => (0 ≤ (Int.tmod t_25 (survive_1.l : Int)) ∧ (Int.tmod t_25 (survive_1.l : Int)) < (survive_1.l : Nat)) ∧ ∃ x17 : Int, w15.cell? (a16.add ((Int.tmod t_25 (survive_1.l : Int)).toNat * 1)) = some (Value.int .i64 x17) ∧ (2 : Int) ≠ 0 ∧ cnd ((Int.tmod x17 (2 : Int)) != (0 : Int))
    (∃ x18 : Int, w15.cell? (Addr.mk w.heap.size 0 none) = some (Value.int .i64 x18) ∧ ∃ x19 : Sl, w15.cell? (Addr.mk w.heap.size 1 none) = some (Value.slice x19.p x19.l x19.c) ∧ disk_put_sh c_6 x18 x19 (fun (r21 : Sl) (w20 : World) => inR .i64 (t_25 + (1 : Int)) ∧ N0 survive_1 out_5 r21 t_23 t_24 (t_25 + (1 : Int)) w20) w15)
    (inR .i64 (t_25 + (1 : Int)) ∧ N0 survive_1 out_5 c_6 t_23 t_24 (t_25 + (1 : Int)) w15))
    (inR .i64 (t_25 + (1 : Int)) ∧ N0 survive_1 out_5 c_6 t_23 t_24 (t_25 + (1 : Int)) w15))))
    (nz out_5 fun a22 => wrOk w a22 ∧ 
  (let w23 : World := w.setCell a22 (Value.slice c_6.p c_6.l c_6.c)
  let w24 : World := w23.alloc (Obj.cells #[] 5)
  apS 1 1 [(Value.int .u8 (0 : Int))] 5 (Sl.mk (some (Addr.mk w23.heap.size 0 none)) 0 0) c_6 w24 fun (s25 : Sl) (w26 : World) => nz out_5 fun a27 => wrOk w26 (a27.add 1) ∧ 
  (let w28 : World := w26.setCell (a27.add 1) (Value.slice s25.p s25.l s25.c)
  K out_5 w28)))
def disk_Disk_Crash_l0d (survive_1 : Sl) (out_5 : Option Addr) (c_6 : Sl) (t_23 : Sl) (t_24 : Int) (t_25 : Int)  (K : Option Addr → World → Prop) (w : World) : Prop :=
  ∃ (I : Sl → Int → World → Prop) (μ : Sl → Int → World → Nat), I c_6 t_25 w ∧ ∀ (c_61 : Sl) (t_251 : Int) (w1 : World), I c_61 t_251 w1 →
    disk_Disk_Crash_b0 survive_1 out_5 c_61 t_23 t_24 t_251 (fun (survive_1' : Sl) (out_5' : Option Addr) (c_6' : Sl) (t_23' : Sl) (t_24' : Int) (t_25' : Int) (w' : World) => ((survive_1' = survive_1 ∧ out_5' = out_5 ∧ t_23' = t_23 ∧ t_24' = t_24 ∧ True) ∧ I c_6' t_25' w') ∧ μ c_6' t_25' w' < μ c_61 t_251 w1)  K w1
structure disk_Disk_Crash_l0 (survive_1 : Sl) (out_5 : Option Addr) (c_6 : Sl) (t_23 : Sl) (t_24 : Int) (t_25 : Int)  (K : Option Addr → World → Prop) (w : World) : Prop where
  out : disk_Disk_Crash_l0d survive_1 out_5 c_6 t_23 t_24 t_25 K w

def disk_Disk_Crash_sd (d_0 : Option Addr) (survive_1 : Sl) (K : Option Addr → World → Prop) (w : World) : Prop :=
  disk_New_sh (fun (r2 : Option Addr) (w1 : World) => cnd d_0.isNone
    (K r2 w1)
    (let w3 : World := w1.alloc (Obj.cells #[] 5)
  nz d_0 fun a4 => ∃ x5 : Sl, w3.cell? (a4.add 1) = some (Value.slice x5.p x5.l x5.c) ∧ apS 1 1 [(Value.int .u8 (0 : Int))] 5 (Sl.mk (some (Addr.mk w1.heap.size 0 none)) 0 0) x5 w3 fun (s6 : Sl) (w7 : World) => nz d_0 fun a8 => ∃ x9 : Sl, w7.cell? (a8.add 2) = some (Value.slice x9.p x9.l x9.c) ∧ disk_Disk_Crash_l0 survive_1 r2 s6 x9 (x9.l : Int) (0 : Int) K w7)) w

structure disk_Disk_Crash_sh (d_0 : Option Addr) (survive_1 : Sl) (K : Option Addr → World → Prop) (w : World) : Prop where
  out : disk_Disk_Crash_sd d_0 survive_1 K w

def disk_Disk_Crash_P0 (Kv : VW) (ρ : Rho) (vs : List Value) (w : World) : Prop :=
  match ρ, vs with
  | _, [.slice survive_1p survive_1l survive_1c, .pointer out_5, .slice c_6p c_6l c_6c, .slice t_23p t_23l t_23c, .int .i64 t_24, .int .i64 t_25] => disk_Disk_Crash_l0 ⟨survive_1p, survive_1l, survive_1c⟩ out_5 ⟨c_6p, c_6l, c_6c⟩ ⟨t_23p, t_23l, t_23c⟩ t_24 t_25  (fun (r0 : Option Addr) (w' : World) => Kv (Value.pointer r0) w') w
  | _, _ => False

noncomputable def disk_Disk_Crash_S : Pw.Spec := fun vs w Kv =>
  match vs with
  | [.pointer d_0, .slice survive_1p survive_1l survive_1c] => disk_Disk_Crash_sh d_0 ⟨survive_1p, survive_1l, survive_1c⟩ (fun (r0 : Option Addr) (w' : World) => Kv (Value.pointer r0) w') w
  | _ => False

noncomputable def disk_Disk_Crash_E : Pw.Env := [(11, disk_New_S), (34, disk_put_S)]

noncomputable def disk_Disk_Crash_C : Code := (Try.f18.body).getD .skip

noncomputable def disk_Disk_Crash_A (Kv : VW) : Pw.A :=
  (A.seq (A.reg (RA.run RA.done))
   (A.seq (A.reg (RA.run (RA.run RA.done)))
   (A.seq (A.seq (A.reg (RA.run (RA.run RA.done)))
   (A.cond (A.seq (A.reg (RA.run (RA.run RA.done)))
   A.leaf)
   A.leaf))
   (A.seq (A.reg (RA.run (RA.run (RA.run (RA.run (RA.run (RA.run (RA.run RA.done))))))))
   (A.seq (A.seq (A.reg (RA.run (RA.run (RA.run (RA.run (RA.run (RA.run (RA.run RA.done))))))))
   (A.blk (A.loop [1, 5, 6, 23, 24, 25] (disk_Disk_Crash_P0 Kv) (A.seq (A.reg (RA.run RA.done))
   (A.seq (A.cond A.leaf
   A.leaf)
   (A.seq (A.blk (A.seq (A.reg (RA.run (RA.run (RA.run (RA.run (RA.run (RA.run RA.done)))))))
   (A.seq (A.reg (RA.run (RA.run (RA.run (RA.run (RA.spl 33 (RA.run (RA.run (RA.run (RA.run (RA.run (RA.run (RA.run (RA.run (RA.run (RA.run RA.done)))))))))) (RA.skp (RA.skp (RA.skp (RA.skp (RA.skp (RA.skp (RA.skp (RA.skp (RA.skp (RA.run RA.done))))))))))))))))
   (A.cond (A.reg (RA.run (RA.run (RA.run (RA.run (RA.run (RA.run (RA.run RA.done))))))))
   A.leaf))))
   (A.reg (RA.run (RA.run RA.done)))))))))
   (A.seq (A.reg (RA.run (RA.run (RA.run (RA.run (RA.run RA.done))))))
   (A.seq (A.reg (RA.run (RA.run (RA.run (RA.run (RA.run (RA.run (RA.run RA.done))))))))
   (A.seq (A.reg (RA.run (RA.run RA.done)))
   A.leaf))))))))

noncomputable def disk_Disk_Crash_O (Kv : VW) : List Ob := (obs Try.prog disk_Disk_Crash_E 62 (disk_Disk_Crash_A Kv) disk_Disk_Crash_C (fun _ => retQ Try.prog Try.f18.results Kv))

theorem disk_Disk_Crash_e (Kv : VW) (d_0 : Option Addr) (survive_1p : Option Addr) (survive_1l survive_1c : Nat) (w : World) : disk_Disk_Crash_sd d_0 ⟨survive_1p, survive_1l, survive_1c⟩ (fun (r0 : Option Addr) (w' : World) => Kv (Value.pointer r0) w') w = W Try.prog disk_Disk_Crash_E 62 (disk_Disk_Crash_A Kv) disk_Disk_Crash_C [] (retQ Try.prog Try.f18.results Kv) [] (startS [(Value.pointer d_0), (Value.slice survive_1p survive_1l survive_1c)]) w := by kernel_rfl

theorem disk_Disk_Crash_e0 (Kv : VW) (N0 : List Value → World → Prop) (ρ : Rho) (survive_1p : Option Addr) (survive_1l survive_1c : Nat) (out_5 : Option Addr) (c_6p : Option Addr) (c_6l c_6c : Nat) (t_23p : Option Addr) (t_23l t_23c : Nat) (t_24 : Int) (t_25 : Int) (w : World) : disk_Disk_Crash_b0 ⟨survive_1p, survive_1l, survive_1c⟩ out_5 ⟨c_6p, c_6l, c_6c⟩ ⟨t_23p, t_23l, t_23c⟩ t_24 t_25 (fun (survive_1' : Sl) (out_5' : Option Addr) (c_6' : Sl) (t_23' : Sl) (t_24' : Int) (t_25' : Int) (w' : World) => N0 [(Value.slice survive_1'.p survive_1'.l survive_1'.c), (Value.pointer out_5'), (Value.slice c_6'.p c_6'.l c_6'.c), (Value.slice t_23'.p t_23'.l t_23'.c), (Value.int .i64 t_24'), (Value.int .i64 t_25')] w')  (fun (r0 : Option Addr) (w' : World) => Kv (Value.pointer r0) w') w = goalAt Try.prog disk_Disk_Crash_E 62 (disk_Disk_Crash_O Kv) 0 (N0 :: ρ) [(Value.slice survive_1p survive_1l survive_1c), (Value.pointer out_5), (Value.slice c_6p c_6l c_6c), (Value.slice t_23p t_23l t_23c), (Value.int .i64 t_24), (Value.int .i64 t_25)] w := by kernel_rfl

theorem disk_Disk_Crash_q0 (Kv : VW) (ρ : Rho) (vs : List Value) (w : World) : labAt (disk_Disk_Crash_O Kv) 0 ρ vs w = disk_Disk_Crash_P0 Kv ρ vs w := by kernel_rfl

def disk_Disk_Crash_I0 (survive_10 : Sl) (out_50 : Option Addr) (t_230 : Sl) (t_240 : Int) (I : Sl → Int → World → Prop) (vs : List Value) (w : World) : Prop :=
  match vs with
  | [.slice survive_1p survive_1l survive_1c, .pointer out_5, .slice c_6p c_6l c_6c, .slice t_23p t_23l t_23c, .int .i64 t_24, .int .i64 t_25] => (⟨survive_1p, survive_1l, survive_1c⟩ = survive_10 ∧ out_5 = out_50 ∧ ⟨t_23p, t_23l, t_23c⟩ = t_230 ∧ t_24 = t_240 ∧ True) ∧ I ⟨c_6p, c_6l, c_6c⟩ t_25 w
  | _ => False

def disk_Disk_Crash_M0 (μ : Sl → Int → World → Nat) (vs : List Value) (w : World) : Nat :=
  match vs with
  | [.slice _survive_1p _survive_1l _survive_1c, .pointer _out_5, .slice c_6p c_6l c_6c, .slice _t_23p _t_23l _t_23c, .int .i64 _t_24, .int .i64 t_25] => μ ⟨c_6p, c_6l, c_6c⟩ t_25 w
  | _ => 0

theorem disk_Disk_Crash_h0 (Kv : VW) : holdsAt Try.prog disk_Disk_Crash_E 62 (disk_Disk_Crash_O Kv) 0 := holdsAt_loop (by kernel_rfl) (fun ρ vs w h => by
  rw [disk_Disk_Crash_q0] at h
  unfold disk_Disk_Crash_P0 at h
  split at h
  · rename_i ρt survive_1p survive_1l survive_1c out_5 c_6p c_6l c_6c t_23p t_23l t_23c t_24 t_25
    obtain ⟨I, μ, h0, hr⟩ := h.out
    refine ⟨disk_Disk_Crash_I0 ⟨survive_1p, survive_1l, survive_1c⟩ out_5 ⟨t_23p, t_23l, t_23c⟩ t_24 I, disk_Disk_Crash_M0 μ, ⟨⟨rfl, rfl, rfl, rfl, trivial⟩, h0⟩, fun vs w hI => ?_⟩
    unfold disk_Disk_Crash_I0 at hI
    split at hI
    · obtain ⟨⟨h0, h1, h2, h3, _⟩, hI⟩ := hI
      cases h0; cases h1; cases h2; cases h3
      rw [← disk_Disk_Crash_e0]
      exact hr _ _ _ hI
    · exact hI.elim
  · exact h.elim)

theorem disk_Disk_Crash_n (Kv : VW) : obAt (disk_Disk_Crash_O Kv) 1 = none := by kernel_rfl

theorem disk_Disk_Crash_h (Kv : VW) : ∀ k, holdsAt Try.prog disk_Disk_Crash_E 62 (disk_Disk_Crash_O Kv) k := fun k => match k with
  | 0 => disk_Disk_Crash_h0 Kv
  | _k + 1 => holdsAt_ge (disk_Disk_Crash_n Kv) (Nat.le_add_left _ _)

theorem disk_Disk_Crash_ok : Sound Try.prog 18 disk_Disk_Crash_S := ⟨Try.call18, fun vs w Kv h => by
  unfold disk_Disk_Crash_S at h
  split at h
  · have h := h.out
    rw [disk_Disk_Crash_e] at h
    exact calls_sound (Γ := disk_Disk_Crash_E) progMixed ⟨disk_New_ok, disk_put_ok, trivial⟩ Try.func18 (code := disk_Disk_Crash_C) (by kernel_rfl) (disk_Disk_Crash_A Kv) Kv (holds_all (disk_Disk_Crash_h Kv)) (Nat.le_of_ble_eq_true rfl) h
  · exact h.elim⟩

/-! disk_Disk_Fail -/
def disk_Disk_Fail_sd (d_0 : Option Addr) (after_1 : Int) (K : World → Prop) (w : World) : Prop :=
  cnd (!d_0.isNone)
    (nz d_0 fun a1 => wrOk w (a1.add 4) ∧ 
  (let w2 : World := w.setCell (a1.add 4) (Value.bool (decide (after_1 > (-1 : Int))))
  nz d_0 fun a3 => wrOk w2 (a3.add 5) ∧ 
  (let w4 : World := w2.setCell (a3.add 5) (Value.int .i64 after_1)
  K w4)))
    (K w)

structure disk_Disk_Fail_sh (d_0 : Option Addr) (after_1 : Int) (K : World → Prop) (w : World) : Prop where
  out : disk_Disk_Fail_sd d_0 after_1 K w

noncomputable def disk_Disk_Fail_S : Pw.Spec := fun vs w Kv =>
  match vs with
  | [.pointer d_0, .int .i64 after_1] => disk_Disk_Fail_sh d_0 after_1 (fun (w' : World) => Kv (Value.tuple #[]) w') w
  | _ => False

noncomputable def disk_Disk_Fail_E : Pw.Env := []

noncomputable def disk_Disk_Fail_C : Code := (Try.f20.body).getD .skip

noncomputable def disk_Disk_Fail_A (_Kv : VW) : Pw.A :=
  (A.seq (A.reg (RA.run (RA.run RA.done)))
   (A.cond (A.reg (RA.run (RA.run (RA.run (RA.run (RA.run (RA.run (RA.run (RA.run (RA.run (RA.run (RA.run RA.done))))))))))))
   A.leaf))

noncomputable def disk_Disk_Fail_O (Kv : VW) : List Ob := (obs Try.prog disk_Disk_Fail_E 15 (disk_Disk_Fail_A Kv) disk_Disk_Fail_C (fun _ => retQ Try.prog Try.f20.results Kv))

theorem disk_Disk_Fail_e (Kv : VW) (d_0 : Option Addr) (after_1 : Int) (w : World) : disk_Disk_Fail_sd d_0 after_1 (fun (w' : World) => Kv (Value.tuple #[]) w') w = W Try.prog disk_Disk_Fail_E 15 (disk_Disk_Fail_A Kv) disk_Disk_Fail_C [] (retQ Try.prog Try.f20.results Kv) [] (startS [(Value.pointer d_0), (Value.int .i64 after_1)]) w := by kernel_rfl

theorem disk_Disk_Fail_n (Kv : VW) : obAt (disk_Disk_Fail_O Kv) 0 = none := by kernel_rfl

theorem disk_Disk_Fail_h (Kv : VW) : ∀ k, holdsAt Try.prog disk_Disk_Fail_E 15 (disk_Disk_Fail_O Kv) k := fun _ => holdsAt_ge (disk_Disk_Fail_n Kv) (Nat.zero_le _)

theorem disk_Disk_Fail_ok : Sound Try.prog 20 disk_Disk_Fail_S := ⟨Try.call20, fun vs w Kv h => by
  unfold disk_Disk_Fail_S at h
  split at h
  · have h := h.out
    rw [disk_Disk_Fail_e] at h
    exact calls_sound (Γ := disk_Disk_Fail_E) progMixed trivial Try.func20 (code := disk_Disk_Fail_C) (by kernel_rfl) (disk_Disk_Fail_A Kv) Kv (holds_all (disk_Disk_Fail_h Kv)) (Nat.le_of_ble_eq_true rfl) h
  · exact h.elim⟩

/-! probityref27_New -/
def probityref27_New_sd  (K : Option Addr → World → Prop) (w : World) : Prop :=
  let w1 : World := w.alloc (Obj.cells #[(Value.slice none 0 0), (Value.slice none 0 0), (Value.bool false), (Value.int .i64 (0 : Int))] 38)
  K (some (Addr.mk w.heap.size 0 none)) w1

structure probityref27_New_sh  (K : Option Addr → World → Prop) (w : World) : Prop where
  out : probityref27_New_sd  K w

noncomputable def probityref27_New_S : Pw.Spec := fun vs w Kv =>
  match vs with
  | [] => probityref27_New_sh  (fun (r0 : Option Addr) (w' : World) => Kv (Value.pointer r0) w') w
  | _ => False

noncomputable def probityref27_New_E : Pw.Env := []

noncomputable def probityref27_New_C : Code := (Try.f13.body).getD .skip

noncomputable def probityref27_New_A (_Kv : VW) : Pw.A :=
  (A.seq (A.reg (RA.run RA.done))
   (A.seq (A.reg (RA.run (RA.run (RA.run RA.done))))
   A.leaf))

noncomputable def probityref27_New_O (Kv : VW) : List Ob := (obs Try.prog probityref27_New_E 3 (probityref27_New_A Kv) probityref27_New_C (fun _ => retQ Try.prog Try.f13.results Kv))

theorem probityref27_New_e (Kv : VW)  (w : World) : probityref27_New_sd  (fun (r0 : Option Addr) (w' : World) => Kv (Value.pointer r0) w') w = W Try.prog probityref27_New_E 3 (probityref27_New_A Kv) probityref27_New_C [] (retQ Try.prog Try.f13.results Kv) [] (startS []) w := by kernel_rfl

theorem probityref27_New_n (Kv : VW) : obAt (probityref27_New_O Kv) 0 = none := by kernel_rfl

theorem probityref27_New_h (Kv : VW) : ∀ k, holdsAt Try.prog probityref27_New_E 3 (probityref27_New_O Kv) k := fun _ => holdsAt_ge (probityref27_New_n Kv) (Nat.zero_le _)

theorem probityref27_New_ok : Sound Try.prog 13 probityref27_New_S := ⟨Try.call13, fun vs w Kv h => by
  unfold probityref27_New_S at h
  split at h
  · have h := h.out
    rw [probityref27_New_e] at h
    exact calls_sound (Γ := probityref27_New_E) progMixed trivial Try.func13 (code := probityref27_New_C) (by kernel_rfl) (probityref27_New_A Kv) Kv (holds_all (probityref27_New_h Kv)) (Nat.le_of_ble_eq_true rfl) h
  · exact h.elim⟩

/-! probityref27_Journal_Fits -/
def probityref27_Journal_Fits_sd (j_0 : Option Addr) (record_1 : ByteArray) (K : Bool → World → Prop) (w : World) : Prop :=
  nz j_0 fun a1 => ∃ x2 : Int, w.cell? (a1.add 3) = some (Value.int .i64 x2) ∧ inR .i64 (x2 + (record_1.size : Int)) ∧ inR .i64 ((x2 + (record_1.size : Int)) + (16 : Int)) ∧ inR .i64 (((x2 + (record_1.size : Int)) + (16 : Int)) + (256 : Int)) ∧ K (decide ((((x2 + (record_1.size : Int)) + (16 : Int)) + (256 : Int)) ≤ (16777216 : Int))) w

structure probityref27_Journal_Fits_sh (j_0 : Option Addr) (record_1 : ByteArray) (K : Bool → World → Prop) (w : World) : Prop where
  out : probityref27_Journal_Fits_sd j_0 record_1 K w

noncomputable def probityref27_Journal_Fits_S : Pw.Spec := fun vs w Kv =>
  match vs with
  | [.pointer j_0, .string record_1] => probityref27_Journal_Fits_sh j_0 record_1 (fun (r0 : Bool) (w' : World) => Kv (Value.bool r0) w') w
  | _ => False

noncomputable def probityref27_Journal_Fits_E : Pw.Env := []

noncomputable def probityref27_Journal_Fits_C : Code := (Try.f33.body).getD .skip

noncomputable def probityref27_Journal_Fits_A (_Kv : VW) : Pw.A :=
  (A.seq (A.reg (RA.run RA.done))
   (A.seq (A.reg (RA.run (RA.run (RA.run (RA.run (RA.run (RA.run (RA.run (RA.run (RA.run (RA.run (RA.run RA.done))))))))))))
   A.leaf))

noncomputable def probityref27_Journal_Fits_O (Kv : VW) : List Ob := (obs Try.prog probityref27_Journal_Fits_E 15 (probityref27_Journal_Fits_A Kv) probityref27_Journal_Fits_C (fun _ => retQ Try.prog Try.f33.results Kv))

theorem probityref27_Journal_Fits_e (Kv : VW) (j_0 : Option Addr) (record_1 : ByteArray) (w : World) : probityref27_Journal_Fits_sd j_0 record_1 (fun (r0 : Bool) (w' : World) => Kv (Value.bool r0) w') w = W Try.prog probityref27_Journal_Fits_E 15 (probityref27_Journal_Fits_A Kv) probityref27_Journal_Fits_C [] (retQ Try.prog Try.f33.results Kv) [] (startS [(Value.pointer j_0), (Value.string record_1)]) w := by kernel_rfl

theorem probityref27_Journal_Fits_n (Kv : VW) : obAt (probityref27_Journal_Fits_O Kv) 0 = none := by kernel_rfl

theorem probityref27_Journal_Fits_h (Kv : VW) : ∀ k, holdsAt Try.prog probityref27_Journal_Fits_E 15 (probityref27_Journal_Fits_O Kv) k := fun _ => holdsAt_ge (probityref27_Journal_Fits_n Kv) (Nat.zero_le _)

theorem probityref27_Journal_Fits_ok : Sound Try.prog 33 probityref27_Journal_Fits_S := ⟨Try.call33, fun vs w Kv h => by
  unfold probityref27_Journal_Fits_S at h
  split at h
  · have h := h.out
    rw [probityref27_Journal_Fits_e] at h
    exact calls_sound (Γ := probityref27_Journal_Fits_E) progMixed trivial Try.func33 (code := probityref27_Journal_Fits_C) (by kernel_rfl) (probityref27_Journal_Fits_A Kv) Kv (holds_all (probityref27_Journal_Fits_h Kv)) (Nat.le_of_ble_eq_true rfl) h
  · exact h.elim⟩

/-! probityref27_Journal_Append -/
def probityref27_Journal_Append_sd (j_0 : Option Addr) (record_1 : ByteArray) (power_2 : Bool) (K : Int → World → Prop) (w : World) : Prop :=
  nz j_0 fun a1 => ∃ x2 : Bool, w.cell? (a1.add 2) = some (Value.bool x2) ∧ cnd x2
    (K (70 : Int) w)
    (probityref27_Journal_Fits_sh j_0 record_1 (fun (r4 : Bool) (w3 : World) => cnd (!r4)
    (K (2 : Int) w3)
    (cnd (!power_2)
    (nz j_0 fun a5 => wrOk w3 (a5.add 2) ∧ 
  (let w6 : World := w3.setCell (a5.add 2) (Value.bool true)
  nz j_0 fun a7 => ∃ x8 : Sl, w6.cell? (a7.add 1) = some (Value.slice x8.p x8.l x8.c) ∧ let w9 : World := w6.alloc (Obj.cells #[(Value.string record_1)] 9)
  apS 1 16 [(Value.string (str []))] 9 x8 (Sl.mk (some (Addr.mk w6.heap.size 0 none)) 1 1) w9 fun (s10 : Sl) (w11 : World) => nz j_0 fun a12 => wrOk w11 (a12.add 1) ∧ 
  (let w13 : World := w11.setCell (a12.add 1) (Value.slice s10.p s10.l s10.c)
  K (70 : Int) w13)))
    (nz j_0 fun a14 => ∃ x15 : Sl, w3.cell? a14 = some (Value.slice x15.p x15.l x15.c) ∧ let w16 : World := w3.alloc (Obj.cells #[(Value.string record_1)] 9)
  apS 1 16 [(Value.string (str []))] 9 x15 (Sl.mk (some (Addr.mk w3.heap.size 0 none)) 1 1) w16 fun (s17 : Sl) (w18 : World) => nz j_0 fun a19 => wrOk w18 a19 ∧ 
  (let w20 : World := w18.setCell a19 (Value.slice s17.p s17.l s17.c)
  nz j_0 fun a21 => ∃ x22 : Int, w20.cell? (a21.add 3) = some (Value.int .i64 x22) ∧ inR .i64 (x22 + (record_1.size : Int)) ∧ inR .i64 ((x22 + (record_1.size : Int)) + (16 : Int)) ∧ nz j_0 fun a23 => wrOk w20 (a23.add 3) ∧ 
  (let w24 : World := w20.setCell (a23.add 3) (Value.int .i64 ((x22 + (record_1.size : Int)) + (16 : Int)))
  K (0 : Int) w24))))) w)

structure probityref27_Journal_Append_sh (j_0 : Option Addr) (record_1 : ByteArray) (power_2 : Bool) (K : Int → World → Prop) (w : World) : Prop where
  out : probityref27_Journal_Append_sd j_0 record_1 power_2 K w

noncomputable def probityref27_Journal_Append_S : Pw.Spec := fun vs w Kv =>
  match vs with
  | [.pointer j_0, .string record_1, .bool power_2] => probityref27_Journal_Append_sh j_0 record_1 power_2 (fun (r0 : Int) (w' : World) => Kv (Value.int .i64 r0) w') w
  | _ => False

noncomputable def probityref27_Journal_Append_E : Pw.Env := [(33, probityref27_Journal_Fits_S)]

noncomputable def probityref27_Journal_Append_C : Code := (Try.f16.body).getD .skip

noncomputable def probityref27_Journal_Append_A (_Kv : VW) : Pw.A :=
  (A.seq (A.reg (RA.run RA.done))
   (A.seq (A.seq (A.reg (RA.run (RA.run (RA.run (RA.run RA.done)))))
   (A.cond (A.seq (A.reg (RA.run RA.done))
   A.leaf)
   A.leaf))
   (A.seq (A.seq (A.reg (RA.run (RA.run (RA.run (RA.run RA.done)))))
   (A.cond (A.seq (A.reg (RA.run RA.done))
   A.leaf)
   A.leaf))
   (A.seq (A.seq (A.reg (RA.run (RA.run RA.done)))
   (A.cond (A.seq (A.reg (RA.run (RA.run (RA.run (RA.run RA.done)))))
   (A.seq (A.reg (RA.run (RA.run (RA.run (RA.run (RA.run (RA.run (RA.run (RA.run (RA.run (RA.run (RA.run RA.done))))))))))))
   (A.seq (A.reg (RA.run RA.done))
   A.leaf)))
   A.leaf))
   (A.seq (A.reg (RA.run (RA.run (RA.run (RA.run (RA.run (RA.run (RA.run (RA.run (RA.run (RA.run (RA.run RA.done))))))))))))
   (A.seq (A.reg (RA.run (RA.run (RA.run (RA.run (RA.run (RA.run (RA.run (RA.run (RA.run (RA.run (RA.run (RA.run RA.done)))))))))))))
   (A.seq (A.reg (RA.run RA.done))
   A.leaf)))))))

noncomputable def probityref27_Journal_Append_O (Kv : VW) : List Ob := (obs Try.prog probityref27_Journal_Append_E 51 (probityref27_Journal_Append_A Kv) probityref27_Journal_Append_C (fun _ => retQ Try.prog Try.f16.results Kv))

theorem probityref27_Journal_Append_e (Kv : VW) (j_0 : Option Addr) (record_1 : ByteArray) (power_2 : Bool) (w : World) : probityref27_Journal_Append_sd j_0 record_1 power_2 (fun (r0 : Int) (w' : World) => Kv (Value.int .i64 r0) w') w = W Try.prog probityref27_Journal_Append_E 51 (probityref27_Journal_Append_A Kv) probityref27_Journal_Append_C [] (retQ Try.prog Try.f16.results Kv) [] (startS [(Value.pointer j_0), (Value.string record_1), (Value.bool power_2)]) w := by kernel_rfl

theorem probityref27_Journal_Append_n (Kv : VW) : obAt (probityref27_Journal_Append_O Kv) 0 = none := by kernel_rfl

theorem probityref27_Journal_Append_h (Kv : VW) : ∀ k, holdsAt Try.prog probityref27_Journal_Append_E 51 (probityref27_Journal_Append_O Kv) k := fun _ => holdsAt_ge (probityref27_Journal_Append_n Kv) (Nat.zero_le _)

theorem probityref27_Journal_Append_ok : Sound Try.prog 16 probityref27_Journal_Append_S := ⟨Try.call16, fun vs w Kv h => by
  unfold probityref27_Journal_Append_S at h
  split at h
  · have h := h.out
    rw [probityref27_Journal_Append_e] at h
    exact calls_sound (Γ := probityref27_Journal_Append_E) progMixed ⟨probityref27_Journal_Fits_ok, trivial⟩ Try.func16 (code := probityref27_Journal_Append_C) (by kernel_rfl) (probityref27_Journal_Append_A Kv) Kv (holds_all (probityref27_Journal_Append_h Kv)) (Nat.le_of_ble_eq_true rfl) h
  · exact h.elim⟩

/-! probityref27_Same -/
def probityref27_Same_b0 (a_0 : Sl) (b_1 : Sl) (i_5 : Int) (N0 : Sl → Sl → Int → World → Prop)  (K : Bool → World → Prop) (w : World) : Prop :=
  cnd (decide (i_5 < (a_0.l : Int)))
    (let w1 : World := w.drew
  nz a_0.p fun a2 => (0 ≤ i_5 ∧ i_5 < (a_0.l : Nat)) ∧ ∃ x3 : ByteArray, w1.cell? (a2.add (i_5.toNat * 1)) = some (Value.string x3) ∧ nz b_1.p fun a4 => (0 ≤ i_5 ∧ i_5 < (b_1.l : Nat)) ∧ ∃ x5 : ByteArray, w1.cell? (a4.add (i_5.toNat * 1)) = some (Value.string x5) ∧ cnd (!decide (x3 = x5))
    (K false w1)
    (inR .i64 (i_5 + (1 : Int)) ∧ N0 a_0 b_1 (i_5 + (1 : Int)) w1))
    (K true w)
def probityref27_Same_l0d (a_0 : Sl) (b_1 : Sl) (i_5 : Int)  (K : Bool → World → Prop) (w : World) : Prop :=
  ∃ (I : Int → World → Prop) (μ : Int → World → Nat), I i_5 w ∧ ∀ (i_51 : Int) (w1 : World), I i_51 w1 →
    probityref27_Same_b0 a_0 b_1 i_51 (fun (a_0' : Sl) (b_1' : Sl) (i_5' : Int) (w' : World) => ((a_0' = a_0 ∧ b_1' = b_1 ∧ True) ∧ I i_5' w') ∧ μ i_5' w' < μ i_51 w1)  K w1
structure probityref27_Same_l0 (a_0 : Sl) (b_1 : Sl) (i_5 : Int)  (K : Bool → World → Prop) (w : World) : Prop where
  out : probityref27_Same_l0d a_0 b_1 i_5 K w

def probityref27_Same_sd (a_0 : Sl) (b_1 : Sl) (K : Bool → World → Prop) (w : World) : Prop :=
  cnd ((a_0.l : Int) != (b_1.l : Int))
    (K false w)
    (probityref27_Same_l0 a_0 b_1 (0 : Int) K w)

structure probityref27_Same_sh (a_0 : Sl) (b_1 : Sl) (K : Bool → World → Prop) (w : World) : Prop where
  out : probityref27_Same_sd a_0 b_1 K w

def probityref27_Same_P0 (Kv : VW) (ρ : Rho) (vs : List Value) (w : World) : Prop :=
  match ρ, vs with
  | _, [.slice a_0p a_0l a_0c, .slice b_1p b_1l b_1c, .int .i64 i_5] => probityref27_Same_l0 ⟨a_0p, a_0l, a_0c⟩ ⟨b_1p, b_1l, b_1c⟩ i_5  (fun (r0 : Bool) (w' : World) => Kv (Value.bool r0) w') w
  | _, _ => False

noncomputable def probityref27_Same_S : Pw.Spec := fun vs w Kv =>
  match vs with
  | [.slice a_0p a_0l a_0c, .slice b_1p b_1l b_1c] => probityref27_Same_sh ⟨a_0p, a_0l, a_0c⟩ ⟨b_1p, b_1l, b_1c⟩ (fun (r0 : Bool) (w' : World) => Kv (Value.bool r0) w') w
  | _ => False

noncomputable def probityref27_Same_E : Pw.Env := []

noncomputable def probityref27_Same_C : Code := (Try.f21.body).getD .skip

noncomputable def probityref27_Same_A (Kv : VW) : Pw.A :=
  (A.seq (A.reg (RA.run RA.done))
   (A.seq (A.seq (A.reg (RA.run (RA.run (RA.run (RA.run (RA.run RA.done))))))
   (A.cond (A.seq (A.reg (RA.run RA.done))
   A.leaf)
   A.leaf))
   (A.seq (A.seq (A.reg (RA.run RA.done))
   (A.blk (A.loop [0, 1, 5] (probityref27_Same_P0 Kv) (A.seq (A.seq (A.reg (RA.run (RA.run (RA.run (RA.run RA.done)))))
   (A.cond A.leaf
   A.leaf))
   (A.seq (A.blk (A.seq (A.drp (DA.pur 0 (DA.pur 1 (DA.pur 2 (DA.pur 3 (DA.pur 4 (DA.pur 5 (DA.pur 6 (DA.pur 7 (DA.pur 8 DA.done))))))))))
   (A.cond (A.seq (A.reg (RA.run RA.done))
   A.leaf)
   A.leaf)))
   (A.reg (RA.run (RA.run (RA.run RA.done)))))))))
   (A.seq (A.reg (RA.run RA.done))
   A.leaf))))

noncomputable def probityref27_Same_O (Kv : VW) : List Ob := (obs Try.prog probityref27_Same_E 26 (probityref27_Same_A Kv) probityref27_Same_C (fun _ => retQ Try.prog Try.f21.results Kv))

theorem probityref27_Same_e (Kv : VW) (a_0p : Option Addr) (a_0l a_0c : Nat) (b_1p : Option Addr) (b_1l b_1c : Nat) (w : World) : probityref27_Same_sd ⟨a_0p, a_0l, a_0c⟩ ⟨b_1p, b_1l, b_1c⟩ (fun (r0 : Bool) (w' : World) => Kv (Value.bool r0) w') w = W Try.prog probityref27_Same_E 26 (probityref27_Same_A Kv) probityref27_Same_C [] (retQ Try.prog Try.f21.results Kv) [] (startS [(Value.slice a_0p a_0l a_0c), (Value.slice b_1p b_1l b_1c)]) w := by kernel_rfl

theorem probityref27_Same_e0 (Kv : VW) (N0 : List Value → World → Prop) (ρ : Rho) (a_0p : Option Addr) (a_0l a_0c : Nat) (b_1p : Option Addr) (b_1l b_1c : Nat) (i_5 : Int) (w : World) : probityref27_Same_b0 ⟨a_0p, a_0l, a_0c⟩ ⟨b_1p, b_1l, b_1c⟩ i_5 (fun (a_0' : Sl) (b_1' : Sl) (i_5' : Int) (w' : World) => N0 [(Value.slice a_0'.p a_0'.l a_0'.c), (Value.slice b_1'.p b_1'.l b_1'.c), (Value.int .i64 i_5')] w')  (fun (r0 : Bool) (w' : World) => Kv (Value.bool r0) w') w = goalAt Try.prog probityref27_Same_E 26 (probityref27_Same_O Kv) 0 (N0 :: ρ) [(Value.slice a_0p a_0l a_0c), (Value.slice b_1p b_1l b_1c), (Value.int .i64 i_5)] w := by kernel_rfl

theorem probityref27_Same_q0 (Kv : VW) (ρ : Rho) (vs : List Value) (w : World) : labAt (probityref27_Same_O Kv) 0 ρ vs w = probityref27_Same_P0 Kv ρ vs w := by kernel_rfl

def probityref27_Same_I0 (a_00 : Sl) (b_10 : Sl) (I : Int → World → Prop) (vs : List Value) (w : World) : Prop :=
  match vs with
  | [.slice a_0p a_0l a_0c, .slice b_1p b_1l b_1c, .int .i64 i_5] => (⟨a_0p, a_0l, a_0c⟩ = a_00 ∧ ⟨b_1p, b_1l, b_1c⟩ = b_10 ∧ True) ∧ I i_5 w
  | _ => False

def probityref27_Same_M0 (μ : Int → World → Nat) (vs : List Value) (w : World) : Nat :=
  match vs with
  | [.slice _a_0p _a_0l _a_0c, .slice _b_1p _b_1l _b_1c, .int .i64 i_5] => μ i_5 w
  | _ => 0

theorem probityref27_Same_h0 (Kv : VW) : holdsAt Try.prog probityref27_Same_E 26 (probityref27_Same_O Kv) 0 := holdsAt_loop (by kernel_rfl) (fun ρ vs w h => by
  rw [probityref27_Same_q0] at h
  unfold probityref27_Same_P0 at h
  split at h
  · rename_i ρt a_0p a_0l a_0c b_1p b_1l b_1c i_5
    obtain ⟨I, μ, h0, hr⟩ := h.out
    refine ⟨probityref27_Same_I0 ⟨a_0p, a_0l, a_0c⟩ ⟨b_1p, b_1l, b_1c⟩ I, probityref27_Same_M0 μ, ⟨⟨rfl, rfl, trivial⟩, h0⟩, fun vs w hI => ?_⟩
    unfold probityref27_Same_I0 at hI
    split at hI
    · obtain ⟨⟨h0, h1, _⟩, hI⟩ := hI
      cases h0; cases h1
      rw [← probityref27_Same_e0]
      exact hr _ _ hI
    · exact hI.elim
  · exact h.elim)

theorem probityref27_Same_n (Kv : VW) : obAt (probityref27_Same_O Kv) 1 = none := by kernel_rfl

theorem probityref27_Same_h (Kv : VW) : ∀ k, holdsAt Try.prog probityref27_Same_E 26 (probityref27_Same_O Kv) k := fun k => match k with
  | 0 => probityref27_Same_h0 Kv
  | _k + 1 => holdsAt_ge (probityref27_Same_n Kv) (Nat.le_add_left _ _)

theorem probityref27_Same_ok : Sound Try.prog 21 probityref27_Same_S := ⟨Try.call21, fun vs w Kv h => by
  unfold probityref27_Same_S at h
  split at h
  · have h := h.out
    rw [probityref27_Same_e] at h
    exact calls_sound (Γ := probityref27_Same_E) progMixed trivial Try.func21 (code := probityref27_Same_C) (by kernel_rfl) (probityref27_Same_A Kv) Kv (holds_all (probityref27_Same_h Kv)) (Nat.le_of_ble_eq_true rfl) h
  · exact h.elim⟩

/-! probityref27_Journal_Opens -/
def probityref27_Journal_Opens_b1 (j_0 : Option Addr) (l_1 : Sl) (fine_5 : Bool) (i_6 : Int) (N1 : Option Addr → Sl → Bool → Int → World → Prop)  (K : Bool → World → Prop) (w : World) : Prop :=
  cnd (decide (i_6 < (l_1.l : Int)))
    (let w53 : World := w.drew
  ∃ S54 : World → Prop, S54 w53 ∧ nz j_0 fun a55 => ∃ x56 : Int, (∀ w' : World, S54 w' → w'.cell? (a55.add 3) = some (Value.int .i64 x56)) ∧ nz l_1.p fun a57 => (0 ≤ i_6 ∧ i_6 < (l_1.l : Nat)) ∧ ∃ x58 : ByteArray, (∀ w' : World, S54 w' → w'.cell? (a57.add (i_6.toNat * 1)) = some (Value.string x58)) ∧ inR .i64 (x56 + (x58.size : Int)) ∧ inR .i64 ((x56 + (x58.size : Int)) + (16 : Int)) ∧ nz j_0 fun a59 => wrOk w53 (a59.add 3) ∧ 
  (let w60 : World := w53.setCell (a59.add 3) (Value.int .i64 ((x56 + (x58.size : Int)) + (16 : Int)))
  inR .i64 (i_6 + (1 : Int)) ∧ N1 j_0 l_1 fine_5 (i_6 + (1 : Int)) w60))
    (K fine_5 w)
def probityref27_Journal_Opens_l1d (j_0 : Option Addr) (l_1 : Sl) (fine_5 : Bool) (i_6 : Int)  (K : Bool → World → Prop) (w : World) : Prop :=
  ∃ (I : Int → World → Prop) (μ : Int → World → Nat), I i_6 w ∧ ∀ (i_61 : Int) (w1 : World), I i_61 w1 →
    probityref27_Journal_Opens_b1 j_0 l_1 fine_5 i_61 (fun (j_0' : Option Addr) (l_1' : Sl) (fine_5' : Bool) (i_6' : Int) (w' : World) => ((j_0' = j_0 ∧ l_1' = l_1 ∧ fine_5' = fine_5 ∧ True) ∧ I i_6' w') ∧ μ i_6' w' < μ i_61 w1)  K w1
structure probityref27_Journal_Opens_l1 (j_0 : Option Addr) (l_1 : Sl) (fine_5 : Bool) (i_6 : Int)  (K : Bool → World → Prop) (w : World) : Prop where
  out : probityref27_Journal_Opens_l1d j_0 l_1 fine_5 i_6 K w

def probityref27_Journal_Opens_k0d (j_0 : Option Addr) (l_1 : Sl) (fine_5 : Bool)  (K : Bool → World → Prop) (w : World) : Prop :=
  let w42 : World := w.alloc (Obj.cells #[] 9)
  apS 1 16 [(Value.string (str []))] 9 (Sl.mk (some (Addr.mk w.heap.size 0 none)) 0 0) l_1 w42 fun (s43 : Sl) (w44 : World) => nz j_0 fun a45 => wrOk w44 a45 ∧ 
  (let w46 : World := w44.setCell a45 (Value.slice s43.p s43.l s43.c)
  nz j_0 fun a47 => wrOk w46 (a47.add 2) ∧ 
  (let w48 : World := w46.setCell (a47.add 2) (Value.bool false)
  nz j_0 fun a49 => wrOk w48 (a49.add 1) ∧ 
  (let w50 : World := w48.setCell (a49.add 1) (Value.slice none 0 0)
  nz j_0 fun a51 => wrOk w50 (a51.add 3) ∧ 
  (let w52 : World := w50.setCell (a51.add 3) (Value.int .i64 (0 : Int))
  probityref27_Journal_Opens_l1 j_0 l_1 fine_5 (0 : Int) K w52))))
structure probityref27_Journal_Opens_k0 (j_0 : Option Addr) (l_1 : Sl) (fine_5 : Bool)  (K : Bool → World → Prop) (w : World) : Prop where
  out : probityref27_Journal_Opens_k0d j_0 l_1 fine_5 K w

def probityref27_Journal_Opens_sd (j_0 : Option Addr) (l_1 : Sl) (K : Bool → World → Prop) (w : World) : Prop :=
  nz j_0 fun a1 => ∃ x2 : Sl, w.cell? a1 = some (Value.slice x2.p x2.l x2.c) ∧ probityref27_Same_sh l_1 x2 (fun (r4 : Bool) (w3 : World) => cnd (!r4)
    (nz j_0 fun a5 => ∃ x6 : Bool, w3.cell? (a5.add 2) = some (Value.bool x6) ∧ cnd x6
    (nz j_0 fun a7 => ∃ x8 : Sl, w3.cell? (a7.add 1) = some (Value.slice x8.p x8.l x8.c) ∧ cnd (decide ((x8.l : Int) > (0 : Int)))
    (let w9 : World := w3.drew
  ∃ S10 : World → Prop, S10 w9 ∧ nz j_0 fun a11 => ∃ x12 : Sl, (∀ w' : World, S10 w' → w'.cell? a11 = some (Value.slice x12.p x12.l x12.c)) ∧ nz j_0 fun a13 => ∃ x14 : Sl, (∀ w' : World, S10 w' → w'.cell? (a13.add 1) = some (Value.slice x14.p x14.l x14.c)) ∧ nz j_0 fun a15 => ∃ x16 : Sl, (∀ w' : World, S10 w' → w'.cell? (a15.add 1) = some (Value.slice x16.p x16.l x16.c)) ∧ inR .i64 ((x16.l : Int) - (1 : Int)) ∧ nz x14.p fun a17 => (0 ≤ ((x16.l : Int) - (1 : Int)) ∧ ((x16.l : Int) - (1 : Int)) < (x14.l : Nat)) ∧ ∃ x18 : ByteArray, (∀ w' : World, S10 w' → w'.cell? (a17.add (((x16.l : Int) - (1 : Int)).toNat * 1)) = some (Value.string x18)) ∧ (let w19 : World := w9.alloc (Obj.cells #[] 9)
  S10 w19 ∧ (apS 1 16 [(Value.string (str []))] 9 (Sl.mk (some (Addr.mk w9.heap.size 0 none)) 0 0) x12 w19 fun (s20 : Sl) (w21 : World) => S10 w21 ∧ let w22 : World := w21.alloc (Obj.cells #[(Value.string x18)] 9)
  S10 w22 ∧ apS 1 16 [(Value.string (str []))] 9 s20 (Sl.mk (some (Addr.mk w21.heap.size 0 none)) 1 1) w22 fun (s23 : Sl) (w24 : World) => S10 w24 ∧ probityref27_Same_sh l_1 s23 (fun (r26 : Bool) (w25 : World) => S10 w25 ∧ probityref27_Journal_Opens_k0 j_0 l_1 r26 K w25) w24)
    ∧ (let w27 : World := w19.alloc (Obj.cells #[(Value.string x18)] 9)
  S10 w27 ∧ apS 1 16 [(Value.string (str []))] 9 (Sl.mk (some (Addr.mk w9.heap.size 0 none)) 0 0) x12 w27 fun (s28 : Sl) (w29 : World) => S10 w29 ∧ apS 1 16 [(Value.string (str []))] 9 s28 (Sl.mk (some (Addr.mk w19.heap.size 0 none)) 1 1) w29 fun (s30 : Sl) (w31 : World) => S10 w31 ∧ probityref27_Same_sh l_1 s30 (fun (r33 : Bool) (w32 : World) => S10 w32 ∧ probityref27_Journal_Opens_k0 j_0 l_1 r33 K w32) w31))
    ∧ (let w34 : World := w9.alloc (Obj.cells #[(Value.string x18)] 9)
  S10 w34 ∧ let w35 : World := w34.alloc (Obj.cells #[] 9)
  S10 w35 ∧ apS 1 16 [(Value.string (str []))] 9 (Sl.mk (some (Addr.mk w34.heap.size 0 none)) 0 0) x12 w35 fun (s36 : Sl) (w37 : World) => S10 w37 ∧ apS 1 16 [(Value.string (str []))] 9 s36 (Sl.mk (some (Addr.mk w9.heap.size 0 none)) 1 1) w37 fun (s38 : Sl) (w39 : World) => S10 w39 ∧ probityref27_Same_sh l_1 s38 (fun (r41 : Bool) (w40 : World) => S10 w40 ∧ probityref27_Journal_Opens_k0 j_0 l_1 r41 K w40) w39))
    (probityref27_Journal_Opens_k0 j_0 l_1 r4 K w3))
    (probityref27_Journal_Opens_k0 j_0 l_1 r4 K w3))
    (probityref27_Journal_Opens_k0 j_0 l_1 r4 K w3)) w

structure probityref27_Journal_Opens_sh (j_0 : Option Addr) (l_1 : Sl) (K : Bool → World → Prop) (w : World) : Prop where
  out : probityref27_Journal_Opens_sd j_0 l_1 K w

def probityref27_Journal_Opens_P0 (Kv : VW) (ρ : Rho) (vs : List Value) (w : World) : Prop :=
  match ρ, vs with
  | _, [.pointer j_0, .slice l_1p l_1l l_1c, .bool fine_5] => probityref27_Journal_Opens_k0 j_0 ⟨l_1p, l_1l, l_1c⟩ fine_5  (fun (r0 : Bool) (w' : World) => Kv (Value.bool r0) w') w
  | _, _ => False

def probityref27_Journal_Opens_P1 (Kv : VW) (ρ : Rho) (vs : List Value) (w : World) : Prop :=
  match ρ, vs with
  | _, [.pointer j_0, .slice l_1p l_1l l_1c, .bool fine_5, .int .i64 i_6] => probityref27_Journal_Opens_l1 j_0 ⟨l_1p, l_1l, l_1c⟩ fine_5 i_6  (fun (r0 : Bool) (w' : World) => Kv (Value.bool r0) w') w
  | _, _ => False

noncomputable def probityref27_Journal_Opens_S : Pw.Spec := fun vs w Kv =>
  match vs with
  | [.pointer j_0, .slice l_1p l_1l l_1c] => probityref27_Journal_Opens_sh j_0 ⟨l_1p, l_1l, l_1c⟩ (fun (r0 : Bool) (w' : World) => Kv (Value.bool r0) w') w
  | _ => False

noncomputable def probityref27_Journal_Opens_E : Pw.Env := [(21, probityref27_Same_S)]

noncomputable def probityref27_Journal_Opens_C : Code := (Try.f19.body).getD .skip

noncomputable def probityref27_Journal_Opens_A (Kv : VW) : Pw.A :=
  (A.seq (A.reg (RA.run RA.done))
   (A.seq (A.reg (RA.run (RA.run (RA.run (RA.run (RA.run (RA.run (RA.run RA.done))))))))
   (A.seq (A.seq (A.reg (RA.run (RA.run (RA.run (RA.spl 15 (RA.run (RA.run (RA.run (RA.run (RA.run (RA.run (RA.spl 21 (RA.run (RA.run (RA.run (RA.run (RA.run (RA.run (RA.run RA.done))))))) (RA.skp (RA.skp (RA.skp (RA.skp (RA.skp (RA.skp (RA.run RA.done)))))))))))))) (RA.skp (RA.skp (RA.skp (RA.skp (RA.run (RA.run (RA.skp (RA.skp (RA.skp (RA.skp (RA.skp (RA.skp (RA.run RA.done))))))))))))))))))
   (A.cond (A.drw (DA.pur 0 (DA.pur 2 (DA.pur 3 (DA.pur 4 (DA.pur 5 (DA.pur 7 (DA.pur 8 (DA.pur 9 (DA.pur 10 (DA.pur 11 (DA.pur 12 (DA.pur 13 (DA.pur 14 (DA.pur 15 (DA.pur 16 (DA.pur 17 (DA.pur 18 (DA.two 1 (DA.two 6 (DA.eff 19 (DA.eff 20 (DA.eff 21 (DA.pur 22 DA.done)))) 19 (DA.eff 6 (DA.eff 20 (DA.eff 21 (DA.pur 22 DA.done))))) 19 (DA.eff 1 (DA.eff 6 (DA.eff 20 (DA.eff 21 (DA.pur 22 DA.done))))))))))))))))))))))))
   A.leaf))
   (A.cut [0, 1, 5] (probityref27_Journal_Opens_P0 Kv) (A.seq (A.reg (RA.run (RA.run (RA.run (RA.run (RA.run (RA.run (RA.run RA.done))))))))
   (A.seq (A.reg (RA.run (RA.run (RA.run (RA.run RA.done)))))
   (A.seq (A.reg (RA.run (RA.run (RA.run (RA.run RA.done)))))
   (A.seq (A.reg (RA.run (RA.run (RA.run (RA.run RA.done)))))
   (A.seq (A.seq (A.reg (RA.run RA.done))
   (A.blk (A.loop [0, 1, 5, 6] (probityref27_Journal_Opens_P1 Kv) (A.seq (A.seq (A.reg (RA.run (RA.run (RA.run (RA.run RA.done)))))
   (A.cond A.leaf
   A.leaf))
   (A.seq (A.blk (A.drw (DA.pur 0 (DA.pur 1 (DA.pur 2 (DA.pur 3 (DA.pur 4 (DA.pur 5 (DA.pur 6 (DA.pur 7 (DA.pur 8 (DA.pur 9 (DA.pur 10 (DA.pur 11 (DA.pur 12 (DA.pur 13 (DA.eff 14 DA.done)))))))))))))))))
   (A.reg (RA.run (RA.run (RA.run RA.done)))))))))
   (A.seq (A.reg (RA.run (RA.run RA.done)))
   A.leaf))))))))))

noncomputable def probityref27_Journal_Opens_O (Kv : VW) : List Ob := (obs Try.prog probityref27_Journal_Opens_E 87 (probityref27_Journal_Opens_A Kv) probityref27_Journal_Opens_C (fun _ => retQ Try.prog Try.f19.results Kv))

theorem probityref27_Journal_Opens_e (Kv : VW) (j_0 : Option Addr) (l_1p : Option Addr) (l_1l l_1c : Nat) (w : World) : probityref27_Journal_Opens_sd j_0 ⟨l_1p, l_1l, l_1c⟩ (fun (r0 : Bool) (w' : World) => Kv (Value.bool r0) w') w = W Try.prog probityref27_Journal_Opens_E 87 (probityref27_Journal_Opens_A Kv) probityref27_Journal_Opens_C [] (retQ Try.prog Try.f19.results Kv) [] (startS [(Value.pointer j_0), (Value.slice l_1p l_1l l_1c)]) w := by kernel_rfl

theorem probityref27_Journal_Opens_e0 (Kv : VW) (ρ : Rho) (j_0 : Option Addr) (l_1p : Option Addr) (l_1l l_1c : Nat) (fine_5 : Bool) (w : World) : probityref27_Journal_Opens_k0d j_0 ⟨l_1p, l_1l, l_1c⟩ fine_5  (fun (r0 : Bool) (w' : World) => Kv (Value.bool r0) w') w = goalAt Try.prog probityref27_Journal_Opens_E 87 (probityref27_Journal_Opens_O Kv) 0 (ρ) [(Value.pointer j_0), (Value.slice l_1p l_1l l_1c), (Value.bool fine_5)] w := by kernel_rfl

theorem probityref27_Journal_Opens_q0 (Kv : VW) (ρ : Rho) (vs : List Value) (w : World) : labAt (probityref27_Journal_Opens_O Kv) 0 ρ vs w = probityref27_Journal_Opens_P0 Kv ρ vs w := by kernel_rfl

theorem probityref27_Journal_Opens_h0 (Kv : VW) : holdsAt Try.prog probityref27_Journal_Opens_E 87 (probityref27_Journal_Opens_O Kv) 0 := holdsAt_cut (.inl (by kernel_rfl)) (fun ρ vs w h => by
  rw [probityref27_Journal_Opens_q0] at h
  unfold probityref27_Journal_Opens_P0 at h
  split at h
  · rw [← probityref27_Journal_Opens_e0]; exact h.out
  · exact h.elim)

theorem probityref27_Journal_Opens_e1 (Kv : VW) (N1 : List Value → World → Prop) (ρ : Rho) (j_0 : Option Addr) (l_1p : Option Addr) (l_1l l_1c : Nat) (fine_5 : Bool) (i_6 : Int) (w : World) : probityref27_Journal_Opens_b1 j_0 ⟨l_1p, l_1l, l_1c⟩ fine_5 i_6 (fun (j_0' : Option Addr) (l_1' : Sl) (fine_5' : Bool) (i_6' : Int) (w' : World) => N1 [(Value.pointer j_0'), (Value.slice l_1'.p l_1'.l l_1'.c), (Value.bool fine_5'), (Value.int .i64 i_6')] w')  (fun (r0 : Bool) (w' : World) => Kv (Value.bool r0) w') w = goalAt Try.prog probityref27_Journal_Opens_E 87 (probityref27_Journal_Opens_O Kv) 1 (N1 :: ρ) [(Value.pointer j_0), (Value.slice l_1p l_1l l_1c), (Value.bool fine_5), (Value.int .i64 i_6)] w := by kernel_rfl

theorem probityref27_Journal_Opens_q1 (Kv : VW) (ρ : Rho) (vs : List Value) (w : World) : labAt (probityref27_Journal_Opens_O Kv) 1 ρ vs w = probityref27_Journal_Opens_P1 Kv ρ vs w := by kernel_rfl

def probityref27_Journal_Opens_I1 (j_00 : Option Addr) (l_10 : Sl) (fine_50 : Bool) (I : Int → World → Prop) (vs : List Value) (w : World) : Prop :=
  match vs with
  | [.pointer j_0, .slice l_1p l_1l l_1c, .bool fine_5, .int .i64 i_6] => (j_0 = j_00 ∧ ⟨l_1p, l_1l, l_1c⟩ = l_10 ∧ fine_5 = fine_50 ∧ True) ∧ I i_6 w
  | _ => False

def probityref27_Journal_Opens_M1 (μ : Int → World → Nat) (vs : List Value) (w : World) : Nat :=
  match vs with
  | [.pointer _j_0, .slice _l_1p _l_1l _l_1c, .bool _fine_5, .int .i64 i_6] => μ i_6 w
  | _ => 0

theorem probityref27_Journal_Opens_h1 (Kv : VW) : holdsAt Try.prog probityref27_Journal_Opens_E 87 (probityref27_Journal_Opens_O Kv) 1 := holdsAt_loop (by kernel_rfl) (fun ρ vs w h => by
  rw [probityref27_Journal_Opens_q1] at h
  unfold probityref27_Journal_Opens_P1 at h
  split at h
  · rename_i ρt j_0 l_1p l_1l l_1c fine_5 i_6
    obtain ⟨I, μ, h0, hr⟩ := h.out
    refine ⟨probityref27_Journal_Opens_I1 j_0 ⟨l_1p, l_1l, l_1c⟩ fine_5 I, probityref27_Journal_Opens_M1 μ, ⟨⟨rfl, rfl, rfl, trivial⟩, h0⟩, fun vs w hI => ?_⟩
    unfold probityref27_Journal_Opens_I1 at hI
    split at hI
    · obtain ⟨⟨h0, h1, h2, _⟩, hI⟩ := hI
      cases h0; cases h1; cases h2
      rw [← probityref27_Journal_Opens_e1]
      exact hr _ _ hI
    · exact hI.elim
  · exact h.elim)

theorem probityref27_Journal_Opens_n (Kv : VW) : obAt (probityref27_Journal_Opens_O Kv) 2 = none := by kernel_rfl

theorem probityref27_Journal_Opens_h (Kv : VW) : ∀ k, holdsAt Try.prog probityref27_Journal_Opens_E 87 (probityref27_Journal_Opens_O Kv) k := fun k => match k with
  | 0 => probityref27_Journal_Opens_h0 Kv
  | 1 => probityref27_Journal_Opens_h1 Kv
  | _k + 2 => holdsAt_ge (probityref27_Journal_Opens_n Kv) (Nat.le_add_left _ _)

theorem probityref27_Journal_Opens_ok : Sound Try.prog 19 probityref27_Journal_Opens_S := ⟨Try.call19, fun vs w Kv h => by
  unfold probityref27_Journal_Opens_S at h
  split at h
  · have h := h.out
    rw [probityref27_Journal_Opens_e] at h
    exact calls_sound (Γ := probityref27_Journal_Opens_E) progMixed ⟨probityref27_Same_ok, trivial⟩ Try.func19 (code := probityref27_Journal_Opens_C) (by kernel_rfl) (probityref27_Journal_Opens_A Kv) Kv (holds_all (probityref27_Journal_Opens_h Kv)) (Nat.le_of_ble_eq_true rfl) h
  · exact h.elim⟩

/-! journal_Journal_Many -/
def journal_Journal_Many_sd (j_0 : Option Addr) (K : Int → World → Prop) (w : World) : Prop :=
  cnd j_0.isNone
    (K (0 : Int) w)
    (nz j_0 fun a1 => ∃ x2 : Int, w.cell? (a1.add 1) = some (Value.int .i64 x2) ∧ K x2 w)

structure journal_Journal_Many_sh (j_0 : Option Addr) (K : Int → World → Prop) (w : World) : Prop where
  out : journal_Journal_Many_sd j_0 K w

noncomputable def journal_Journal_Many_S : Pw.Spec := fun vs w Kv =>
  match vs with
  | [.pointer j_0] => journal_Journal_Many_sh j_0 (fun (r0 : Int) (w' : World) => Kv (Value.int .i64 r0) w') w
  | _ => False

noncomputable def journal_Journal_Many_E : Pw.Env := []

noncomputable def journal_Journal_Many_C : Code := (Try.f17.body).getD .skip

noncomputable def journal_Journal_Many_A (_Kv : VW) : Pw.A :=
  (A.seq (A.reg (RA.run RA.done))
   (A.seq (A.seq (A.reg (RA.run (RA.run RA.done)))
   (A.cond (A.seq (A.reg (RA.run RA.done))
   A.leaf)
   A.leaf))
   (A.seq (A.reg (RA.run (RA.run (RA.run (RA.run (RA.run RA.done))))))
   A.leaf)))

noncomputable def journal_Journal_Many_O (Kv : VW) : List Ob := (obs Try.prog journal_Journal_Many_E 9 (journal_Journal_Many_A Kv) journal_Journal_Many_C (fun _ => retQ Try.prog Try.f17.results Kv))

theorem journal_Journal_Many_e (Kv : VW) (j_0 : Option Addr) (w : World) : journal_Journal_Many_sd j_0 (fun (r0 : Int) (w' : World) => Kv (Value.int .i64 r0) w') w = W Try.prog journal_Journal_Many_E 9 (journal_Journal_Many_A Kv) journal_Journal_Many_C [] (retQ Try.prog Try.f17.results Kv) [] (startS [(Value.pointer j_0)]) w := by kernel_rfl

theorem journal_Journal_Many_n (Kv : VW) : obAt (journal_Journal_Many_O Kv) 0 = none := by kernel_rfl

theorem journal_Journal_Many_h (Kv : VW) : ∀ k, holdsAt Try.prog journal_Journal_Many_E 9 (journal_Journal_Many_O Kv) k := fun _ => holdsAt_ge (journal_Journal_Many_n Kv) (Nat.zero_le _)

theorem journal_Journal_Many_ok : Sound Try.prog 17 journal_Journal_Many_S := ⟨Try.call17, fun vs w Kv h => by
  unfold journal_Journal_Many_S at h
  split at h
  · have h := h.out
    rw [journal_Journal_Many_e] at h
    exact calls_sound (Γ := journal_Journal_Many_E) progMixed trivial Try.func17 (code := journal_Journal_Many_C) (by kernel_rfl) (journal_Journal_Many_A Kv) Kv (holds_all (journal_Journal_Many_h Kv)) (Nat.le_of_ble_eq_true rfl) h
  · exact h.elim⟩

/-! stringslite_Clone -/
def stringslite_Clone_sd (s_0 : ByteArray) (K : ByteArray → World → Prop) (w : World) : Prop :=
  cnd ((s_0.size : Int) == (0 : Int))
    (K (str []) w)
    (mkS 1 [(Value.int .u8 (0 : Int))] 5 (s_0.size : Int) (s_0.size : Int) w fun (s1 : Sl) (w2 : World) => cpT s1 s_0 w2 fun (_x3 : Int) (w4 : World) => nz s1.p fun a5 => (0 ≤ (0 : Int) ∧ (0 : Int) < (s1.l : Nat)) ∧ usS 5 (a5.add ((0 : Int).toNat * 1)) (s1.l : Int) w4 fun (s6 : ByteArray) (w7 : World) => K s6 w7)

structure stringslite_Clone_sh (s_0 : ByteArray) (K : ByteArray → World → Prop) (w : World) : Prop where
  out : stringslite_Clone_sd s_0 K w

noncomputable def stringslite_Clone_S : Pw.Spec := fun vs w Kv =>
  match vs with
  | [.string s_0] => stringslite_Clone_sh s_0 (fun (r0 : ByteArray) (w' : World) => Kv (Value.string r0) w') w
  | _ => False

noncomputable def stringslite_Clone_E : Pw.Env := []

noncomputable def stringslite_Clone_C : Code := (Try.f39.body).getD .skip

noncomputable def stringslite_Clone_A (_Kv : VW) : Pw.A :=
  (A.seq (A.reg (RA.run RA.done))
   (A.seq (A.seq (A.reg (RA.run (RA.run (RA.run RA.done))))
   (A.cond (A.seq (A.reg (RA.run RA.done))
   A.leaf)
   A.leaf))
   (A.seq (A.reg (RA.run (RA.run (RA.run (RA.run RA.done)))))
   (A.seq (A.reg (RA.run (RA.run (RA.run RA.done))))
   (A.seq (A.reg (RA.run (RA.run (RA.run (RA.run (RA.run (RA.run RA.done)))))))
   A.leaf)))))

noncomputable def stringslite_Clone_O (Kv : VW) : List Ob := (obs Try.prog stringslite_Clone_E 18 (stringslite_Clone_A Kv) stringslite_Clone_C (fun _ => retQ Try.prog Try.f39.results Kv))

theorem stringslite_Clone_e (Kv : VW) (s_0 : ByteArray) (w : World) : stringslite_Clone_sd s_0 (fun (r0 : ByteArray) (w' : World) => Kv (Value.string r0) w') w = W Try.prog stringslite_Clone_E 18 (stringslite_Clone_A Kv) stringslite_Clone_C [] (retQ Try.prog Try.f39.results Kv) [] (startS [(Value.string s_0)]) w := by kernel_rfl

theorem stringslite_Clone_n (Kv : VW) : obAt (stringslite_Clone_O Kv) 0 = none := by kernel_rfl

theorem stringslite_Clone_h (Kv : VW) : ∀ k, holdsAt Try.prog stringslite_Clone_E 18 (stringslite_Clone_O Kv) k := fun _ => holdsAt_ge (stringslite_Clone_n Kv) (Nat.zero_le _)

theorem stringslite_Clone_ok : Sound Try.prog 39 stringslite_Clone_S := ⟨Try.call39, fun vs w Kv h => by
  unfold stringslite_Clone_S at h
  split at h
  · have h := h.out
    rw [stringslite_Clone_e] at h
    exact calls_sound (Γ := stringslite_Clone_E) progMixed trivial Try.func39 (code := stringslite_Clone_C) (by kernel_rfl) (stringslite_Clone_A Kv) Kv (holds_all (stringslite_Clone_h Kv)) (Nat.le_of_ble_eq_true rfl) h
  · exact h.elim⟩

/-! strings_Clone -/
def strings_Clone_sd (s_0 : ByteArray) (K : ByteArray → World → Prop) (w : World) : Prop :=
  stringslite_Clone_sh s_0 (fun (r2 : ByteArray) (w1 : World) => K r2 w1) w

structure strings_Clone_sh (s_0 : ByteArray) (K : ByteArray → World → Prop) (w : World) : Prop where
  out : strings_Clone_sd s_0 K w

noncomputable def strings_Clone_S : Pw.Spec := fun vs w Kv =>
  match vs with
  | [.string s_0] => strings_Clone_sh s_0 (fun (r0 : ByteArray) (w' : World) => Kv (Value.string r0) w') w
  | _ => False

noncomputable def strings_Clone_E : Pw.Env := [(39, stringslite_Clone_S)]

noncomputable def strings_Clone_C : Code := (Try.f28.body).getD .skip

noncomputable def strings_Clone_A (_Kv : VW) : Pw.A :=
  (A.seq (A.reg (RA.run RA.done))
   (A.seq (A.reg (RA.run (RA.run (RA.run RA.done))))
   A.leaf))

noncomputable def strings_Clone_O (Kv : VW) : List Ob := (obs Try.prog strings_Clone_E 5 (strings_Clone_A Kv) strings_Clone_C (fun _ => retQ Try.prog Try.f28.results Kv))

theorem strings_Clone_e (Kv : VW) (s_0 : ByteArray) (w : World) : strings_Clone_sd s_0 (fun (r0 : ByteArray) (w' : World) => Kv (Value.string r0) w') w = W Try.prog strings_Clone_E 5 (strings_Clone_A Kv) strings_Clone_C [] (retQ Try.prog Try.f28.results Kv) [] (startS [(Value.string s_0)]) w := by kernel_rfl

theorem strings_Clone_n (Kv : VW) : obAt (strings_Clone_O Kv) 0 = none := by kernel_rfl

theorem strings_Clone_h (Kv : VW) : ∀ k, holdsAt Try.prog strings_Clone_E 5 (strings_Clone_O Kv) k := fun _ => holdsAt_ge (strings_Clone_n Kv) (Nat.zero_le _)

theorem strings_Clone_ok : Sound Try.prog 28 strings_Clone_S := ⟨Try.call28, fun vs w Kv h => by
  unfold strings_Clone_S at h
  split at h
  · have h := h.out
    rw [strings_Clone_e] at h
    exact calls_sound (Γ := strings_Clone_E) progMixed ⟨stringslite_Clone_ok, trivial⟩ Try.func28 (code := strings_Clone_C) (by kernel_rfl) (strings_Clone_A Kv) Kv (holds_all (strings_Clone_h Kv)) (Nat.le_of_ble_eq_true rfl) h
  · exact h.elim⟩

/-! journal_value -/
def journal_value_b0 (s_0 : ByteArray) (n_5 : Int) (t_7 : Int) (t_8 : Int) (N0 : ByteArray → Int → Int → Int → World → Prop)  (K : Int → World → Prop) (w : World) : Prop :=
  cnd (decide (t_8 < t_7))
    (0 ≤ (8 : Int) ∧ cnd (decide (t_8 < (s_0.size : Int)))
    ((0 ≤ t_8 ∧ t_8 < (s_0.size : Nat)) ∧ inR .i64 ((s_0.data.toList.getD t_8.toNat 0).toNat : Int) ∧ inR .i64 (t_8 + (1 : Int)) ∧ N0 s_0 (IntKind.wrap .i64 (((BitVec.ofInt (IntKind.bits .i64) (IntKind.wrap .i64 (n_5 * 2 ^ (min 8 (IntKind.bits .i64)))) ||| BitVec.ofInt (IntKind.bits .i64) ((s_0.data.toList.getD t_8.toNat 0).toNat : Int))).toNat : Int)) t_7 (t_8 + (1 : Int)) w)
    (inR .i64 (t_8 + (1 : Int)) ∧ N0 s_0 (IntKind.wrap .i64 (n_5 * 2 ^ (min 8 (IntKind.bits .i64)))) t_7 (t_8 + (1 : Int)) w))
    (K n_5 w)
def journal_value_l0d (s_0 : ByteArray) (n_5 : Int) (t_7 : Int) (t_8 : Int)  (K : Int → World → Prop) (w : World) : Prop :=
  ∃ (I : Int → Int → World → Prop) (μ : Int → Int → World → Nat), I n_5 t_8 w ∧ ∀ (n_51 : Int) (t_81 : Int) (w1 : World), I n_51 t_81 w1 →
    journal_value_b0 s_0 n_51 t_7 t_81 (fun (s_0' : ByteArray) (n_5' : Int) (t_7' : Int) (t_8' : Int) (w' : World) => ((s_0' = s_0 ∧ t_7' = t_7 ∧ True) ∧ I n_5' t_8' w') ∧ μ n_5' t_8' w' < μ n_51 t_81 w1)  K w1
structure journal_value_l0 (s_0 : ByteArray) (n_5 : Int) (t_7 : Int) (t_8 : Int)  (K : Int → World → Prop) (w : World) : Prop where
  out : journal_value_l0d s_0 n_5 t_7 t_8 K w

def journal_value_sd (s_0 : ByteArray) (width_1 : Int) (K : Int → World → Prop) (w : World) : Prop :=
  journal_value_l0 s_0 (0 : Int) width_1 (0 : Int) K w

structure journal_value_sh (s_0 : ByteArray) (width_1 : Int) (K : Int → World → Prop) (w : World) : Prop where
  out : journal_value_sd s_0 width_1 K w

def journal_value_P0 (Kv : VW) (ρ : Rho) (vs : List Value) (w : World) : Prop :=
  match ρ, vs with
  | _, [.string s_0, .int .i64 n_5, .int .i64 t_7, .int .i64 t_8] => journal_value_l0 s_0 n_5 t_7 t_8  (fun (r0 : Int) (w' : World) => Kv (Value.int .i64 r0) w') w
  | _, _ => False

noncomputable def journal_value_S : Pw.Spec := fun vs w Kv =>
  match vs with
  | [.string s_0, .int .i64 width_1] => journal_value_sh s_0 width_1 (fun (r0 : Int) (w' : World) => Kv (Value.int .i64 r0) w') w
  | _ => False

noncomputable def journal_value_E : Pw.Env := []

noncomputable def journal_value_C : Code := (Try.f24.body).getD .skip

noncomputable def journal_value_A (Kv : VW) : Pw.A :=
  (A.seq (A.reg (RA.run RA.done))
   (A.seq (A.reg (RA.run RA.done))
   (A.seq (A.seq (A.reg (RA.run (RA.run RA.done)))
   (A.blk (A.loop [0, 5, 7, 8] (journal_value_P0 Kv) (A.seq (A.reg (RA.run RA.done))
   (A.seq (A.cond A.leaf
   A.leaf)
   (A.seq (A.blk (A.seq (A.reg (RA.run (RA.run RA.done)))
   (A.seq (A.reg (RA.run (RA.run (RA.run RA.done))))
   (A.seq (A.reg (RA.run (RA.run (RA.run (RA.run RA.done)))))
   (A.cond (A.reg (RA.run (RA.run (RA.run (RA.run (RA.run (RA.run (RA.run RA.done))))))))
   A.leaf)))))
   (A.reg (RA.run (RA.run RA.done)))))))))
   (A.seq (A.reg (RA.run (RA.run RA.done)))
   A.leaf))))

noncomputable def journal_value_O (Kv : VW) : List Ob := (obs Try.prog journal_value_E 25 (journal_value_A Kv) journal_value_C (fun _ => retQ Try.prog Try.f24.results Kv))

theorem journal_value_e (Kv : VW) (s_0 : ByteArray) (width_1 : Int) (w : World) : journal_value_sd s_0 width_1 (fun (r0 : Int) (w' : World) => Kv (Value.int .i64 r0) w') w = W Try.prog journal_value_E 25 (journal_value_A Kv) journal_value_C [] (retQ Try.prog Try.f24.results Kv) [] (startS [(Value.string s_0), (Value.int .i64 width_1)]) w := by kernel_rfl

theorem journal_value_e0 (Kv : VW) (N0 : List Value → World → Prop) (ρ : Rho) (s_0 : ByteArray) (n_5 : Int) (t_7 : Int) (t_8 : Int) (w : World) : journal_value_b0 s_0 n_5 t_7 t_8 (fun (s_0' : ByteArray) (n_5' : Int) (t_7' : Int) (t_8' : Int) (w' : World) => N0 [(Value.string s_0'), (Value.int .i64 n_5'), (Value.int .i64 t_7'), (Value.int .i64 t_8')] w')  (fun (r0 : Int) (w' : World) => Kv (Value.int .i64 r0) w') w = goalAt Try.prog journal_value_E 25 (journal_value_O Kv) 0 (N0 :: ρ) [(Value.string s_0), (Value.int .i64 n_5), (Value.int .i64 t_7), (Value.int .i64 t_8)] w := by kernel_rfl

theorem journal_value_q0 (Kv : VW) (ρ : Rho) (vs : List Value) (w : World) : labAt (journal_value_O Kv) 0 ρ vs w = journal_value_P0 Kv ρ vs w := by kernel_rfl

def journal_value_I0 (s_00 : ByteArray) (t_70 : Int) (I : Int → Int → World → Prop) (vs : List Value) (w : World) : Prop :=
  match vs with
  | [.string s_0, .int .i64 n_5, .int .i64 t_7, .int .i64 t_8] => (s_0 = s_00 ∧ t_7 = t_70 ∧ True) ∧ I n_5 t_8 w
  | _ => False

def journal_value_M0 (μ : Int → Int → World → Nat) (vs : List Value) (w : World) : Nat :=
  match vs with
  | [.string _s_0, .int .i64 n_5, .int .i64 _t_7, .int .i64 t_8] => μ n_5 t_8 w
  | _ => 0

theorem journal_value_h0 (Kv : VW) : holdsAt Try.prog journal_value_E 25 (journal_value_O Kv) 0 := holdsAt_loop (by kernel_rfl) (fun ρ vs w h => by
  rw [journal_value_q0] at h
  unfold journal_value_P0 at h
  split at h
  · rename_i ρt s_0 n_5 t_7 t_8
    obtain ⟨I, μ, h0, hr⟩ := h.out
    refine ⟨journal_value_I0 s_0 t_7 I, journal_value_M0 μ, ⟨⟨rfl, rfl, trivial⟩, h0⟩, fun vs w hI => ?_⟩
    unfold journal_value_I0 at hI
    split at hI
    · obtain ⟨⟨h0, h1, _⟩, hI⟩ := hI
      cases h0; cases h1
      rw [← journal_value_e0]
      exact hr _ _ _ hI
    · exact hI.elim
  · exact h.elim)

theorem journal_value_n (Kv : VW) : obAt (journal_value_O Kv) 1 = none := by kernel_rfl

theorem journal_value_h (Kv : VW) : ∀ k, holdsAt Try.prog journal_value_E 25 (journal_value_O Kv) k := fun k => match k with
  | 0 => journal_value_h0 Kv
  | _k + 1 => holdsAt_ge (journal_value_n Kv) (Nat.le_add_left _ _)

theorem journal_value_ok : Sound Try.prog 24 journal_value_S := ⟨Try.call24, fun vs w Kv h => by
  unfold journal_value_S at h
  split at h
  · have h := h.out
    rw [journal_value_e] at h
    exact calls_sound (Γ := journal_value_E) progMixed trivial Try.func24 (code := journal_value_C) (by kernel_rfl) (journal_value_A Kv) Kv (holds_all (journal_value_h Kv)) (Nat.le_of_ble_eq_true rfl) h
  · exact h.elim⟩

/-! journal_number -/
def journal_number_b0 (n_0 : Int) (width_1 : Int) (b_5 : Sl) (t_10 : Int) (t_11 : Int) (N0 : Int → Int → Sl → Int → Int → World → Prop)  (K : ByteArray → World → Prop) (w : World) : Prop :=
  cnd (decide (t_11 < t_10))
    (inR .i64 (width_1 - (1 : Int)) ∧ inR .i64 ((width_1 - (1 : Int)) - t_11) ∧ inR .i64 ((8 : Int) * t_11) ∧ 0 ≤ ((8 : Int) * t_11) ∧ nz b_5.p fun a3 => (0 ≤ ((width_1 - (1 : Int)) - t_11) ∧ ((width_1 - (1 : Int)) - t_11) < (b_5.l : Nat)) ∧ wrOk w (a3.add (((width_1 - (1 : Int)) - t_11).toNat * 1)) ∧ 
  (let w4 : World := w.setCell (a3.add (((width_1 - (1 : Int)) - t_11).toNat * 1)) (Value.int .u8 (IntKind.wrap .u8 (Int.fdiv n_0 (2 ^ (min ((8 : Int) * t_11).toNat (IntKind.bits .i64))))))
  inR .i64 (t_11 + (1 : Int)) ∧ N0 n_0 width_1 b_5 t_10 (t_11 + (1 : Int)) w4))
    (btsS b_5 w fun (s5 : ByteArray) => K s5 w)
def journal_number_l0d (n_0 : Int) (width_1 : Int) (b_5 : Sl) (t_10 : Int) (t_11 : Int)  (K : ByteArray → World → Prop) (w : World) : Prop :=
  ∃ (I : Int → World → Prop) (μ : Int → World → Nat), I t_11 w ∧ ∀ (t_111 : Int) (w1 : World), I t_111 w1 →
    journal_number_b0 n_0 width_1 b_5 t_10 t_111 (fun (n_0' : Int) (width_1' : Int) (b_5' : Sl) (t_10' : Int) (t_11' : Int) (w' : World) => ((n_0' = n_0 ∧ width_1' = width_1 ∧ b_5' = b_5 ∧ t_10' = t_10 ∧ True) ∧ I t_11' w') ∧ μ t_11' w' < μ t_111 w1)  K w1
structure journal_number_l0 (n_0 : Int) (width_1 : Int) (b_5 : Sl) (t_10 : Int) (t_11 : Int)  (K : ByteArray → World → Prop) (w : World) : Prop where
  out : journal_number_l0d n_0 width_1 b_5 t_10 t_11 K w

def journal_number_sd (n_0 : Int) (width_1 : Int) (K : ByteArray → World → Prop) (w : World) : Prop :=
  mkS 1 [(Value.int .u8 (0 : Int))] 5 width_1 width_1 w fun (s1 : Sl) (w2 : World) => journal_number_l0 n_0 width_1 s1 (s1.l : Int) (0 : Int) K w2

structure journal_number_sh (n_0 : Int) (width_1 : Int) (K : ByteArray → World → Prop) (w : World) : Prop where
  out : journal_number_sd n_0 width_1 K w

def journal_number_P0 (Kv : VW) (ρ : Rho) (vs : List Value) (w : World) : Prop :=
  match ρ, vs with
  | _, [.int .i64 n_0, .int .i64 width_1, .slice b_5p b_5l b_5c, .int .i64 t_10, .int .i64 t_11] => journal_number_l0 n_0 width_1 ⟨b_5p, b_5l, b_5c⟩ t_10 t_11  (fun (r0 : ByteArray) (w' : World) => Kv (Value.string r0) w') w
  | _, _ => False

noncomputable def journal_number_S : Pw.Spec := fun vs w Kv =>
  match vs with
  | [.int .i64 n_0, .int .i64 width_1] => journal_number_sh n_0 width_1 (fun (r0 : ByteArray) (w' : World) => Kv (Value.string r0) w') w
  | _ => False

noncomputable def journal_number_E : Pw.Env := []

noncomputable def journal_number_C : Code := (Try.f31.body).getD .skip

noncomputable def journal_number_A (Kv : VW) : Pw.A :=
  (A.seq (A.reg (RA.run RA.done))
   (A.seq (A.reg (RA.run (RA.run (RA.run RA.done))))
   (A.seq (A.seq (A.reg (RA.run (RA.run (RA.run RA.done))))
   (A.blk (A.loop [0, 1, 5, 10, 11] (journal_number_P0 Kv) (A.seq (A.reg (RA.run RA.done))
   (A.seq (A.cond A.leaf
   A.leaf)
   (A.seq (A.blk (A.seq (A.reg (RA.run (RA.run RA.done)))
   (A.reg (RA.run (RA.run (RA.run (RA.run (RA.run (RA.run (RA.run (RA.run (RA.run (RA.raw (RA.run (RA.run RA.done)))))))))))))))
   (A.reg (RA.run (RA.run RA.done)))))))))
   (A.seq (A.reg (RA.run (RA.run (RA.run RA.done))))
   A.leaf))))

noncomputable def journal_number_O (Kv : VW) : List Ob := (obs Try.prog journal_number_E 28 (journal_number_A Kv) journal_number_C (fun _ => retQ Try.prog Try.f31.results Kv))

theorem journal_number_e (Kv : VW) (n_0 : Int) (width_1 : Int) (w : World) : journal_number_sd n_0 width_1 (fun (r0 : ByteArray) (w' : World) => Kv (Value.string r0) w') w = W Try.prog journal_number_E 28 (journal_number_A Kv) journal_number_C [] (retQ Try.prog Try.f31.results Kv) [] (startS [(Value.int .i64 n_0), (Value.int .i64 width_1)]) w := by kernel_rfl

theorem journal_number_e0 (Kv : VW) (N0 : List Value → World → Prop) (ρ : Rho) (n_0 : Int) (width_1 : Int) (b_5p : Option Addr) (b_5l b_5c : Nat) (t_10 : Int) (t_11 : Int) (w : World) : journal_number_b0 n_0 width_1 ⟨b_5p, b_5l, b_5c⟩ t_10 t_11 (fun (n_0' : Int) (width_1' : Int) (b_5' : Sl) (t_10' : Int) (t_11' : Int) (w' : World) => N0 [(Value.int .i64 n_0'), (Value.int .i64 width_1'), (Value.slice b_5'.p b_5'.l b_5'.c), (Value.int .i64 t_10'), (Value.int .i64 t_11')] w')  (fun (r0 : ByteArray) (w' : World) => Kv (Value.string r0) w') w = goalAt Try.prog journal_number_E 28 (journal_number_O Kv) 0 (N0 :: ρ) [(Value.int .i64 n_0), (Value.int .i64 width_1), (Value.slice b_5p b_5l b_5c), (Value.int .i64 t_10), (Value.int .i64 t_11)] w := by kernel_rfl

theorem journal_number_q0 (Kv : VW) (ρ : Rho) (vs : List Value) (w : World) : labAt (journal_number_O Kv) 0 ρ vs w = journal_number_P0 Kv ρ vs w := by kernel_rfl

def journal_number_I0 (n_00 : Int) (width_10 : Int) (b_50 : Sl) (t_100 : Int) (I : Int → World → Prop) (vs : List Value) (w : World) : Prop :=
  match vs with
  | [.int .i64 n_0, .int .i64 width_1, .slice b_5p b_5l b_5c, .int .i64 t_10, .int .i64 t_11] => (n_0 = n_00 ∧ width_1 = width_10 ∧ ⟨b_5p, b_5l, b_5c⟩ = b_50 ∧ t_10 = t_100 ∧ True) ∧ I t_11 w
  | _ => False

def journal_number_M0 (μ : Int → World → Nat) (vs : List Value) (w : World) : Nat :=
  match vs with
  | [.int .i64 _n_0, .int .i64 _width_1, .slice _b_5p _b_5l _b_5c, .int .i64 _t_10, .int .i64 t_11] => μ t_11 w
  | _ => 0

theorem journal_number_h0 (Kv : VW) : holdsAt Try.prog journal_number_E 28 (journal_number_O Kv) 0 := holdsAt_loop (by kernel_rfl) (fun ρ vs w h => by
  rw [journal_number_q0] at h
  unfold journal_number_P0 at h
  split at h
  · rename_i ρt n_0 width_1 b_5p b_5l b_5c t_10 t_11
    obtain ⟨I, μ, h0, hr⟩ := h.out
    refine ⟨journal_number_I0 n_0 width_1 ⟨b_5p, b_5l, b_5c⟩ t_10 I, journal_number_M0 μ, ⟨⟨rfl, rfl, rfl, rfl, trivial⟩, h0⟩, fun vs w hI => ?_⟩
    unfold journal_number_I0 at hI
    split at hI
    · obtain ⟨⟨h0, h1, h2, h3, _⟩, hI⟩ := hI
      cases h0; cases h1; cases h2; cases h3
      rw [← journal_number_e0]
      exact hr _ _ hI
    · exact hI.elim
  · exact h.elim)

theorem journal_number_n (Kv : VW) : obAt (journal_number_O Kv) 1 = none := by kernel_rfl

theorem journal_number_h (Kv : VW) : ∀ k, holdsAt Try.prog journal_number_E 28 (journal_number_O Kv) k := fun k => match k with
  | 0 => journal_number_h0 Kv
  | _k + 1 => holdsAt_ge (journal_number_n Kv) (Nat.le_add_left _ _)

theorem journal_number_ok : Sound Try.prog 31 journal_number_S := ⟨Try.call31, fun vs w Kv h => by
  unfold journal_number_S at h
  split at h
  · have h := h.out
    rw [journal_number_e] at h
    exact calls_sound (Γ := journal_number_E) progMixed trivial Try.func31 (code := journal_number_C) (by kernel_rfl) (journal_number_A Kv) Kv (holds_all (journal_number_h Kv)) (Nat.le_of_ble_eq_true rfl) h
  · exact h.elim⟩

/-! journal_records -/
def journal_records_sd (d_0 : Option Addr) (end_1 : Int) (K : Value → World → Prop) (w : World) : Prop :=
  let w1 : World := w.alloc (Obj.cells #[(Value.pointer d_0)] 25)
  let w2 : World := w1.alloc (Obj.cells #[(Value.int .i64 end_1)] 3)
  K (Value.func (.func 38) #[] #[(Value.pointer (some (Addr.mk w1.heap.size 0 none))), (Value.pointer (some (Addr.mk w.heap.size 0 none)))]) w2

structure journal_records_sh (d_0 : Option Addr) (end_1 : Int) (K : Value → World → Prop) (w : World) : Prop where
  out : journal_records_sd d_0 end_1 K w

noncomputable def journal_records_S : Pw.Spec := fun vs w Kv =>
  match vs with
  | [.pointer d_0, .int .i64 end_1] => journal_records_sh d_0 end_1 (fun (r0 : Value) (w' : World) => Kv r0 w') w
  | _ => False

noncomputable def journal_records_E : Pw.Env := []

noncomputable def journal_records_C : Code := (Try.f27.body).getD .skip

noncomputable def journal_records_A (_Kv : VW) : Pw.A :=
  (A.seq (A.reg (RA.run (RA.run (RA.run RA.done))))
   (A.seq (A.reg (RA.run (RA.run RA.done)))
   A.leaf))

noncomputable def journal_records_O (Kv : VW) : List Ob := (obs Try.prog journal_records_E 6 (journal_records_A Kv) journal_records_C (fun _ => retQ Try.prog Try.f27.results Kv))

theorem journal_records_e (Kv : VW) (d_0 : Option Addr) (end_1 : Int) (w : World) : journal_records_sd d_0 end_1 (fun (r0 : Value) (w' : World) => Kv r0 w') w = W Try.prog journal_records_E 6 (journal_records_A Kv) journal_records_C [] (retQ Try.prog Try.f27.results Kv) [] (startS [(Value.pointer d_0), (Value.int .i64 end_1)]) w := by kernel_rfl

theorem journal_records_n (Kv : VW) : obAt (journal_records_O Kv) 0 = none := by kernel_rfl

theorem journal_records_h (Kv : VW) : ∀ k, holdsAt Try.prog journal_records_E 6 (journal_records_O Kv) k := fun _ => holdsAt_ge (journal_records_n Kv) (Nat.zero_le _)

theorem journal_records_ok : Sound Try.prog 27 journal_records_S := ⟨Try.call27, fun vs w Kv h => by
  unfold journal_records_S at h
  split at h
  · have h := h.out
    rw [journal_records_e] at h
    exact calls_sound (Γ := journal_records_E) progMixed trivial Try.func27 (code := journal_records_C) (by kernel_rfl) (journal_records_A Kv) Kv (holds_all (journal_records_h Kv)) (Nat.le_of_ble_eq_true rfl) h
  · exact h.elim⟩

/-! journal_records_1 -/
def journal_records_1_b0 (yield_0 : Value) (t_1 : Addr) (t_2 : Addr) (at_4 : Int) (N0 : Value → Addr → Addr → Int → World → Prop)  (K : World → Prop) (w : World) : Prop :=
  ∃ x1 : Int, w.cell? t_1 = some (Value.int .i64 x1) ∧ cnd (decide (at_4 < x1))
    (∃ x2 : Option Addr, w.cell? t_2 = some (Value.pointer x2) ∧ disk_Disk_Read_sh x2 at_4 (4 : Int) (fun (r4 : ByteArray) (w3 : World) => journal_value_sh r4 (4 : Int) (fun (r6 : Int) (w5 : World) => inR .i64 (at_4 + (4 : Int)) ∧ inR .i64 ((at_4 + (4 : Int)) + r6) ∧ ∃ x7 : Int, w5.cell? t_1 = some (Value.int .i64 x7) ∧ cnd (decide (((at_4 + (4 : Int)) + r6) > x7))
    (CallV Try.prog yield_0 [(Value.string (str [])), (Value.bool false)] w5 fun (u8 : Value) (w9 : World) => ∃ x10 : Bool, u8 = (Value.bool x10) ∧ K w9)
    (∃ x11 : Option Addr, w5.cell? t_2 = some (Value.pointer x11) ∧ inR .i64 (at_4 + (4 : Int)) ∧ disk_Disk_Read_sh x11 (at_4 + (4 : Int)) r6 (fun (r13 : ByteArray) (w12 : World) => CallV Try.prog yield_0 [(Value.string r13), (Value.bool true)] w12 fun (u14 : Value) (w15 : World) => ∃ x16 : Bool, u14 = (Value.bool x16) ∧ cnd (!x16)
    (K w15)
    (inR .i64 ((4 : Int) + r6) ∧ inR .i64 (at_4 + ((4 : Int) + r6)) ∧ N0 yield_0 t_1 t_2 (at_4 + ((4 : Int) + r6)) w15)) w5)) w3) w)
    (K w)
def journal_records_1_l0d (yield_0 : Value) (t_1 : Addr) (t_2 : Addr) (at_4 : Int)  (K : World → Prop) (w : World) : Prop :=
  ∃ (I : Int → World → Prop) (μ : Int → World → Nat), I at_4 w ∧ ∀ (at_41 : Int) (w1 : World), I at_41 w1 →
    journal_records_1_b0 yield_0 t_1 t_2 at_41 (fun (yield_0' : Value) (t_1' : Addr) (t_2' : Addr) (at_4' : Int) (w' : World) => ((yield_0' = yield_0 ∧ t_1' = t_1 ∧ t_2' = t_2 ∧ True) ∧ I at_4' w') ∧ μ at_4' w' < μ at_41 w1)  K w1
structure journal_records_1_l0 (yield_0 : Value) (t_1 : Addr) (t_2 : Addr) (at_4 : Int)  (K : World → Prop) (w : World) : Prop where
  out : journal_records_1_l0d yield_0 t_1 t_2 at_4 K w

def journal_records_1_sd (yield_0 : Value) (t_1 : Addr) (t_2 : Addr) (K : World → Prop) (w : World) : Prop :=
  journal_records_1_l0 yield_0 t_1 t_2 (64 : Int) K w

structure journal_records_1_sh (yield_0 : Value) (t_1 : Addr) (t_2 : Addr) (K : World → Prop) (w : World) : Prop where
  out : journal_records_1_sd yield_0 t_1 t_2 K w

def journal_records_1_P0 (Kv : VW) (ρ : Rho) (vs : List Value) (w : World) : Prop :=
  match ρ, vs with
  | _, [yield_0, .pointer (some t_1), .pointer (some t_2), .int .i64 at_4] => journal_records_1_l0 yield_0 t_1 t_2 at_4  (fun (w' : World) => Kv (Value.tuple #[]) w') w
  | _, _ => False

noncomputable def journal_records_1_S : Pw.Spec := fun vs w Kv =>
  match vs with
  | [yield_0, .pointer (some t_1), .pointer (some t_2)] => journal_records_1_sh yield_0 t_1 t_2 (fun (w' : World) => Kv (Value.tuple #[]) w') w
  | _ => False

noncomputable def journal_records_1_E : Pw.Env := [(24, journal_value_S), (25, disk_Disk_Read_S)]

noncomputable def journal_records_1_C : Code := (Try.f38.body).getD .skip

noncomputable def journal_records_1_A (Kv : VW) : Pw.A :=
  (A.seq (A.reg (RA.run RA.done))
   (A.blk (A.loop [0, 1, 2, 4] (journal_records_1_P0 Kv) (A.seq (A.seq (A.reg (RA.run (RA.run (RA.run RA.done))))
   (A.cond A.leaf
   A.leaf))
   (A.blk (A.seq (A.reg (RA.run (RA.run (RA.run (RA.run (RA.run RA.done))))))
   (A.seq (A.seq (A.reg (RA.run (RA.run (RA.run (RA.run (RA.run (RA.run RA.done)))))))
   (A.cond (A.seq (A.reg (RA.run (RA.dyn (Value.bool false) RA.done)))
   A.leaf)
   A.leaf))
   (A.seq (A.seq (A.reg (RA.run (RA.run (RA.run (RA.run (RA.run (RA.run (RA.dyn (Value.bool false) (RA.run RA.done)))))))))
   (A.cond A.leaf
   A.leaf))
   (A.reg (RA.run (RA.run (RA.run (RA.run (RA.run RA.done))))))))))))))

noncomputable def journal_records_1_O (Kv : VW) : List Ob := (obs Try.prog journal_records_1_E 33 (journal_records_1_A Kv) journal_records_1_C (fun _ => retQ Try.prog Try.f38.results Kv))

theorem journal_records_1_e (Kv : VW) (yield_0 : Value) (t_1 : Addr) (t_2 : Addr) (w : World) : journal_records_1_sd yield_0 t_1 t_2 (fun (w' : World) => Kv (Value.tuple #[]) w') w = W Try.prog journal_records_1_E 33 (journal_records_1_A Kv) journal_records_1_C [] (retQ Try.prog Try.f38.results Kv) [] (startS [yield_0, (Value.pointer (some t_1)), (Value.pointer (some t_2))]) w := by kernel_rfl

theorem journal_records_1_e0 (Kv : VW) (N0 : List Value → World → Prop) (ρ : Rho) (yield_0 : Value) (t_1 : Addr) (t_2 : Addr) (at_4 : Int) (w : World) : journal_records_1_b0 yield_0 t_1 t_2 at_4 (fun (yield_0' : Value) (t_1' : Addr) (t_2' : Addr) (at_4' : Int) (w' : World) => N0 [yield_0', (Value.pointer (some t_1')), (Value.pointer (some t_2')), (Value.int .i64 at_4')] w')  (fun (w' : World) => Kv (Value.tuple #[]) w') w = goalAt Try.prog journal_records_1_E 33 (journal_records_1_O Kv) 0 (N0 :: ρ) [yield_0, (Value.pointer (some t_1)), (Value.pointer (some t_2)), (Value.int .i64 at_4)] w := by kernel_rfl

theorem journal_records_1_q0 (Kv : VW) (ρ : Rho) (vs : List Value) (w : World) : labAt (journal_records_1_O Kv) 0 ρ vs w = journal_records_1_P0 Kv ρ vs w := by kernel_rfl

def journal_records_1_I0 (yield_00 : Value) (t_10 : Addr) (t_20 : Addr) (I : Int → World → Prop) (vs : List Value) (w : World) : Prop :=
  match vs with
  | [yield_0, .pointer (some t_1), .pointer (some t_2), .int .i64 at_4] => (yield_0 = yield_00 ∧ t_1 = t_10 ∧ t_2 = t_20 ∧ True) ∧ I at_4 w
  | _ => False

def journal_records_1_M0 (μ : Int → World → Nat) (vs : List Value) (w : World) : Nat :=
  match vs with
  | [_yield_0, .pointer (some _t_1), .pointer (some _t_2), .int .i64 at_4] => μ at_4 w
  | _ => 0

theorem journal_records_1_h0 (Kv : VW) : holdsAt Try.prog journal_records_1_E 33 (journal_records_1_O Kv) 0 := holdsAt_loop (by kernel_rfl) (fun ρ vs w h => by
  rw [journal_records_1_q0] at h
  unfold journal_records_1_P0 at h
  split at h
  · rename_i ρt yield_0 t_1 t_2 at_4
    obtain ⟨I, μ, h0, hr⟩ := h.out
    refine ⟨journal_records_1_I0 yield_0 t_1 t_2 I, journal_records_1_M0 μ, ⟨⟨rfl, rfl, rfl, trivial⟩, h0⟩, fun vs w hI => ?_⟩
    unfold journal_records_1_I0 at hI
    split at hI
    · obtain ⟨⟨h0, h1, h2, _⟩, hI⟩ := hI
      cases h0; cases h1; cases h2
      rw [← journal_records_1_e0]
      exact hr _ _ hI
    · exact hI.elim
  · exact h.elim)

theorem journal_records_1_n (Kv : VW) : obAt (journal_records_1_O Kv) 1 = none := by kernel_rfl

theorem journal_records_1_h (Kv : VW) : ∀ k, holdsAt Try.prog journal_records_1_E 33 (journal_records_1_O Kv) k := fun k => match k with
  | 0 => journal_records_1_h0 Kv
  | _k + 1 => holdsAt_ge (journal_records_1_n Kv) (Nat.le_add_left _ _)

theorem journal_records_1_ok : Sound Try.prog 38 journal_records_1_S := ⟨Try.call38, fun vs w Kv h => by
  unfold journal_records_1_S at h
  split at h
  · have h := h.out
    rw [journal_records_1_e] at h
    exact calls_sound (Γ := journal_records_1_E) progMixed ⟨journal_value_ok, disk_Disk_Read_ok, trivial⟩ Try.func38 (code := journal_records_1_C) (by kernel_rfl) (journal_records_1_A Kv) Kv (holds_all (journal_records_1_h Kv)) (Nat.le_of_ble_eq_true rfl) h
  · exact h.elim⟩

/-! journal_Journal_steps_1 -/
def journal_Journal_steps_1_sd (t_0 : Addr) (t_1 : Addr) (K : World → Prop) (w : World) : Prop :=
  let w1 : World := w.drew
  ∃ S2 : World → Prop, S2 w1 ∧ ∃ x3 : Option Addr, (∀ w' : World, S2 w' → w'.cell? t_0 = some (Value.pointer x3)) ∧ ∃ x4 : Option Addr, (∀ w' : World, S2 w' → w'.cell? t_0 = some (Value.pointer x4)) ∧ nz x4 fun a5 => ∃ x6 : Bool, (∀ w' : World, S2 w' → w'.cell? (a5.add 4) = some (Value.bool x6)) ∧ cnd x6
    (nz x3 fun a7 => wrOk w1 (a7.add 4) ∧ 
  (let w8 : World := w1.setCell (a7.add 4) (Value.bool true)
  K w8))
    (∃ x9 : Int, (∀ w' : World, S2 w' → w'.cell? t_1 = some (Value.int .i64 x9)) ∧ nz x3 fun a10 => wrOk w1 (a10.add 4) ∧ 
  (let w11 : World := w1.setCell (a10.add 4) (Value.bool (x9 != (0 : Int)))
  K w11))

structure journal_Journal_steps_1_sh (t_0 : Addr) (t_1 : Addr) (K : World → Prop) (w : World) : Prop where
  out : journal_Journal_steps_1_sd t_0 t_1 K w

noncomputable def journal_Journal_steps_1_S : Pw.Spec := fun vs w Kv =>
  match vs with
  | [.pointer (some t_0), .pointer (some t_1)] => journal_Journal_steps_1_sh t_0 t_1 (fun (w' : World) => Kv (Value.tuple #[]) w') w
  | _ => False

noncomputable def journal_Journal_steps_1_E : Pw.Env := []

noncomputable def journal_Journal_steps_1_C : Code := (Try.f40.body).getD .skip

noncomputable def journal_Journal_steps_1_A (_Kv : VW) : Pw.A :=
  (A.drw (DA.pur 0 (DA.pur 1 (DA.pur 2 (DA.pur 3 (DA.pur 4 (DA.pur 5 (DA.spl 7 (DA.skp 6 (DA.skp 7 (DA.pur 8 (DA.pur 9 (DA.pur 10 (DA.eff 11 DA.done)))))) (DA.pur 6 (DA.pur 7 (DA.pur 8 (DA.pur 9 (DA.pur 10 (DA.eff 11 DA.done))))))))))))))

noncomputable def journal_Journal_steps_1_O (Kv : VW) : List Ob := (obs Try.prog journal_Journal_steps_1_E 13 (journal_Journal_steps_1_A Kv) journal_Journal_steps_1_C (fun _ => retQ Try.prog Try.f40.results Kv))

theorem journal_Journal_steps_1_e (Kv : VW) (t_0 : Addr) (t_1 : Addr) (w : World) : journal_Journal_steps_1_sd t_0 t_1 (fun (w' : World) => Kv (Value.tuple #[]) w') w = W Try.prog journal_Journal_steps_1_E 13 (journal_Journal_steps_1_A Kv) journal_Journal_steps_1_C [] (retQ Try.prog Try.f40.results Kv) [] (startS [(Value.pointer (some t_0)), (Value.pointer (some t_1))]) w := by kernel_rfl

theorem journal_Journal_steps_1_n (Kv : VW) : obAt (journal_Journal_steps_1_O Kv) 0 = none := by kernel_rfl

theorem journal_Journal_steps_1_h (Kv : VW) : ∀ k, holdsAt Try.prog journal_Journal_steps_1_E 13 (journal_Journal_steps_1_O Kv) k := fun _ => holdsAt_ge (journal_Journal_steps_1_n Kv) (Nat.zero_le _)

theorem journal_Journal_steps_1_ok : Sound Try.prog 40 journal_Journal_steps_1_S := ⟨Try.call40, fun vs w Kv h => by
  unfold journal_Journal_steps_1_S at h
  split at h
  · have h := h.out
    rw [journal_Journal_steps_1_e] at h
    exact calls_sound (Γ := journal_Journal_steps_1_E) progMixed trivial Try.func40 (code := journal_Journal_steps_1_C) (by kernel_rfl) (journal_Journal_steps_1_A Kv) Kv (holds_all (journal_Journal_steps_1_h Kv)) (Nat.le_of_ble_eq_true rfl) h
  · exact h.elim⟩

theorem journal_Journal_steps_1_okd : SoundD Try.prog 40 journal_Journal_steps_1_S := ⟨Try.call40, fun vs w Kv h u => by
  unfold journal_Journal_steps_1_S at h
  split at h
  · have h := h.out
    rw [journal_Journal_steps_1_e] at h
    exact callsD_sound (Γ := journal_Journal_steps_1_E) progMixed trivial Try.func40 (code := journal_Journal_steps_1_C) (by kernel_rfl) (journal_Journal_steps_1_A Kv) rfl Kv (holds_all (journal_Journal_steps_1_h Kv)) (Nat.le_of_ble_eq_true rfl) h u
  · exact h.elim⟩

/-! journal_Journal_Append_1 -/
def journal_Journal_Append_1_sd (t_0 : Addr) (t_1 : Addr) (K : Int → World → Prop) (w : World) : Prop :=
  let w1 : World := w.drew
  ∃ S2 : World → Prop, S2 w1 ∧ ∃ x3 : Option Addr, (∀ w' : World, S2 w' → w'.cell? t_0 = some (Value.pointer x3)) ∧ nz x3 fun a4 => ∃ x5 : Option Addr, (∀ w' : World, S2 w' → w'.cell? a4 = some (Value.pointer x5)) ∧ ∃ x6 : Option Addr, (∀ w' : World, S2 w' → w'.cell? t_0 = some (Value.pointer x6)) ∧ nz x6 fun a7 => ∃ x8 : Int, (∀ w' : World, S2 w' → w'.cell? (a7.add 3) = some (Value.int .i64 x8)) ∧ ∃ x9 : ByteArray, (∀ w' : World, S2 w' → w'.cell? t_1 = some (Value.string x9)) ∧ ∃ x10 : ByteArray, (∀ w' : World, S2 w' → w'.cell? t_1 = some (Value.string x10)) ∧ journal_number_sh (x9.size : Int) (4 : Int) (fun (r12 : ByteArray) (w11 : World) => S2 w11 ∧ (((r12.size + x10.size : Nat) : Int) ≤ maxI) ∧ disk_Disk_Write_sh x5 x8 (r12 ++ x10) (fun (r14 : Int) (w13 : World) => S2 w13 ∧ K r14 w13) w11) w1

structure journal_Journal_Append_1_sh (t_0 : Addr) (t_1 : Addr) (K : Int → World → Prop) (w : World) : Prop where
  out : journal_Journal_Append_1_sd t_0 t_1 K w

noncomputable def journal_Journal_Append_1_S : Pw.Spec := fun vs w Kv =>
  match vs with
  | [.pointer (some t_0), .pointer (some t_1)] => journal_Journal_Append_1_sh t_0 t_1 (fun (r0 : Int) (w' : World) => Kv (Value.int .i64 r0) w') w
  | _ => False

noncomputable def journal_Journal_Append_1_E : Pw.Env := [(22, disk_Disk_Write_S), (31, journal_number_S)]

noncomputable def journal_Journal_Append_1_C : Code := (Try.f30.body).getD .skip

noncomputable def journal_Journal_Append_1_A (_Kv : VW) : Pw.A :=
  (A.seq (A.reg (RA.run RA.done))
   (A.seq (A.drw (DA.pur 0 (DA.pur 1 (DA.pur 2 (DA.pur 3 (DA.pur 4 (DA.pur 5 (DA.pur 6 (DA.pur 7 (DA.pur 8 (DA.pur 9 (DA.pur 11 (DA.eff 10 (DA.pur 12 (DA.eff 13 (DA.pur 14 DA.done))))))))))))))))
   A.leaf))

noncomputable def journal_Journal_Append_1_O (Kv : VW) : List Ob := (obs Try.prog journal_Journal_Append_1_E 17 (journal_Journal_Append_1_A Kv) journal_Journal_Append_1_C (fun _ => retQ Try.prog Try.f30.results Kv))

theorem journal_Journal_Append_1_e (Kv : VW) (t_0 : Addr) (t_1 : Addr) (w : World) : journal_Journal_Append_1_sd t_0 t_1 (fun (r0 : Int) (w' : World) => Kv (Value.int .i64 r0) w') w = W Try.prog journal_Journal_Append_1_E 17 (journal_Journal_Append_1_A Kv) journal_Journal_Append_1_C [] (retQ Try.prog Try.f30.results Kv) [] (startS [(Value.pointer (some t_0)), (Value.pointer (some t_1))]) w := by kernel_rfl

theorem journal_Journal_Append_1_n (Kv : VW) : obAt (journal_Journal_Append_1_O Kv) 0 = none := by kernel_rfl

theorem journal_Journal_Append_1_h (Kv : VW) : ∀ k, holdsAt Try.prog journal_Journal_Append_1_E 17 (journal_Journal_Append_1_O Kv) k := fun _ => holdsAt_ge (journal_Journal_Append_1_n Kv) (Nat.zero_le _)

theorem journal_Journal_Append_1_ok : Sound Try.prog 30 journal_Journal_Append_1_S := ⟨Try.call30, fun vs w Kv h => by
  unfold journal_Journal_Append_1_S at h
  split at h
  · have h := h.out
    rw [journal_Journal_Append_1_e] at h
    exact calls_sound (Γ := journal_Journal_Append_1_E) progMixed ⟨disk_Disk_Write_ok, journal_number_ok, trivial⟩ Try.func30 (code := journal_Journal_Append_1_C) (by kernel_rfl) (journal_Journal_Append_1_A Kv) Kv (holds_all (journal_Journal_Append_1_h Kv)) (Nat.le_of_ble_eq_true rfl) h
  · exact h.elim⟩

/-! journal_Journal_Append_2 -/
def journal_Journal_Append_2_sd (t_0 : Addr) (t_1 : Addr) (K : Int → World → Prop) (w : World) : Prop :=
  let w1 : World := w.drew
  ∃ S2 : World → Prop, S2 w1 ∧ ∃ x3 : Option Addr, (∀ w' : World, S2 w' → w'.cell? t_0 = some (Value.pointer x3)) ∧ nz x3 fun a4 => ∃ x5 : Option Addr, (∀ w' : World, S2 w' → w'.cell? a4 = some (Value.pointer x5)) ∧ ∃ x6 : Int, (∀ w' : World, S2 w' → w'.cell? t_1 = some (Value.int .i64 x6)) ∧ inR .i64 (x6 - (64 : Int)) ∧ journal_number_sh (x6 - (64 : Int)) (8 : Int) (fun (r8 : ByteArray) (w7 : World) => S2 w7 ∧ disk_Disk_Write_sh x5 (0 : Int) r8 (fun (r10 : Int) (w9 : World) => S2 w9 ∧ K r10 w9) w7) w1

structure journal_Journal_Append_2_sh (t_0 : Addr) (t_1 : Addr) (K : Int → World → Prop) (w : World) : Prop where
  out : journal_Journal_Append_2_sd t_0 t_1 K w

noncomputable def journal_Journal_Append_2_S : Pw.Spec := fun vs w Kv =>
  match vs with
  | [.pointer (some t_0), .pointer (some t_1)] => journal_Journal_Append_2_sh t_0 t_1 (fun (r0 : Int) (w' : World) => Kv (Value.int .i64 r0) w') w
  | _ => False

noncomputable def journal_Journal_Append_2_E : Pw.Env := [(22, disk_Disk_Write_S), (31, journal_number_S)]

noncomputable def journal_Journal_Append_2_C : Code := (Try.f32.body).getD .skip

noncomputable def journal_Journal_Append_2_A (_Kv : VW) : Pw.A :=
  (A.seq (A.reg (RA.run RA.done))
   (A.seq (A.drw (DA.pur 0 (DA.pur 1 (DA.pur 2 (DA.pur 3 (DA.pur 4 (DA.pur 5 (DA.eff 6 (DA.eff 7 (DA.pur 8 DA.done))))))))))
   A.leaf))

noncomputable def journal_Journal_Append_2_O (Kv : VW) : List Ob := (obs Try.prog journal_Journal_Append_2_E 11 (journal_Journal_Append_2_A Kv) journal_Journal_Append_2_C (fun _ => retQ Try.prog Try.f32.results Kv))

theorem journal_Journal_Append_2_e (Kv : VW) (t_0 : Addr) (t_1 : Addr) (w : World) : journal_Journal_Append_2_sd t_0 t_1 (fun (r0 : Int) (w' : World) => Kv (Value.int .i64 r0) w') w = W Try.prog journal_Journal_Append_2_E 11 (journal_Journal_Append_2_A Kv) journal_Journal_Append_2_C [] (retQ Try.prog Try.f32.results Kv) [] (startS [(Value.pointer (some t_0)), (Value.pointer (some t_1))]) w := by kernel_rfl

theorem journal_Journal_Append_2_n (Kv : VW) : obAt (journal_Journal_Append_2_O Kv) 0 = none := by kernel_rfl

theorem journal_Journal_Append_2_h (Kv : VW) : ∀ k, holdsAt Try.prog journal_Journal_Append_2_E 11 (journal_Journal_Append_2_O Kv) k := fun _ => holdsAt_ge (journal_Journal_Append_2_n Kv) (Nat.zero_le _)

theorem journal_Journal_Append_2_ok : Sound Try.prog 32 journal_Journal_Append_2_S := ⟨Try.call32, fun vs w Kv h => by
  unfold journal_Journal_Append_2_S at h
  split at h
  · have h := h.out
    rw [journal_Journal_Append_2_e] at h
    exact calls_sound (Γ := journal_Journal_Append_2_E) progMixed ⟨disk_Disk_Write_ok, journal_number_ok, trivial⟩ Try.func32 (code := journal_Journal_Append_2_C) (by kernel_rfl) (journal_Journal_Append_2_A Kv) Kv (holds_all (journal_Journal_Append_2_h Kv)) (Nat.le_of_ble_eq_true rfl) h
  · exact h.elim⟩

/-! journal_Journal_steps -/
def journal_Journal_steps_b1 (j_2 : Addr) (e_4 : Addr) (t_8 : Sl) (t_9 : Int) (t_10 : Int) (N1 : Addr → Addr → Sl → Int → Int → World → Prop) (Nd : Addr → World → Prop) (_K : Int → World → Prop) (w : World) : Prop :=
  cnd (decide (t_10 < t_9))
    (nz t_8.p fun a4 => (0 ≤ t_10 ∧ t_10 < (t_8.l : Nat)) ∧ ∃ x5 : Value, w.cell? (a4.add (t_10.toNat * 1)) = some x5 ∧ CallV Try.prog x5 [] w fun (u6 : Value) (w7 : World) => ∃ x8 : Int, u6 = (Value.int .i64 x8) ∧ wrOk w7 e_4 ∧ 
  (let w9 : World := w7.setCell e_4 (Value.int .i64 x8)
  ∃ x10 : Int, w9.cell? e_4 = some (Value.int .i64 x10) ∧ cnd (x10 != (0 : Int))
    (∃ x11 : Int, w9.cell? e_4 = some (Value.int .i64 x11) ∧ wrOk w9 e_4 ∧ 
  (let w12 : World := w9.setCell e_4 (Value.int .i64 x11)
  Nd e_4 w12))
    (∃ x13 : Option Addr, w9.cell? j_2 = some (Value.pointer x13) ∧ nz x13 fun a14 => ∃ x15 : Option Addr, w9.cell? a14 = some (Value.pointer x15) ∧ disk_Disk_Sync_sh x15 (fun (r17 : Int) (w16 : World) => wrOk w16 e_4 ∧ 
  (let w18 : World := w16.setCell e_4 (Value.int .i64 r17)
  ∃ x19 : Int, w18.cell? e_4 = some (Value.int .i64 x19) ∧ cnd (x19 != (0 : Int))
    (∃ x20 : Int, w18.cell? e_4 = some (Value.int .i64 x20) ∧ wrOk w18 e_4 ∧ 
  (let w21 : World := w18.setCell e_4 (Value.int .i64 x20)
  Nd e_4 w21))
    (inR .i64 (t_10 + (1 : Int)) ∧ N1 j_2 e_4 t_8 t_9 (t_10 + (1 : Int)) w18))) w9)))
    (wrOk w e_4 ∧ 
  (let w22 : World := w.setCell e_4 (Value.int .i64 (0 : Int))
  Nd e_4 w22))
def journal_Journal_steps_l1d (j_2 : Addr) (e_4 : Addr) (t_8 : Sl) (t_9 : Int) (t_10 : Int) (Nd : Addr → World → Prop) (K : Int → World → Prop) (w : World) : Prop :=
  ∃ (I : Int → World → Prop) (μ : Int → World → Nat), I t_10 w ∧ ∀ (t_101 : Int) (w1 : World), I t_101 w1 →
    journal_Journal_steps_b1 j_2 e_4 t_8 t_9 t_101 (fun (j_2' : Addr) (e_4' : Addr) (t_8' : Sl) (t_9' : Int) (t_10' : Int) (w' : World) => ((j_2' = j_2 ∧ e_4' = e_4 ∧ t_8' = t_8 ∧ t_9' = t_9 ∧ True) ∧ I t_10' w') ∧ μ t_10' w' < μ t_101 w1) Nd K w1
structure journal_Journal_steps_l1 (j_2 : Addr) (e_4 : Addr) (t_8 : Sl) (t_9 : Int) (t_10 : Int) (Nd : Addr → World → Prop) (K : Int → World → Prop) (w : World) : Prop where
  out : journal_Journal_steps_l1d j_2 e_4 t_8 t_9 t_10 Nd K w

def journal_Journal_steps_k0d (writes_1 : Sl) (j_2 : Addr) (e_4 : Addr) (Nd : Addr → World → Prop) (K : Int → World → Prop) (w : World) : Prop :=
  journal_Journal_steps_l1 j_2 e_4 writes_1 (writes_1.l : Int) (0 : Int) Nd K w
structure journal_Journal_steps_k0 (writes_1 : Sl) (j_2 : Addr) (e_4 : Addr) (Nd : Addr → World → Prop) (K : Int → World → Prop) (w : World) : Prop where
  out : journal_Journal_steps_k0d writes_1 j_2 e_4 Nd K w

def journal_Journal_steps_sd (j_0 : Option Addr) (writes_1 : Sl) (K : Int → World → Prop) (w : World) : Prop :=
  let w1 : World := w.alloc (Obj.cells #[(Value.pointer j_0)] 27)
  let w2 : World := w1.alloc (Obj.cells #[(Value.int .i64 (0 : Int))] 28)
  journal_Journal_steps_k0 writes_1 (Addr.mk w.heap.size 0 none) (Addr.mk w1.heap.size 0 none) (fun (e_4 : Addr) (w' : World) => journal_Journal_steps_1_sh (Addr.mk w.heap.size 0 none) (Addr.mk w1.heap.size 0 none) (fun (w'' : World) => ∃ x3 : Int, w''.cell? e_4 = some (Value.int .i64 x3) ∧ K x3 w'') w') K w2

structure journal_Journal_steps_sh (j_0 : Option Addr) (writes_1 : Sl) (K : Int → World → Prop) (w : World) : Prop where
  out : journal_Journal_steps_sd j_0 writes_1 K w

def journal_Journal_steps_P0 (Kv : VW) (ρ : Rho) (vs : List Value) (w : World) : Prop :=
  match ρ, vs with
  | Nd :: _, [.slice writes_1p writes_1l writes_1c, .pointer (some j_2), .pointer (some e_4)] => journal_Journal_steps_k0 ⟨writes_1p, writes_1l, writes_1c⟩ j_2 e_4 (fun (e_4' : Addr) (w' : World) => Nd [(Value.pointer (some e_4'))] w') (fun (r0 : Int) (w' : World) => Kv (Value.int .i64 r0) w') w
  | _, _ => False

def journal_Journal_steps_P1 (Kv : VW) (ρ : Rho) (vs : List Value) (w : World) : Prop :=
  match ρ, vs with
  | Nd :: _, [.pointer (some j_2), .pointer (some e_4), .slice t_8p t_8l t_8c, .int .i64 t_9, .int .i64 t_10] => journal_Journal_steps_l1 j_2 e_4 ⟨t_8p, t_8l, t_8c⟩ t_9 t_10 (fun (e_4' : Addr) (w' : World) => Nd [(Value.pointer (some e_4'))] w') (fun (r0 : Int) (w' : World) => Kv (Value.int .i64 r0) w') w
  | _, _ => False

noncomputable def journal_Journal_steps_S : Pw.Spec := fun vs w Kv =>
  match vs with
  | [.pointer j_0, .slice writes_1p writes_1l writes_1c] => journal_Journal_steps_sh j_0 ⟨writes_1p, writes_1l, writes_1c⟩ (fun (r0 : Int) (w' : World) => Kv (Value.int .i64 r0) w') w
  | _ => False

noncomputable def journal_Journal_steps_E : Pw.Env := [(23, disk_Disk_Sync_S)]

noncomputable def journal_Journal_steps_C : Code := (Try.f29.body).getD .skip

noncomputable def journal_Journal_steps_A (Kv : VW) : Pw.A :=
  (A.cut [1, 2, 4] (journal_Journal_steps_P0 Kv) (A.seq (A.seq (A.reg (RA.run (RA.run (RA.run RA.done))))
   (A.blk (A.loop [2, 4, 8, 9, 10] (journal_Journal_steps_P1 Kv) (A.seq (A.reg (RA.run RA.done))
   (A.seq (A.cond A.leaf
   A.leaf)
   (A.seq (A.blk (A.seq (A.reg (RA.run (RA.run (RA.run RA.done))))
   (A.seq (A.seq (A.reg (RA.run (RA.dyn (Value.int .i64 (0 : Int)) (RA.run RA.done))))
   (A.seq (A.reg (RA.run (RA.run RA.done)))
   (A.cond (A.seq (A.reg (RA.run (RA.run RA.done)))
   A.leaf)
   A.leaf)))
   (A.seq (A.reg (RA.run (RA.run (RA.run (RA.run (RA.run (RA.run RA.done)))))))
   (A.seq (A.reg (RA.run (RA.run RA.done)))
   (A.cond (A.seq (A.reg (RA.run (RA.run RA.done)))
   A.leaf)
   A.leaf))))))
   (A.reg (RA.run (RA.run RA.done)))))))))
   (A.seq (A.reg (RA.run RA.done))
   A.leaf)))

noncomputable def journal_Journal_steps_D : Pw.Env := [(40, journal_Journal_steps_1_S)]
def journal_Journal_steps_R : List RA := [(RA.run (RA.run RA.done)), (RA.run RA.done)]

noncomputable def journal_Journal_steps_O (Kv : VW) : List Ob := (obs Try.prog journal_Journal_steps_E 28 (journal_Journal_steps_A Kv) (dfRest journal_Journal_steps_R journal_Journal_steps_C) (dfQ Try.f29.results))

theorem journal_Journal_steps_e (Kv : VW) (j_0 : Option Addr) (writes_1p : Option Addr) (writes_1l writes_1c : Nat) (w : World) : journal_Journal_steps_sd j_0 ⟨writes_1p, writes_1l, writes_1c⟩ (fun (r0 : Int) (w' : World) => Kv (Value.int .i64 r0) w') w = dfW Try.prog journal_Journal_steps_E journal_Journal_steps_D 28 (journal_Journal_steps_A Kv) Try.f29.results Kv journal_Journal_steps_R journal_Journal_steps_C (startS [(Value.pointer j_0), (Value.slice writes_1p writes_1l writes_1c)]) w := by kernel_rfl

theorem journal_Journal_steps_e0 (Kv : VW) (Nd : List Value → World → Prop) (ρ : Rho) (writes_1p : Option Addr) (writes_1l writes_1c : Nat) (j_2 : Addr) (e_4 : Addr) (w : World) : journal_Journal_steps_k0d ⟨writes_1p, writes_1l, writes_1c⟩ j_2 e_4 (fun (e_4' : Addr) (w' : World) => Nd [(Value.pointer (some e_4'))] w') (fun (r0 : Int) (w' : World) => Kv (Value.int .i64 r0) w') w = goalAt Try.prog journal_Journal_steps_E 28 (journal_Journal_steps_O Kv) 0 (Nd :: ρ) [(Value.slice writes_1p writes_1l writes_1c), (Value.pointer (some j_2)), (Value.pointer (some e_4))] w := by kernel_rfl

theorem journal_Journal_steps_q0 (Kv : VW) (ρ : Rho) (vs : List Value) (w : World) : labAt (journal_Journal_steps_O Kv) 0 ρ vs w = journal_Journal_steps_P0 Kv ρ vs w := by kernel_rfl

theorem journal_Journal_steps_h0 (Kv : VW) : holdsAt Try.prog journal_Journal_steps_E 28 (journal_Journal_steps_O Kv) 0 := holdsAt_cut (.inl (by kernel_rfl)) (fun ρ vs w h => by
  rw [journal_Journal_steps_q0] at h
  unfold journal_Journal_steps_P0 at h
  split at h
  · rw [← journal_Journal_steps_e0]; exact h.out
  · exact h.elim)

theorem journal_Journal_steps_e1 (Kv : VW) (N1 Nd : List Value → World → Prop) (ρ : Rho) (j_2 : Addr) (e_4 : Addr) (t_8p : Option Addr) (t_8l t_8c : Nat) (t_9 : Int) (t_10 : Int) (w : World) : journal_Journal_steps_b1 j_2 e_4 ⟨t_8p, t_8l, t_8c⟩ t_9 t_10 (fun (j_2' : Addr) (e_4' : Addr) (t_8' : Sl) (t_9' : Int) (t_10' : Int) (w' : World) => N1 [(Value.pointer (some j_2')), (Value.pointer (some e_4')), (Value.slice t_8'.p t_8'.l t_8'.c), (Value.int .i64 t_9'), (Value.int .i64 t_10')] w') (fun (e_4' : Addr) (w' : World) => Nd [(Value.pointer (some e_4'))] w') (fun (r0 : Int) (w' : World) => Kv (Value.int .i64 r0) w') w = goalAt Try.prog journal_Journal_steps_E 28 (journal_Journal_steps_O Kv) 1 (N1 :: Nd :: ρ) [(Value.pointer (some j_2)), (Value.pointer (some e_4)), (Value.slice t_8p t_8l t_8c), (Value.int .i64 t_9), (Value.int .i64 t_10)] w := by kernel_rfl

theorem journal_Journal_steps_q1 (Kv : VW) (ρ : Rho) (vs : List Value) (w : World) : labAt (journal_Journal_steps_O Kv) 1 ρ vs w = journal_Journal_steps_P1 Kv ρ vs w := by kernel_rfl

def journal_Journal_steps_I1 (j_20 : Addr) (e_40 : Addr) (t_80 : Sl) (t_90 : Int) (I : Int → World → Prop) (vs : List Value) (w : World) : Prop :=
  match vs with
  | [.pointer (some j_2), .pointer (some e_4), .slice t_8p t_8l t_8c, .int .i64 t_9, .int .i64 t_10] => (j_2 = j_20 ∧ e_4 = e_40 ∧ ⟨t_8p, t_8l, t_8c⟩ = t_80 ∧ t_9 = t_90 ∧ True) ∧ I t_10 w
  | _ => False

def journal_Journal_steps_M1 (μ : Int → World → Nat) (vs : List Value) (w : World) : Nat :=
  match vs with
  | [.pointer (some _j_2), .pointer (some _e_4), .slice _t_8p _t_8l _t_8c, .int .i64 _t_9, .int .i64 t_10] => μ t_10 w
  | _ => 0

theorem journal_Journal_steps_h1 (Kv : VW) : holdsAt Try.prog journal_Journal_steps_E 28 (journal_Journal_steps_O Kv) 1 := holdsAt_loop (by kernel_rfl) (fun ρ vs w h => by
  rw [journal_Journal_steps_q1] at h
  unfold journal_Journal_steps_P1 at h
  split at h
  · rename_i Nd ρt j_2 e_4 t_8p t_8l t_8c t_9 t_10
    obtain ⟨I, μ, h0, hr⟩ := h.out
    refine ⟨journal_Journal_steps_I1 j_2 e_4 ⟨t_8p, t_8l, t_8c⟩ t_9 I, journal_Journal_steps_M1 μ, ⟨⟨rfl, rfl, rfl, rfl, trivial⟩, h0⟩, fun vs w hI => ?_⟩
    unfold journal_Journal_steps_I1 at hI
    split at hI
    · obtain ⟨⟨h0, h1, h2, h3, _⟩, hI⟩ := hI
      cases h0; cases h1; cases h2; cases h3
      rw [← journal_Journal_steps_e1]
      exact hr _ _ hI
    · exact hI.elim
  · exact h.elim)

theorem journal_Journal_steps_n (Kv : VW) : obAt (journal_Journal_steps_O Kv) 2 = none := by kernel_rfl

theorem journal_Journal_steps_h (Kv : VW) : ∀ k, holdsAt Try.prog journal_Journal_steps_E 28 (journal_Journal_steps_O Kv) k := fun k => match k with
  | 0 => journal_Journal_steps_h0 Kv
  | 1 => journal_Journal_steps_h1 Kv
  | _k + 2 => holdsAt_ge (journal_Journal_steps_n Kv) (Nat.le_add_left _ _)

theorem journal_Journal_steps_ok : Sound Try.prog 29 journal_Journal_steps_S := ⟨Try.call29, fun vs w Kv h => by
  unfold journal_Journal_steps_S at h
  split at h
  · have h := h.out
    rw [journal_Journal_steps_e] at h
    exact calls_df (Γ := journal_Journal_steps_E) (Δ := journal_Journal_steps_D) progMixed ⟨disk_Disk_Sync_ok, trivial⟩ ⟨journal_Journal_steps_1_okd, trivial⟩ Try.func29 (code := journal_Journal_steps_C) (by kernel_rfl) journal_Journal_steps_R (journal_Journal_steps_A Kv) Kv (holds_all (journal_Journal_steps_h Kv)) (Nat.le_of_ble_eq_true rfl) h
  · exact h.elim⟩

/-! journal_Journal_Append -/
def journal_Journal_Append_sd (j_0 : Option Addr) (record_1 : ByteArray) (K : Int → World → Prop) (w : World) : Prop :=
  let w1 : World := w.alloc (Obj.cells #[(Value.pointer j_0)] 27)
  let w2 : World := w1.alloc (Obj.cells #[(Value.string record_1)] 9)
  ∃ x3 : Option Addr, w2.cell? (Addr.mk w.heap.size 0 none) = some (Value.pointer x3) ∧ cnd x3.isNone
    (K (1 : Int) w2)
    (∃ x4 : Option Addr, w2.cell? (Addr.mk w.heap.size 0 none) = some (Value.pointer x4) ∧ nz x4 fun a5 => ∃ x6 : Option Addr, w2.cell? a5 = some (Value.pointer x6) ∧ cnd x6.isNone
    (K (1 : Int) w2)
    (∃ x7 : Option Addr, w2.cell? (Addr.mk w.heap.size 0 none) = some (Value.pointer x7) ∧ nz x7 fun a8 => ∃ x9 : Bool, w2.cell? (a8.add 4) = some (Value.bool x9) ∧ cnd x9
    (K (70 : Int) w2)
    (let w10 : World := w2.drew
  ∃ x11 : Option Addr, w10.cell? (Addr.mk w.heap.size 0 none) = some (Value.pointer x11) ∧ nz x11 fun a12 => ∃ x13 : Int, w10.cell? (a12.add 2) = some (Value.int .i64 x13) ∧ ∃ x14 : ByteArray, w10.cell? (Addr.mk w1.heap.size 0 none) = some (Value.string x14) ∧ inR .i64 (x13 + (x14.size : Int)) ∧ inR .i64 ((x13 + (x14.size : Int)) + (16 : Int)) ∧ inR .i64 (((x13 + (x14.size : Int)) + (16 : Int)) + (256 : Int)) ∧ cnd (decide ((((x13 + (x14.size : Int)) + (16 : Int)) + (256 : Int)) > (16777216 : Int)))
    (K (2 : Int) w10)
    (let w15 : World := w10.drew
  ∃ S16 : World → Prop, S16 w15 ∧ ∃ x17 : Option Addr, (∀ w' : World, S16 w' → w'.cell? (Addr.mk w.heap.size 0 none) = some (Value.pointer x17)) ∧ nz x17 fun a18 => ∃ x19 : Int, (∀ w' : World, S16 w' → w'.cell? (a18.add 3) = some (Value.int .i64 x19)) ∧ inR .i64 (x19 + (4 : Int)) ∧ ∃ x20 : ByteArray, (∀ w' : World, S16 w' → w'.cell? (Addr.mk w1.heap.size 0 none) = some (Value.string x20)) ∧ inR .i64 ((x19 + (4 : Int)) + (x20.size : Int)) ∧ let w21 : World := w15.alloc (Obj.cells #[(Value.int .i64 (0 : Int))] 3)
  S16 w21 ∧ wrOk w21 (Addr.mk w15.heap.size 0 none) ∧ 
  (let w22 : World := w21.setCell (Addr.mk w15.heap.size 0 none) (Value.int .i64 ((x19 + (4 : Int)) + (x20.size : Int)))
  ∃ x23 : Option Addr, w22.cell? (Addr.mk w.heap.size 0 none) = some (Value.pointer x23) ∧ let w24 : World := w22.alloc (Obj.cells #[(Value.func (.func 30) #[] #[(Value.pointer (some (Addr.mk w.heap.size 0 none))), (Value.pointer (some (Addr.mk w1.heap.size 0 none)))]), (Value.func (.func 32) #[] #[(Value.pointer (some (Addr.mk w.heap.size 0 none))), (Value.pointer (some (Addr.mk w15.heap.size 0 none)))])] 49)
  journal_Journal_steps_sh x23 (Sl.mk (some (Addr.mk w22.heap.size 0 none)) 2 2) (fun (r26 : Int) (w25 : World) => cnd (r26 != (0 : Int))
    (K r26 w25)
    (∃ x27 : Option Addr, w25.cell? (Addr.mk w.heap.size 0 none) = some (Value.pointer x27) ∧ nz x27 fun a28 => ∃ x29 : Int, w25.cell? (a28.add 1) = some (Value.int .i64 x29) ∧ inR .i64 (x29 + (1 : Int)) ∧ nz x27 fun a30 => wrOk w25 (a30.add 1) ∧ 
  (let w31 : World := w25.setCell (a30.add 1) (Value.int .i64 (x29 + (1 : Int)))
  let w32 : World := w31.drew
  ∃ S33 : World → Prop, S33 w32 ∧ ∃ x34 : Option Addr, (∀ w' : World, S33 w' → w'.cell? (Addr.mk w.heap.size 0 none) = some (Value.pointer x34)) ∧ nz x34 fun a35 => ∃ x36 : Int, (∀ w' : World, S33 w' → w'.cell? (a35.add 2) = some (Value.int .i64 x36)) ∧ ∃ x37 : ByteArray, (∀ w' : World, S33 w' → w'.cell? (Addr.mk w1.heap.size 0 none) = some (Value.string x37)) ∧ inR .i64 ((x37.size : Int) + (16 : Int)) ∧ inR .i64 (x36 + ((x37.size : Int) + (16 : Int))) ∧ nz x34 fun a38 => wrOk w32 (a38.add 2) ∧ 
  (let w39 : World := w32.setCell (a38.add 2) (Value.int .i64 (x36 + ((x37.size : Int) + (16 : Int))))
  ∃ x40 : Option Addr, w39.cell? (Addr.mk w.heap.size 0 none) = some (Value.pointer x40) ∧ ∃ x41 : Int, w39.cell? (Addr.mk w15.heap.size 0 none) = some (Value.int .i64 x41) ∧ nz x40 fun a42 => wrOk w39 (a42.add 3) ∧ 
  (let w43 : World := w39.setCell (a42.add 3) (Value.int .i64 x41)
  K (0 : Int) w43))))) w24)))))

structure journal_Journal_Append_sh (j_0 : Option Addr) (record_1 : ByteArray) (K : Int → World → Prop) (w : World) : Prop where
  out : journal_Journal_Append_sd j_0 record_1 K w

noncomputable def journal_Journal_Append_S : Pw.Spec := fun vs w Kv =>
  match vs with
  | [.pointer j_0, .string record_1] => journal_Journal_Append_sh j_0 record_1 (fun (r0 : Int) (w' : World) => Kv (Value.int .i64 r0) w') w
  | _ => False

noncomputable def journal_Journal_Append_E : Pw.Env := [(29, journal_Journal_steps_S)]

noncomputable def journal_Journal_Append_C : Code := (Try.f14.body).getD .skip

noncomputable def journal_Journal_Append_A (_Kv : VW) : Pw.A :=
  (A.seq (A.reg (RA.run (RA.run (RA.run RA.done))))
   (A.seq (A.seq (A.reg (RA.run (RA.run (RA.run (RA.spl 9 (RA.skp (RA.skp (RA.skp (RA.skp (RA.skp (RA.run RA.done)))))) (RA.run (RA.run (RA.run (RA.run (RA.run (RA.run RA.done)))))))))))
   (A.cond (A.seq (A.reg (RA.run RA.done))
   A.leaf)
   A.leaf))
   (A.seq (A.seq (A.reg (RA.run (RA.run (RA.run (RA.run RA.done)))))
   (A.cond (A.seq (A.reg (RA.run RA.done))
   A.leaf)
   A.leaf))
   (A.seq (A.seq (A.drp (DA.pur 0 (DA.pur 1 (DA.pur 2 (DA.pur 3 (DA.pur 4 (DA.pur 5 (DA.pur 6 (DA.pur 7 (DA.pur 8 (DA.pur 9 DA.done)))))))))))
   (A.cond (A.seq (A.reg (RA.run RA.done))
   A.leaf)
   A.leaf))
   (A.seq (A.drw (DA.pur 0 (DA.pur 1 (DA.pur 2 (DA.pur 3 (DA.pur 4 (DA.pur 5 (DA.pur 6 (DA.pur 7 (DA.eff 8 (DA.eff 9 DA.done)))))))))))
   (A.seq (A.reg (RA.run (RA.run (RA.run (RA.run (RA.run (RA.run RA.done)))))))
   (A.seq (A.seq (A.reg (RA.run (RA.run RA.done)))
   (A.cond (A.seq (A.reg (RA.run (RA.run RA.done)))
   A.leaf)
   A.leaf))
   (A.seq (A.reg (RA.run (RA.run (RA.run (RA.run (RA.run (RA.run (RA.run (RA.run RA.done)))))))))
   (A.seq (A.drw (DA.pur 0 (DA.pur 1 (DA.pur 2 (DA.pur 3 (DA.pur 4 (DA.pur 5 (DA.pur 6 (DA.pur 7 (DA.pur 8 (DA.pur 9 (DA.eff 10 DA.done))))))))))))
   (A.seq (A.reg (RA.run (RA.run (RA.run (RA.run (RA.run RA.done))))))
   (A.seq (A.reg (RA.run RA.done))
   A.leaf)))))))))))

noncomputable def journal_Journal_Append_O (Kv : VW) : List Ob := (obs Try.prog journal_Journal_Append_E 67 (journal_Journal_Append_A Kv) journal_Journal_Append_C (fun _ => retQ Try.prog Try.f14.results Kv))

theorem journal_Journal_Append_e (Kv : VW) (j_0 : Option Addr) (record_1 : ByteArray) (w : World) : journal_Journal_Append_sd j_0 record_1 (fun (r0 : Int) (w' : World) => Kv (Value.int .i64 r0) w') w = W Try.prog journal_Journal_Append_E 67 (journal_Journal_Append_A Kv) journal_Journal_Append_C [] (retQ Try.prog Try.f14.results Kv) [] (startS [(Value.pointer j_0), (Value.string record_1)]) w := by kernel_rfl

theorem journal_Journal_Append_n (Kv : VW) : obAt (journal_Journal_Append_O Kv) 0 = none := by kernel_rfl

theorem journal_Journal_Append_h (Kv : VW) : ∀ k, holdsAt Try.prog journal_Journal_Append_E 67 (journal_Journal_Append_O Kv) k := fun _ => holdsAt_ge (journal_Journal_Append_n Kv) (Nat.zero_le _)

theorem journal_Journal_Append_ok : Sound Try.prog 14 journal_Journal_Append_S := ⟨Try.call14, fun vs w Kv h => by
  unfold journal_Journal_Append_S at h
  split at h
  · have h := h.out
    rw [journal_Journal_Append_e] at h
    exact calls_sound (Γ := journal_Journal_Append_E) progMixed ⟨journal_Journal_steps_ok, trivial⟩ Try.func14 (code := journal_Journal_Append_C) (by kernel_rfl) (journal_Journal_Append_A Kv) Kv (holds_all (journal_Journal_Append_h Kv)) (Nat.le_of_ble_eq_true rfl) h
  · exact h.elim⟩

/-! journal_Open -/
noncomputable def journal_Open_C : Code := (Try.f12.body).getD .skip

noncomputable def journal_Open_rc2 : Code := rfAt journal_Open_C 0
noncomputable def journal_Open_as2 : Code := rfAs journal_Open_rc2
noncomputable def journal_Open_bd2 : Code := rfBd journal_Open_rc2
def journal_Open_ps2 : Array Tmp := #[49, 50]

def journal_Open_k0d (t_2 : Addr) (t_3 : Addr) (t_4 : Addr)  (K : Option Addr → Sl → Int → World → Prop) (w : World) : Prop :=
  wrOk w t_2 ∧ 
  (let w24 : World := w.setCell t_2 (Value.pointer none)
  wrOk w24 t_3 ∧ 
  (let w25 : World := w24.setCell t_3 (Value.slice none 0 0)
  wrOk w25 t_4 ∧ 
  (let w26 : World := w25.setCell t_4 (Value.int .i64 (11 : Int))
  ∃ x27 : Option Addr, w26.cell? t_2 = some (Value.pointer x27) ∧ ∃ x28 : Sl, w26.cell? t_3 = some (Value.slice x28.p x28.l x28.c) ∧ ∃ x29 : Int, w26.cell? t_4 = some (Value.int .i64 x29) ∧ K x27 x28 x29 w26)))
structure journal_Open_k0 (t_2 : Addr) (t_3 : Addr) (t_4 : Addr)  (K : Option Addr → Sl → Int → World → Prop) (w : World) : Prop where
  out : journal_Open_k0d t_2 t_3 t_4 K w

def journal_Open_f2d (t_2 : Addr) (t_3 : Addr) (t_4 : Addr) (j_7 : Addr) (l_8 : Addr) (t_48 : Value)  (K : Option Addr → Sl → Int → World → Prop) (w : World) : Prop :=
  rfF Try.prog 77 [(2, (Value.pointer (some t_2))), (3, (Value.pointer (some t_3))), (4, (Value.pointer (some t_4))), (7, (Value.pointer (some j_7))), (8, (Value.pointer (some l_8))), (48, t_48)] t_48 journal_Open_ps2 journal_Open_as2 journal_Open_bd2 w (fun (w' : World) => let w65 : World := w'.drew
  ∃ S66 : World → Prop, S66 w65 ∧ ∃ x67 : Option Addr, (∀ w' : World, S66 w' → w'.cell? j_7 = some (Value.pointer x67)) ∧ ∃ x68 : Sl, (∀ w' : World, S66 w' → w'.cell? l_8 = some (Value.slice x68.p x68.l x68.c)) ∧ wrOk w65 t_2 ∧ 
  (let w69 : World := w65.setCell t_2 (Value.pointer x67)
  S66 w69 ∧ wrOk w69 t_3 ∧ 
  (let w70 : World := w69.setCell t_3 (Value.slice x68.p x68.l x68.c)
  wrOk w70 t_4 ∧ 
  (let w71 : World := w70.setCell t_4 (Value.int .i64 (0 : Int))
  w71.heap[w.heap.size]? = some (Obj.deferred (some [])) ∧ (let w72 : World := w71.putObj w.heap.size (Obj.deferred none)
  ∃ x73 : Option Addr, w72.cell? t_2 = some (Value.pointer x73) ∧ ∃ x74 : Sl, w72.cell? t_3 = some (Value.slice x74.p x74.l x74.c) ∧ ∃ x75 : Int, w72.cell? t_4 = some (Value.int .i64 x75) ∧ K x73 x74 x75 w72))))) (fun (w' : World) => w'.heap[w.heap.size]? = some (Obj.deferred (some [])) ∧ (let w39 : World := w'.putObj w.heap.size (Obj.deferred none)
  ∃ x40 : Option Addr, w39.cell? t_2 = some (Value.pointer x40) ∧ ∃ x41 : Sl, w39.cell? t_3 = some (Value.slice x41.p x41.l x41.c) ∧ ∃ x42 : Int, w39.cell? t_4 = some (Value.int .i64 x42) ∧ K x40 x41 x42 w39))
structure journal_Open_f2 (t_2 : Addr) (t_3 : Addr) (t_4 : Addr) (j_7 : Addr) (l_8 : Addr) (t_48 : Value)  (K : Option Addr → Sl → Int → World → Prop) (w : World) : Prop where
  out : journal_Open_f2d t_2 t_3 t_4 j_7 l_8 t_48 K w

def journal_Open_k1d (d_0 : Option Addr) (t_2 : Addr) (t_3 : Addr) (t_4 : Addr) (n_6 : Int)  (K : Option Addr → Sl → Int → World → Prop) (w : World) : Prop :=
  inR .i64 ((64 : Int) + n_6) ∧ let w30 : World := w.alloc (Obj.cells #[(Value.pointer d_0), (Value.int .i64 (0 : Int)), (Value.int .i64 (0 : Int)), (Value.int .i64 ((64 : Int) + n_6)), (Value.bool false)] 52)
  let w31 : World := w30.alloc (Obj.cells #[(Value.pointer none)] 27)
  wrOk w31 (Addr.mk w30.heap.size 0 none) ∧ 
  (let w32 : World := w31.setCell (Addr.mk w30.heap.size 0 none) (Value.pointer (some (Addr.mk w.heap.size 0 none)))
  let w33 : World := w32.alloc (Obj.cells #[(Value.slice none 0 0)] 22)
  ∃ x34 : Option Addr, w33.cell? (Addr.mk w30.heap.size 0 none) = some (Value.pointer x34) ∧ nz x34 fun a35 => ∃ x36 : Int, w33.cell? (a35.add 3) = some (Value.int .i64 x36) ∧ journal_records_sh d_0 x36 (fun (r38 : Value) (w37 : World) => journal_Open_f2 t_2 t_3 t_4 (Addr.mk w30.heap.size 0 none) (Addr.mk w32.heap.size 0 none) r38 K w37) w33)
structure journal_Open_k1 (d_0 : Option Addr) (t_2 : Addr) (t_3 : Addr) (t_4 : Addr) (n_6 : Int)  (K : Option Addr → Sl → Int → World → Prop) (w : World) : Prop where
  out : journal_Open_k1d d_0 t_2 t_3 t_4 n_6 K w

def journal_Open_r2d (t_2 : Addr) (t_3 : Addr) (t_4 : Addr) (j_7 : Addr) (l_8 : Addr) (_t_48 : Value) (t_49 : ByteArray) (t_50 : Bool) (M : World → (World → Prop) → Prop) (Nn2 Nr2 : World → Prop) (_K : Option Addr → Sl → Int → World → Prop) (w : World) : Prop :=
  M w (fun (w0 : World) => cnd (!t_50)
    (wrOk w0 t_2 ∧ 
  (let w43 : World := w0.setCell t_2 (Value.pointer none)
  wrOk w43 t_3 ∧ 
  (let w44 : World := w43.setCell t_3 (Value.slice none 0 0)
  wrOk w44 t_4 ∧ 
  (let w45 : World := w44.setCell t_4 (Value.int .i64 (11 : Int))
  Nr2 w45))))
    (let w46 : World := w0.drew
  ∃ S47 : World → Prop, S47 w46 ∧ ∃ x48 : Sl, (∀ w' : World, S47 w' → w'.cell? l_8 = some (Value.slice x48.p x48.l x48.c)) ∧ strings_Clone_sh t_49 (fun (r50 : ByteArray) (w49 : World) => S47 w49 ∧ let w51 : World := w49.alloc (Obj.cells #[(Value.string r50)] 9)
  S47 w51 ∧ apS 1 16 [(Value.string (str []))] 9 x48 (Sl.mk (some (Addr.mk w49.heap.size 0 none)) 1 1) w51 fun (s52 : Sl) (w53 : World) => wrOk w53 l_8 ∧ 
  (let w54 : World := w53.setCell l_8 (Value.slice s52.p s52.l s52.c)
  ∃ x55 : Option Addr, w54.cell? j_7 = some (Value.pointer x55) ∧ nz x55 fun a56 => ∃ x57 : Int, w54.cell? (a56.add 1) = some (Value.int .i64 x57) ∧ inR .i64 (x57 + (1 : Int)) ∧ nz x55 fun a58 => wrOk w54 (a58.add 1) ∧ 
  (let w59 : World := w54.setCell (a58.add 1) (Value.int .i64 (x57 + (1 : Int)))
  ∃ x60 : Option Addr, w59.cell? j_7 = some (Value.pointer x60) ∧ nz x60 fun a61 => ∃ x62 : Int, w59.cell? (a61.add 2) = some (Value.int .i64 x62) ∧ inR .i64 ((t_49.size : Int) + (16 : Int)) ∧ inR .i64 (x62 + ((t_49.size : Int) + (16 : Int))) ∧ nz x60 fun a63 => wrOk w59 (a63.add 2) ∧ 
  (let w64 : World := w59.setCell (a63.add 2) (Value.int .i64 (x62 + ((t_49.size : Int) + (16 : Int))))
  Nn2 w64)))) w46))
structure journal_Open_r2 (t_2 : Addr) (t_3 : Addr) (t_4 : Addr) (j_7 : Addr) (l_8 : Addr) (t_48 : Value) (t_49 : ByteArray) (t_50 : Bool) (M : World → (World → Prop) → Prop) (Nn2 Nr2 : World → Prop) (K : Option Addr → Sl → Int → World → Prop) (w : World) : Prop where
  out : journal_Open_r2d t_2 t_3 t_4 j_7 l_8 t_48 t_49 t_50 M Nn2 Nr2 K w

def journal_Open_sd (d_0 : Option Addr) (K : Option Addr → Sl → Int → World → Prop) (w : World) : Prop :=
  let w1 : World := w.alloc (Obj.cells #[(Value.pointer none)] 27)
  let w2 : World := w1.alloc (Obj.cells #[(Value.slice none 0 0)] 22)
  let w3 : World := w2.alloc (Obj.cells #[(Value.int .i64 (0 : Int))] 28)
  cnd d_0.isNone
    (wrOk w3 (Addr.mk w.heap.size 0 none) ∧ 
  (let w4 : World := w3.setCell (Addr.mk w.heap.size 0 none) (Value.pointer none)
  wrOk w4 (Addr.mk w1.heap.size 0 none) ∧ 
  (let w5 : World := w4.setCell (Addr.mk w1.heap.size 0 none) (Value.slice none 0 0)
  wrOk w5 (Addr.mk w2.heap.size 0 none) ∧ 
  (let w6 : World := w5.setCell (Addr.mk w2.heap.size 0 none) (Value.int .i64 (1 : Int))
  ∃ x7 : Option Addr, w6.cell? (Addr.mk w.heap.size 0 none) = some (Value.pointer x7) ∧ ∃ x8 : Sl, w6.cell? (Addr.mk w1.heap.size 0 none) = some (Value.slice x8.p x8.l x8.c) ∧ ∃ x9 : Int, w6.cell? (Addr.mk w2.heap.size 0 none) = some (Value.int .i64 x9) ∧ K x7 x8 x9 w6))))
    (disk_Disk_Sync_sh d_0 (fun (r11 : Int) (w10 : World) => cnd (r11 != (0 : Int))
    (wrOk w10 (Addr.mk w.heap.size 0 none) ∧ 
  (let w12 : World := w10.setCell (Addr.mk w.heap.size 0 none) (Value.pointer none)
  wrOk w12 (Addr.mk w1.heap.size 0 none) ∧ 
  (let w13 : World := w12.setCell (Addr.mk w1.heap.size 0 none) (Value.slice none 0 0)
  wrOk w13 (Addr.mk w2.heap.size 0 none) ∧ 
  (let w14 : World := w13.setCell (Addr.mk w2.heap.size 0 none) (Value.int .i64 r11)
  ∃ x15 : Option Addr, w14.cell? (Addr.mk w.heap.size 0 none) = some (Value.pointer x15) ∧ ∃ x16 : Sl, w14.cell? (Addr.mk w1.heap.size 0 none) = some (Value.slice x16.p x16.l x16.c) ∧ ∃ x17 : Int, w14.cell? (Addr.mk w2.heap.size 0 none) = some (Value.int .i64 x17) ∧ K x15 x16 x17 w14))))
    (disk_Disk_Read_sh d_0 (0 : Int) (8 : Int) (fun (r19 : ByteArray) (w18 : World) => journal_value_sh r19 (8 : Int) (fun (r21 : Int) (w20 : World) => cnd (decide (r21 < (0 : Int)))
    (journal_Open_k0 (Addr.mk w.heap.size 0 none) (Addr.mk w1.heap.size 0 none) (Addr.mk w2.heap.size 0 none) K w20)
    (cnd (decide (r21 > (16777216 : Int)))
    (journal_Open_k0 (Addr.mk w.heap.size 0 none) (Addr.mk w1.heap.size 0 none) (Addr.mk w2.heap.size 0 none) K w20)
    (cnd (decide (r21 > (0 : Int)))
    (inR .i64 ((64 : Int) + r21) ∧ disk_Disk_Size_sh d_0 (fun (r23 : Int) (w22 : World) => cnd (decide (((64 : Int) + r21) > r23))
    (journal_Open_k0 (Addr.mk w.heap.size 0 none) (Addr.mk w1.heap.size 0 none) (Addr.mk w2.heap.size 0 none) K w22)
    (journal_Open_k1 d_0 (Addr.mk w.heap.size 0 none) (Addr.mk w1.heap.size 0 none) (Addr.mk w2.heap.size 0 none) r21 K w22)) w20)
    (journal_Open_k1 d_0 (Addr.mk w.heap.size 0 none) (Addr.mk w1.heap.size 0 none) (Addr.mk w2.heap.size 0 none) r21 K w20)))) w18) w10)) w3)

structure journal_Open_sh (d_0 : Option Addr) (K : Option Addr → Sl → Int → World → Prop) (w : World) : Prop where
  out : journal_Open_sd d_0 K w

def journal_Open_P0 (Kv : VW) (ρ : Rho) (vs : List Value) (w : World) : Prop :=
  match ρ, vs with
  | _, [.pointer (some t_2), .pointer (some t_3), .pointer (some t_4)] => journal_Open_k0 t_2 t_3 t_4  (fun (r0 : Option Addr) (r1 : Sl) (r2 : Int) (w' : World) => Kv (Value.tuple #[(Value.pointer r0), (Value.slice r1.p r1.l r1.c), (Value.int .i64 r2)]) w') w
  | _, _ => False

def journal_Open_P1 (Kv : VW) (ρ : Rho) (vs : List Value) (w : World) : Prop :=
  match ρ, vs with
  | _, [.pointer d_0, .pointer (some t_2), .pointer (some t_3), .pointer (some t_4), .int .i64 n_6] => journal_Open_k1 d_0 t_2 t_3 t_4 n_6  (fun (r0 : Option Addr) (r1 : Sl) (r2 : Int) (w' : World) => Kv (Value.tuple #[(Value.pointer r0), (Value.slice r1.p r1.l r1.c), (Value.int .i64 r2)]) w') w
  | _, _ => False

def journal_Open_P2 (Kv : VW) (ρ : Rho) (vs : List Value) (w : World) : Prop :=
  match ρ, vs with
  | _, [.pointer (some t_2), .pointer (some t_3), .pointer (some t_4), .pointer (some j_7), .pointer (some l_8), t_48] => journal_Open_f2 t_2 t_3 t_4 j_7 l_8 t_48  (fun (r0 : Option Addr) (r1 : Sl) (r2 : Int) (w' : World) => Kv (Value.tuple #[(Value.pointer r0), (Value.slice r1.p r1.l r1.c), (Value.int .i64 r2)]) w') w
  | _, _ => False

noncomputable def journal_Open_S : Pw.Spec := fun vs w Kv =>
  match vs with
  | [.pointer d_0] => journal_Open_sh d_0 (fun (r0 : Option Addr) (r1 : Sl) (r2 : Int) (w' : World) => Kv (Value.tuple #[(Value.pointer r0), (Value.slice r1.p r1.l r1.c), (Value.int .i64 r2)]) w') w
  | _ => False

noncomputable def journal_Open_E : Pw.Env := [(23, disk_Disk_Sync_S), (24, journal_value_S), (25, disk_Disk_Read_S), (26, disk_Disk_Size_S), (27, journal_records_S), (28, strings_Clone_S)]

noncomputable def journal_Open_A (Kv : VW) : Pw.A :=
  (A.seq (A.reg (RA.run (RA.run (RA.run RA.done))))
   (A.seq (A.seq (A.reg (RA.run (RA.run RA.done)))
   (A.cond (A.seq (A.reg (RA.run (RA.run (RA.run RA.done))))
   A.leaf)
   A.leaf))
   (A.seq (A.seq (A.reg (RA.run (RA.run (RA.run RA.done))))
   (A.seq (A.reg (RA.run (RA.run RA.done)))
   (A.cond (A.seq (A.reg (RA.run (RA.run (RA.run (RA.run RA.done)))))
   A.leaf)
   A.leaf)))
   (A.seq (A.reg (RA.run (RA.run (RA.run (RA.run RA.done)))))
   (A.seq (A.seq (A.reg (RA.run (RA.run (RA.run (RA.spl 23 (RA.skp (RA.skp (RA.run (RA.run (RA.skp (RA.skp (RA.skp (RA.skp (RA.skp (RA.skp (RA.skp (RA.skp (RA.skp (RA.run RA.done)))))))))))))) (RA.run (RA.run (RA.run (RA.run (RA.spl 27 (RA.skp (RA.skp (RA.skp (RA.skp (RA.skp (RA.skp (RA.skp (RA.skp (RA.skp (RA.run RA.done)))))))))) (RA.run (RA.run (RA.run (RA.spl 30 (RA.run (RA.run (RA.run (RA.run (RA.run (RA.run (RA.run RA.done))))))) (RA.skp (RA.skp (RA.skp (RA.skp (RA.skp (RA.run (RA.run RA.done)))))))))))))))))))))
   (A.cond (A.cut [2, 3, 4] (journal_Open_P0 Kv) (A.seq (A.reg (RA.run (RA.run (RA.run RA.done))))
   A.leaf))
   A.leaf))
   (A.cut [0, 2, 3, 4, 6] (journal_Open_P1 Kv) (A.seq (A.reg (RA.run (RA.run (RA.run (RA.run (RA.run (RA.run (RA.run RA.done))))))))
   (A.seq (A.reg (RA.run RA.done))
   (A.seq (A.seq (A.reg (RA.run (RA.run (RA.run (RA.run (RA.run (RA.run RA.done)))))))
   (A.blk (A.rf [2, 3, 4, 7, 8, 48] (journal_Open_P2 Kv) (A.blk (A.seq (A.seq (A.reg (RA.run (RA.run RA.done)))
   (A.cond (A.seq (A.reg (RA.run (RA.run (RA.run RA.done))))
   A.leaf)
   A.leaf))
   (A.seq (A.drw (DA.pur 0 (DA.pur 1 (DA.eff 2 (DA.eff 3 (DA.eff 4 (DA.eff 5 DA.done)))))))
   (A.seq (A.reg (RA.run (RA.run (RA.run (RA.run (RA.run (RA.run (RA.run (RA.run RA.done)))))))))
   (A.reg (RA.run (RA.run (RA.run (RA.run (RA.run (RA.run (RA.run (RA.run (RA.run (RA.run (RA.run RA.done)))))))))))))))))))
   (A.seq (A.drw (DA.pur 0 (DA.pur 1 (DA.eff 2 (DA.eff 3 (DA.eff 4 DA.done))))))
   A.leaf))))))))))

noncomputable def journal_Open_O (Kv : VW) : List Ob := (obs Try.prog journal_Open_E 77 (journal_Open_A Kv) journal_Open_C (fun _ => retQ Try.prog Try.f12.results Kv))

theorem journal_Open_e (Kv : VW) (d_0 : Option Addr) (w : World) : journal_Open_sd d_0 (fun (r0 : Option Addr) (r1 : Sl) (r2 : Int) (w' : World) => Kv (Value.tuple #[(Value.pointer r0), (Value.slice r1.p r1.l r1.c), (Value.int .i64 r2)]) w') w = W Try.prog journal_Open_E 77 (journal_Open_A Kv) journal_Open_C [] (retQ Try.prog Try.f12.results Kv) [] (startS [(Value.pointer d_0)]) w := by kernel_rfl

theorem journal_Open_e0 (Kv : VW) (ρ : Rho) (t_2 : Addr) (t_3 : Addr) (t_4 : Addr) (w : World) : journal_Open_k0d t_2 t_3 t_4  (fun (r0 : Option Addr) (r1 : Sl) (r2 : Int) (w' : World) => Kv (Value.tuple #[(Value.pointer r0), (Value.slice r1.p r1.l r1.c), (Value.int .i64 r2)]) w') w = goalAt Try.prog journal_Open_E 77 (journal_Open_O Kv) 0 (ρ) [(Value.pointer (some t_2)), (Value.pointer (some t_3)), (Value.pointer (some t_4))] w := by kernel_rfl

theorem journal_Open_q0 (Kv : VW) (ρ : Rho) (vs : List Value) (w : World) : labAt (journal_Open_O Kv) 0 ρ vs w = journal_Open_P0 Kv ρ vs w := by kernel_rfl

theorem journal_Open_h0 (Kv : VW) : holdsAt Try.prog journal_Open_E 77 (journal_Open_O Kv) 0 := holdsAt_cut (.inl (by kernel_rfl)) (fun ρ vs w h => by
  rw [journal_Open_q0] at h
  unfold journal_Open_P0 at h
  split at h
  · rw [← journal_Open_e0]; exact h.out
  · exact h.elim)

theorem journal_Open_e1 (Kv : VW) (ρ : Rho) (d_0 : Option Addr) (t_2 : Addr) (t_3 : Addr) (t_4 : Addr) (n_6 : Int) (w : World) : journal_Open_k1d d_0 t_2 t_3 t_4 n_6  (fun (r0 : Option Addr) (r1 : Sl) (r2 : Int) (w' : World) => Kv (Value.tuple #[(Value.pointer r0), (Value.slice r1.p r1.l r1.c), (Value.int .i64 r2)]) w') w = goalAt Try.prog journal_Open_E 77 (journal_Open_O Kv) 1 (ρ) [(Value.pointer d_0), (Value.pointer (some t_2)), (Value.pointer (some t_3)), (Value.pointer (some t_4)), (Value.int .i64 n_6)] w := by kernel_rfl

theorem journal_Open_q1 (Kv : VW) (ρ : Rho) (vs : List Value) (w : World) : labAt (journal_Open_O Kv) 1 ρ vs w = journal_Open_P1 Kv ρ vs w := by kernel_rfl

theorem journal_Open_h1 (Kv : VW) : holdsAt Try.prog journal_Open_E 77 (journal_Open_O Kv) 1 := holdsAt_cut (.inl (by kernel_rfl)) (fun ρ vs w h => by
  rw [journal_Open_q1] at h
  unfold journal_Open_P1 at h
  split at h
  · rw [← journal_Open_e1]; exact h.out
  · exact h.elim)

theorem journal_Open_e2 (Kv : VW) (ρ : Rho) (t_2 : Addr) (t_3 : Addr) (t_4 : Addr) (j_7 : Addr) (l_8 : Addr) (t_48 : Value) (w : World) : journal_Open_f2d t_2 t_3 t_4 j_7 l_8 t_48  (fun (r0 : Option Addr) (r1 : Sl) (r2 : Int) (w' : World) => Kv (Value.tuple #[(Value.pointer r0), (Value.slice r1.p r1.l r1.c), (Value.int .i64 r2)]) w') w = goalAt Try.prog journal_Open_E 77 (journal_Open_O Kv) 2 (ρ) [(Value.pointer (some t_2)), (Value.pointer (some t_3)), (Value.pointer (some t_4)), (Value.pointer (some j_7)), (Value.pointer (some l_8)), t_48] w := by kernel_rfl

theorem journal_Open_q2 (Kv : VW) (ρ : Rho) (vs : List Value) (w : World) : labAt (journal_Open_O Kv) 2 ρ vs w = journal_Open_P2 Kv ρ vs w := by kernel_rfl

theorem journal_Open_h2 (Kv : VW) : holdsAt Try.prog journal_Open_E 77 (journal_Open_O Kv) 2 := holdsAt_cut (.inr (by kernel_rfl)) (fun ρ vs w h => by
  rw [journal_Open_q2] at h
  unfold journal_Open_P2 at h
  split at h
  · rw [← journal_Open_e2]; exact h.out
  · exact h.elim)

theorem journal_Open_n (Kv : VW) : obAt (journal_Open_O Kv) 3 = none := by kernel_rfl

theorem journal_Open_h (Kv : VW) : ∀ k, holdsAt Try.prog journal_Open_E 77 (journal_Open_O Kv) k := fun k => match k with
  | 0 => journal_Open_h0 Kv
  | 1 => journal_Open_h1 Kv
  | 2 => journal_Open_h2 Kv
  | _k + 3 => holdsAt_ge (journal_Open_n Kv) (Nat.le_add_left _ _)

theorem journal_Open_ok : Sound Try.prog 12 journal_Open_S := ⟨Try.call12, fun vs w Kv h => by
  unfold journal_Open_S at h
  split at h
  · have h := h.out
    rw [journal_Open_e] at h
    exact calls_sound (Γ := journal_Open_E) progMixed ⟨disk_Disk_Sync_ok, journal_value_ok, disk_Disk_Read_ok, disk_Disk_Size_ok, journal_records_ok, strings_Clone_ok, trivial⟩ Try.func12 (code := journal_Open_C) (by kernel_rfl) (journal_Open_A Kv) Kv (holds_all (journal_Open_h Kv)) (Nat.le_of_ble_eq_true rfl) h
  · exact h.elim⟩

theorem journal_Open_er2 (Kv : VW) (t_2 : Addr) (t_3 : Addr) (t_4 : Addr) (j_7 : Addr) (l_8 : Addr) (t_48 : Value) (t_49 : ByteArray) (t_50 : Bool) (M : World → (World → Prop) → Prop) (N R : World → Prop) (w : World) : journal_Open_r2d t_2 t_3 t_4 j_7 l_8 t_48 t_49 t_50 M N R (fun (r0 : Option Addr) (r1 : Sl) (r2 : Int) (w' : World) => Kv (Value.tuple #[(Value.pointer r0), (Value.slice r1.p r1.l r1.c), (Value.int .i64 r2)]) w') w = rdW Try.prog journal_Open_E 77 (A.seq (A.reg (RA.run RA.done))
 (A.reg (RA.run RA.done))) ((A.blk (A.seq (A.seq (A.reg (RA.run (RA.run RA.done)))
 (A.cond (A.seq (A.reg (RA.run (RA.run (RA.run RA.done))))
 A.leaf)
 A.leaf))
 (A.seq (A.drw (DA.pur 0 (DA.pur 1 (DA.eff 2 (DA.eff 3 (DA.eff 4 (DA.eff 5 DA.done)))))))
 (A.seq (A.reg (RA.run (RA.run (RA.run (RA.run (RA.run (RA.run (RA.run (RA.run RA.done)))))))))
 (A.reg (RA.run (RA.run (RA.run (RA.run (RA.run (RA.run (RA.run (RA.run (RA.run (RA.run (RA.run RA.done))))))))))))))))) journal_Open_ps2 journal_Open_as2 journal_Open_bd2 [(2, (Value.pointer (some t_2))), (3, (Value.pointer (some t_3))), (4, (Value.pointer (some t_4))), (7, (Value.pointer (some j_7))), (8, (Value.pointer (some l_8))), (48, t_48)] [(Value.string t_49), (Value.bool t_50)] M N R w := by kernel_rfl

theorem journal_Open_y2 (Kv : VW) (t_2 : Addr) (t_3 : Addr) (t_4 : Addr) (j_7 : Addr) (l_8 : Addr) (t_48 : Value) (t_49 : ByteArray) (t_50 : Bool) {fn d l : Nat} {tmps : Array Value} {K' : VW} {w : World} (hag : agrT 77 [(2, (Value.pointer (some t_2))), (3, (Value.pointer (some t_3))), (4, (Value.pointer (some t_4))), (7, (Value.pointer (some j_7))), (8, (Value.pointer (some l_8))), (48, t_48)] tmps) (hl : w.heap[l]? = some (lrec fn tmps journal_Open_ps2 journal_Open_as2 journal_Open_bd2 d .ready none))
    (h : journal_Open_r2 t_2 t_3 t_4 j_7 l_8 t_48 t_49 t_50 (rMid l fn tmps journal_Open_ps2 journal_Open_as2 journal_Open_bd2 d) (rN l fn tmps journal_Open_ps2 journal_Open_as2 journal_Open_bd2 d K') (rR l fn tmps journal_Open_ps2 journal_Open_as2 journal_Open_bd2 d K') (fun (r0 : Option Addr) (r1 : Sl) (r2 : Int) (w' : World) => Kv (Value.tuple #[(Value.pointer r0), (Value.slice r1.p r1.l r1.c), (Value.int .i64 r2)]) w') w) : Yl Try.prog l #[(Value.string t_49), (Value.bool t_50)] w K' :=
  round_sound (xa := (A.seq (A.reg (RA.run RA.done))
 (A.reg (RA.run RA.done)))) (xb := (A.blk (A.seq (A.seq (A.reg (RA.run (RA.run RA.done)))
 (A.cond (A.seq (A.reg (RA.run (RA.run (RA.run RA.done))))
 A.leaf)
 A.leaf))
 (A.seq (A.drw (DA.pur 0 (DA.pur 1 (DA.eff 2 (DA.eff 3 (DA.eff 4 (DA.eff 5 DA.done)))))))
 (A.seq (A.reg (RA.run (RA.run (RA.run (RA.run (RA.run (RA.run (RA.run (RA.run RA.done)))))))))
 (A.reg (RA.run (RA.run (RA.run (RA.run (RA.run (RA.run (RA.run (RA.run (RA.run (RA.run (RA.run RA.done))))))))))))))))) (Γ := journal_Open_E) progMixed ⟨disk_Disk_Sync_ok, journal_value_ok, disk_Disk_Read_ok, disk_Disk_Size_ok, journal_records_ok, strings_Clone_ok, trivial⟩ (fun _ => rfl) (fun o ho => by cases ho) rfl rfl rfl hag hl rfl (by rw [← journal_Open_er2 Kv]; exact h.out)

end Go.Proofs.Ytamkecjpcfnpjaa
