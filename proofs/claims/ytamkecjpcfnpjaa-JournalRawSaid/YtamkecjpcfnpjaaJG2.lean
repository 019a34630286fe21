/- The bodies' formulas, by program. -/
import Derived.Test.YtamkecjpcfnpjaaProg
import Derived.KernelRfl
import Derived.Test.YtamkecjpcfnpjaaPwF
import Derived.Test.YtamkecjpcfnpjaaJG0
namespace Go.Proofs.Ytamkecjpcfnpjaa
open Go Pw
/-! probitylaw27_sanity -/
def probitylaw27_sanity_k0d (again_6 : Sl) (f_7 : Int) (g_8 : Int) (h_9 : Int) (i_12 : Int) (perhaps_13 : Bool)  (K : Bool → World → Prop) (w : World) : Prop :=
  let w36 : World := w.alloc (Obj.cells #[(Value.string (str [97])), (Value.string (str []))] 9)
  probityref27_Same_sh again_6 (Sl.mk (some (Addr.mk w.heap.size 0 none)) 2 2) (fun (r38 : Bool) (w37 : World) => cnd r38
    (cnd (f_7 == (0 : Int))
    (cnd (g_8 == (70 : Int))
    (cnd (h_9 == (70 : Int))
    (cnd (i_12 == (0 : Int))
    (K perhaps_13 w37)
    (K false w37))
    (K false w37))
    (K false w37))
    (K false w37))
    (K false w37)) w36
structure probitylaw27_sanity_k0 (again_6 : Sl) (f_7 : Int) (g_8 : Int) (h_9 : Int) (i_12 : Int) (perhaps_13 : Bool)  (K : Bool → World → Prop) (w : World) : Prop where
  out : probitylaw27_sanity_k0d again_6 f_7 g_8 h_9 i_12 perhaps_13 K w

def probitylaw27_sanity_sd  (K : Bool → World → Prop) (w : World) : Prop :=
  disk_New_sh (fun (r2 : Option Addr) (w1 : World) => journal_Open_sh r2 (fun (r4 : Option Addr) (r5 : Sl) (r6 : Int) (w3 : World) => cnd (r6 != (0 : Int))
    (K false w3)
    (cnd r4.isNone
    (K false w3)
    (cnd ((r5.l : Int) != (0 : Int))
    (K false w3)
    (journal_Journal_Append_sh r4 (str [97]) (fun (r8 : Int) (w7 : World) => cnd (r8 != (0 : Int))
    (K false w7)
    (journal_Journal_Append_sh r4 (str []) (fun (r10 : Int) (w9 : World) => cnd (r10 != (0 : Int))
    (K false w9)
    (journal_Journal_Many_sh r4 (fun (r12 : Int) (w11 : World) => cnd (r12 != (2 : Int))
    (K false w11)
    (disk_Disk_Crash_sh r2 (Sl.mk none 0 0) (fun (r14 : Option Addr) (w13 : World) => journal_Open_sh r14 (fun (_r16 : Option Addr) (r17 : Sl) (r18 : Int) (w15 : World) => disk_Disk_Fail_sh r2 (0 : Int) (fun (w19 : World) => journal_Journal_Append_sh r4 (str [98]) (fun (r21 : Int) (w20 : World) => journal_Journal_Append_sh r4 (str [99]) (fun (r23 : Int) (w22 : World) => disk_Disk_Crash_sh r2 (Sl.mk none 0 0) (fun (r25 : Option Addr) (w24 : World) => journal_Open_sh r25 (fun (_r27 : Option Addr) (r28 : Sl) (r29 : Int) (w26 : World) => let w30 : World := w26.alloc (Obj.cells #[(Value.string (str [97])), (Value.string (str []))] 9)
  probityref27_Same_sh r28 (Sl.mk (some (Addr.mk w26.heap.size 0 none)) 2 2) (fun (r32 : Bool) (w31 : World) => cnd r32
    (probitylaw27_sanity_k0 r17 r18 r21 r23 r29 true K w31)
    (let w33 : World := w31.alloc (Obj.cells #[(Value.string (str [97])), (Value.string (str [])), (Value.string (str [98]))] 9)
  probityref27_Same_sh r28 (Sl.mk (some (Addr.mk w31.heap.size 0 none)) 3 3) (fun (r35 : Bool) (w34 : World) => probitylaw27_sanity_k0 r17 r18 r21 r23 r29 r35 K w34) w33)) w30) w24) w22) w20) w19) w15) w13) w11)) w9)) w7)) w3)))) w1) w

structure probitylaw27_sanity_sh  (K : Bool → World → Prop) (w : World) : Prop where
  out : probitylaw27_sanity_sd  K w

def probitylaw27_sanity_P0 (Kv : VW) (ρ : Rho) (vs : List Value) (w : World) : Prop :=
  match ρ, vs with
  | _, [.slice again_6p again_6l again_6c, .int .i64 f_7, .int .i64 g_8, .int .i64 h_9, .int .i64 i_12, .bool perhaps_13] => probitylaw27_sanity_k0 ⟨again_6p, again_6l, again_6c⟩ f_7 g_8 h_9 i_12 perhaps_13  (fun (r0 : Bool) (w' : World) => Kv (Value.bool r0) w') w
  | _, _ => False

noncomputable def probitylaw27_sanity_S : Pw.Spec := fun vs w Kv =>
  match vs with
  | [] => probitylaw27_sanity_sh  (fun (r0 : Bool) (w' : World) => Kv (Value.bool r0) w') w
  | _ => False

noncomputable def probitylaw27_sanity_E : Pw.Env := [(11, disk_New_S), (12, journal_Open_S), (14, journal_Journal_Append_S), (17, journal_Journal_Many_S), (18, disk_Disk_Crash_S), (20, disk_Disk_Fail_S), (21, probityref27_Same_S)]

noncomputable def probitylaw27_sanity_C : Code := (Try.f10.body).getD .skip

noncomputable def probitylaw27_sanity_A (Kv : VW) : Pw.A :=
  (A.seq (A.reg (RA.run RA.done))
   (A.seq (A.reg (RA.run (RA.run RA.done)))
   (A.seq (A.reg (RA.run (RA.run (RA.run (RA.run (RA.run (RA.run (RA.run (RA.run (RA.run RA.done))))))))))
   (A.seq (A.seq (A.reg (RA.run (RA.run (RA.run (RA.spl 23 (RA.skp (RA.skp (RA.run (RA.run (RA.skp (RA.skp (RA.skp (RA.run (RA.run (RA.skp (RA.skp (RA.skp (RA.run (RA.run (RA.skp (RA.skp (RA.skp (RA.run (RA.run (RA.skp (RA.skp (RA.skp (RA.run RA.done))))))))))))))))))))))) (RA.run (RA.run (RA.run (RA.run (RA.spl 27 (RA.skp (RA.skp (RA.skp (RA.run (RA.run (RA.skp (RA.skp (RA.skp (RA.run (RA.run (RA.skp (RA.skp (RA.skp (RA.run (RA.run (RA.skp (RA.skp (RA.skp (RA.run RA.done))))))))))))))))))) (RA.run (RA.run (RA.run (RA.run (RA.run (RA.spl 32 (RA.skp (RA.skp (RA.skp (RA.run (RA.run (RA.skp (RA.skp (RA.skp (RA.run (RA.run (RA.skp (RA.skp (RA.skp (RA.run RA.done)))))))))))))) (RA.run (RA.run (RA.run (RA.run (RA.run (RA.spl 37 (RA.skp (RA.skp (RA.skp (RA.run (RA.run (RA.skp (RA.skp (RA.skp (RA.run RA.done))))))))) (RA.run (RA.run (RA.run (RA.run (RA.run (RA.spl 42 (RA.skp (RA.skp (RA.skp (RA.run RA.done)))) (RA.run (RA.run (RA.run (RA.run RA.done))))))))))))))))))))))))))))))))
   (A.cond (A.seq (A.reg (RA.run RA.done))
   A.leaf)
   A.leaf))
   (A.seq (A.reg (RA.run (RA.run (RA.run (RA.run (RA.run (RA.run (RA.run (RA.run (RA.run (RA.run RA.done)))))))))))
   (A.seq (A.reg (RA.run (RA.run RA.done)))
   (A.seq (A.reg (RA.run (RA.run (RA.run RA.done))))
   (A.seq (A.reg (RA.run (RA.run (RA.run RA.done))))
   (A.seq (A.reg (RA.run (RA.run (RA.run (RA.run (RA.run (RA.run (RA.run (RA.run (RA.run (RA.run RA.done)))))))))))
   (A.seq (A.reg (RA.run (RA.run (RA.run (RA.run (RA.spl 70 (RA.skp (RA.skp (RA.skp (RA.run (RA.run RA.done))))) (RA.run (RA.run (RA.run (RA.run (RA.run RA.done)))))))))))
   (A.cut [6, 7, 8, 9, 12, 13] (probitylaw27_sanity_P0 Kv) (A.seq (A.reg (RA.run (RA.run (RA.run (RA.run (RA.spl 78 (RA.run (RA.run (RA.run (RA.run (RA.spl 82 (RA.run (RA.run (RA.run (RA.run (RA.spl 86 (RA.run (RA.run (RA.run (RA.run (RA.spl 90 (RA.run (RA.run (RA.run (RA.run (RA.spl 94 (RA.run (RA.run (RA.run RA.done))) (RA.skp (RA.run (RA.run RA.done)))))))) (RA.skp (RA.skp (RA.run (RA.run (RA.skp (RA.run (RA.run RA.done)))))))))))) (RA.skp (RA.skp (RA.run (RA.run (RA.skp (RA.skp (RA.run (RA.run (RA.skp (RA.run (RA.run RA.done)))))))))))))))) (RA.skp (RA.skp (RA.run (RA.run (RA.skp (RA.skp (RA.run (RA.run (RA.skp (RA.skp (RA.run (RA.run (RA.skp (RA.run (RA.run RA.done)))))))))))))))))))) (RA.skp (RA.skp (RA.run (RA.run (RA.skp (RA.skp (RA.run (RA.run (RA.skp (RA.skp (RA.run (RA.run (RA.skp (RA.skp (RA.run (RA.run (RA.skp (RA.run (RA.run RA.done)))))))))))))))))))))))))
   A.leaf))))))))))))

noncomputable def probitylaw27_sanity_O (Kv : VW) : List Ob := (obs Try.prog probitylaw27_sanity_E 97 (probitylaw27_sanity_A Kv) probitylaw27_sanity_C (fun _ => retQ Try.prog Try.f10.results Kv))

theorem probitylaw27_sanity_e (Kv : VW)  (w : World) : probitylaw27_sanity_sd  (fun (r0 : Bool) (w' : World) => Kv (Value.bool r0) w') w = W Try.prog probitylaw27_sanity_E 97 (probitylaw27_sanity_A Kv) probitylaw27_sanity_C [] (retQ Try.prog Try.f10.results Kv) [] (startS []) w := by kernel_rfl

theorem probitylaw27_sanity_e0 (Kv : VW) (ρ : Rho) (again_6p : Option Addr) (again_6l again_6c : Nat) (f_7 : Int) (g_8 : Int) (h_9 : Int) (i_12 : Int) (perhaps_13 : Bool) (w : World) : probitylaw27_sanity_k0d ⟨again_6p, again_6l, again_6c⟩ f_7 g_8 h_9 i_12 perhaps_13  (fun (r0 : Bool) (w' : World) => Kv (Value.bool r0) w') w = goalAt Try.prog probitylaw27_sanity_E 97 (probitylaw27_sanity_O Kv) 0 (ρ) [(Value.slice again_6p again_6l again_6c), (Value.int .i64 f_7), (Value.int .i64 g_8), (Value.int .i64 h_9), (Value.int .i64 i_12), (Value.bool perhaps_13)] w := by kernel_rfl

theorem probitylaw27_sanity_q0 (Kv : VW) (ρ : Rho) (vs : List Value) (w : World) : labAt (probitylaw27_sanity_O Kv) 0 ρ vs w = probitylaw27_sanity_P0 Kv ρ vs w := by kernel_rfl

theorem probitylaw27_sanity_h0 (Kv : VW) : holdsAt Try.prog probitylaw27_sanity_E 97 (probitylaw27_sanity_O Kv) 0 := holdsAt_cut (.inl (by kernel_rfl)) (fun ρ vs w h => by
  rw [probitylaw27_sanity_q0] at h
  unfold probitylaw27_sanity_P0 at h
  split at h
  · rw [← probitylaw27_sanity_e0]; exact h.out
  · exact h.elim)

theorem probitylaw27_sanity_n (Kv : VW) : obAt (probitylaw27_sanity_O Kv) 1 = none := by kernel_rfl

theorem probitylaw27_sanity_h (Kv : VW) : ∀ k, holdsAt Try.prog probitylaw27_sanity_E 97 (probitylaw27_sanity_O Kv) k := fun k => match k with
  | 0 => probitylaw27_sanity_h0 Kv
  | _k + 1 => holdsAt_ge (probitylaw27_sanity_n Kv) (Nat.le_add_left _ _)

theorem probitylaw27_sanity_ok : Sound Try.prog 10 probitylaw27_sanity_S := ⟨Try.call10, fun vs w Kv h => by
  unfold probitylaw27_sanity_S at h
  split at h
  · have h := h.out
    rw [probitylaw27_sanity_e] at h
    exact calls_sound (Γ := probitylaw27_sanity_E) progMixed ⟨disk_New_ok, journal_Open_ok, journal_Journal_Append_ok, journal_Journal_Many_ok, disk_Disk_Crash_ok, disk_Disk_Fail_ok, probityref27_Same_ok, trivial⟩ Try.func10 (code := probitylaw27_sanity_C) (by kernel_rfl) (probitylaw27_sanity_A Kv) Kv (holds_all (probitylaw27_sanity_h Kv)) (Nat.le_of_ble_eq_true rfl) h
  · exact h.elim⟩

/-! probitylaw27_short -/
def probitylaw27_short_sd (s_0 : ByteArray) (K : ByteArray → World → Prop) (w : World) : Prop :=
  (0 ≤ (0 : Int) ∧ (0 : Int) ≤ (min (s_0.size : Int) (200 : Int)) ∧ (min (s_0.size : Int) (200 : Int)) ≤ (s_0.size : Nat)) ∧ K (s_0.extract 0 (min (s_0.size : Int) (200 : Int)).toNat) w

structure probitylaw27_short_sh (s_0 : ByteArray) (K : ByteArray → World → Prop) (w : World) : Prop where
  out : probitylaw27_short_sd s_0 K w

noncomputable def probitylaw27_short_S : Pw.Spec := fun vs w Kv =>
  match vs with
  | [.string s_0] => probitylaw27_short_sh s_0 (fun (r0 : ByteArray) (w' : World) => Kv (Value.string r0) w') w
  | _ => False

noncomputable def probitylaw27_short_E : Pw.Env := []

noncomputable def probitylaw27_short_C : Code := (Try.f15.body).getD .skip

noncomputable def probitylaw27_short_A (_Kv : VW) : Pw.A :=
  (A.seq (A.reg (RA.run RA.done))
   (A.seq (A.reg (RA.run (RA.run (RA.run (RA.run (RA.run (RA.run RA.done)))))))
   A.leaf))

noncomputable def probitylaw27_short_O (Kv : VW) : List Ob := (obs Try.prog probitylaw27_short_E 8 (probitylaw27_short_A Kv) probitylaw27_short_C (fun _ => retQ Try.prog Try.f15.results Kv))

theorem probitylaw27_short_e (Kv : VW) (s_0 : ByteArray) (w : World) : probitylaw27_short_sd s_0 (fun (r0 : ByteArray) (w' : World) => Kv (Value.string r0) w') w = W Try.prog probitylaw27_short_E 8 (probitylaw27_short_A Kv) probitylaw27_short_C [] (retQ Try.prog Try.f15.results Kv) [] (startS [(Value.string s_0)]) w := by kernel_rfl

theorem probitylaw27_short_n (Kv : VW) : obAt (probitylaw27_short_O Kv) 0 = none := by kernel_rfl

theorem probitylaw27_short_h (Kv : VW) : ∀ k, holdsAt Try.prog probitylaw27_short_E 8 (probitylaw27_short_O Kv) k := fun _ => holdsAt_ge (probitylaw27_short_n Kv) (Nat.zero_le _)

theorem probitylaw27_short_ok : Sound Try.prog 15 probitylaw27_short_S := ⟨Try.call15, fun vs w Kv h => by
  unfold probitylaw27_short_S at h
  split at h
  · have h := h.out
    rw [probitylaw27_short_e] at h
    exact calls_sound (Γ := probitylaw27_short_E) progMixed trivial Try.func15 (code := probitylaw27_short_C) (by kernel_rfl) (probitylaw27_short_A Kv) Kv (holds_all (probitylaw27_short_h Kv)) (Nat.le_of_ble_eq_true rfl) h
  · exact h.elim⟩

end Go.Proofs.Ytamkecjpcfnpjaa
