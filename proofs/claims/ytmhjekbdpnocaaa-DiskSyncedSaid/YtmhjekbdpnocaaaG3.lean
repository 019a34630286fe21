/- The bodies' formulas, by program. -/
import Derived.Test.YtmhjekbdpnocaaaProg
import Derived.KernelRfl
import Derived.Test.YtmhjekbdpnocaaaPwF
import Derived.Test.YtmhjekbdpnocaaaG0
import Derived.Test.YtmhjekbdpnocaaaG2
namespace Go.Proofs.Ytmhjekbdpnocaaa
open Go Pw
/-! probitylaw26_desk_do -/
def probitylaw26_desk_do_sd (x_0 : Option Addr) (a_1_0 : Int) (a_1_1 : Int) (a_1_2 : Int) (a_1_3 : ByteArray) (K : Bool → World → Prop) (w : World) : Prop :=
  let w1 : World := w.alloc (Obj.cells #[(Value.int .i64 a_1_0), (Value.int .i64 a_1_1), (Value.int .i64 a_1_2), (Value.string a_1_3)] 33)
  ∃ x2 : Int, w1.cell? (Addr.mk w.heap.size 0 none) = some (Value.int .i64 x2) ∧ probityref26_Mod_sh x2 (8 : Int) (fun (r4 : Int) (w3 : World) => cnd (r4 == (4 : Int))
    (let w5 : World := w3.drew
  ∃ S6 : World → Prop, S6 w5 ∧ nz x_0 fun a7 => ∃ x8 : Option Addr, (∀ w' : World, S6 w' → w'.cell? a7 = some (Value.pointer x8)) ∧ nz x_0 fun a9 => ∃ x10 : Option Addr, (∀ w' : World, S6 w' → w'.cell? (a9.add 1) = some (Value.pointer x10)) ∧ disk_Disk_Sync_sh x8 (fun (r12 : Int) (w11 : World) => S6 w11 ∧ probityref26_Disk_Sync_sh x10 (fun (r14 : Int) (w13 : World) => S6 w13 ∧ K (r12 == r14) w13) w11) w5)
    (cnd (r4 == (5 : Int))
    (let w15 : World := w3.drew
  ∃ S16 : World → Prop, S16 w15 ∧ nz x_0 fun a17 => ∃ x18 : Option Addr, (∀ w' : World, S16 w' → w'.cell? a17 = some (Value.pointer x18)) ∧ ∃ x19 : Int, (∀ w' : World, S16 w' → w'.cell? (Addr.mk w.heap.size 0 none) = some (Value.int .i64 x19)) ∧ ∃ x20 : Int, (∀ w' : World, S16 w' → w'.cell? (Addr.mk w.heap.size 1 none) = some (Value.int .i64 x20)) ∧ ∃ x21 : Int, (∀ w' : World, S16 w' → w'.cell? (Addr.mk w.heap.size 2 none) = some (Value.int .i64 x21)) ∧ ∃ x22 : ByteArray, (∀ w' : World, S16 w' → w'.cell? (Addr.mk w.heap.size 3 none) = some (Value.string x22)) ∧ ∃ x23 : Int, (∀ w' : World, S16 w' → w'.cell? (Addr.mk w.heap.size 2 none) = some (Value.int .i64 x23)) ∧ nz x_0 fun a24 => ∃ x25 : Option Addr, (∀ w' : World, S16 w' → w'.cell? (a24.add 1) = some (Value.pointer x25)) ∧ ∃ x26 : Int, (∀ w' : World, S16 w' → w'.cell? (Addr.mk w.heap.size 0 none) = some (Value.int .i64 x26)) ∧ ∃ x27 : Int, (∀ w' : World, S16 w' → w'.cell? (Addr.mk w.heap.size 1 none) = some (Value.int .i64 x27)) ∧ ∃ x28 : Int, (∀ w' : World, S16 w' → w'.cell? (Addr.mk w.heap.size 2 none) = some (Value.int .i64 x28)) ∧ ∃ x29 : ByteArray, (∀ w' : World, S16 w' → w'.cell? (Addr.mk w.heap.size 3 none) = some (Value.string x29)) ∧ ∃ x30 : Int, (∀ w' : World, S16 w' → w'.cell? (Addr.mk w.heap.size 2 none) = some (Value.int .i64 x30)) ∧ probityref26_Act_Where_sh x19 x20 x21 x22 (fun (r32 : Int) (w31 : World) => S16 w31 ∧ disk_Disk_Read_sh x18 r32 x23 (fun (r34 : ByteArray) (w33 : World) => S16 w33 ∧ probityref26_Act_Where_sh x26 x27 x28 x29 (fun (r36 : Int) (w35 : World) => S16 w35 ∧ probityref26_Disk_Read_sh x25 r36 x30 (fun (r38 : ByteArray) (w37 : World) => S16 w37 ∧ K (decide (r34 = r38)) w37) w35) w33) w31) w15)
    (cnd (r4 == (6 : Int))
    (∃ x39 : Int, w3.cell? (Addr.mk w.heap.size 2 none) = some (Value.int .i64 x39) ∧ probityref26_Mod_sh x39 (9 : Int) (fun (r41 : Int) (w40 : World) => inR .i64 (r41 - (1 : Int)) ∧ nz x_0 fun a42 => ∃ x43 : Option Addr, w40.cell? a42 = some (Value.pointer x43) ∧ disk_Disk_Fail_sh x43 (r41 - (1 : Int)) (fun (w44 : World) => nz x_0 fun a45 => ∃ x46 : Option Addr, w44.cell? (a45.add 1) = some (Value.pointer x46) ∧ probityref26_Disk_Fail_sh x46 (r41 - (1 : Int)) (fun (w47 : World) => K true w47) w44) w40) w3)
    (cnd (r4 == (7 : Int))
    (let w48 : World := w3.drew
  ∃ S49 : World → Prop, S49 w48 ∧ nz x_0 fun a50 => ∃ x51 : Option Addr, (∀ w' : World, S49 w' → w'.cell? a50 = some (Value.pointer x51)) ∧ ∃ x52 : Int, (∀ w' : World, S49 w' → w'.cell? (Addr.mk w.heap.size 2 none) = some (Value.int .i64 x52)) ∧ probitylaw26_survive_sh x52 (fun (r54 : Sl) (w53 : World) => S49 w53 ∧ disk_Disk_Crash_sh x51 r54 (fun (r56 : Option Addr) (w55 : World) => S49 w55 ∧ nz x_0 fun a57 => wrOk w55 a57 ∧ 
  (let w58 : World := w55.setCell a57 (Value.pointer r56)
  let w59 : World := w58.drew
  ∃ S60 : World → Prop, S60 w59 ∧ nz x_0 fun a61 => ∃ x62 : Option Addr, (∀ w' : World, S60 w' → w'.cell? (a61.add 1) = some (Value.pointer x62)) ∧ ∃ x63 : Int, (∀ w' : World, S60 w' → w'.cell? (Addr.mk w.heap.size 2 none) = some (Value.int .i64 x63)) ∧ probitylaw26_survive_sh x63 (fun (r65 : Sl) (w64 : World) => S60 w64 ∧ probityref26_Disk_Crash_sh x62 r65 (fun (r67 : Option Addr) (w66 : World) => S60 w66 ∧ nz x_0 fun a68 => wrOk w66 (a68.add 1) ∧ 
  (let w69 : World := w66.setCell (a68.add 1) (Value.pointer r67)
  nz x_0 fun a70 => ∃ x71 : Option Addr, w69.cell? a70 = some (Value.pointer x71) ∧ K (!x71.isNone) w69)) w64) w59)) w53) w48)
    (let w72 : World := w3.drew
  ∃ S73 : World → Prop, S73 w72 ∧ nz x_0 fun a74 => ∃ x75 : Option Addr, (∀ w' : World, S73 w' → w'.cell? a74 = some (Value.pointer x75)) ∧ ∃ x76 : Int, (∀ w' : World, S73 w' → w'.cell? (Addr.mk w.heap.size 0 none) = some (Value.int .i64 x76)) ∧ ∃ x77 : Int, (∀ w' : World, S73 w' → w'.cell? (Addr.mk w.heap.size 1 none) = some (Value.int .i64 x77)) ∧ ∃ x78 : Int, (∀ w' : World, S73 w' → w'.cell? (Addr.mk w.heap.size 2 none) = some (Value.int .i64 x78)) ∧ ∃ x79 : ByteArray, (∀ w' : World, S73 w' → w'.cell? (Addr.mk w.heap.size 3 none) = some (Value.string x79)) ∧ ∃ x80 : Int, (∀ w' : World, S73 w' → w'.cell? (Addr.mk w.heap.size 0 none) = some (Value.int .i64 x80)) ∧ ∃ x81 : Int, (∀ w' : World, S73 w' → w'.cell? (Addr.mk w.heap.size 1 none) = some (Value.int .i64 x81)) ∧ ∃ x82 : Int, (∀ w' : World, S73 w' → w'.cell? (Addr.mk w.heap.size 2 none) = some (Value.int .i64 x82)) ∧ ∃ x83 : ByteArray, (∀ w' : World, S73 w' → w'.cell? (Addr.mk w.heap.size 3 none) = some (Value.string x83)) ∧ nz x_0 fun a84 => ∃ x85 : Option Addr, (∀ w' : World, S73 w' → w'.cell? (a84.add 1) = some (Value.pointer x85)) ∧ ∃ x86 : Int, (∀ w' : World, S73 w' → w'.cell? (Addr.mk w.heap.size 0 none) = some (Value.int .i64 x86)) ∧ ∃ x87 : Int, (∀ w' : World, S73 w' → w'.cell? (Addr.mk w.heap.size 1 none) = some (Value.int .i64 x87)) ∧ ∃ x88 : Int, (∀ w' : World, S73 w' → w'.cell? (Addr.mk w.heap.size 2 none) = some (Value.int .i64 x88)) ∧ ∃ x89 : ByteArray, (∀ w' : World, S73 w' → w'.cell? (Addr.mk w.heap.size 3 none) = some (Value.string x89)) ∧ ∃ x90 : Int, (∀ w' : World, S73 w' → w'.cell? (Addr.mk w.heap.size 0 none) = some (Value.int .i64 x90)) ∧ ∃ x91 : Int, (∀ w' : World, S73 w' → w'.cell? (Addr.mk w.heap.size 1 none) = some (Value.int .i64 x91)) ∧ ∃ x92 : Int, (∀ w' : World, S73 w' → w'.cell? (Addr.mk w.heap.size 2 none) = some (Value.int .i64 x92)) ∧ ∃ x93 : ByteArray, (∀ w' : World, S73 w' → w'.cell? (Addr.mk w.heap.size 3 none) = some (Value.string x93)) ∧ probityref26_Act_Where_sh x76 x77 x78 x79 (fun (r95 : Int) (w94 : World) => S73 w94 ∧ probityref26_Act_Long_sh x80 x81 x82 x83 (fun (r97 : ByteArray) (w96 : World) => S73 w96 ∧ disk_Disk_Write_sh x75 r95 r97 (fun (r99 : Int) (w98 : World) => S73 w98 ∧ probityref26_Act_Where_sh x86 x87 x88 x89 (fun (r101 : Int) (w100 : World) => S73 w100 ∧ probityref26_Act_Long_sh x90 x91 x92 x93 (fun (r103 : ByteArray) (w102 : World) => S73 w102 ∧ probityref26_Disk_Write_sh x85 r101 r103 (fun (r105 : Int) (w104 : World) => S73 w104 ∧ K (r99 == r105) w104) w102) w100) w98) w96) w94) w72))))) w1

structure probitylaw26_desk_do_sh (x_0 : Option Addr) (a_1_0 : Int) (a_1_1 : Int) (a_1_2 : Int) (a_1_3 : ByteArray) (K : Bool → World → Prop) (w : World) : Prop where
  out : probitylaw26_desk_do_sd x_0 a_1_0 a_1_1 a_1_2 a_1_3 K w

noncomputable def probitylaw26_desk_do_S : Pw.Spec := fun vs w Kv =>
  match vs with
  | [.pointer x_0, .agg ⟨[.int .i64 a_1_0, .int .i64 a_1_1, .int .i64 a_1_2, .string a_1_3]⟩] => probitylaw26_desk_do_sh x_0 a_1_0 a_1_1 a_1_2 a_1_3 (fun (r0 : Bool) (w' : World) => Kv (Value.bool r0) w') w
  | _ => False

noncomputable def probitylaw26_desk_do_E : Pw.Env := [(21, probityref26_Mod_S), (22, disk_Disk_Crash_S), (23, probityref26_Disk_Crash_S), (24, probitylaw26_survive_S), (25, disk_Disk_Sync_S), (26, disk_Disk_Read_S), (27, disk_Disk_Write_S), (29, disk_Disk_Fail_S), (30, probityref26_Disk_Read_S), (31, probityref26_Disk_Write_S), (32, probityref26_Disk_Sync_S), (33, probityref26_Act_Where_S), (34, probityref26_Disk_Fail_S), (35, probityref26_Act_Long_S)]

noncomputable def probitylaw26_desk_do_C : Code := (Try.f15.body).getD .skip

noncomputable def probitylaw26_desk_do_A (Kv : VW) : Pw.A :=
  (A.seq (A.reg (RA.run (RA.run RA.done)))
   (A.seq (A.seq (A.reg (RA.run (RA.run (RA.run RA.done))))
   (A.blk (A.seq (A.reg (RA.run (RA.run RA.done)))
   (A.cond (A.seq (A.drw (DA.pur 0 (DA.pur 1 (DA.pur 2 (DA.pur 3 (DA.pur 5 (DA.pur 6 (DA.pur 7 (DA.pur 8 (DA.eff 4 (DA.eff 9 (DA.pur 10 (DA.pur 11 DA.done)))))))))))))
   A.leaf)
   (A.seq (A.reg (RA.run (RA.run RA.done)))
   (A.cond (A.seq (A.drw (DA.pur 0 (DA.pur 1 (DA.pur 2 (DA.pur 3 (DA.pur 4 (DA.pur 6 (DA.pur 7 (DA.pur 9 (DA.pur 10 (DA.pur 11 (DA.pur 12 (DA.pur 13 (DA.pur 15 (DA.pur 16 (DA.eff 5 (DA.eff 8 (DA.eff 14 (DA.eff 17 (DA.pur 18 (DA.pur 19 DA.done)))))))))))))))))))))
   A.leaf)
   (A.seq (A.reg (RA.run (RA.run RA.done)))
   (A.cond (A.seq (A.reg (RA.run (RA.run (RA.run (RA.run (RA.run RA.done))))))
   (A.seq (A.reg (RA.run (RA.run (RA.run (RA.run (RA.run (RA.run RA.done)))))))
   (A.seq (A.reg (RA.run (RA.run (RA.run (RA.run (RA.run (RA.run RA.done)))))))
   (A.seq (A.reg (RA.run RA.done))
   A.leaf))))
   (A.seq (A.reg (RA.run (RA.run RA.done)))
   (A.cond (A.seq (A.drw (DA.pur 0 (DA.pur 1 (DA.pur 2 (DA.pur 3 (DA.pur 4 (DA.pur 5 (DA.pur 6 (DA.eff 7 (DA.eff 8 (DA.pur 9 (DA.pur 10 (DA.eff 11 DA.done)))))))))))))
   (A.seq (A.drw (DA.pur 0 (DA.pur 1 (DA.pur 2 (DA.pur 3 (DA.pur 4 (DA.pur 5 (DA.pur 6 (DA.eff 7 (DA.eff 8 (DA.pur 9 (DA.pur 10 (DA.eff 11 DA.done)))))))))))))
   (A.seq (A.reg (RA.run (RA.run (RA.run (RA.run (RA.run (RA.run RA.done)))))))
   A.leaf)))
   A.leaf))))))))))
   (A.seq (A.drw (DA.pur 0 (DA.pur 1 (DA.pur 2 (DA.pur 3 (DA.pur 4 (DA.pur 6 (DA.pur 9 (DA.pur 10 (DA.pur 11 (DA.pur 12 (DA.pur 13 (DA.pur 15 (DA.eff 5 (DA.eff 7 (DA.eff 8 (DA.eff 14 (DA.eff 16 (DA.eff 17 (DA.pur 18 (DA.pur 19 DA.done)))))))))))))))))))))
   A.leaf)))

noncomputable def probitylaw26_desk_do_O (Kv : VW) : List Ob := (obs Try.prog probitylaw26_desk_do_E 109 (probitylaw26_desk_do_A Kv) probitylaw26_desk_do_C (fun _ => retQ Try.prog Try.f15.results Kv))

theorem probitylaw26_desk_do_e (Kv : VW) (x_0 : Option Addr) (a_1_0 : Int) (a_1_1 : Int) (a_1_2 : Int) (a_1_3 : ByteArray) (w : World) : probitylaw26_desk_do_sd x_0 a_1_0 a_1_1 a_1_2 a_1_3 (fun (r0 : Bool) (w' : World) => Kv (Value.bool r0) w') w = W Try.prog probitylaw26_desk_do_E 109 (probitylaw26_desk_do_A Kv) probitylaw26_desk_do_C [] (retQ Try.prog Try.f15.results Kv) (startS [(Value.pointer x_0), (Value.agg #[(Value.int .i64 a_1_0), (Value.int .i64 a_1_1), (Value.int .i64 a_1_2), (Value.string a_1_3)])]) w := by kernel_rfl

theorem probitylaw26_desk_do_n (Kv : VW) : obAt (probitylaw26_desk_do_O Kv) 0 = none := by kernel_rfl

theorem probitylaw26_desk_do_h (Kv : VW) : ∀ k, holdsAt Try.prog probitylaw26_desk_do_E 109 (probitylaw26_desk_do_O Kv) k := fun _ => holdsAt_ge (probitylaw26_desk_do_n Kv) (Nat.zero_le _)

theorem probitylaw26_desk_do_ok : Sound Try.prog 15 probitylaw26_desk_do_S := ⟨Try.call15, fun vs w Kv h => by
  unfold probitylaw26_desk_do_S at h
  split at h
  · have h := h.out
    rw [probitylaw26_desk_do_e] at h
    exact calls_sound (Γ := probitylaw26_desk_do_E) progMixed ⟨probityref26_Mod_ok, disk_Disk_Crash_ok, probityref26_Disk_Crash_ok, probitylaw26_survive_ok, disk_Disk_Sync_ok, disk_Disk_Read_ok, disk_Disk_Write_ok, disk_Disk_Fail_ok, probityref26_Disk_Read_ok, probityref26_Disk_Write_ok, probityref26_Disk_Sync_ok, probityref26_Act_Where_ok, probityref26_Disk_Fail_ok, probityref26_Act_Long_ok, trivial⟩ Try.func15 (code := probitylaw26_desk_do_C) (by kernel_rfl) (probitylaw26_desk_do_A Kv) Kv (holds_all (probitylaw26_desk_do_h Kv)) (Nat.le_of_ble_eq_true rfl) h
  · exact h.elim⟩

/-! probitylaw26_desk_same -/
def probitylaw26_desk_same_sd (x_0 : Option Addr) (K : Bool → World → Prop) (w : World) : Prop :=
  let w1 : World := w.drew
  ∃ S2 : World → Prop, S2 w1 ∧ nz x_0 fun a3 => ∃ x4 : Option Addr, (∀ w' : World, S2 w' → w'.cell? a3 = some (Value.pointer x4)) ∧ cnd (!x4.isNone)
    (nz x_0 fun a5 => ∃ x6 : Option Addr, (∀ w' : World, S2 w' → w'.cell? a5 = some (Value.pointer x6)) ∧ nz x_0 fun a7 => ∃ x8 : Option Addr, (∀ w' : World, S2 w' → w'.cell? (a7.add 1) = some (Value.pointer x8)) ∧ disk_Disk_Size_sh x6 (fun (r10 : Int) (w9 : World) => S2 w9 ∧ probityref26_Disk_Size_sh x8 (fun (r12 : Int) (w11 : World) => S2 w11 ∧ cnd (r10 == r12)
    (nz x_0 fun a13 => ∃ x14 : Option Addr, (∀ w' : World, S2 w' → w'.cell? a13 = some (Value.pointer x14)) ∧ nz x_0 fun a15 => ∃ x16 : Option Addr, (∀ w' : World, S2 w' → w'.cell? (a15.add 1) = some (Value.pointer x16)) ∧ disk_Disk_Calls_sh x14 (fun (r18 : Int) (w17 : World) => S2 w17 ∧ probityref26_Disk_Calls_sh x16 (fun (r20 : Int) (w19 : World) => S2 w19 ∧ cnd (r18 == r20)
    (nz x_0 fun a21 => ∃ x22 : Option Addr, (∀ w' : World, S2 w' → w'.cell? a21 = some (Value.pointer x22)) ∧ nz x_0 fun a23 => ∃ x24 : Option Addr, (∀ w' : World, S2 w' → w'.cell? (a23.add 1) = some (Value.pointer x24)) ∧ disk_Disk_Read_sh x22 (0 : Int) (33554432 : Int) (fun (r26 : ByteArray) (w25 : World) => S2 w25 ∧ probityref26_Disk_Read_sh x24 (0 : Int) (33554432 : Int) (fun (r28 : ByteArray) (w27 : World) => S2 w27 ∧ K (decide (r26 = r28)) w27) w25) w19)
    (K false w19)) w17) w11)
    (K false w11)) w9) w1)
    (K false w1)

structure probitylaw26_desk_same_sh (x_0 : Option Addr) (K : Bool → World → Prop) (w : World) : Prop where
  out : probitylaw26_desk_same_sd x_0 K w

noncomputable def probitylaw26_desk_same_S : Pw.Spec := fun vs w Kv =>
  match vs with
  | [.pointer x_0] => probitylaw26_desk_same_sh x_0 (fun (r0 : Bool) (w' : World) => Kv (Value.bool r0) w') w
  | _ => False

noncomputable def probitylaw26_desk_same_E : Pw.Env := [(16, disk_Disk_Size_S), (17, probityref26_Disk_Size_S), (18, disk_Disk_Calls_S), (19, probityref26_Disk_Calls_S), (26, disk_Disk_Read_S), (30, probityref26_Disk_Read_S)]

noncomputable def probitylaw26_desk_same_C : Code := (Try.f20.body).getD .skip

noncomputable def probitylaw26_desk_same_A (Kv : VW) : Pw.A :=
  (A.seq (A.reg (RA.run RA.done))
   (A.seq (A.drw (DA.pur 0 (DA.pur 1 (DA.pur 2 (DA.pur 3 (DA.pur 4 (DA.pur 5 (DA.spl 8 (DA.pur 6 (DA.pur 7 (DA.pur 8 (DA.pur 9 (DA.pur 11 (DA.pur 12 (DA.pur 13 (DA.pur 14 (DA.eff 10 (DA.eff 15 (DA.pur 16 (DA.pur 17 (DA.pur 18 (DA.spl 21 (DA.pur 19 (DA.pur 20 (DA.pur 21 (DA.pur 22 (DA.pur 24 (DA.pur 25 (DA.pur 26 (DA.pur 27 (DA.eff 23 (DA.eff 28 (DA.pur 29 (DA.pur 30 (DA.pur 31 (DA.spl 34 (DA.pur 32 (DA.pur 33 (DA.pur 34 (DA.pur 35 (DA.pur 37 (DA.pur 38 (DA.pur 39 (DA.pur 40 (DA.eff 36 (DA.eff 41 (DA.pur 42 (DA.pur 43 (DA.pur 44 DA.done))))))))))))) (DA.skp 32 (DA.skp 33 (DA.skp 34 (DA.skp 35 (DA.skp 37 (DA.skp 38 (DA.skp 39 (DA.skp 40 (DA.skp 36 (DA.skp 41 (DA.skp 42 (DA.pur 43 (DA.pur 44 DA.done))))))))))))))))))))))))))) (DA.skp 19 (DA.skp 20 (DA.skp 21 (DA.skp 22 (DA.skp 24 (DA.skp 25 (DA.skp 26 (DA.skp 27 (DA.skp 23 (DA.skp 28 (DA.skp 29 (DA.pur 30 (DA.pur 31 (DA.skp 32 (DA.skp 33 (DA.skp 34 (DA.skp 35 (DA.skp 37 (DA.skp 38 (DA.skp 39 (DA.skp 40 (DA.skp 36 (DA.skp 41 (DA.skp 42 (DA.pur 43 (DA.pur 44 DA.done)))))))))))))))))))))))))))))))))))))))) (DA.skp 6 (DA.skp 7 (DA.skp 8 (DA.skp 9 (DA.skp 11 (DA.skp 12 (DA.skp 13 (DA.skp 14 (DA.skp 10 (DA.skp 15 (DA.skp 16 (DA.pur 17 (DA.pur 18 (DA.skp 19 (DA.skp 20 (DA.skp 21 (DA.skp 22 (DA.skp 24 (DA.skp 25 (DA.skp 26 (DA.skp 27 (DA.skp 23 (DA.skp 28 (DA.skp 29 (DA.pur 30 (DA.pur 31 (DA.skp 32 (DA.skp 33 (DA.skp 34 (DA.skp 35 (DA.skp 37 (DA.skp 38 (DA.skp 39 (DA.skp 40 (DA.skp 36 (DA.skp 41 (DA.skp 42 (DA.pur 43 (DA.pur 44 DA.done)))))))))))))))))))))))))))))))))))))))))))))))
   A.leaf))

noncomputable def probitylaw26_desk_same_O (Kv : VW) : List Ob := (obs Try.prog probitylaw26_desk_same_E 47 (probitylaw26_desk_same_A Kv) probitylaw26_desk_same_C (fun _ => retQ Try.prog Try.f20.results Kv))

theorem probitylaw26_desk_same_e (Kv : VW) (x_0 : Option Addr) (w : World) : probitylaw26_desk_same_sd x_0 (fun (r0 : Bool) (w' : World) => Kv (Value.bool r0) w') w = W Try.prog probitylaw26_desk_same_E 47 (probitylaw26_desk_same_A Kv) probitylaw26_desk_same_C [] (retQ Try.prog Try.f20.results Kv) (startS [(Value.pointer x_0)]) w := by kernel_rfl

theorem probitylaw26_desk_same_n (Kv : VW) : obAt (probitylaw26_desk_same_O Kv) 0 = none := by kernel_rfl

theorem probitylaw26_desk_same_h (Kv : VW) : ∀ k, holdsAt Try.prog probitylaw26_desk_same_E 47 (probitylaw26_desk_same_O Kv) k := fun _ => holdsAt_ge (probitylaw26_desk_same_n Kv) (Nat.zero_le _)

theorem probitylaw26_desk_same_ok : Sound Try.prog 20 probitylaw26_desk_same_S := ⟨Try.call20, fun vs w Kv h => by
  unfold probitylaw26_desk_same_S at h
  split at h
  · have h := h.out
    rw [probitylaw26_desk_same_e] at h
    exact calls_sound (Γ := probitylaw26_desk_same_E) progMixed ⟨disk_Disk_Size_ok, probityref26_Disk_Size_ok, disk_Disk_Calls_ok, probityref26_Disk_Calls_ok, disk_Disk_Read_ok, probityref26_Disk_Read_ok, trivial⟩ Try.func20 (code := probitylaw26_desk_same_C) (by kernel_rfl) (probitylaw26_desk_same_A Kv) Kv (holds_all (probitylaw26_desk_same_h Kv)) (Nat.le_of_ble_eq_true rfl) h
  · exact h.elim⟩

/-! probitylaw26_DiskPlays -/
def probitylaw26_DiskPlays_k1d (up_3 : Bool) (x_4 : Addr)  (K : Bool → World → Prop) (w : World) : Prop :=
  probitylaw26_desk_same_sh (some x_4) (fun (r31 : Bool) (w30 : World) => cnd up_3
    (K r31 w30)
    (K false w30)) w
structure probitylaw26_DiskPlays_k1 (up_3 : Bool) (x_4 : Addr)  (K : Bool → World → Prop) (w : World) : Prop where
  out : probitylaw26_DiskPlays_k1d up_3 x_4 K w

def probitylaw26_DiskPlays_b0 (l_0 : Sl) (up_3 : Bool) (x_4 : Addr) (i_5 : Int) (N0 : Sl → Bool → Addr → Int → World → Prop)  (K : Bool → World → Prop) (w : World) : Prop :=
  cnd (decide (i_5 < (l_0.l : Int)))
    (cnd (decide (i_5 < (40 : Int)))
    (nz l_0.p fun a9 => (0 ≤ i_5 ∧ i_5 < (l_0.l : Nat)) ∧ ∃ x10 : Int, w.cell? (a9.add (i_5.toNat * 4)) = some (Value.int .i64 x10) ∧ ∃ x11 : Int, w.cell? ((a9.add (i_5.toNat * 4)).add 1) = some (Value.int .i64 x11) ∧ ∃ x12 : Int, w.cell? ((a9.add (i_5.toNat * 4)).add 2) = some (Value.int .i64 x12) ∧ ∃ x13 : ByteArray, w.cell? ((a9.add (i_5.toNat * 4)).add 3) = some (Value.string x13) ∧ probitylaw26_desk_do_sh (some x_4) x10 x11 x12 x13 (fun (r15 : Bool) (w14 : World) => let w16 : World := w14.drew
  ∃ S17 : World → Prop, S17 w16 ∧ cnd (!r15)
    (K false w16)
    (∃ x18 : Option Addr, (∀ w' : World, S17 w' → w'.cell? x_4 = some (Value.pointer x18)) ∧ ∃ x19 : Option Addr, (∀ w' : World, S17 w' → w'.cell? (x_4.add 1) = some (Value.pointer x19)) ∧ disk_Disk_Size_sh x18 (fun (r21 : Int) (w20 : World) => S17 w20 ∧ probityref26_Disk_Size_sh x19 (fun (r23 : Int) (w22 : World) => S17 w22 ∧ cnd (r21 != r23)
    (K false w22)
    (∃ x24 : Option Addr, (∀ w' : World, S17 w' → w'.cell? x_4 = some (Value.pointer x24)) ∧ ∃ x25 : Option Addr, (∀ w' : World, S17 w' → w'.cell? (x_4.add 1) = some (Value.pointer x25)) ∧ disk_Disk_Calls_sh x24 (fun (r27 : Int) (w26 : World) => S17 w26 ∧ probityref26_Disk_Calls_sh x25 (fun (r29 : Int) (w28 : World) => S17 w28 ∧ cnd (r27 != r29)
    (K false w28)
    (inR .i64 (i_5 + (1 : Int)) ∧ N0 l_0 up_3 x_4 (i_5 + (1 : Int)) w28)) w26) w22)) w20) w16)) w)
    (probitylaw26_DiskPlays_k1 up_3 x_4 K w))
    (probitylaw26_DiskPlays_k1 up_3 x_4 K w)
def probitylaw26_DiskPlays_l0d (l_0 : Sl) (up_3 : Bool) (x_4 : Addr) (i_5 : Int)  (K : Bool → World → Prop) (w : World) : Prop :=
  ∃ (I : Int → World → Prop) (μ : Int → World → Nat), I i_5 w ∧ ∀ (i_51 : Int) (w1 : World), I i_51 w1 →
    probitylaw26_DiskPlays_b0 l_0 up_3 x_4 i_51 (fun (l_0' : Sl) (up_3' : Bool) (x_4' : Addr) (i_5' : Int) (w' : World) => ((l_0' = l_0 ∧ up_3' = up_3 ∧ x_4' = x_4 ∧ True) ∧ I i_5' w') ∧ μ i_5' w' < μ i_51 w1)  K w1
structure probitylaw26_DiskPlays_l0 (l_0 : Sl) (up_3 : Bool) (x_4 : Addr) (i_5 : Int)  (K : Bool → World → Prop) (w : World) : Prop where
  out : probitylaw26_DiskPlays_l0d l_0 up_3 x_4 i_5 K w

def probitylaw26_DiskPlays_sd (l_0 : Sl) (K : Bool → World → Prop) (w : World) : Prop :=
  probitylaw26_sanity_sh (fun (r2 : Bool) (w1 : World) => disk_New_sh (fun (r4 : Option Addr) (w3 : World) => probityref26_New_sh (fun (r6 : Option Addr) (w5 : World) => let w7 : World := w5.alloc (Obj.cells #[(Value.pointer r4), (Value.pointer r6)] 30)
  ∃ x8 : Option Addr, w7.cell? (Addr.mk w5.heap.size 0 none) = some (Value.pointer x8) ∧ cnd x8.isNone
    (K false w7)
    (probitylaw26_DiskPlays_l0 l_0 r2 (Addr.mk w5.heap.size 0 none) (0 : Int) K w7)) w3) w1) w

structure probitylaw26_DiskPlays_sh (l_0 : Sl) (K : Bool → World → Prop) (w : World) : Prop where
  out : probitylaw26_DiskPlays_sd l_0 K w

def probitylaw26_DiskPlays_P0 (Kv : VW) (ρ : Rho) (vs : List Value) (w : World) : Prop :=
  match ρ, vs with
  | _, [.slice l_0p l_0l l_0c, .bool up_3, .pointer (some x_4), .int .i64 i_5] => probitylaw26_DiskPlays_l0 ⟨l_0p, l_0l, l_0c⟩ up_3 x_4 i_5  (fun (r0 : Bool) (w' : World) => Kv (Value.bool r0) w') w
  | _, _ => False

def probitylaw26_DiskPlays_P1 (Kv : VW) (ρ : Rho) (vs : List Value) (w : World) : Prop :=
  match ρ, vs with
  | _, [.bool up_3, .pointer (some x_4)] => probitylaw26_DiskPlays_k1 up_3 x_4  (fun (r0 : Bool) (w' : World) => Kv (Value.bool r0) w') w
  | _, _ => False

noncomputable def probitylaw26_DiskPlays_S : Pw.Spec := fun vs w Kv =>
  match vs with
  | [.slice l_0p l_0l l_0c] => probitylaw26_DiskPlays_sh ⟨l_0p, l_0l, l_0c⟩ (fun (r0 : Bool) (w' : World) => Kv (Value.bool r0) w') w
  | _ => False

noncomputable def probitylaw26_DiskPlays_E : Pw.Env := [(12, probitylaw26_sanity_S), (13, disk_New_S), (14, probityref26_New_S), (15, probitylaw26_desk_do_S), (16, disk_Disk_Size_S), (17, probityref26_Disk_Size_S), (18, disk_Disk_Calls_S), (19, probityref26_Disk_Calls_S), (20, probitylaw26_desk_same_S)]

noncomputable def probitylaw26_DiskPlays_C : Code := (Try.f3.body).getD .skip

noncomputable def probitylaw26_DiskPlays_A (Kv : VW) : Pw.A :=
  (A.seq (A.reg (RA.run RA.done))
   (A.seq (A.reg (RA.run (RA.run RA.done)))
   (A.seq (A.reg (RA.run (RA.run (RA.run (RA.run (RA.run RA.done))))))
   (A.seq (A.seq (A.reg (RA.run (RA.run (RA.run (RA.run (RA.run RA.done))))))
   (A.cond (A.seq (A.reg (RA.run RA.done))
   A.leaf)
   A.leaf))
   (A.seq (A.seq (A.reg (RA.run RA.done))
   (A.blk (A.loop [0, 3, 4, 5] (probitylaw26_DiskPlays_P0 Kv) (A.seq (A.seq (A.reg (RA.run (RA.run (RA.run (RA.run (RA.run (RA.spl 22 (RA.run (RA.run (RA.run RA.done))) (RA.skp (RA.skp (RA.run RA.done))))))))))
   (A.cond A.leaf
   A.leaf))
   (A.seq (A.blk (A.seq (A.reg (RA.run (RA.run (RA.run (RA.run (RA.run (RA.run (RA.run RA.done))))))))
   (A.seq (A.drw (DA.pur 0 (DA.pur 1 (DA.pur 2 (DA.spl 36 (DA.skp 3 (DA.skp 4 (DA.skp 5 (DA.skp 6 (DA.skp 8 (DA.skp 9 (DA.skp 10 (DA.skp 11 (DA.skp 7 (DA.skp 12 (DA.skp 13 (DA.pur 14 (DA.pur 15 (DA.skp 16 (DA.skp 17 (DA.skp 18 (DA.skp 19 (DA.skp 21 (DA.skp 22 (DA.skp 23 (DA.skp 24 (DA.skp 20 (DA.skp 25 (DA.skp 26 (DA.pur 27 DA.done))))))))))))))))))))))))) (DA.pur 3 (DA.pur 4 (DA.pur 5 (DA.pur 6 (DA.pur 8 (DA.pur 9 (DA.pur 10 (DA.pur 11 (DA.eff 7 (DA.eff 12 (DA.pur 13 (DA.pur 14 (DA.pur 15 (DA.spl 49 (DA.skp 16 (DA.skp 17 (DA.skp 18 (DA.skp 19 (DA.skp 21 (DA.skp 22 (DA.skp 23 (DA.skp 24 (DA.skp 20 (DA.skp 25 (DA.skp 26 (DA.pur 27 DA.done)))))))))))) (DA.pur 16 (DA.pur 17 (DA.pur 18 (DA.pur 19 (DA.pur 21 (DA.pur 22 (DA.pur 23 (DA.pur 24 (DA.eff 20 (DA.eff 25 (DA.pur 26 (DA.pur 27 DA.done)))))))))))))))))))))))))))))))
   (A.cond (A.seq (A.reg (RA.run RA.done))
   A.leaf)
   A.leaf))))
   (A.reg (RA.run (RA.run (RA.run RA.done)))))))))
   (A.cut [3, 4] (probitylaw26_DiskPlays_P1 Kv) (A.seq (A.reg (RA.run (RA.run (RA.run RA.done))))
   (A.seq (A.reg (RA.run (RA.run (RA.spl 65 (RA.run (RA.run (RA.run RA.done))) (RA.skp (RA.run (RA.run RA.done)))))))
   A.leaf))))))))

noncomputable def probitylaw26_DiskPlays_O (Kv : VW) : List Ob := (obs Try.prog probitylaw26_DiskPlays_E 68 (probitylaw26_DiskPlays_A Kv) probitylaw26_DiskPlays_C (fun _ => retQ Try.prog Try.f3.results Kv))

theorem probitylaw26_DiskPlays_e (Kv : VW) (l_0p : Option Addr) (l_0l l_0c : Nat) (w : World) : probitylaw26_DiskPlays_sd ⟨l_0p, l_0l, l_0c⟩ (fun (r0 : Bool) (w' : World) => Kv (Value.bool r0) w') w = W Try.prog probitylaw26_DiskPlays_E 68 (probitylaw26_DiskPlays_A Kv) probitylaw26_DiskPlays_C [] (retQ Try.prog Try.f3.results Kv) (startS [(Value.slice l_0p l_0l l_0c)]) w := by kernel_rfl

theorem probitylaw26_DiskPlays_e0 (Kv : VW) (N0 : List Value → World → Prop) (ρ : Rho) (l_0p : Option Addr) (l_0l l_0c : Nat) (up_3 : Bool) (x_4 : Addr) (i_5 : Int) (w : World) : probitylaw26_DiskPlays_b0 ⟨l_0p, l_0l, l_0c⟩ up_3 x_4 i_5 (fun (l_0' : Sl) (up_3' : Bool) (x_4' : Addr) (i_5' : Int) (w' : World) => N0 [(Value.slice l_0'.p l_0'.l l_0'.c), (Value.bool up_3'), (Value.pointer (some x_4')), (Value.int .i64 i_5')] w')  (fun (r0 : Bool) (w' : World) => Kv (Value.bool r0) w') w = goalAt Try.prog probitylaw26_DiskPlays_E 68 (probitylaw26_DiskPlays_O Kv) 0 (N0 :: ρ) [(Value.slice l_0p l_0l l_0c), (Value.bool up_3), (Value.pointer (some x_4)), (Value.int .i64 i_5)] w := by kernel_rfl

theorem probitylaw26_DiskPlays_q0 (Kv : VW) (ρ : Rho) (vs : List Value) (w : World) : labAt (probitylaw26_DiskPlays_O Kv) 0 ρ vs w = probitylaw26_DiskPlays_P0 Kv ρ vs w := by kernel_rfl

def probitylaw26_DiskPlays_I0 (l_00 : Sl) (up_30 : Bool) (x_40 : Addr) (I : Int → World → Prop) (vs : List Value) (w : World) : Prop :=
  match vs with
  | [.slice l_0p l_0l l_0c, .bool up_3, .pointer (some x_4), .int .i64 i_5] => (⟨l_0p, l_0l, l_0c⟩ = l_00 ∧ up_3 = up_30 ∧ x_4 = x_40 ∧ True) ∧ I i_5 w
  | _ => False

def probitylaw26_DiskPlays_M0 (μ : Int → World → Nat) (vs : List Value) (w : World) : Nat :=
  match vs with
  | [.slice l_0p l_0l l_0c, .bool up_3, .pointer (some x_4), .int .i64 i_5] => μ i_5 w
  | _ => 0

theorem probitylaw26_DiskPlays_h0 (Kv : VW) : holdsAt Try.prog probitylaw26_DiskPlays_E 68 (probitylaw26_DiskPlays_O Kv) 0 := holdsAt_loop (by kernel_rfl) (fun ρ vs w h => by
  rw [probitylaw26_DiskPlays_q0] at h
  unfold probitylaw26_DiskPlays_P0 at h
  split at h
  · rename_i ρt l_0p l_0l l_0c up_3 x_4 i_5
    obtain ⟨I, μ, h0, hr⟩ := h.out
    refine ⟨probitylaw26_DiskPlays_I0 ⟨l_0p, l_0l, l_0c⟩ up_3 x_4 I, probitylaw26_DiskPlays_M0 μ, ⟨⟨rfl, rfl, rfl, trivial⟩, h0⟩, fun vs w hI => ?_⟩
    unfold probitylaw26_DiskPlays_I0 at hI
    split at hI
    · obtain ⟨⟨h0, h1, h2, _⟩, hI⟩ := hI
      cases h0; cases h1; cases h2
      rw [← probitylaw26_DiskPlays_e0]
      exact hr _ _ hI
    · exact hI.elim
  · exact h.elim)

theorem probitylaw26_DiskPlays_e1 (Kv : VW) (ρ : Rho) (up_3 : Bool) (x_4 : Addr) (w : World) : probitylaw26_DiskPlays_k1d up_3 x_4  (fun (r0 : Bool) (w' : World) => Kv (Value.bool r0) w') w = goalAt Try.prog probitylaw26_DiskPlays_E 68 (probitylaw26_DiskPlays_O Kv) 1 (ρ) [(Value.bool up_3), (Value.pointer (some x_4))] w := by kernel_rfl

theorem probitylaw26_DiskPlays_q1 (Kv : VW) (ρ : Rho) (vs : List Value) (w : World) : labAt (probitylaw26_DiskPlays_O Kv) 1 ρ vs w = probitylaw26_DiskPlays_P1 Kv ρ vs w := by kernel_rfl

theorem probitylaw26_DiskPlays_h1 (Kv : VW) : holdsAt Try.prog probitylaw26_DiskPlays_E 68 (probitylaw26_DiskPlays_O Kv) 1 := holdsAt_cut (by kernel_rfl) (fun ρ vs w h => by
  rw [probitylaw26_DiskPlays_q1] at h
  unfold probitylaw26_DiskPlays_P1 at h
  split at h
  · rw [← probitylaw26_DiskPlays_e1]; exact h.out
  · exact h.elim)

theorem probitylaw26_DiskPlays_n (Kv : VW) : obAt (probitylaw26_DiskPlays_O Kv) 2 = none := by kernel_rfl

theorem probitylaw26_DiskPlays_h (Kv : VW) : ∀ k, holdsAt Try.prog probitylaw26_DiskPlays_E 68 (probitylaw26_DiskPlays_O Kv) k := fun k => match k with
  | 0 => probitylaw26_DiskPlays_h0 Kv
  | 1 => probitylaw26_DiskPlays_h1 Kv
  | k + 2 => holdsAt_ge (probitylaw26_DiskPlays_n Kv) (Nat.le_add_left _ _)

theorem probitylaw26_DiskPlays_ok : Sound Try.prog 3 probitylaw26_DiskPlays_S := ⟨Try.call3, fun vs w Kv h => by
  unfold probitylaw26_DiskPlays_S at h
  split at h
  · have h := h.out
    rw [probitylaw26_DiskPlays_e] at h
    exact calls_sound (Γ := probitylaw26_DiskPlays_E) progMixed ⟨probitylaw26_sanity_ok, disk_New_ok, probityref26_New_ok, probitylaw26_desk_do_ok, disk_Disk_Size_ok, probityref26_Disk_Size_ok, disk_Disk_Calls_ok, probityref26_Disk_Calls_ok, probitylaw26_desk_same_ok, trivial⟩ Try.func3 (code := probitylaw26_DiskPlays_C) (by kernel_rfl) (probitylaw26_DiskPlays_A Kv) Kv (holds_all (probitylaw26_DiskPlays_h Kv)) (Nat.le_of_ble_eq_true rfl) h
  · exact h.elim⟩

/-! probitylaw26_DiskCrashes -/
def probitylaw26_DiskCrashes_k1d (a_1 : Sl) (b_2 : Int) (up_7 : Bool) (x_8 : Addr)  (K : Bool → World → Prop) (w : World) : Prop :=
  let w29 : World := w.drew
  ∃ S30 : World → Prop, S30 w29 ∧ ∃ x31 : Option Addr, (∀ w' : World, S30 w' → w'.cell? x_8 = some (Value.pointer x31)) ∧ ∃ x32 : Option Addr, (∀ w' : World, S30 w' → w'.cell? (x_8.add 1) = some (Value.pointer x32)) ∧ disk_Disk_Crash_sh x31 a_1 (fun (r34 : Option Addr) (w33 : World) => S30 w33 ∧ probityref26_Disk_Crash_sh x32 a_1 (fun (r36 : Option Addr) (w35 : World) => S30 w35 ∧ let w37 : World := w35.alloc (Obj.cells #[(Value.pointer r34), (Value.pointer r36)] 30)
  S30 w37 ∧ let w38 : World := w37.drew
  ∃ S39 : World → Prop, S39 w38 ∧ ∃ x40 : Option Addr, (∀ w' : World, S39 w' → w'.cell? x_8 = some (Value.pointer x40)) ∧ ∃ x41 : Option Addr, (∀ w' : World, S39 w' → w'.cell? (x_8.add 1) = some (Value.pointer x41)) ∧ probitylaw26_survive_sh b_2 (fun (r43 : Sl) (w42 : World) => S39 w42 ∧ disk_Disk_Crash_sh x40 r43 (fun (r45 : Option Addr) (w44 : World) => S39 w44 ∧ probitylaw26_survive_sh b_2 (fun (r47 : Sl) (w46 : World) => S39 w46 ∧ probityref26_Disk_Crash_sh x41 r47 (fun (r49 : Option Addr) (w48 : World) => S39 w48 ∧ let w50 : World := w48.alloc (Obj.cells #[(Value.pointer r45), (Value.pointer r49)] 30)
  S39 w50 ∧ probitylaw26_desk_same_sh (some (Addr.mk w35.heap.size 0 none)) (fun (r52 : Bool) (w51 : World) => probitylaw26_desk_same_sh (some (Addr.mk w48.heap.size 0 none)) (fun (r54 : Bool) (w53 : World) => probitylaw26_desk_same_sh (some x_8) (fun (r56 : Bool) (w55 : World) => cnd up_7
    (cnd r52
    (cnd r54
    (K r56 w55)
    (K false w55))
    (K false w55))
    (K false w55)) w53) w51) w50) w46) w44) w42) w38) w33) w29
structure probitylaw26_DiskCrashes_k1 (a_1 : Sl) (b_2 : Int) (up_7 : Bool) (x_8 : Addr)  (K : Bool → World → Prop) (w : World) : Prop where
  out : probitylaw26_DiskCrashes_k1d a_1 b_2 up_7 x_8 K w

def probitylaw26_DiskCrashes_b0 (l_0 : Sl) (a_1 : Sl) (b_2 : Int) (up_7 : Bool) (x_8 : Addr) (i_9 : Int) (N0 : Sl → Sl → Int → Bool → Addr → Int → World → Prop)  (K : Bool → World → Prop) (w : World) : Prop :=
  cnd (decide (i_9 < (l_0.l : Int)))
    (cnd (decide (i_9 < (20 : Int)))
    (nz l_0.p fun a9 => (0 ≤ i_9 ∧ i_9 < (l_0.l : Nat)) ∧ ∃ x10 : Int, w.cell? (a9.add (i_9.toNat * 4)) = some (Value.int .i64 x10) ∧ ∃ x11 : Int, w.cell? ((a9.add (i_9.toNat * 4)).add 1) = some (Value.int .i64 x11) ∧ ∃ x12 : Int, w.cell? ((a9.add (i_9.toNat * 4)).add 2) = some (Value.int .i64 x12) ∧ ∃ x13 : ByteArray, w.cell? ((a9.add (i_9.toNat * 4)).add 3) = some (Value.string x13) ∧ let w14 : World := w.alloc (Obj.cells #[(Value.int .i64 (0 : Int)), (Value.int .i64 (0 : Int)), (Value.int .i64 (0 : Int)), (Value.string (str []))] 33)
  wrOk w14 (Addr.mk w.heap.size 0 none) ∧ 
  (let w15 : World := w14.setCell (Addr.mk w.heap.size 0 none) (Value.int .i64 x10)
  wrOk w15 (Addr.mk w.heap.size 1 none) ∧ 
  (let w16 : World := w15.setCell (Addr.mk w.heap.size 1 none) (Value.int .i64 x11)
  wrOk w16 (Addr.mk w.heap.size 2 none) ∧ 
  (let w17 : World := w16.setCell (Addr.mk w.heap.size 2 none) (Value.int .i64 x12)
  wrOk w17 (Addr.mk w.heap.size 3 none) ∧ 
  (let w18 : World := w17.setCell (Addr.mk w.heap.size 3 none) (Value.string x13)
  ∃ x19 : Int, w18.cell? (Addr.mk w.heap.size 0 none) = some (Value.int .i64 x19) ∧ probityref26_Mod_sh x19 (5 : Int) (fun (r21 : Int) (w20 : World) => wrOk w20 (Addr.mk w.heap.size 0 none) ∧ 
  (let w22 : World := w20.setCell (Addr.mk w.heap.size 0 none) (Value.int .i64 r21)
  ∃ x23 : Int, w22.cell? (Addr.mk w.heap.size 0 none) = some (Value.int .i64 x23) ∧ ∃ x24 : Int, w22.cell? (Addr.mk w.heap.size 1 none) = some (Value.int .i64 x24) ∧ ∃ x25 : Int, w22.cell? (Addr.mk w.heap.size 2 none) = some (Value.int .i64 x25) ∧ ∃ x26 : ByteArray, w22.cell? (Addr.mk w.heap.size 3 none) = some (Value.string x26) ∧ probitylaw26_desk_do_sh (some x_8) x23 x24 x25 x26 (fun (r28 : Bool) (w27 : World) => cnd (!r28)
    (K false w27)
    (inR .i64 (i_9 + (1 : Int)) ∧ N0 l_0 a_1 b_2 up_7 x_8 (i_9 + (1 : Int)) w27)) w22)) w18)))))
    (probitylaw26_DiskCrashes_k1 a_1 b_2 up_7 x_8 K w))
    (probitylaw26_DiskCrashes_k1 a_1 b_2 up_7 x_8 K w)
def probitylaw26_DiskCrashes_l0d (l_0 : Sl) (a_1 : Sl) (b_2 : Int) (up_7 : Bool) (x_8 : Addr) (i_9 : Int)  (K : Bool → World → Prop) (w : World) : Prop :=
  ∃ (I : Int → World → Prop) (μ : Int → World → Nat), I i_9 w ∧ ∀ (i_91 : Int) (w1 : World), I i_91 w1 →
    probitylaw26_DiskCrashes_b0 l_0 a_1 b_2 up_7 x_8 i_91 (fun (l_0' : Sl) (a_1' : Sl) (b_2' : Int) (up_7' : Bool) (x_8' : Addr) (i_9' : Int) (w' : World) => ((l_0' = l_0 ∧ a_1' = a_1 ∧ b_2' = b_2 ∧ up_7' = up_7 ∧ x_8' = x_8 ∧ True) ∧ I i_9' w') ∧ μ i_9' w' < μ i_91 w1)  K w1
structure probitylaw26_DiskCrashes_l0 (l_0 : Sl) (a_1 : Sl) (b_2 : Int) (up_7 : Bool) (x_8 : Addr) (i_9 : Int)  (K : Bool → World → Prop) (w : World) : Prop where
  out : probitylaw26_DiskCrashes_l0d l_0 a_1 b_2 up_7 x_8 i_9 K w

def probitylaw26_DiskCrashes_sd (l_0 : Sl) (a_1 : Sl) (b_2 : Int) (K : Bool → World → Prop) (w : World) : Prop :=
  probitylaw26_sanity_sh (fun (r2 : Bool) (w1 : World) => disk_New_sh (fun (r4 : Option Addr) (w3 : World) => probityref26_New_sh (fun (r6 : Option Addr) (w5 : World) => let w7 : World := w5.alloc (Obj.cells #[(Value.pointer r4), (Value.pointer r6)] 30)
  ∃ x8 : Option Addr, w7.cell? (Addr.mk w5.heap.size 0 none) = some (Value.pointer x8) ∧ cnd x8.isNone
    (K false w7)
    (probitylaw26_DiskCrashes_l0 l_0 a_1 b_2 r2 (Addr.mk w5.heap.size 0 none) (0 : Int) K w7)) w3) w1) w

structure probitylaw26_DiskCrashes_sh (l_0 : Sl) (a_1 : Sl) (b_2 : Int) (K : Bool → World → Prop) (w : World) : Prop where
  out : probitylaw26_DiskCrashes_sd l_0 a_1 b_2 K w

def probitylaw26_DiskCrashes_P0 (Kv : VW) (ρ : Rho) (vs : List Value) (w : World) : Prop :=
  match ρ, vs with
  | _, [.slice l_0p l_0l l_0c, .slice a_1p a_1l a_1c, .int .i64 b_2, .bool up_7, .pointer (some x_8), .int .i64 i_9] => probitylaw26_DiskCrashes_l0 ⟨l_0p, l_0l, l_0c⟩ ⟨a_1p, a_1l, a_1c⟩ b_2 up_7 x_8 i_9  (fun (r0 : Bool) (w' : World) => Kv (Value.bool r0) w') w
  | _, _ => False

def probitylaw26_DiskCrashes_P1 (Kv : VW) (ρ : Rho) (vs : List Value) (w : World) : Prop :=
  match ρ, vs with
  | _, [.slice a_1p a_1l a_1c, .int .i64 b_2, .bool up_7, .pointer (some x_8)] => probitylaw26_DiskCrashes_k1 ⟨a_1p, a_1l, a_1c⟩ b_2 up_7 x_8  (fun (r0 : Bool) (w' : World) => Kv (Value.bool r0) w') w
  | _, _ => False

noncomputable def probitylaw26_DiskCrashes_S : Pw.Spec := fun vs w Kv =>
  match vs with
  | [.slice l_0p l_0l l_0c, .slice a_1p a_1l a_1c, .int .i64 b_2] => probitylaw26_DiskCrashes_sh ⟨l_0p, l_0l, l_0c⟩ ⟨a_1p, a_1l, a_1c⟩ b_2 (fun (r0 : Bool) (w' : World) => Kv (Value.bool r0) w') w
  | _ => False

noncomputable def probitylaw26_DiskCrashes_E : Pw.Env := [(12, probitylaw26_sanity_S), (13, disk_New_S), (14, probityref26_New_S), (15, probitylaw26_desk_do_S), (20, probitylaw26_desk_same_S), (21, probityref26_Mod_S), (22, disk_Disk_Crash_S), (23, probityref26_Disk_Crash_S), (24, probitylaw26_survive_S)]

noncomputable def probitylaw26_DiskCrashes_C : Code := (Try.f4.body).getD .skip

noncomputable def probitylaw26_DiskCrashes_A (Kv : VW) : Pw.A :=
  (A.seq (A.reg (RA.run RA.done))
   (A.seq (A.reg (RA.run (RA.run RA.done)))
   (A.seq (A.reg (RA.run (RA.run (RA.run (RA.run (RA.run RA.done))))))
   (A.seq (A.seq (A.reg (RA.run (RA.run (RA.run (RA.run (RA.run RA.done))))))
   (A.cond (A.seq (A.reg (RA.run RA.done))
   A.leaf)
   A.leaf))
   (A.seq (A.seq (A.reg (RA.run RA.done))
   (A.blk (A.loop [0, 1, 2, 7, 8, 9] (probitylaw26_DiskCrashes_P0 Kv) (A.seq (A.seq (A.reg (RA.run (RA.run (RA.run (RA.run (RA.run (RA.spl 31 (RA.run (RA.run (RA.run RA.done))) (RA.skp (RA.skp (RA.run RA.done))))))))))
   (A.cond A.leaf
   A.leaf))
   (A.seq (A.blk (A.seq (A.reg (RA.run (RA.run (RA.run (RA.run (RA.run (RA.run RA.done)))))))
   (A.seq (A.reg (RA.run (RA.run (RA.run (RA.run (RA.run RA.done))))))
   (A.seq (A.reg (RA.run (RA.run (RA.run (RA.run RA.done)))))
   (A.seq (A.reg (RA.run (RA.run RA.done)))
   (A.cond (A.seq (A.reg (RA.run RA.done))
   A.leaf)
   A.leaf))))))
   (A.reg (RA.run (RA.run (RA.run RA.done)))))))))
   (A.cut [1, 2, 7, 8] (probitylaw26_DiskCrashes_P1 Kv) (A.seq (A.drw (DA.pur 0 (DA.pur 1 (DA.pur 2 (DA.pur 3 (DA.pur 4 (DA.pur 6 (DA.pur 7 (DA.pur 8 (DA.pur 9 (DA.pur 10 (DA.eff 5 (DA.eff 11 (DA.pur 12 (DA.eff 13 (DA.pur 14 DA.done))))))))))))))))
   (A.seq (A.drw (DA.pur 0 (DA.pur 1 (DA.pur 2 (DA.pur 3 (DA.pur 4 (DA.pur 7 (DA.pur 8 (DA.pur 9 (DA.pur 10 (DA.pur 11 (DA.eff 5 (DA.eff 6 (DA.eff 12 (DA.eff 13 (DA.pur 14 (DA.eff 15 (DA.pur 16 DA.done))))))))))))))))))
   (A.seq (A.reg (RA.run (RA.run (RA.run RA.done))))
   (A.seq (A.reg (RA.run (RA.run (RA.run RA.done))))
   (A.seq (A.reg (RA.run (RA.run (RA.run RA.done))))
   (A.seq (A.reg (RA.run (RA.run (RA.spl 87 (RA.run (RA.run (RA.run (RA.spl 90 (RA.run (RA.run (RA.run (RA.spl 93 (RA.run (RA.run (RA.run RA.done))) (RA.skp (RA.run (RA.run RA.done))))))) (RA.skp (RA.run (RA.run (RA.skp (RA.run (RA.run RA.done)))))))))) (RA.skp (RA.run (RA.run (RA.skp (RA.run (RA.run (RA.skp (RA.run (RA.run RA.done)))))))))))))
   A.leaf))))))))))))

noncomputable def probitylaw26_DiskCrashes_O (Kv : VW) : List Ob := (obs Try.prog probitylaw26_DiskCrashes_E 96 (probitylaw26_DiskCrashes_A Kv) probitylaw26_DiskCrashes_C (fun _ => retQ Try.prog Try.f4.results Kv))

theorem probitylaw26_DiskCrashes_e (Kv : VW) (l_0p : Option Addr) (l_0l l_0c : Nat) (a_1p : Option Addr) (a_1l a_1c : Nat) (b_2 : Int) (w : World) : probitylaw26_DiskCrashes_sd ⟨l_0p, l_0l, l_0c⟩ ⟨a_1p, a_1l, a_1c⟩ b_2 (fun (r0 : Bool) (w' : World) => Kv (Value.bool r0) w') w = W Try.prog probitylaw26_DiskCrashes_E 96 (probitylaw26_DiskCrashes_A Kv) probitylaw26_DiskCrashes_C [] (retQ Try.prog Try.f4.results Kv) (startS [(Value.slice l_0p l_0l l_0c), (Value.slice a_1p a_1l a_1c), (Value.int .i64 b_2)]) w := by kernel_rfl

theorem probitylaw26_DiskCrashes_e0 (Kv : VW) (N0 : List Value → World → Prop) (ρ : Rho) (l_0p : Option Addr) (l_0l l_0c : Nat) (a_1p : Option Addr) (a_1l a_1c : Nat) (b_2 : Int) (up_7 : Bool) (x_8 : Addr) (i_9 : Int) (w : World) : probitylaw26_DiskCrashes_b0 ⟨l_0p, l_0l, l_0c⟩ ⟨a_1p, a_1l, a_1c⟩ b_2 up_7 x_8 i_9 (fun (l_0' : Sl) (a_1' : Sl) (b_2' : Int) (up_7' : Bool) (x_8' : Addr) (i_9' : Int) (w' : World) => N0 [(Value.slice l_0'.p l_0'.l l_0'.c), (Value.slice a_1'.p a_1'.l a_1'.c), (Value.int .i64 b_2'), (Value.bool up_7'), (Value.pointer (some x_8')), (Value.int .i64 i_9')] w')  (fun (r0 : Bool) (w' : World) => Kv (Value.bool r0) w') w = goalAt Try.prog probitylaw26_DiskCrashes_E 96 (probitylaw26_DiskCrashes_O Kv) 0 (N0 :: ρ) [(Value.slice l_0p l_0l l_0c), (Value.slice a_1p a_1l a_1c), (Value.int .i64 b_2), (Value.bool up_7), (Value.pointer (some x_8)), (Value.int .i64 i_9)] w := by kernel_rfl

theorem probitylaw26_DiskCrashes_q0 (Kv : VW) (ρ : Rho) (vs : List Value) (w : World) : labAt (probitylaw26_DiskCrashes_O Kv) 0 ρ vs w = probitylaw26_DiskCrashes_P0 Kv ρ vs w := by kernel_rfl

def probitylaw26_DiskCrashes_I0 (l_00 : Sl) (a_10 : Sl) (b_20 : Int) (up_70 : Bool) (x_80 : Addr) (I : Int → World → Prop) (vs : List Value) (w : World) : Prop :=
  match vs with
  | [.slice l_0p l_0l l_0c, .slice a_1p a_1l a_1c, .int .i64 b_2, .bool up_7, .pointer (some x_8), .int .i64 i_9] => (⟨l_0p, l_0l, l_0c⟩ = l_00 ∧ ⟨a_1p, a_1l, a_1c⟩ = a_10 ∧ b_2 = b_20 ∧ up_7 = up_70 ∧ x_8 = x_80 ∧ True) ∧ I i_9 w
  | _ => False

def probitylaw26_DiskCrashes_M0 (μ : Int → World → Nat) (vs : List Value) (w : World) : Nat :=
  match vs with
  | [.slice l_0p l_0l l_0c, .slice a_1p a_1l a_1c, .int .i64 b_2, .bool up_7, .pointer (some x_8), .int .i64 i_9] => μ i_9 w
  | _ => 0

theorem probitylaw26_DiskCrashes_h0 (Kv : VW) : holdsAt Try.prog probitylaw26_DiskCrashes_E 96 (probitylaw26_DiskCrashes_O Kv) 0 := holdsAt_loop (by kernel_rfl) (fun ρ vs w h => by
  rw [probitylaw26_DiskCrashes_q0] at h
  unfold probitylaw26_DiskCrashes_P0 at h
  split at h
  · rename_i ρt l_0p l_0l l_0c a_1p a_1l a_1c b_2 up_7 x_8 i_9
    obtain ⟨I, μ, h0, hr⟩ := h.out
    refine ⟨probitylaw26_DiskCrashes_I0 ⟨l_0p, l_0l, l_0c⟩ ⟨a_1p, a_1l, a_1c⟩ b_2 up_7 x_8 I, probitylaw26_DiskCrashes_M0 μ, ⟨⟨rfl, rfl, rfl, rfl, rfl, trivial⟩, h0⟩, fun vs w hI => ?_⟩
    unfold probitylaw26_DiskCrashes_I0 at hI
    split at hI
    · obtain ⟨⟨h0, h1, h2, h3, h4, _⟩, hI⟩ := hI
      cases h0; cases h1; cases h2; cases h3; cases h4
      rw [← probitylaw26_DiskCrashes_e0]
      exact hr _ _ hI
    · exact hI.elim
  · exact h.elim)

theorem probitylaw26_DiskCrashes_e1 (Kv : VW) (ρ : Rho) (a_1p : Option Addr) (a_1l a_1c : Nat) (b_2 : Int) (up_7 : Bool) (x_8 : Addr) (w : World) : probitylaw26_DiskCrashes_k1d ⟨a_1p, a_1l, a_1c⟩ b_2 up_7 x_8  (fun (r0 : Bool) (w' : World) => Kv (Value.bool r0) w') w = goalAt Try.prog probitylaw26_DiskCrashes_E 96 (probitylaw26_DiskCrashes_O Kv) 1 (ρ) [(Value.slice a_1p a_1l a_1c), (Value.int .i64 b_2), (Value.bool up_7), (Value.pointer (some x_8))] w := by kernel_rfl

theorem probitylaw26_DiskCrashes_q1 (Kv : VW) (ρ : Rho) (vs : List Value) (w : World) : labAt (probitylaw26_DiskCrashes_O Kv) 1 ρ vs w = probitylaw26_DiskCrashes_P1 Kv ρ vs w := by kernel_rfl

theorem probitylaw26_DiskCrashes_h1 (Kv : VW) : holdsAt Try.prog probitylaw26_DiskCrashes_E 96 (probitylaw26_DiskCrashes_O Kv) 1 := holdsAt_cut (by kernel_rfl) (fun ρ vs w h => by
  rw [probitylaw26_DiskCrashes_q1] at h
  unfold probitylaw26_DiskCrashes_P1 at h
  split at h
  · rw [← probitylaw26_DiskCrashes_e1]; exact h.out
  · exact h.elim)

theorem probitylaw26_DiskCrashes_n (Kv : VW) : obAt (probitylaw26_DiskCrashes_O Kv) 2 = none := by kernel_rfl

theorem probitylaw26_DiskCrashes_h (Kv : VW) : ∀ k, holdsAt Try.prog probitylaw26_DiskCrashes_E 96 (probitylaw26_DiskCrashes_O Kv) k := fun k => match k with
  | 0 => probitylaw26_DiskCrashes_h0 Kv
  | 1 => probitylaw26_DiskCrashes_h1 Kv
  | k + 2 => holdsAt_ge (probitylaw26_DiskCrashes_n Kv) (Nat.le_add_left _ _)

theorem probitylaw26_DiskCrashes_ok : Sound Try.prog 4 probitylaw26_DiskCrashes_S := ⟨Try.call4, fun vs w Kv h => by
  unfold probitylaw26_DiskCrashes_S at h
  split at h
  · have h := h.out
    rw [probitylaw26_DiskCrashes_e] at h
    exact calls_sound (Γ := probitylaw26_DiskCrashes_E) progMixed ⟨probitylaw26_sanity_ok, disk_New_ok, probityref26_New_ok, probitylaw26_desk_do_ok, probitylaw26_desk_same_ok, probityref26_Mod_ok, disk_Disk_Crash_ok, probityref26_Disk_Crash_ok, probitylaw26_survive_ok, trivial⟩ Try.func4 (code := probitylaw26_DiskCrashes_C) (by kernel_rfl) (probitylaw26_DiskCrashes_A Kv) Kv (holds_all (probitylaw26_DiskCrashes_h Kv)) (Nat.le_of_ble_eq_true rfl) h
  · exact h.elim⟩

/-! probitylaw26_DiskSynced -/
def probitylaw26_DiskSynced_k1d (q_2 : Sl) (t_4 : Addr) (up_7 : Bool) (x_8 : Addr)  (K : Bool → World → Prop) (w : World) : Prop :=
  ∃ x20 : Option Addr, w.cell? x_8 = some (Value.pointer x20) ∧ disk_Disk_Sync_sh x20 (fun (r22 : Int) (w21 : World) => ∃ x23 : Option Addr, w21.cell? x_8 = some (Value.pointer x23) ∧ disk_Disk_Size_sh x23 (fun (r25 : Int) (w24 : World) => ∃ x26 : Option Addr, w24.cell? x_8 = some (Value.pointer x26) ∧ disk_Disk_Read_sh x26 (0 : Int) r25 (fun (r28 : ByteArray) (w27 : World) => let w29 : World := w27.drew
  ∃ S30 : World → Prop, S30 w29 ∧ ∃ x31 : Option Addr, (∀ w' : World, S30 w' → w'.cell? x_8 = some (Value.pointer x31)) ∧ (0 ≤ (0 : Int) ∧ (0 : Int) < (2 : Nat)) ∧ ∃ x32 : Int, (∀ w' : World, S30 w' → w'.cell? (t_4.add ((0 : Int).toNat * 1)) = some (Value.int .i64 x32)) ∧ (0 ≤ (1 : Int) ∧ (1 : Int) < (2 : Nat)) ∧ ∃ x33 : Int, (∀ w' : World, S30 w' → w'.cell? (t_4.add ((1 : Int).toNat * 1)) = some (Value.int .i64 x33)) ∧ probityref26_Mod_sh x32 (100 : Int) (fun (r35 : Int) (w34 : World) => S30 w34 ∧ inR .i64 (r25 + r35) ∧ probityref26_Mod_sh x33 (150 : Int) (fun (r37 : Int) (w36 : World) => S30 w36 ∧ probitylaw26_repeated_sh (121 : Int) r37 (fun (r39 : ByteArray) (w38 : World) => S30 w38 ∧ disk_Disk_Write_sh x31 (r25 + r35) r39 (fun (r41 : Int) (w40 : World) => S30 w40 ∧ ∃ x42 : Option Addr, w40.cell? x_8 = some (Value.pointer x42) ∧ disk_Disk_Crash_sh x42 q_2 (fun (r44 : Option Addr) (w43 : World) => cnd up_7
    (cnd (r22 == (0 : Int))
    (cnd (r41 == (0 : Int))
    (cnd (!r44.isNone)
    (disk_Disk_Read_sh r44 (0 : Int) r25 (fun (r46 : ByteArray) (w45 : World) => K (decide (r46 = r28)) w45) w43)
    (K false w43))
    (K false w43))
    (K false w43))
    (K false w43)) w40) w38) w36) w34) w29) w24) w21) w
structure probitylaw26_DiskSynced_k1 (q_2 : Sl) (t_4 : Addr) (up_7 : Bool) (x_8 : Addr)  (K : Bool → World → Prop) (w : World) : Prop where
  out : probitylaw26_DiskSynced_k1d q_2 t_4 up_7 x_8 K w

def probitylaw26_DiskSynced_b0 (l_0 : Sl) (q_2 : Sl) (t_4 : Addr) (up_7 : Bool) (x_8 : Addr) (i_9 : Int) (N0 : Sl → Sl → Addr → Bool → Addr → Int → World → Prop)  (K : Bool → World → Prop) (w : World) : Prop :=
  cnd (decide (i_9 < (l_0.l : Int)))
    (cnd (decide (i_9 < (10 : Int)))
    (let w10 : World := w.drew
  ∃ S11 : World → Prop, S11 w10 ∧ nz l_0.p fun a12 => (0 ≤ i_9 ∧ i_9 < (l_0.l : Nat)) ∧ ∃ x13 : Int, (∀ w' : World, S11 w' → w'.cell? ((a12.add (i_9.toNat * 4)).add 1) = some (Value.int .i64 x13)) ∧ (4 : Int) ≠ 0 ∧ nz l_0.p fun a14 => (0 ≤ i_9 ∧ i_9 < (l_0.l : Nat)) ∧ ∃ x15 : Int, (∀ w' : World, S11 w' → w'.cell? ((a14.add (i_9.toNat * 4)).add 2) = some (Value.int .i64 x15)) ∧ nz l_0.p fun a16 => (0 ≤ i_9 ∧ i_9 < (l_0.l : Nat)) ∧ ∃ x17 : ByteArray, (∀ w' : World, S11 w' → w'.cell? ((a16.add (i_9.toNat * 4)).add 3) = some (Value.string x17)) ∧ probitylaw26_desk_do_sh (some x_8) (0 : Int) (Int.tmod x13 (4 : Int)) x15 x17 (fun (r19 : Bool) (w18 : World) => S11 w18 ∧ cnd (!r19)
    (K false w18)
    (inR .i64 (i_9 + (1 : Int)) ∧ N0 l_0 q_2 t_4 up_7 x_8 (i_9 + (1 : Int)) w18)) w10)
    (probitylaw26_DiskSynced_k1 q_2 t_4 up_7 x_8 K w))
    (probitylaw26_DiskSynced_k1 q_2 t_4 up_7 x_8 K w)
def probitylaw26_DiskSynced_l0d (l_0 : Sl) (q_2 : Sl) (t_4 : Addr) (up_7 : Bool) (x_8 : Addr) (i_9 : Int)  (K : Bool → World → Prop) (w : World) : Prop :=
  ∃ (I : Int → World → Prop) (μ : Int → World → Nat), I i_9 w ∧ ∀ (i_91 : Int) (w1 : World), I i_91 w1 →
    probitylaw26_DiskSynced_b0 l_0 q_2 t_4 up_7 x_8 i_91 (fun (l_0' : Sl) (q_2' : Sl) (t_4' : Addr) (up_7' : Bool) (x_8' : Addr) (i_9' : Int) (w' : World) => ((l_0' = l_0 ∧ q_2' = q_2 ∧ t_4' = t_4 ∧ up_7' = up_7 ∧ x_8' = x_8 ∧ True) ∧ I i_9' w') ∧ μ i_9' w' < μ i_91 w1)  K w1
structure probitylaw26_DiskSynced_l0 (l_0 : Sl) (q_2 : Sl) (t_4 : Addr) (up_7 : Bool) (x_8 : Addr) (i_9 : Int)  (K : Bool → World → Prop) (w : World) : Prop where
  out : probitylaw26_DiskSynced_l0d l_0 q_2 t_4 up_7 x_8 i_9 K w

def probitylaw26_DiskSynced_sd (l_0 : Sl) (t_1_0 : Int) (t_1_1 : Int) (q_2 : Sl) (K : Bool → World → Prop) (w : World) : Prop :=
  let w1 : World := w.alloc (Obj.cells #[(Value.int .i64 t_1_0), (Value.int .i64 t_1_1)] 42)
  probitylaw26_sanity_sh (fun (r3 : Bool) (w2 : World) => disk_New_sh (fun (r5 : Option Addr) (w4 : World) => probityref26_New_sh (fun (r7 : Option Addr) (w6 : World) => let w8 : World := w6.alloc (Obj.cells #[(Value.pointer r5), (Value.pointer r7)] 30)
  ∃ x9 : Option Addr, w8.cell? (Addr.mk w6.heap.size 0 none) = some (Value.pointer x9) ∧ cnd x9.isNone
    (K false w8)
    (probitylaw26_DiskSynced_l0 l_0 q_2 (Addr.mk w.heap.size 0 none) r3 (Addr.mk w6.heap.size 0 none) (0 : Int) K w8)) w4) w2) w1

structure probitylaw26_DiskSynced_sh (l_0 : Sl) (t_1_0 : Int) (t_1_1 : Int) (q_2 : Sl) (K : Bool → World → Prop) (w : World) : Prop where
  out : probitylaw26_DiskSynced_sd l_0 t_1_0 t_1_1 q_2 K w

def probitylaw26_DiskSynced_P0 (Kv : VW) (ρ : Rho) (vs : List Value) (w : World) : Prop :=
  match ρ, vs with
  | _, [.slice l_0p l_0l l_0c, .slice q_2p q_2l q_2c, .pointer (some t_4), .bool up_7, .pointer (some x_8), .int .i64 i_9] => probitylaw26_DiskSynced_l0 ⟨l_0p, l_0l, l_0c⟩ ⟨q_2p, q_2l, q_2c⟩ t_4 up_7 x_8 i_9  (fun (r0 : Bool) (w' : World) => Kv (Value.bool r0) w') w
  | _, _ => False

def probitylaw26_DiskSynced_P1 (Kv : VW) (ρ : Rho) (vs : List Value) (w : World) : Prop :=
  match ρ, vs with
  | _, [.slice q_2p q_2l q_2c, .pointer (some t_4), .bool up_7, .pointer (some x_8)] => probitylaw26_DiskSynced_k1 ⟨q_2p, q_2l, q_2c⟩ t_4 up_7 x_8  (fun (r0 : Bool) (w' : World) => Kv (Value.bool r0) w') w
  | _, _ => False

noncomputable def probitylaw26_DiskSynced_S : Pw.Spec := fun vs w Kv =>
  match vs with
  | [.slice l_0p l_0l l_0c, .agg ⟨[.int .i64 t_1_0, .int .i64 t_1_1]⟩, .slice q_2p q_2l q_2c] => probitylaw26_DiskSynced_sh ⟨l_0p, l_0l, l_0c⟩ t_1_0 t_1_1 ⟨q_2p, q_2l, q_2c⟩ (fun (r0 : Bool) (w' : World) => Kv (Value.bool r0) w') w
  | _ => False

noncomputable def probitylaw26_DiskSynced_E : Pw.Env := [(12, probitylaw26_sanity_S), (13, disk_New_S), (14, probityref26_New_S), (15, probitylaw26_desk_do_S), (16, disk_Disk_Size_S), (21, probityref26_Mod_S), (22, disk_Disk_Crash_S), (25, disk_Disk_Sync_S), (26, disk_Disk_Read_S), (27, disk_Disk_Write_S), (28, probitylaw26_repeated_S)]

noncomputable def probitylaw26_DiskSynced_C : Code := (Try.f5.body).getD .skip

noncomputable def probitylaw26_DiskSynced_A (Kv : VW) : Pw.A :=
  (A.seq (A.reg (RA.run (RA.run RA.done)))
   (A.seq (A.reg (RA.run (RA.run RA.done)))
   (A.seq (A.reg (RA.run (RA.run (RA.run (RA.run (RA.run RA.done))))))
   (A.seq (A.seq (A.reg (RA.run (RA.run (RA.run (RA.run (RA.run RA.done))))))
   (A.cond (A.seq (A.reg (RA.run RA.done))
   A.leaf)
   A.leaf))
   (A.seq (A.seq (A.reg (RA.run RA.done))
   (A.blk (A.loop [0, 2, 4, 7, 8, 9] (probitylaw26_DiskSynced_P0 Kv) (A.seq (A.seq (A.reg (RA.run (RA.run (RA.run (RA.run (RA.run (RA.spl 30 (RA.run (RA.run (RA.run RA.done))) (RA.skp (RA.skp (RA.run RA.done))))))))))
   (A.cond A.leaf
   A.leaf))
   (A.seq (A.blk (A.seq (A.drw (DA.pur 0 (DA.pur 1 (DA.pur 2 (DA.pur 3 (DA.pur 4 (DA.pur 5 (DA.pur 6 (DA.pur 7 (DA.pur 8 (DA.pur 9 (DA.pur 10 (DA.pur 11 (DA.pur 12 (DA.pur 13 (DA.pur 14 (DA.pur 15 (DA.pur 16 (DA.pur 17 (DA.eff 18 (DA.pur 19 DA.done)))))))))))))))))))))
   (A.seq (A.reg (RA.run (RA.run RA.done)))
   (A.cond (A.seq (A.reg (RA.run RA.done))
   A.leaf)
   A.leaf))))
   (A.reg (RA.run (RA.run (RA.run RA.done)))))))))
   (A.cut [2, 4, 7, 8] (probitylaw26_DiskSynced_P1 Kv) (A.seq (A.reg (RA.run (RA.run (RA.run (RA.run (RA.run (RA.run RA.done)))))))
   (A.seq (A.reg (RA.run (RA.run (RA.run (RA.run (RA.run (RA.run RA.done)))))))
   (A.seq (A.reg (RA.run (RA.run (RA.run (RA.run (RA.run (RA.run (RA.run RA.done))))))))
   (A.seq (A.drw (DA.pur 0 (DA.pur 1 (DA.pur 2 (DA.pur 3 (DA.pur 4 (DA.pur 5 (DA.pur 6 (DA.pur 9 (DA.pur 10 (DA.eff 7 (DA.pur 8 (DA.eff 11 (DA.eff 12 (DA.eff 13 (DA.pur 14 DA.done))))))))))))))))
   (A.seq (A.reg (RA.run (RA.run (RA.run (RA.run (RA.run (RA.run (RA.run RA.done))))))))
   (A.seq (A.reg (RA.run (RA.run (RA.spl 94 (RA.run (RA.run (RA.run (RA.run (RA.spl 98 (RA.run (RA.run (RA.run (RA.run (RA.spl 102 (RA.run (RA.run (RA.run (RA.run (RA.spl 106 (RA.run (RA.run (RA.run (RA.run (RA.run (RA.run (RA.run RA.done))))))) (RA.skp (RA.skp (RA.skp (RA.skp (RA.skp (RA.run (RA.run RA.done)))))))))))) (RA.skp (RA.skp (RA.run (RA.run (RA.skp (RA.skp (RA.skp (RA.skp (RA.skp (RA.run (RA.run RA.done)))))))))))))))) (RA.skp (RA.skp (RA.run (RA.run (RA.skp (RA.skp (RA.run (RA.run (RA.skp (RA.skp (RA.skp (RA.skp (RA.skp (RA.run (RA.run RA.done)))))))))))))))))))) (RA.skp (RA.skp (RA.run (RA.run (RA.skp (RA.skp (RA.run (RA.run (RA.skp (RA.skp (RA.run (RA.run (RA.skp (RA.skp (RA.skp (RA.skp (RA.skp (RA.run (RA.run RA.done)))))))))))))))))))))))
   A.leaf))))))))))))

noncomputable def probitylaw26_DiskSynced_O (Kv : VW) : List Ob := (obs Try.prog probitylaw26_DiskSynced_E 113 (probitylaw26_DiskSynced_A Kv) probitylaw26_DiskSynced_C (fun _ => retQ Try.prog Try.f5.results Kv))

theorem probitylaw26_DiskSynced_e (Kv : VW) (l_0p : Option Addr) (l_0l l_0c : Nat) (t_1_0 : Int) (t_1_1 : Int) (q_2p : Option Addr) (q_2l q_2c : Nat) (w : World) : probitylaw26_DiskSynced_sd ⟨l_0p, l_0l, l_0c⟩ t_1_0 t_1_1 ⟨q_2p, q_2l, q_2c⟩ (fun (r0 : Bool) (w' : World) => Kv (Value.bool r0) w') w = W Try.prog probitylaw26_DiskSynced_E 113 (probitylaw26_DiskSynced_A Kv) probitylaw26_DiskSynced_C [] (retQ Try.prog Try.f5.results Kv) (startS [(Value.slice l_0p l_0l l_0c), (Value.agg #[(Value.int .i64 t_1_0), (Value.int .i64 t_1_1)]), (Value.slice q_2p q_2l q_2c)]) w := by kernel_rfl

theorem probitylaw26_DiskSynced_e0 (Kv : VW) (N0 : List Value → World → Prop) (ρ : Rho) (l_0p : Option Addr) (l_0l l_0c : Nat) (q_2p : Option Addr) (q_2l q_2c : Nat) (t_4 : Addr) (up_7 : Bool) (x_8 : Addr) (i_9 : Int) (w : World) : probitylaw26_DiskSynced_b0 ⟨l_0p, l_0l, l_0c⟩ ⟨q_2p, q_2l, q_2c⟩ t_4 up_7 x_8 i_9 (fun (l_0' : Sl) (q_2' : Sl) (t_4' : Addr) (up_7' : Bool) (x_8' : Addr) (i_9' : Int) (w' : World) => N0 [(Value.slice l_0'.p l_0'.l l_0'.c), (Value.slice q_2'.p q_2'.l q_2'.c), (Value.pointer (some t_4')), (Value.bool up_7'), (Value.pointer (some x_8')), (Value.int .i64 i_9')] w')  (fun (r0 : Bool) (w' : World) => Kv (Value.bool r0) w') w = goalAt Try.prog probitylaw26_DiskSynced_E 113 (probitylaw26_DiskSynced_O Kv) 0 (N0 :: ρ) [(Value.slice l_0p l_0l l_0c), (Value.slice q_2p q_2l q_2c), (Value.pointer (some t_4)), (Value.bool up_7), (Value.pointer (some x_8)), (Value.int .i64 i_9)] w := by kernel_rfl

theorem probitylaw26_DiskSynced_q0 (Kv : VW) (ρ : Rho) (vs : List Value) (w : World) : labAt (probitylaw26_DiskSynced_O Kv) 0 ρ vs w = probitylaw26_DiskSynced_P0 Kv ρ vs w := by kernel_rfl

def probitylaw26_DiskSynced_I0 (l_00 : Sl) (q_20 : Sl) (t_40 : Addr) (up_70 : Bool) (x_80 : Addr) (I : Int → World → Prop) (vs : List Value) (w : World) : Prop :=
  match vs with
  | [.slice l_0p l_0l l_0c, .slice q_2p q_2l q_2c, .pointer (some t_4), .bool up_7, .pointer (some x_8), .int .i64 i_9] => (⟨l_0p, l_0l, l_0c⟩ = l_00 ∧ ⟨q_2p, q_2l, q_2c⟩ = q_20 ∧ t_4 = t_40 ∧ up_7 = up_70 ∧ x_8 = x_80 ∧ True) ∧ I i_9 w
  | _ => False

def probitylaw26_DiskSynced_M0 (μ : Int → World → Nat) (vs : List Value) (w : World) : Nat :=
  match vs with
  | [.slice l_0p l_0l l_0c, .slice q_2p q_2l q_2c, .pointer (some t_4), .bool up_7, .pointer (some x_8), .int .i64 i_9] => μ i_9 w
  | _ => 0

theorem probitylaw26_DiskSynced_h0 (Kv : VW) : holdsAt Try.prog probitylaw26_DiskSynced_E 113 (probitylaw26_DiskSynced_O Kv) 0 := holdsAt_loop (by kernel_rfl) (fun ρ vs w h => by
  rw [probitylaw26_DiskSynced_q0] at h
  unfold probitylaw26_DiskSynced_P0 at h
  split at h
  · rename_i ρt l_0p l_0l l_0c q_2p q_2l q_2c t_4 up_7 x_8 i_9
    obtain ⟨I, μ, h0, hr⟩ := h.out
    refine ⟨probitylaw26_DiskSynced_I0 ⟨l_0p, l_0l, l_0c⟩ ⟨q_2p, q_2l, q_2c⟩ t_4 up_7 x_8 I, probitylaw26_DiskSynced_M0 μ, ⟨⟨rfl, rfl, rfl, rfl, rfl, trivial⟩, h0⟩, fun vs w hI => ?_⟩
    unfold probitylaw26_DiskSynced_I0 at hI
    split at hI
    · obtain ⟨⟨h0, h1, h2, h3, h4, _⟩, hI⟩ := hI
      cases h0; cases h1; cases h2; cases h3; cases h4
      rw [← probitylaw26_DiskSynced_e0]
      exact hr _ _ hI
    · exact hI.elim
  · exact h.elim)

theorem probitylaw26_DiskSynced_e1 (Kv : VW) (ρ : Rho) (q_2p : Option Addr) (q_2l q_2c : Nat) (t_4 : Addr) (up_7 : Bool) (x_8 : Addr) (w : World) : probitylaw26_DiskSynced_k1d ⟨q_2p, q_2l, q_2c⟩ t_4 up_7 x_8  (fun (r0 : Bool) (w' : World) => Kv (Value.bool r0) w') w = goalAt Try.prog probitylaw26_DiskSynced_E 113 (probitylaw26_DiskSynced_O Kv) 1 (ρ) [(Value.slice q_2p q_2l q_2c), (Value.pointer (some t_4)), (Value.bool up_7), (Value.pointer (some x_8))] w := by kernel_rfl

theorem probitylaw26_DiskSynced_q1 (Kv : VW) (ρ : Rho) (vs : List Value) (w : World) : labAt (probitylaw26_DiskSynced_O Kv) 1 ρ vs w = probitylaw26_DiskSynced_P1 Kv ρ vs w := by kernel_rfl

theorem probitylaw26_DiskSynced_h1 (Kv : VW) : holdsAt Try.prog probitylaw26_DiskSynced_E 113 (probitylaw26_DiskSynced_O Kv) 1 := holdsAt_cut (by kernel_rfl) (fun ρ vs w h => by
  rw [probitylaw26_DiskSynced_q1] at h
  unfold probitylaw26_DiskSynced_P1 at h
  split at h
  · rw [← probitylaw26_DiskSynced_e1]; exact h.out
  · exact h.elim)

theorem probitylaw26_DiskSynced_n (Kv : VW) : obAt (probitylaw26_DiskSynced_O Kv) 2 = none := by kernel_rfl

theorem probitylaw26_DiskSynced_h (Kv : VW) : ∀ k, holdsAt Try.prog probitylaw26_DiskSynced_E 113 (probitylaw26_DiskSynced_O Kv) k := fun k => match k with
  | 0 => probitylaw26_DiskSynced_h0 Kv
  | 1 => probitylaw26_DiskSynced_h1 Kv
  | k + 2 => holdsAt_ge (probitylaw26_DiskSynced_n Kv) (Nat.le_add_left _ _)

theorem probitylaw26_DiskSynced_ok : Sound Try.prog 5 probitylaw26_DiskSynced_S := ⟨Try.call5, fun vs w Kv h => by
  unfold probitylaw26_DiskSynced_S at h
  split at h
  · have h := h.out
    rw [probitylaw26_DiskSynced_e] at h
    exact calls_sound (Γ := probitylaw26_DiskSynced_E) progMixed ⟨probitylaw26_sanity_ok, disk_New_ok, probityref26_New_ok, probitylaw26_desk_do_ok, disk_Disk_Size_ok, probityref26_Mod_ok, disk_Disk_Crash_ok, disk_Disk_Sync_ok, disk_Disk_Read_ok, disk_Disk_Write_ok, probitylaw26_repeated_ok, trivial⟩ Try.func5 (code := probitylaw26_DiskSynced_C) (by kernel_rfl) (probitylaw26_DiskSynced_A Kv) Kv (holds_all (probitylaw26_DiskSynced_h Kv)) (Nat.le_of_ble_eq_true rfl) h
  · exact h.elim⟩

/-! probitylaw26_DiskAgain -/
def probitylaw26_DiskAgain_k1d (a_1 : Sl) (b_2 : Sl) (up_7 : Bool) (x_8 : Addr)  (K : Bool → World → Prop) (w : World) : Prop :=
  ∃ x16 : Option Addr, w.cell? x_8 = some (Value.pointer x16) ∧ disk_Disk_Crash_sh x16 a_1 (fun (r18 : Option Addr) (w17 : World) => cnd r18.isNone
    (K false w17)
    (disk_Disk_Crash_sh r18 b_2 (fun (r20 : Option Addr) (w19 : World) => cnd up_7
    (cnd (!r20.isNone)
    (disk_Disk_Size_sh r20 (fun (r22 : Int) (w21 : World) => disk_Disk_Size_sh r18 (fun (r24 : Int) (w23 : World) => cnd (r22 == r24)
    (disk_Disk_Read_sh r20 (0 : Int) (33554432 : Int) (fun (r26 : ByteArray) (w25 : World) => disk_Disk_Read_sh r18 (0 : Int) (33554432 : Int) (fun (r28 : ByteArray) (w27 : World) => cnd (decide (r26 = r28))
    (disk_Disk_Calls_sh r20 (fun (r30 : Int) (w29 : World) => K (r30 == (0 : Int)) w29) w27)
    (K false w27)) w25) w23)
    (K false w23)) w21) w19)
    (K false w19))
    (K false w19)) w17)) w
structure probitylaw26_DiskAgain_k1 (a_1 : Sl) (b_2 : Sl) (up_7 : Bool) (x_8 : Addr)  (K : Bool → World → Prop) (w : World) : Prop where
  out : probitylaw26_DiskAgain_k1d a_1 b_2 up_7 x_8 K w

def probitylaw26_DiskAgain_b0 (l_0 : Sl) (a_1 : Sl) (b_2 : Sl) (up_7 : Bool) (x_8 : Addr) (i_9 : Int) (N0 : Sl → Sl → Sl → Bool → Addr → Int → World → Prop)  (K : Bool → World → Prop) (w : World) : Prop :=
  cnd (decide (i_9 < (l_0.l : Int)))
    (cnd (decide (i_9 < (15 : Int)))
    (nz l_0.p fun a9 => (0 ≤ i_9 ∧ i_9 < (l_0.l : Nat)) ∧ ∃ x10 : Int, w.cell? (a9.add (i_9.toNat * 4)) = some (Value.int .i64 x10) ∧ ∃ x11 : Int, w.cell? ((a9.add (i_9.toNat * 4)).add 1) = some (Value.int .i64 x11) ∧ ∃ x12 : Int, w.cell? ((a9.add (i_9.toNat * 4)).add 2) = some (Value.int .i64 x12) ∧ ∃ x13 : ByteArray, w.cell? ((a9.add (i_9.toNat * 4)).add 3) = some (Value.string x13) ∧ probitylaw26_desk_do_sh (some x_8) x10 x11 x12 x13 (fun (r15 : Bool) (w14 : World) => cnd (!r15)
    (K false w14)
    (inR .i64 (i_9 + (1 : Int)) ∧ N0 l_0 a_1 b_2 up_7 x_8 (i_9 + (1 : Int)) w14)) w)
    (probitylaw26_DiskAgain_k1 a_1 b_2 up_7 x_8 K w))
    (probitylaw26_DiskAgain_k1 a_1 b_2 up_7 x_8 K w)
def probitylaw26_DiskAgain_l0d (l_0 : Sl) (a_1 : Sl) (b_2 : Sl) (up_7 : Bool) (x_8 : Addr) (i_9 : Int)  (K : Bool → World → Prop) (w : World) : Prop :=
  ∃ (I : Int → World → Prop) (μ : Int → World → Nat), I i_9 w ∧ ∀ (i_91 : Int) (w1 : World), I i_91 w1 →
    probitylaw26_DiskAgain_b0 l_0 a_1 b_2 up_7 x_8 i_91 (fun (l_0' : Sl) (a_1' : Sl) (b_2' : Sl) (up_7' : Bool) (x_8' : Addr) (i_9' : Int) (w' : World) => ((l_0' = l_0 ∧ a_1' = a_1 ∧ b_2' = b_2 ∧ up_7' = up_7 ∧ x_8' = x_8 ∧ True) ∧ I i_9' w') ∧ μ i_9' w' < μ i_91 w1)  K w1
structure probitylaw26_DiskAgain_l0 (l_0 : Sl) (a_1 : Sl) (b_2 : Sl) (up_7 : Bool) (x_8 : Addr) (i_9 : Int)  (K : Bool → World → Prop) (w : World) : Prop where
  out : probitylaw26_DiskAgain_l0d l_0 a_1 b_2 up_7 x_8 i_9 K w

def probitylaw26_DiskAgain_sd (l_0 : Sl) (a_1 : Sl) (b_2 : Sl) (K : Bool → World → Prop) (w : World) : Prop :=
  probitylaw26_sanity_sh (fun (r2 : Bool) (w1 : World) => disk_New_sh (fun (r4 : Option Addr) (w3 : World) => probityref26_New_sh (fun (r6 : Option Addr) (w5 : World) => let w7 : World := w5.alloc (Obj.cells #[(Value.pointer r4), (Value.pointer r6)] 30)
  ∃ x8 : Option Addr, w7.cell? (Addr.mk w5.heap.size 0 none) = some (Value.pointer x8) ∧ cnd x8.isNone
    (K false w7)
    (probitylaw26_DiskAgain_l0 l_0 a_1 b_2 r2 (Addr.mk w5.heap.size 0 none) (0 : Int) K w7)) w3) w1) w

structure probitylaw26_DiskAgain_sh (l_0 : Sl) (a_1 : Sl) (b_2 : Sl) (K : Bool → World → Prop) (w : World) : Prop where
  out : probitylaw26_DiskAgain_sd l_0 a_1 b_2 K w

def probitylaw26_DiskAgain_P0 (Kv : VW) (ρ : Rho) (vs : List Value) (w : World) : Prop :=
  match ρ, vs with
  | _, [.slice l_0p l_0l l_0c, .slice a_1p a_1l a_1c, .slice b_2p b_2l b_2c, .bool up_7, .pointer (some x_8), .int .i64 i_9] => probitylaw26_DiskAgain_l0 ⟨l_0p, l_0l, l_0c⟩ ⟨a_1p, a_1l, a_1c⟩ ⟨b_2p, b_2l, b_2c⟩ up_7 x_8 i_9  (fun (r0 : Bool) (w' : World) => Kv (Value.bool r0) w') w
  | _, _ => False

def probitylaw26_DiskAgain_P1 (Kv : VW) (ρ : Rho) (vs : List Value) (w : World) : Prop :=
  match ρ, vs with
  | _, [.slice a_1p a_1l a_1c, .slice b_2p b_2l b_2c, .bool up_7, .pointer (some x_8)] => probitylaw26_DiskAgain_k1 ⟨a_1p, a_1l, a_1c⟩ ⟨b_2p, b_2l, b_2c⟩ up_7 x_8  (fun (r0 : Bool) (w' : World) => Kv (Value.bool r0) w') w
  | _, _ => False

noncomputable def probitylaw26_DiskAgain_S : Pw.Spec := fun vs w Kv =>
  match vs with
  | [.slice l_0p l_0l l_0c, .slice a_1p a_1l a_1c, .slice b_2p b_2l b_2c] => probitylaw26_DiskAgain_sh ⟨l_0p, l_0l, l_0c⟩ ⟨a_1p, a_1l, a_1c⟩ ⟨b_2p, b_2l, b_2c⟩ (fun (r0 : Bool) (w' : World) => Kv (Value.bool r0) w') w
  | _ => False

noncomputable def probitylaw26_DiskAgain_E : Pw.Env := [(12, probitylaw26_sanity_S), (13, disk_New_S), (14, probityref26_New_S), (15, probitylaw26_desk_do_S), (16, disk_Disk_Size_S), (18, disk_Disk_Calls_S), (22, disk_Disk_Crash_S), (26, disk_Disk_Read_S)]

noncomputable def probitylaw26_DiskAgain_C : Code := (Try.f8.body).getD .skip

noncomputable def probitylaw26_DiskAgain_A (Kv : VW) : Pw.A :=
  (A.seq (A.reg (RA.run RA.done))
   (A.seq (A.reg (RA.run (RA.run RA.done)))
   (A.seq (A.reg (RA.run (RA.run (RA.run (RA.run (RA.run RA.done))))))
   (A.seq (A.seq (A.reg (RA.run (RA.run (RA.run (RA.run (RA.run RA.done))))))
   (A.cond (A.seq (A.reg (RA.run RA.done))
   A.leaf)
   A.leaf))
   (A.seq (A.seq (A.reg (RA.run RA.done))
   (A.blk (A.loop [0, 1, 2, 7, 8, 9] (probitylaw26_DiskAgain_P0 Kv) (A.seq (A.seq (A.reg (RA.run (RA.run (RA.run (RA.run (RA.run (RA.spl 27 (RA.run (RA.run (RA.run RA.done))) (RA.skp (RA.skp (RA.run RA.done))))))))))
   (A.cond A.leaf
   A.leaf))
   (A.seq (A.blk (A.seq (A.reg (RA.run (RA.run (RA.run (RA.run (RA.run (RA.run (RA.run RA.done))))))))
   (A.seq (A.reg (RA.run (RA.run RA.done)))
   (A.cond (A.seq (A.reg (RA.run RA.done))
   A.leaf)
   A.leaf))))
   (A.reg (RA.run (RA.run (RA.run RA.done)))))))))
   (A.cut [1, 2, 7, 8] (probitylaw26_DiskAgain_P1 Kv) (A.seq (A.reg (RA.run (RA.run (RA.run (RA.run (RA.run (RA.run (RA.run RA.done))))))))
   (A.seq (A.seq (A.reg (RA.run (RA.run RA.done)))
   (A.cond (A.seq (A.reg (RA.run RA.done))
   A.leaf)
   A.leaf))
   (A.seq (A.reg (RA.run (RA.run (RA.run (RA.run RA.done)))))
   (A.seq (A.reg (RA.run (RA.run (RA.spl 53 (RA.run (RA.run (RA.run (RA.run (RA.spl 57 (RA.run (RA.run (RA.run (RA.run (RA.run (RA.run (RA.run (RA.spl 64 (RA.run (RA.run (RA.run (RA.run (RA.run (RA.run (RA.run (RA.spl 71 (RA.run (RA.run (RA.run (RA.run (RA.run RA.done))))) (RA.skp (RA.skp (RA.skp (RA.run (RA.run RA.done))))))))))))) (RA.skp (RA.skp (RA.skp (RA.skp (RA.skp (RA.run (RA.run (RA.skp (RA.skp (RA.skp (RA.run (RA.run RA.done)))))))))))))))))))) (RA.skp (RA.skp (RA.skp (RA.skp (RA.skp (RA.run (RA.run (RA.skp (RA.skp (RA.skp (RA.skp (RA.skp (RA.run (RA.run (RA.skp (RA.skp (RA.skp (RA.run (RA.run RA.done)))))))))))))))))))))))) (RA.skp (RA.skp (RA.run (RA.run (RA.skp (RA.skp (RA.skp (RA.skp (RA.skp (RA.run (RA.run (RA.skp (RA.skp (RA.skp (RA.skp (RA.skp (RA.run (RA.run (RA.skp (RA.skp (RA.skp (RA.run (RA.run RA.done)))))))))))))))))))))))))))
   A.leaf))))))))))

noncomputable def probitylaw26_DiskAgain_O (Kv : VW) : List Ob := (obs Try.prog probitylaw26_DiskAgain_E 76 (probitylaw26_DiskAgain_A Kv) probitylaw26_DiskAgain_C (fun _ => retQ Try.prog Try.f8.results Kv))

theorem probitylaw26_DiskAgain_e (Kv : VW) (l_0p : Option Addr) (l_0l l_0c : Nat) (a_1p : Option Addr) (a_1l a_1c : Nat) (b_2p : Option Addr) (b_2l b_2c : Nat) (w : World) : probitylaw26_DiskAgain_sd ⟨l_0p, l_0l, l_0c⟩ ⟨a_1p, a_1l, a_1c⟩ ⟨b_2p, b_2l, b_2c⟩ (fun (r0 : Bool) (w' : World) => Kv (Value.bool r0) w') w = W Try.prog probitylaw26_DiskAgain_E 76 (probitylaw26_DiskAgain_A Kv) probitylaw26_DiskAgain_C [] (retQ Try.prog Try.f8.results Kv) (startS [(Value.slice l_0p l_0l l_0c), (Value.slice a_1p a_1l a_1c), (Value.slice b_2p b_2l b_2c)]) w := by kernel_rfl

theorem probitylaw26_DiskAgain_e0 (Kv : VW) (N0 : List Value → World → Prop) (ρ : Rho) (l_0p : Option Addr) (l_0l l_0c : Nat) (a_1p : Option Addr) (a_1l a_1c : Nat) (b_2p : Option Addr) (b_2l b_2c : Nat) (up_7 : Bool) (x_8 : Addr) (i_9 : Int) (w : World) : probitylaw26_DiskAgain_b0 ⟨l_0p, l_0l, l_0c⟩ ⟨a_1p, a_1l, a_1c⟩ ⟨b_2p, b_2l, b_2c⟩ up_7 x_8 i_9 (fun (l_0' : Sl) (a_1' : Sl) (b_2' : Sl) (up_7' : Bool) (x_8' : Addr) (i_9' : Int) (w' : World) => N0 [(Value.slice l_0'.p l_0'.l l_0'.c), (Value.slice a_1'.p a_1'.l a_1'.c), (Value.slice b_2'.p b_2'.l b_2'.c), (Value.bool up_7'), (Value.pointer (some x_8')), (Value.int .i64 i_9')] w')  (fun (r0 : Bool) (w' : World) => Kv (Value.bool r0) w') w = goalAt Try.prog probitylaw26_DiskAgain_E 76 (probitylaw26_DiskAgain_O Kv) 0 (N0 :: ρ) [(Value.slice l_0p l_0l l_0c), (Value.slice a_1p a_1l a_1c), (Value.slice b_2p b_2l b_2c), (Value.bool up_7), (Value.pointer (some x_8)), (Value.int .i64 i_9)] w := by kernel_rfl

theorem probitylaw26_DiskAgain_q0 (Kv : VW) (ρ : Rho) (vs : List Value) (w : World) : labAt (probitylaw26_DiskAgain_O Kv) 0 ρ vs w = probitylaw26_DiskAgain_P0 Kv ρ vs w := by kernel_rfl

def probitylaw26_DiskAgain_I0 (l_00 : Sl) (a_10 : Sl) (b_20 : Sl) (up_70 : Bool) (x_80 : Addr) (I : Int → World → Prop) (vs : List Value) (w : World) : Prop :=
  match vs with
  | [.slice l_0p l_0l l_0c, .slice a_1p a_1l a_1c, .slice b_2p b_2l b_2c, .bool up_7, .pointer (some x_8), .int .i64 i_9] => (⟨l_0p, l_0l, l_0c⟩ = l_00 ∧ ⟨a_1p, a_1l, a_1c⟩ = a_10 ∧ ⟨b_2p, b_2l, b_2c⟩ = b_20 ∧ up_7 = up_70 ∧ x_8 = x_80 ∧ True) ∧ I i_9 w
  | _ => False

def probitylaw26_DiskAgain_M0 (μ : Int → World → Nat) (vs : List Value) (w : World) : Nat :=
  match vs with
  | [.slice l_0p l_0l l_0c, .slice a_1p a_1l a_1c, .slice b_2p b_2l b_2c, .bool up_7, .pointer (some x_8), .int .i64 i_9] => μ i_9 w
  | _ => 0

theorem probitylaw26_DiskAgain_h0 (Kv : VW) : holdsAt Try.prog probitylaw26_DiskAgain_E 76 (probitylaw26_DiskAgain_O Kv) 0 := holdsAt_loop (by kernel_rfl) (fun ρ vs w h => by
  rw [probitylaw26_DiskAgain_q0] at h
  unfold probitylaw26_DiskAgain_P0 at h
  split at h
  · rename_i ρt l_0p l_0l l_0c a_1p a_1l a_1c b_2p b_2l b_2c up_7 x_8 i_9
    obtain ⟨I, μ, h0, hr⟩ := h.out
    refine ⟨probitylaw26_DiskAgain_I0 ⟨l_0p, l_0l, l_0c⟩ ⟨a_1p, a_1l, a_1c⟩ ⟨b_2p, b_2l, b_2c⟩ up_7 x_8 I, probitylaw26_DiskAgain_M0 μ, ⟨⟨rfl, rfl, rfl, rfl, rfl, trivial⟩, h0⟩, fun vs w hI => ?_⟩
    unfold probitylaw26_DiskAgain_I0 at hI
    split at hI
    · obtain ⟨⟨h0, h1, h2, h3, h4, _⟩, hI⟩ := hI
      cases h0; cases h1; cases h2; cases h3; cases h4
      rw [← probitylaw26_DiskAgain_e0]
      exact hr _ _ hI
    · exact hI.elim
  · exact h.elim)

theorem probitylaw26_DiskAgain_e1 (Kv : VW) (ρ : Rho) (a_1p : Option Addr) (a_1l a_1c : Nat) (b_2p : Option Addr) (b_2l b_2c : Nat) (up_7 : Bool) (x_8 : Addr) (w : World) : probitylaw26_DiskAgain_k1d ⟨a_1p, a_1l, a_1c⟩ ⟨b_2p, b_2l, b_2c⟩ up_7 x_8  (fun (r0 : Bool) (w' : World) => Kv (Value.bool r0) w') w = goalAt Try.prog probitylaw26_DiskAgain_E 76 (probitylaw26_DiskAgain_O Kv) 1 (ρ) [(Value.slice a_1p a_1l a_1c), (Value.slice b_2p b_2l b_2c), (Value.bool up_7), (Value.pointer (some x_8))] w := by kernel_rfl

theorem probitylaw26_DiskAgain_q1 (Kv : VW) (ρ : Rho) (vs : List Value) (w : World) : labAt (probitylaw26_DiskAgain_O Kv) 1 ρ vs w = probitylaw26_DiskAgain_P1 Kv ρ vs w := by kernel_rfl

theorem probitylaw26_DiskAgain_h1 (Kv : VW) : holdsAt Try.prog probitylaw26_DiskAgain_E 76 (probitylaw26_DiskAgain_O Kv) 1 := holdsAt_cut (by kernel_rfl) (fun ρ vs w h => by
  rw [probitylaw26_DiskAgain_q1] at h
  unfold probitylaw26_DiskAgain_P1 at h
  split at h
  · rw [← probitylaw26_DiskAgain_e1]; exact h.out
  · exact h.elim)

theorem probitylaw26_DiskAgain_n (Kv : VW) : obAt (probitylaw26_DiskAgain_O Kv) 2 = none := by kernel_rfl

theorem probitylaw26_DiskAgain_h (Kv : VW) : ∀ k, holdsAt Try.prog probitylaw26_DiskAgain_E 76 (probitylaw26_DiskAgain_O Kv) k := fun k => match k with
  | 0 => probitylaw26_DiskAgain_h0 Kv
  | 1 => probitylaw26_DiskAgain_h1 Kv
  | k + 2 => holdsAt_ge (probitylaw26_DiskAgain_n Kv) (Nat.le_add_left _ _)

theorem probitylaw26_DiskAgain_ok : Sound Try.prog 8 probitylaw26_DiskAgain_S := ⟨Try.call8, fun vs w Kv h => by
  unfold probitylaw26_DiskAgain_S at h
  split at h
  · have h := h.out
    rw [probitylaw26_DiskAgain_e] at h
    exact calls_sound (Γ := probitylaw26_DiskAgain_E) progMixed ⟨probitylaw26_sanity_ok, disk_New_ok, probityref26_New_ok, probitylaw26_desk_do_ok, disk_Disk_Size_ok, disk_Disk_Calls_ok, disk_Disk_Crash_ok, disk_Disk_Read_ok, trivial⟩ Try.func8 (code := probitylaw26_DiskAgain_C) (by kernel_rfl) (probitylaw26_DiskAgain_A Kv) Kv (holds_all (probitylaw26_DiskAgain_h Kv)) (Nat.le_of_ble_eq_true rfl) h
  · exact h.elim⟩

/-! probitylaw26_DiskReads -/
def probitylaw26_DiskReads_sd (s_0 : ByteArray) (at_1 : Int) (q_2_0 : Int) (q_2_1 : Int) (K : Bool → World → Prop) (w : World) : Prop :=
  let w1 : World := w.alloc (Obj.cells #[(Value.int .i64 q_2_0), (Value.int .i64 q_2_1)] 42)
  probitylaw26_sanity_sh (fun (r3 : Bool) (w2 : World) => disk_New_sh (fun (r5 : Option Addr) (w4 : World) => probityref26_New_sh (fun (r7 : Option Addr) (w6 : World) => let w8 : World := w6.alloc (Obj.cells #[(Value.pointer r5), (Value.pointer r7)] 30)
  ∃ x9 : Option Addr, w8.cell? (Addr.mk w6.heap.size 0 none) = some (Value.pointer x9) ∧ cnd x9.isNone
    (K false w8)
    (probityref26_Mod_sh at_1 (8 : Int) (fun (r11 : Int) (w10 : World) => inR .i64 ((1 : Int) + r11) ∧ probitylaw26_desk_do_sh (some (Addr.mk w6.heap.size 0 none)) (0 : Int) ((1 : Int) + r11) (0 : Int) s_0 (fun (r13 : Bool) (w12 : World) => (0 ≤ (0 : Int) ∧ (0 : Int) < (2 : Nat)) ∧ ∃ x14 : Int, w12.cell? ((Addr.mk w.heap.size 0 none).add ((0 : Int).toNat * 1)) = some (Value.int .i64 x14) ∧ probityref26_Mod_sh x14 (230 : Int) (fun (r16 : Int) (w15 : World) => let w17 : World := w15.drew
  ∃ S18 : World → Prop, S18 w17 ∧ cnd r3
    (cnd r13
    (∃ x19 : Option Addr, (∀ w' : World, S18 w' → w'.cell? (Addr.mk w6.heap.size 0 none) = some (Value.pointer x19)) ∧ (0 ≤ (0 : Int) ∧ (0 : Int) < (2 : Nat)) ∧ ∃ x20 : Int, (∀ w' : World, S18 w' → w'.cell? ((Addr.mk w.heap.size 0 none).add ((0 : Int).toNat * 1)) = some (Value.int .i64 x20)) ∧ (0 ≤ (1 : Int) ∧ (1 : Int) < (2 : Nat)) ∧ ∃ x21 : Int, (∀ w' : World, S18 w' → w'.cell? ((Addr.mk w.heap.size 0 none).add ((1 : Int).toNat * 1)) = some (Value.int .i64 x21)) ∧ ∃ x22 : Option Addr, (∀ w' : World, S18 w' → w'.cell? (Addr.mk w6.heap.size 1 none) = some (Value.pointer x22)) ∧ (0 ≤ (0 : Int) ∧ (0 : Int) < (2 : Nat)) ∧ ∃ x23 : Int, (∀ w' : World, S18 w' → w'.cell? ((Addr.mk w.heap.size 0 none).add ((0 : Int).toNat * 1)) = some (Value.int .i64 x23)) ∧ (0 ≤ (1 : Int) ∧ (1 : Int) < (2 : Nat)) ∧ ∃ x24 : Int, (∀ w' : World, S18 w' → w'.cell? ((Addr.mk w.heap.size 0 none).add ((1 : Int).toNat * 1)) = some (Value.int .i64 x24)) ∧ disk_Disk_Read_sh x19 x20 x21 (fun (r26 : ByteArray) (w25 : World) => S18 w25 ∧ probityref26_Disk_Read_sh x22 x23 x24 (fun (r28 : ByteArray) (w27 : World) => S18 w27 ∧ cnd (decide (r26 = r28))
    (∃ x29 : Option Addr, (∀ w' : World, S18 w' → w'.cell? (Addr.mk w6.heap.size 0 none) = some (Value.pointer x29)) ∧ (0 ≤ (1 : Int) ∧ (1 : Int) < (2 : Nat)) ∧ ∃ x30 : Int, (∀ w' : World, S18 w' → w'.cell? ((Addr.mk w.heap.size 0 none).add ((1 : Int).toNat * 1)) = some (Value.int .i64 x30)) ∧ ∃ x31 : Option Addr, (∀ w' : World, S18 w' → w'.cell? (Addr.mk w6.heap.size 1 none) = some (Value.pointer x31)) ∧ (0 ≤ (1 : Int) ∧ (1 : Int) < (2 : Nat)) ∧ ∃ x32 : Int, (∀ w' : World, S18 w' → w'.cell? ((Addr.mk w.heap.size 0 none).add ((1 : Int).toNat * 1)) = some (Value.int .i64 x32)) ∧ disk_Disk_Read_sh x29 r16 x30 (fun (r34 : ByteArray) (w33 : World) => S18 w33 ∧ probityref26_Disk_Read_sh x31 r16 x32 (fun (r36 : ByteArray) (w35 : World) => S18 w35 ∧ cnd (decide (r34 = r36))
    (∃ x37 : Option Addr, (∀ w' : World, S18 w' → w'.cell? (Addr.mk w6.heap.size 0 none) = some (Value.pointer x37)) ∧ (0 ≤ (1 : Int) ∧ (1 : Int) < (2 : Nat)) ∧ ∃ x38 : Int, (∀ w' : World, S18 w' → w'.cell? ((Addr.mk w.heap.size 0 none).add ((1 : Int).toNat * 1)) = some (Value.int .i64 x38)) ∧ ∃ x39 : Option Addr, (∀ w' : World, S18 w' → w'.cell? (Addr.mk w6.heap.size 1 none) = some (Value.pointer x39)) ∧ (0 ≤ (1 : Int) ∧ (1 : Int) < (2 : Nat)) ∧ ∃ x40 : Int, (∀ w' : World, S18 w' → w'.cell? ((Addr.mk w.heap.size 0 none).add ((1 : Int).toNat * 1)) = some (Value.int .i64 x40)) ∧ probityref26_Mod_sh x38 (20 : Int) (fun (r42 : Int) (w41 : World) => S18 w41 ∧ disk_Disk_Read_sh x37 r16 r42 (fun (r44 : ByteArray) (w43 : World) => S18 w43 ∧ probityref26_Mod_sh x40 (20 : Int) (fun (r46 : Int) (w45 : World) => S18 w45 ∧ probityref26_Disk_Read_sh x39 r16 r46 (fun (r48 : ByteArray) (w47 : World) => S18 w47 ∧ K (decide (r44 = r48)) w47) w45) w43) w41) w35)
    (K false w35)) w33) w27)
    (K false w27)) w25) w17)
    (K false w17))
    (K false w17)) w12) w10) w8)) w4) w2) w1

structure probitylaw26_DiskReads_sh (s_0 : ByteArray) (at_1 : Int) (q_2_0 : Int) (q_2_1 : Int) (K : Bool → World → Prop) (w : World) : Prop where
  out : probitylaw26_DiskReads_sd s_0 at_1 q_2_0 q_2_1 K w

noncomputable def probitylaw26_DiskReads_S : Pw.Spec := fun vs w Kv =>
  match vs with
  | [.string s_0, .int .i64 at_1, .agg ⟨[.int .i64 q_2_0, .int .i64 q_2_1]⟩] => probitylaw26_DiskReads_sh s_0 at_1 q_2_0 q_2_1 (fun (r0 : Bool) (w' : World) => Kv (Value.bool r0) w') w
  | _ => False

noncomputable def probitylaw26_DiskReads_E : Pw.Env := [(12, probitylaw26_sanity_S), (13, disk_New_S), (14, probityref26_New_S), (15, probitylaw26_desk_do_S), (21, probityref26_Mod_S), (26, disk_Disk_Read_S), (30, probityref26_Disk_Read_S)]

noncomputable def probitylaw26_DiskReads_C : Code := (Try.f9.body).getD .skip

noncomputable def probitylaw26_DiskReads_A (Kv : VW) : Pw.A :=
  (A.seq (A.reg (RA.run (RA.run RA.done)))
   (A.seq (A.reg (RA.run (RA.run RA.done)))
   (A.seq (A.reg (RA.run (RA.run (RA.run (RA.run (RA.run RA.done))))))
   (A.seq (A.seq (A.reg (RA.run (RA.run (RA.run (RA.run (RA.run RA.done))))))
   (A.cond (A.seq (A.reg (RA.run RA.done))
   A.leaf)
   A.leaf))
   (A.seq (A.reg (RA.run (RA.run (RA.run (RA.run (RA.run (RA.run (RA.run (RA.run RA.done)))))))))
   (A.seq (A.reg (RA.run (RA.run (RA.run (RA.run RA.done)))))
   (A.seq (A.drw (DA.pur 0 (DA.pur 1 (DA.spl 32 (DA.pur 2 (DA.pur 3 (DA.pur 4 (DA.spl 35 (DA.pur 5 (DA.pur 6 (DA.pur 7 (DA.pur 8 (DA.pur 9 (DA.pur 10 (DA.pur 11 (DA.pur 12 (DA.pur 14 (DA.pur 15 (DA.pur 16 (DA.pur 17 (DA.pur 18 (DA.pur 19 (DA.pur 20 (DA.pur 21 (DA.eff 13 (DA.eff 22 (DA.pur 23 (DA.pur 24 (DA.pur 25 (DA.spl 56 (DA.pur 26 (DA.pur 27 (DA.pur 28 (DA.pur 29 (DA.pur 30 (DA.pur 31 (DA.pur 32 (DA.pur 34 (DA.pur 35 (DA.pur 36 (DA.pur 37 (DA.pur 38 (DA.pur 39 (DA.pur 40 (DA.eff 33 (DA.eff 41 (DA.pur 42 (DA.pur 43 (DA.pur 44 (DA.spl 75 (DA.pur 45 (DA.pur 46 (DA.pur 47 (DA.pur 48 (DA.pur 49 (DA.pur 50 (DA.pur 51 (DA.pur 54 (DA.pur 55 (DA.pur 56 (DA.pur 57 (DA.pur 58 (DA.pur 59 (DA.pur 60 (DA.eff 52 (DA.eff 53 (DA.eff 61 (DA.eff 62 (DA.pur 63 (DA.pur 64 (DA.pur 65 DA.done))))))))))))))))))))) (DA.skp 45 (DA.skp 46 (DA.skp 47 (DA.skp 48 (DA.skp 49 (DA.skp 50 (DA.skp 51 (DA.skp 54 (DA.skp 55 (DA.skp 56 (DA.skp 57 (DA.skp 58 (DA.skp 59 (DA.skp 60 (DA.skp 52 (DA.skp 53 (DA.skp 61 (DA.skp 62 (DA.skp 63 (DA.pur 64 (DA.pur 65 DA.done))))))))))))))))))))))))))))))))))))))))) (DA.skp 26 (DA.skp 27 (DA.skp 28 (DA.skp 29 (DA.skp 30 (DA.skp 31 (DA.skp 32 (DA.skp 34 (DA.skp 35 (DA.skp 36 (DA.skp 37 (DA.skp 38 (DA.skp 39 (DA.skp 40 (DA.skp 33 (DA.skp 41 (DA.skp 42 (DA.pur 43 (DA.pur 44 (DA.skp 45 (DA.skp 46 (DA.skp 47 (DA.skp 48 (DA.skp 49 (DA.skp 50 (DA.skp 51 (DA.skp 54 (DA.skp 55 (DA.skp 56 (DA.skp 57 (DA.skp 58 (DA.skp 59 (DA.skp 60 (DA.skp 52 (DA.skp 53 (DA.skp 61 (DA.skp 62 (DA.skp 63 (DA.pur 64 (DA.pur 65 DA.done)))))))))))))))))))))))))))))))))))))))))))))))))))))))))))))) (DA.skp 5 (DA.skp 6 (DA.skp 7 (DA.skp 8 (DA.skp 9 (DA.skp 10 (DA.skp 11 (DA.skp 12 (DA.skp 14 (DA.skp 15 (DA.skp 16 (DA.skp 17 (DA.skp 18 (DA.skp 19 (DA.skp 20 (DA.skp 21 (DA.skp 13 (DA.skp 22 (DA.skp 23 (DA.pur 24 (DA.pur 25 (DA.skp 26 (DA.skp 27 (DA.skp 28 (DA.skp 29 (DA.skp 30 (DA.skp 31 (DA.skp 32 (DA.skp 34 (DA.skp 35 (DA.skp 36 (DA.skp 37 (DA.skp 38 (DA.skp 39 (DA.skp 40 (DA.skp 33 (DA.skp 41 (DA.skp 42 (DA.pur 43 (DA.pur 44 (DA.skp 45 (DA.skp 46 (DA.skp 47 (DA.skp 48 (DA.skp 49 (DA.skp 50 (DA.skp 51 (DA.skp 54 (DA.skp 55 (DA.skp 56 (DA.skp 57 (DA.skp 58 (DA.skp 59 (DA.skp 60 (DA.skp 52 (DA.skp 53 (DA.skp 61 (DA.skp 62 (DA.skp 63 (DA.pur 64 (DA.pur 65 DA.done))))))))))))))))))))))))))))))))))))))))))))))))))))))))))))))))) (DA.skp 2 (DA.pur 3 (DA.pur 4 (DA.skp 5 (DA.skp 6 (DA.skp 7 (DA.skp 8 (DA.skp 9 (DA.skp 10 (DA.skp 11 (DA.skp 12 (DA.skp 14 (DA.skp 15 (DA.skp 16 (DA.skp 17 (DA.skp 18 (DA.skp 19 (DA.skp 20 (DA.skp 21 (DA.skp 13 (DA.skp 22 (DA.skp 23 (DA.pur 24 (DA.pur 25 (DA.skp 26 (DA.skp 27 (DA.skp 28 (DA.skp 29 (DA.skp 30 (DA.skp 31 (DA.skp 32 (DA.skp 34 (DA.skp 35 (DA.skp 36 (DA.skp 37 (DA.skp 38 (DA.skp 39 (DA.skp 40 (DA.skp 33 (DA.skp 41 (DA.skp 42 (DA.pur 43 (DA.pur 44 (DA.skp 45 (DA.skp 46 (DA.skp 47 (DA.skp 48 (DA.skp 49 (DA.skp 50 (DA.skp 51 (DA.skp 54 (DA.skp 55 (DA.skp 56 (DA.skp 57 (DA.skp 58 (DA.skp 59 (DA.skp 60 (DA.skp 52 (DA.skp 53 (DA.skp 61 (DA.skp 62 (DA.skp 63 (DA.pur 64 (DA.pur 65 DA.done))))))))))))))))))))))))))))))))))))))))))))))))))))))))))))))))))))
   A.leaf)))))))

noncomputable def probitylaw26_DiskReads_O (Kv : VW) : List Ob := (obs Try.prog probitylaw26_DiskReads_E 96 (probitylaw26_DiskReads_A Kv) probitylaw26_DiskReads_C (fun _ => retQ Try.prog Try.f9.results Kv))

theorem probitylaw26_DiskReads_e (Kv : VW) (s_0 : ByteArray) (at_1 : Int) (q_2_0 : Int) (q_2_1 : Int) (w : World) : probitylaw26_DiskReads_sd s_0 at_1 q_2_0 q_2_1 (fun (r0 : Bool) (w' : World) => Kv (Value.bool r0) w') w = W Try.prog probitylaw26_DiskReads_E 96 (probitylaw26_DiskReads_A Kv) probitylaw26_DiskReads_C [] (retQ Try.prog Try.f9.results Kv) (startS [(Value.string s_0), (Value.int .i64 at_1), (Value.agg #[(Value.int .i64 q_2_0), (Value.int .i64 q_2_1)])]) w := by kernel_rfl

theorem probitylaw26_DiskReads_n (Kv : VW) : obAt (probitylaw26_DiskReads_O Kv) 0 = none := by kernel_rfl

theorem probitylaw26_DiskReads_h (Kv : VW) : ∀ k, holdsAt Try.prog probitylaw26_DiskReads_E 96 (probitylaw26_DiskReads_O Kv) k := fun _ => holdsAt_ge (probitylaw26_DiskReads_n Kv) (Nat.zero_le _)

theorem probitylaw26_DiskReads_ok : Sound Try.prog 9 probitylaw26_DiskReads_S := ⟨Try.call9, fun vs w Kv h => by
  unfold probitylaw26_DiskReads_S at h
  split at h
  · have h := h.out
    rw [probitylaw26_DiskReads_e] at h
    exact calls_sound (Γ := probitylaw26_DiskReads_E) progMixed ⟨probitylaw26_sanity_ok, disk_New_ok, probityref26_New_ok, probitylaw26_desk_do_ok, probityref26_Mod_ok, disk_Disk_Read_ok, probityref26_Disk_Read_ok, trivial⟩ Try.func9 (code := probitylaw26_DiskReads_C) (by kernel_rfl) (probitylaw26_DiskReads_A Kv) Kv (holds_all (probitylaw26_DiskReads_h Kv)) (Nat.le_of_ble_eq_true rfl) h
  · exact h.elim⟩

/-! probitylaw26_DiskLimits -/
def probitylaw26_DiskLimits_sd (far_0 : Int) (n_1 : Int) (off_2 : Int) (K : Bool → World → Prop) (w : World) : Prop :=
  probitylaw26_sanity_sh (fun (r2 : Bool) (w1 : World) => disk_New_sh (fun (r4 : Option Addr) (w3 : World) => probityref26_New_sh (fun (r6 : Option Addr) (w5 : World) => let w7 : World := w5.alloc (Obj.cells #[(Value.pointer r4), (Value.pointer r6)] 30)
  ∃ x8 : Option Addr, w7.cell? (Addr.mk w5.heap.size 0 none) = some (Value.pointer x8) ∧ cnd x8.isNone
    (K false w7)
    (probityref26_Mod_sh n_1 (70 : Int) (fun (r10 : Int) (w9 : World) => probitylaw26_repeated_sh (113 : Int) r10 (fun (r12 : ByteArray) (w11 : World) => let w13 : World := w11.drew
  ∃ S14 : World → Prop, S14 w13 ∧ ∃ x15 : Option Addr, (∀ w' : World, S14 w' → w'.cell? (Addr.mk w5.heap.size 0 none) = some (Value.pointer x15)) ∧ inR .i64 ((16777216 : Int) - (r12.size : Int)) ∧ inR .i64 (((16777216 : Int) - (r12.size : Int)) - (3 : Int)) ∧ probityref26_Mod_sh far_0 (7 : Int) (fun (r17 : Int) (w16 : World) => S14 w16 ∧ inR .i64 ((((16777216 : Int) - (r12.size : Int)) - (3 : Int)) + r17) ∧ disk_Disk_Write_sh x15 ((((16777216 : Int) - (r12.size : Int)) - (3 : Int)) + r17) r12 (fun (r19 : Int) (w18 : World) => let w20 : World := w18.drew
  ∃ S21 : World → Prop, S21 w20 ∧ ∃ x22 : Option Addr, (∀ w' : World, S21 w' → w'.cell? (Addr.mk w5.heap.size 1 none) = some (Value.pointer x22)) ∧ inR .i64 ((16777216 : Int) - (r12.size : Int)) ∧ inR .i64 (((16777216 : Int) - (r12.size : Int)) - (3 : Int)) ∧ probityref26_Mod_sh far_0 (7 : Int) (fun (r24 : Int) (w23 : World) => S21 w23 ∧ inR .i64 ((((16777216 : Int) - (r12.size : Int)) - (3 : Int)) + r24) ∧ probityref26_Disk_Write_sh x22 ((((16777216 : Int) - (r12.size : Int)) - (3 : Int)) + r24) r12 (fun (r26 : Int) (w25 : World) => disk_New_sh (fun (r28 : Option Addr) (w27 : World) => probityref26_Mod_sh off_2 (500 : Int) (fun (r30 : Int) (w29 : World) => disk_Disk_Write_sh r28 r30 (str []) (fun (r32 : Int) (w31 : World) => let w33 : World := w31.drew
  ∃ S34 : World → Prop, S34 w33 ∧ cnd r2
    (cnd (r19 == r26)
    (∃ x35 : Option Addr, (∀ w' : World, S34 w' → w'.cell? (Addr.mk w5.heap.size 0 none) = some (Value.pointer x35)) ∧ ∃ x36 : Option Addr, (∀ w' : World, S34 w' → w'.cell? (Addr.mk w5.heap.size 1 none) = some (Value.pointer x36)) ∧ disk_Disk_Size_sh x35 (fun (r38 : Int) (w37 : World) => S34 w37 ∧ probityref26_Disk_Size_sh x36 (fun (r40 : Int) (w39 : World) => S34 w39 ∧ cnd (r38 == r40)
    (cnd (r32 == (0 : Int))
    (disk_Disk_Size_sh r28 (fun (r42 : Int) (w41 : World) => S34 w41 ∧ cnd (r42 == r30)
    (inR .i64 (r30 + (1 : Int)) ∧ (disk_Disk_Read_sh r28 (0 : Int) (r30 + (1 : Int)) (fun (r44 : ByteArray) (w43 : World) => S34 w43 ∧ mkS 1 [(Value.int .u8 (0 : Int))] 5 r30 r30 w43 fun (s45 : Sl) (w46 : World) => S34 w46 ∧ btsS s45 w46 fun (s47 : ByteArray) => S34 w46 ∧ cnd (decide (r44 = s47))
    (inR .i64 ((-1 : Int) - r30) ∧ disk_Disk_Write_sh r28 ((-1 : Int) - r30) (str []) (fun (r49 : Int) (w48 : World) => S34 w48 ∧ cnd (r49 == (1 : Int))
    (inR .i64 ((9223372036854775807 : Int) - r30) ∧ disk_Disk_Write_sh r28 ((9223372036854775807 : Int) - r30) (str [97, 98]) (fun (r51 : Int) (w50 : World) => S34 w50 ∧ K (r51 == (1 : Int)) w50) w48)
    (K false w48)) w46)
    (K false w46)) w41)
    ∧ (mkS 1 [(Value.int .u8 (0 : Int))] 5 r30 r30 w41 fun (s52 : Sl) (w53 : World) => S34 w53 ∧ (disk_Disk_Read_sh r28 (0 : Int) (r30 + (1 : Int)) (fun (r55 : ByteArray) (w54 : World) => S34 w54 ∧ btsS s52 w54 fun (s56 : ByteArray) => S34 w54 ∧ cnd (decide (r55 = s56))
    (inR .i64 ((-1 : Int) - r30) ∧ disk_Disk_Write_sh r28 ((-1 : Int) - r30) (str []) (fun (r58 : Int) (w57 : World) => S34 w57 ∧ cnd (r58 == (1 : Int))
    (inR .i64 ((9223372036854775807 : Int) - r30) ∧ disk_Disk_Write_sh r28 ((9223372036854775807 : Int) - r30) (str [97, 98]) (fun (r60 : Int) (w59 : World) => S34 w59 ∧ K (r60 == (1 : Int)) w59) w57)
    (K false w57)) w54)
    (K false w54)) w53)
    ∧ (btsS s52 w53 fun (s61 : ByteArray) => S34 w53 ∧ disk_Disk_Read_sh r28 (0 : Int) (r30 + (1 : Int)) (fun (r63 : ByteArray) (w62 : World) => S34 w62 ∧ cnd (decide (r63 = s61))
    (inR .i64 ((-1 : Int) - r30) ∧ disk_Disk_Write_sh r28 ((-1 : Int) - r30) (str []) (fun (r65 : Int) (w64 : World) => S34 w64 ∧ cnd (r65 == (1 : Int))
    (inR .i64 ((9223372036854775807 : Int) - r30) ∧ disk_Disk_Write_sh r28 ((9223372036854775807 : Int) - r30) (str [97, 98]) (fun (r67 : Int) (w66 : World) => S34 w66 ∧ K (r67 == (1 : Int)) w66) w64)
    (K false w64)) w62)
    (K false w62)) w53)))
    (K false w41)) w39)
    (K false w39))
    (K false w39)) w37) w33)
    (K false w33))
    (K false w33)) w29) w27) w25) w23) w20) w16) w13) w9) w7)) w3) w1) w

structure probitylaw26_DiskLimits_sh (far_0 : Int) (n_1 : Int) (off_2 : Int) (K : Bool → World → Prop) (w : World) : Prop where
  out : probitylaw26_DiskLimits_sd far_0 n_1 off_2 K w

noncomputable def probitylaw26_DiskLimits_S : Pw.Spec := fun vs w Kv =>
  match vs with
  | [.int .i64 far_0, .int .i64 n_1, .int .i64 off_2] => probitylaw26_DiskLimits_sh far_0 n_1 off_2 (fun (r0 : Bool) (w' : World) => Kv (Value.bool r0) w') w
  | _ => False

noncomputable def probitylaw26_DiskLimits_E : Pw.Env := [(12, probitylaw26_sanity_S), (13, disk_New_S), (14, probityref26_New_S), (16, disk_Disk_Size_S), (17, probityref26_Disk_Size_S), (21, probityref26_Mod_S), (26, disk_Disk_Read_S), (27, disk_Disk_Write_S), (28, probitylaw26_repeated_S), (31, probityref26_Disk_Write_S)]

noncomputable def probitylaw26_DiskLimits_C : Code := (Try.f10.body).getD .skip

noncomputable def probitylaw26_DiskLimits_A (Kv : VW) : Pw.A :=
  (A.seq (A.reg (RA.run RA.done))
   (A.seq (A.reg (RA.run (RA.run RA.done)))
   (A.seq (A.reg (RA.run (RA.run (RA.run (RA.run (RA.run RA.done))))))
   (A.seq (A.seq (A.reg (RA.run (RA.run (RA.run (RA.run (RA.run RA.done))))))
   (A.cond (A.seq (A.reg (RA.run RA.done))
   A.leaf)
   A.leaf))
   (A.seq (A.reg (RA.run (RA.run (RA.run (RA.run RA.done)))))
   (A.seq (A.drw (DA.pur 0 (DA.pur 1 (DA.pur 2 (DA.pur 3 (DA.pur 4 (DA.pur 5 (DA.pur 6 (DA.pur 7 (DA.pur 8 (DA.pur 11 (DA.eff 9 (DA.pur 10 (DA.eff 12 (DA.pur 13 DA.done)))))))))))))))
   (A.seq (A.drw (DA.pur 0 (DA.pur 1 (DA.pur 2 (DA.pur 3 (DA.pur 4 (DA.pur 5 (DA.pur 6 (DA.pur 7 (DA.pur 8 (DA.pur 11 (DA.eff 9 (DA.pur 10 (DA.eff 12 (DA.pur 13 DA.done)))))))))))))))
   (A.seq (A.reg (RA.run (RA.run RA.done)))
   (A.seq (A.reg (RA.run (RA.run (RA.run RA.done))))
   (A.seq (A.reg (RA.run (RA.run (RA.run (RA.run RA.done)))))
   (A.seq (A.drw (DA.pur 0 (DA.pur 1 (DA.spl 61 (DA.pur 2 (DA.pur 3 (DA.pur 4 (DA.pur 5 (DA.pur 6 (DA.spl 66 (DA.pur 7 (DA.pur 8 (DA.pur 9 (DA.pur 10 (DA.pur 12 (DA.pur 13 (DA.pur 14 (DA.pur 15 (DA.eff 11 (DA.eff 16 (DA.pur 17 (DA.pur 18 (DA.pur 19 (DA.spl 79 (DA.pur 20 (DA.pur 21 (DA.pur 22 (DA.pur 23 (DA.spl 83 (DA.pur 24 (DA.pur 26 (DA.eff 25 (DA.pur 27 (DA.pur 28 (DA.pur 29 (DA.spl 89 (DA.pur 30 (DA.pur 31 (DA.pur 32 (DA.pur 34 (DA.two 33 (DA.eff 35 (DA.eff 36 (DA.pur 37 (DA.pur 38 (DA.pur 39 (DA.spl 99 (DA.pur 40 (DA.pur 41 (DA.pur 42 (DA.eff 43 (DA.pur 44 (DA.pur 45 (DA.pur 46 (DA.spl 106 (DA.pur 47 (DA.pur 48 (DA.pur 49 (DA.eff 50 (DA.pur 51 (DA.pur 52 (DA.pur 53 DA.done))))))) (DA.skp 47 (DA.skp 48 (DA.skp 49 (DA.skp 50 (DA.skp 51 (DA.pur 52 (DA.pur 53 DA.done))))))))))))))) (DA.skp 40 (DA.skp 41 (DA.skp 42 (DA.skp 43 (DA.skp 44 (DA.pur 45 (DA.pur 46 (DA.skp 47 (DA.skp 48 (DA.skp 49 (DA.skp 50 (DA.skp 51 (DA.pur 52 (DA.pur 53 DA.done)))))))))))))))))))) 35 (DA.two 33 (DA.eff 36 (DA.pur 37 (DA.pur 38 (DA.pur 39 (DA.spl 99 (DA.pur 40 (DA.pur 41 (DA.pur 42 (DA.eff 43 (DA.pur 44 (DA.pur 45 (DA.pur 46 (DA.spl 106 (DA.pur 47 (DA.pur 48 (DA.pur 49 (DA.eff 50 (DA.pur 51 (DA.pur 52 (DA.pur 53 DA.done))))))) (DA.skp 47 (DA.skp 48 (DA.skp 49 (DA.skp 50 (DA.skp 51 (DA.pur 52 (DA.pur 53 DA.done))))))))))))))) (DA.skp 40 (DA.skp 41 (DA.skp 42 (DA.skp 43 (DA.skp 44 (DA.pur 45 (DA.pur 46 (DA.skp 47 (DA.skp 48 (DA.skp 49 (DA.skp 50 (DA.skp 51 (DA.pur 52 (DA.pur 53 DA.done))))))))))))))))))) 36 (DA.eff 33 (DA.pur 37 (DA.pur 38 (DA.pur 39 (DA.spl 99 (DA.pur 40 (DA.pur 41 (DA.pur 42 (DA.eff 43 (DA.pur 44 (DA.pur 45 (DA.pur 46 (DA.spl 106 (DA.pur 47 (DA.pur 48 (DA.pur 49 (DA.eff 50 (DA.pur 51 (DA.pur 52 (DA.pur 53 DA.done))))))) (DA.skp 47 (DA.skp 48 (DA.skp 49 (DA.skp 50 (DA.skp 51 (DA.pur 52 (DA.pur 53 DA.done))))))))))))))) (DA.skp 40 (DA.skp 41 (DA.skp 42 (DA.skp 43 (DA.skp 44 (DA.pur 45 (DA.pur 46 (DA.skp 47 (DA.skp 48 (DA.skp 49 (DA.skp 50 (DA.skp 51 (DA.pur 52 (DA.pur 53 DA.done))))))))))))))))))))))))) (DA.skp 30 (DA.skp 31 (DA.skp 32 (DA.skp 34 (DA.skp 33 (DA.skp 35 (DA.skp 36 (DA.skp 37 (DA.pur 38 (DA.pur 39 (DA.skp 40 (DA.skp 41 (DA.skp 42 (DA.skp 43 (DA.skp 44 (DA.pur 45 (DA.pur 46 (DA.skp 47 (DA.skp 48 (DA.skp 49 (DA.skp 50 (DA.skp 51 (DA.pur 52 (DA.pur 53 DA.done))))))))))))))))))))))))))))))) (DA.skp 24 (DA.skp 26 (DA.skp 25 (DA.skp 27 (DA.pur 28 (DA.pur 29 (DA.skp 30 (DA.skp 31 (DA.skp 32 (DA.skp 34 (DA.skp 33 (DA.skp 35 (DA.skp 36 (DA.skp 37 (DA.pur 38 (DA.pur 39 (DA.skp 40 (DA.skp 41 (DA.skp 42 (DA.skp 43 (DA.skp 44 (DA.pur 45 (DA.pur 46 (DA.skp 47 (DA.skp 48 (DA.skp 49 (DA.skp 50 (DA.skp 51 (DA.pur 52 (DA.pur 53 DA.done))))))))))))))))))))))))))))))))))) (DA.skp 20 (DA.skp 21 (DA.pur 22 (DA.pur 23 (DA.skp 24 (DA.skp 26 (DA.skp 25 (DA.skp 27 (DA.pur 28 (DA.pur 29 (DA.skp 30 (DA.skp 31 (DA.skp 32 (DA.skp 34 (DA.skp 33 (DA.skp 35 (DA.skp 36 (DA.skp 37 (DA.pur 38 (DA.pur 39 (DA.skp 40 (DA.skp 41 (DA.skp 42 (DA.skp 43 (DA.skp 44 (DA.pur 45 (DA.pur 46 (DA.skp 47 (DA.skp 48 (DA.skp 49 (DA.skp 50 (DA.skp 51 (DA.pur 52 (DA.pur 53 DA.done)))))))))))))))))))))))))))))))))))))))))))))))) (DA.skp 7 (DA.skp 8 (DA.skp 9 (DA.skp 10 (DA.skp 12 (DA.skp 13 (DA.skp 14 (DA.skp 15 (DA.skp 11 (DA.skp 16 (DA.skp 17 (DA.pur 18 (DA.pur 19 (DA.skp 20 (DA.skp 21 (DA.pur 22 (DA.pur 23 (DA.skp 24 (DA.skp 26 (DA.skp 25 (DA.skp 27 (DA.pur 28 (DA.pur 29 (DA.skp 30 (DA.skp 31 (DA.skp 32 (DA.skp 34 (DA.skp 33 (DA.skp 35 (DA.skp 36 (DA.skp 37 (DA.pur 38 (DA.pur 39 (DA.skp 40 (DA.skp 41 (DA.skp 42 (DA.skp 43 (DA.skp 44 (DA.pur 45 (DA.pur 46 (DA.skp 47 (DA.skp 48 (DA.skp 49 (DA.skp 50 (DA.skp 51 (DA.pur 52 (DA.pur 53 DA.done))))))))))))))))))))))))))))))))))))))))))))))))))))) (DA.skp 2 (DA.skp 3 (DA.skp 4 (DA.pur 5 (DA.pur 6 (DA.skp 7 (DA.skp 8 (DA.skp 9 (DA.skp 10 (DA.skp 12 (DA.skp 13 (DA.skp 14 (DA.skp 15 (DA.skp 11 (DA.skp 16 (DA.skp 17 (DA.pur 18 (DA.pur 19 (DA.skp 20 (DA.skp 21 (DA.pur 22 (DA.pur 23 (DA.skp 24 (DA.skp 26 (DA.skp 25 (DA.skp 27 (DA.pur 28 (DA.pur 29 (DA.skp 30 (DA.skp 31 (DA.skp 32 (DA.skp 34 (DA.skp 33 (DA.skp 35 (DA.skp 36 (DA.skp 37 (DA.pur 38 (DA.pur 39 (DA.skp 40 (DA.skp 41 (DA.skp 42 (DA.skp 43 (DA.skp 44 (DA.pur 45 (DA.pur 46 (DA.skp 47 (DA.skp 48 (DA.skp 49 (DA.skp 50 (DA.skp 51 (DA.pur 52 (DA.pur 53 DA.done))))))))))))))))))))))))))))))))))))))))))))))))))))))))
   A.leaf)))))))))))

noncomputable def probitylaw26_DiskLimits_O (Kv : VW) : List Ob := (obs Try.prog probitylaw26_DiskLimits_E 113 (probitylaw26_DiskLimits_A Kv) probitylaw26_DiskLimits_C (fun _ => retQ Try.prog Try.f10.results Kv))

theorem probitylaw26_DiskLimits_e (Kv : VW) (far_0 : Int) (n_1 : Int) (off_2 : Int) (w : World) : probitylaw26_DiskLimits_sd far_0 n_1 off_2 (fun (r0 : Bool) (w' : World) => Kv (Value.bool r0) w') w = W Try.prog probitylaw26_DiskLimits_E 113 (probitylaw26_DiskLimits_A Kv) probitylaw26_DiskLimits_C [] (retQ Try.prog Try.f10.results Kv) (startS [(Value.int .i64 far_0), (Value.int .i64 n_1), (Value.int .i64 off_2)]) w := by kernel_rfl

theorem probitylaw26_DiskLimits_n (Kv : VW) : obAt (probitylaw26_DiskLimits_O Kv) 0 = none := by kernel_rfl

theorem probitylaw26_DiskLimits_h (Kv : VW) : ∀ k, holdsAt Try.prog probitylaw26_DiskLimits_E 113 (probitylaw26_DiskLimits_O Kv) k := fun _ => holdsAt_ge (probitylaw26_DiskLimits_n Kv) (Nat.zero_le _)

theorem probitylaw26_DiskLimits_ok : Sound Try.prog 10 probitylaw26_DiskLimits_S := ⟨Try.call10, fun vs w Kv h => by
  unfold probitylaw26_DiskLimits_S at h
  split at h
  · have h := h.out
    rw [probitylaw26_DiskLimits_e] at h
    exact calls_sound (Γ := probitylaw26_DiskLimits_E) progMixed ⟨probitylaw26_sanity_ok, disk_New_ok, probityref26_New_ok, disk_Disk_Size_ok, probityref26_Disk_Size_ok, probityref26_Mod_ok, disk_Disk_Read_ok, disk_Disk_Write_ok, probitylaw26_repeated_ok, probityref26_Disk_Write_ok, trivial⟩ Try.func10 (code := probitylaw26_DiskLimits_C) (by kernel_rfl) (probitylaw26_DiskLimits_A Kv) Kv (holds_all (probitylaw26_DiskLimits_h Kv)) (Nat.le_of_ble_eq_true rfl) h
  · exact h.elim⟩

/-! probitylaw26_DiskNil -/
def probitylaw26_DiskNil_sd (off_0 : Int) (s_1 : ByteArray) (q_2 : Sl) (K : Bool → World → Prop) (w : World) : Prop :=
  probitylaw26_sanity_sh (fun (r2 : Bool) (w1 : World) => disk_Disk_Fail_sh none off_0 (fun (w3 : World) => disk_Disk_Crash_sh none q_2 (fun (r5 : Option Addr) (w4 : World) => cnd r5.isNone
    (K false w4)
    (let w6 : World := w4.alloc (Obj.cells #[(Value.slice none 0 0), (Value.slice none 0 0), (Value.slice none 0 0), (Value.int .i64 (0 : Int)), (Value.bool false), (Value.int .i64 (0 : Int))] 61)
  probityref26_New_sh (fun (r8 : Option Addr) (w7 : World) => let w9 : World := w7.alloc (Obj.cells #[(Value.pointer (some (Addr.mk w4.heap.size 0 none))), (Value.pointer r8)] 30)
  probitylaw26_desk_do_sh (some (Addr.mk w7.heap.size 0 none)) (0 : Int) off_0 (0 : Int) s_1 (fun (r11 : Bool) (w10 : World) => probitylaw26_desk_do_sh (some (Addr.mk w7.heap.size 0 none)) (7 : Int) (0 : Int) off_0 (str []) (fun (r13 : Bool) (w12 : World) => probitylaw26_desk_same_sh (some (Addr.mk w7.heap.size 0 none)) (fun (r15 : Bool) (w14 : World) => cnd r2
    (disk_Disk_Size_sh none (fun (r17 : Int) (w16 : World) => cnd (r17 == (0 : Int))
    (disk_Disk_Calls_sh none (fun (r19 : Int) (w18 : World) => cnd (r19 == (0 : Int))
    (disk_Disk_Read_sh none off_0 (5 : Int) (fun (r21 : ByteArray) (w20 : World) => cnd (decide (r21 = (str [])))
    (disk_Disk_Write_sh none off_0 s_1 (fun (r23 : Int) (w22 : World) => cnd (r23 == (1 : Int))
    (disk_Disk_Sync_sh none (fun (r25 : Int) (w24 : World) => cnd (r25 == (1 : Int))
    (disk_Disk_Size_sh r5 (fun (r27 : Int) (w26 : World) => cnd (r27 == (0 : Int))
    (disk_Disk_Write_sh r5 (0 : Int) (str [97]) (fun (r29 : Int) (w28 : World) => cnd (r29 == (0 : Int))
    (cnd r11
    (cnd r13
    (K r15 w28)
    (K false w28))
    (K false w28))
    (K false w28)) w26)
    (K false w26)) w24)
    (K false w24)) w22)
    (K false w22)) w20)
    (K false w20)) w18)
    (K false w18)) w16)
    (K false w16)) w14)
    (K false w14)) w12) w10) w9) w6)) w3) w1) w

structure probitylaw26_DiskNil_sh (off_0 : Int) (s_1 : ByteArray) (q_2 : Sl) (K : Bool → World → Prop) (w : World) : Prop where
  out : probitylaw26_DiskNil_sd off_0 s_1 q_2 K w

noncomputable def probitylaw26_DiskNil_S : Pw.Spec := fun vs w Kv =>
  match vs with
  | [.int .i64 off_0, .string s_1, .slice q_2p q_2l q_2c] => probitylaw26_DiskNil_sh off_0 s_1 ⟨q_2p, q_2l, q_2c⟩ (fun (r0 : Bool) (w' : World) => Kv (Value.bool r0) w') w
  | _ => False

noncomputable def probitylaw26_DiskNil_E : Pw.Env := [(12, probitylaw26_sanity_S), (14, probityref26_New_S), (15, probitylaw26_desk_do_S), (16, disk_Disk_Size_S), (18, disk_Disk_Calls_S), (20, probitylaw26_desk_same_S), (22, disk_Disk_Crash_S), (25, disk_Disk_Sync_S), (26, disk_Disk_Read_S), (27, disk_Disk_Write_S), (29, disk_Disk_Fail_S)]

noncomputable def probitylaw26_DiskNil_C : Code := (Try.f11.body).getD .skip

noncomputable def probitylaw26_DiskNil_A (Kv : VW) : Pw.A :=
  (A.seq (A.reg (RA.run RA.done))
   (A.seq (A.reg (RA.run (RA.run RA.done)))
   (A.seq (A.reg (RA.run RA.done))
   (A.seq (A.reg (RA.run (RA.run (RA.run RA.done))))
   (A.seq (A.reg (RA.run (RA.run (RA.run (RA.run RA.done)))))
   (A.seq (A.seq (A.reg (RA.run (RA.run RA.done)))
   (A.cond (A.seq (A.reg (RA.run RA.done))
   A.leaf)
   A.leaf))
   (A.seq (A.reg (RA.run (RA.run (RA.run (RA.run (RA.run (RA.run RA.done)))))))
   (A.seq (A.reg (RA.run (RA.run (RA.run (RA.run (RA.run (RA.run RA.done)))))))
   (A.seq (A.reg (RA.run (RA.run (RA.run (RA.run (RA.run RA.done))))))
   (A.seq (A.reg (RA.run (RA.run (RA.run RA.done))))
   (A.seq (A.reg (RA.run (RA.run (RA.spl 40 (RA.run (RA.run (RA.run (RA.run (RA.run (RA.spl 45 (RA.run (RA.run (RA.run (RA.run (RA.run (RA.spl 50 (RA.run (RA.run (RA.run (RA.run (RA.run (RA.run (RA.spl 56 (RA.run (RA.run (RA.run (RA.run (RA.run (RA.run (RA.run (RA.spl 63 (RA.run (RA.run (RA.run (RA.run (RA.run (RA.spl 68 (RA.run (RA.run (RA.run (RA.run (RA.run (RA.spl 73 (RA.run (RA.run (RA.run (RA.run (RA.run (RA.spl 78 (RA.run (RA.run (RA.run (RA.spl 81 (RA.run (RA.run (RA.run (RA.spl 84 (RA.run (RA.run (RA.run RA.done))) (RA.skp (RA.run (RA.run RA.done))))))) (RA.skp (RA.run (RA.run (RA.skp (RA.run (RA.run RA.done)))))))))) (RA.skp (RA.run (RA.run (RA.skp (RA.run (RA.run (RA.skp (RA.run (RA.run RA.done))))))))))))))) (RA.skp (RA.skp (RA.skp (RA.run (RA.run (RA.skp (RA.run (RA.run (RA.skp (RA.run (RA.run (RA.skp (RA.run (RA.run RA.done)))))))))))))))))))) (RA.skp (RA.skp (RA.skp (RA.run (RA.run (RA.skp (RA.skp (RA.skp (RA.run (RA.run (RA.skp (RA.run (RA.run (RA.skp (RA.run (RA.run (RA.skp (RA.run (RA.run RA.done))))))))))))))))))))))))) (RA.skp (RA.skp (RA.skp (RA.run (RA.run (RA.skp (RA.skp (RA.skp (RA.run (RA.run (RA.skp (RA.skp (RA.skp (RA.run (RA.run (RA.skp (RA.run (RA.run (RA.skp (RA.run (RA.run (RA.skp (RA.run (RA.run RA.done)))))))))))))))))))))))))))))))) (RA.skp (RA.skp (RA.skp (RA.skp (RA.skp (RA.run (RA.run (RA.skp (RA.skp (RA.skp (RA.run (RA.run (RA.skp (RA.skp (RA.skp (RA.run (RA.run (RA.skp (RA.skp (RA.skp (RA.run (RA.run (RA.skp (RA.run (RA.run (RA.skp (RA.run (RA.run (RA.skp (RA.run (RA.run RA.done)))))))))))))))))))))))))))))))))))))) (RA.skp (RA.skp (RA.skp (RA.skp (RA.run (RA.run (RA.skp (RA.skp (RA.skp (RA.skp (RA.skp (RA.run (RA.run (RA.skp (RA.skp (RA.skp (RA.run (RA.run (RA.skp (RA.skp (RA.skp (RA.run (RA.run (RA.skp (RA.skp (RA.skp (RA.run (RA.run (RA.skp (RA.run (RA.run (RA.skp (RA.run (RA.run (RA.skp (RA.run (RA.run RA.done))))))))))))))))))))))))))))))))))))))))))) (RA.skp (RA.skp (RA.skp (RA.run (RA.run (RA.skp (RA.skp (RA.skp (RA.skp (RA.run (RA.run (RA.skp (RA.skp (RA.skp (RA.skp (RA.skp (RA.run (RA.run (RA.skp (RA.skp (RA.skp (RA.run (RA.run (RA.skp (RA.skp (RA.skp (RA.run (RA.run (RA.skp (RA.skp (RA.skp (RA.run (RA.run (RA.skp (RA.run (RA.run (RA.skp (RA.run (RA.run (RA.skp (RA.run (RA.run RA.done)))))))))))))))))))))))))))))))))))))))))))))))) (RA.skp (RA.skp (RA.skp (RA.run (RA.run (RA.skp (RA.skp (RA.skp (RA.run (RA.run (RA.skp (RA.skp (RA.skp (RA.skp (RA.run (RA.run (RA.skp (RA.skp (RA.skp (RA.skp (RA.skp (RA.run (RA.run (RA.skp (RA.skp (RA.skp (RA.run (RA.run (RA.skp (RA.skp (RA.skp (RA.run (RA.run (RA.skp (RA.skp (RA.skp (RA.run (RA.run (RA.skp (RA.run (RA.run (RA.skp (RA.run (RA.run (RA.skp (RA.run (RA.run RA.done)))))))))))))))))))))))))))))))))))))))))))))))))))
   A.leaf)))))))))))

noncomputable def probitylaw26_DiskNil_O (Kv : VW) : List Ob := (obs Try.prog probitylaw26_DiskNil_E 87 (probitylaw26_DiskNil_A Kv) probitylaw26_DiskNil_C (fun _ => retQ Try.prog Try.f11.results Kv))

theorem probitylaw26_DiskNil_e (Kv : VW) (off_0 : Int) (s_1 : ByteArray) (q_2p : Option Addr) (q_2l q_2c : Nat) (w : World) : probitylaw26_DiskNil_sd off_0 s_1 ⟨q_2p, q_2l, q_2c⟩ (fun (r0 : Bool) (w' : World) => Kv (Value.bool r0) w') w = W Try.prog probitylaw26_DiskNil_E 87 (probitylaw26_DiskNil_A Kv) probitylaw26_DiskNil_C [] (retQ Try.prog Try.f11.results Kv) (startS [(Value.int .i64 off_0), (Value.string s_1), (Value.slice q_2p q_2l q_2c)]) w := by kernel_rfl

theorem probitylaw26_DiskNil_n (Kv : VW) : obAt (probitylaw26_DiskNil_O Kv) 0 = none := by kernel_rfl

theorem probitylaw26_DiskNil_h (Kv : VW) : ∀ k, holdsAt Try.prog probitylaw26_DiskNil_E 87 (probitylaw26_DiskNil_O Kv) k := fun _ => holdsAt_ge (probitylaw26_DiskNil_n Kv) (Nat.zero_le _)

theorem probitylaw26_DiskNil_ok : Sound Try.prog 11 probitylaw26_DiskNil_S := ⟨Try.call11, fun vs w Kv h => by
  unfold probitylaw26_DiskNil_S at h
  split at h
  · have h := h.out
    rw [probitylaw26_DiskNil_e] at h
    exact calls_sound (Γ := probitylaw26_DiskNil_E) progMixed ⟨probitylaw26_sanity_ok, probityref26_New_ok, probitylaw26_desk_do_ok, disk_Disk_Size_ok, disk_Disk_Calls_ok, probitylaw26_desk_same_ok, disk_Disk_Crash_ok, disk_Disk_Sync_ok, disk_Disk_Read_ok, disk_Disk_Write_ok, disk_Disk_Fail_ok, trivial⟩ Try.func11 (code := probitylaw26_DiskNil_C) (by kernel_rfl) (probitylaw26_DiskNil_A Kv) Kv (holds_all (probitylaw26_DiskNil_h Kv)) (Nat.le_of_ble_eq_true rfl) h
  · exact h.elim⟩

end Go.Proofs.Ytmhjekbdpnocaaa
