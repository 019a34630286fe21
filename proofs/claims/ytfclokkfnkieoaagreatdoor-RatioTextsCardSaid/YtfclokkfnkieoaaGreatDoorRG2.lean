/- The bodies' formulas, by program. -/
import Derived.Test.YtfclokkfnkieoaaGreatDoorProg
import Derived.KernelRfl
import Derived.Test.YtfclokkfnkieoaaGreatDoorPwX
import Derived.Test.YtfclokkfnkieoaaGreatDoorRG0
import Derived.Test.YtfclokkfnkieoaaGreatDoorRG1
set_option maxRecDepth 20000
namespace Go.Proofs.YtfclokkfnkieoaaGreatDoor
open Go Pw
/-! stringslite_Index -/
structure stringslite_Index_sh (a0 : ByteArray) (a1 : ByteArray) (K : Int → World → Prop) (w : World) : Prop where
  out : Calls Tryz.prog 79 #[(Value.string a0), (Value.string a1)] w fun e w' => ∃ r0 : Int, e = .returned (Value.int .i64 r0) ∧ K r0 w'

noncomputable def stringslite_Index_S : Pw.Spec := fun vs w Kv =>
  match vs with
  | [.string a0, .string a1] => stringslite_Index_sh a0 a1 (fun (r0 : Int) (w' : World) => Kv (Value.int .i64 r0) w') w
  | _ => False

theorem stringslite_Index_ok : Sound Tryz.prog 79 stringslite_Index_S := ⟨Tryz.call79, fun vs w Kv h => by
  unfold stringslite_Index_S at h
  split at h
  · exact h.out.mono fun e w' he => by
      obtain ⟨_, he, hk⟩ := he
      exact ⟨_, he, hk⟩
  · exact h.elim⟩

/-! stringslite_Cut -/
def stringslite_Cut_sd (s_0 : ByteArray) (sep_1 : ByteArray) (K : ByteArray → ByteArray → Bool → World → Prop) (w : World) : Prop :=
  stringslite_Index_sh s_0 sep_1 (fun (r2 : Int) (w1 : World) => cnd (decide (r2 ≥ (0 : Int)))
    (let w3 : World := w1.drew
  (0 ≤ (0 : Int) ∧ (0 : Int) ≤ r2 ∧ r2 ≤ (s_0.size : Nat)) ∧ inR .i64 (r2 + (sep_1.size : Int)) ∧ (0 ≤ (r2 + (sep_1.size : Int)) ∧ (r2 + (sep_1.size : Int)) ≤ (s_0.size : Nat)) ∧ K (s_0.extract 0 r2.toNat) (s_0.extract (r2 + (sep_1.size : Int)).toNat s_0.size) true w3)
    (K s_0 (str []) false w1)) w

structure stringslite_Cut_sh (s_0 : ByteArray) (sep_1 : ByteArray) (K : ByteArray → ByteArray → Bool → World → Prop) (w : World) : Prop where
  out : stringslite_Cut_sd s_0 sep_1 K w

noncomputable def stringslite_Cut_S : Pw.Spec := fun vs w Kv =>
  match vs with
  | [.string s_0, .string sep_1] => stringslite_Cut_sh s_0 sep_1 (fun (r0 : ByteArray) (r1 : ByteArray) (r2 : Bool) (w' : World) => Kv (Value.tuple #[(Value.string r0), (Value.string r1), (Value.bool r2)]) w') w
  | _ => False

noncomputable def stringslite_Cut_E : Pw.Env := [(79, stringslite_Index_S)]

noncomputable def stringslite_Cut_C : Code := (Tryz.f57.body).getD .skip

noncomputable def stringslite_Cut_A (Kv : VW) : Pw.A :=
  (A.seq (A.reg (RA.run (RA.run (RA.run RA.done))))
   (A.seq (A.seq (A.reg (RA.run (RA.run (RA.run (RA.run RA.done)))))
   (A.seq (A.reg (RA.run (RA.run RA.done)))
   (A.cond (A.seq (A.drp (DA.pur 0 (DA.pur 1 (DA.pur 2 (DA.pur 3 (DA.pur 4 (DA.pur 5 (DA.pur 6 (DA.pur 7 (DA.pur 8 (DA.pur 9 (DA.pur 10 (DA.pur 11 DA.done)))))))))))))
   A.leaf)
   A.leaf)))
   (A.seq (A.reg (RA.run (RA.run (RA.run (RA.run RA.done)))))
   A.leaf)))

noncomputable def stringslite_Cut_O (Kv : VW) : List Ob := (obs Tryz.prog stringslite_Cut_E 23 (stringslite_Cut_A Kv) stringslite_Cut_C (fun _ => retQ Tryz.prog Tryz.f57.results Kv))

theorem stringslite_Cut_e (Kv : VW) (s_0 : ByteArray) (sep_1 : ByteArray) (w : World) : stringslite_Cut_sd s_0 sep_1 (fun (r0 : ByteArray) (r1 : ByteArray) (r2 : Bool) (w' : World) => Kv (Value.tuple #[(Value.string r0), (Value.string r1), (Value.bool r2)]) w') w = W Tryz.prog stringslite_Cut_E 23 (stringslite_Cut_A Kv) stringslite_Cut_C [] (retQ Tryz.prog Tryz.f57.results Kv) [] (startS [(Value.string s_0), (Value.string sep_1)]) w := by kernel_rfl

theorem stringslite_Cut_n (Kv : VW) : obAt (stringslite_Cut_O Kv) 0 = none := by kernel_rfl

theorem stringslite_Cut_h (Kv : VW) : ∀ k, holdsAt Tryz.prog stringslite_Cut_E 23 (stringslite_Cut_O Kv) k := fun _ => holdsAt_ge (stringslite_Cut_n Kv) (Nat.zero_le _)

theorem stringslite_Cut_ok : Sound Tryz.prog 57 stringslite_Cut_S := ⟨Tryz.call57, fun vs w Kv h => by
  unfold stringslite_Cut_S at h
  split at h
  · have h := h.out
    rw [stringslite_Cut_e] at h
    exact calls_sound (Γ := stringslite_Cut_E) progMixed ⟨.inl stringslite_Index_ok, trivial⟩ Tryz.func57 (code := stringslite_Cut_C) (by kernel_rfl) (stringslite_Cut_A Kv) Kv (holds_all (stringslite_Cut_h Kv)) (Nat.le_of_ble_eq_true (by kernel_rfl)) h
  · exact h.elim⟩

/-! strings_Cut -/
def strings_Cut_sd (s_0 : ByteArray) (sep_1 : ByteArray) (K : ByteArray → ByteArray → Bool → World → Prop) (w : World) : Prop :=
  stringslite_Cut_sh s_0 sep_1 (fun (r2 : ByteArray) (r3 : ByteArray) (r4 : Bool) (w1 : World) => K r2 r3 r4 w1) w

structure strings_Cut_sh (s_0 : ByteArray) (sep_1 : ByteArray) (K : ByteArray → ByteArray → Bool → World → Prop) (w : World) : Prop where
  out : strings_Cut_sd s_0 sep_1 K w

noncomputable def strings_Cut_S : Pw.Spec := fun vs w Kv =>
  match vs with
  | [.string s_0, .string sep_1] => strings_Cut_sh s_0 sep_1 (fun (r0 : ByteArray) (r1 : ByteArray) (r2 : Bool) (w' : World) => Kv (Value.tuple #[(Value.string r0), (Value.string r1), (Value.bool r2)]) w') w
  | _ => False

noncomputable def strings_Cut_E : Pw.Env := [(57, stringslite_Cut_S)]

noncomputable def strings_Cut_C : Code := (Tryz.f27.body).getD .skip

noncomputable def strings_Cut_A (Kv : VW) : Pw.A :=
  (A.seq (A.reg (RA.run (RA.run (RA.run RA.done))))
   (A.seq (A.reg (RA.run (RA.run (RA.run (RA.run (RA.run (RA.run (RA.run (RA.run (RA.run RA.done))))))))))
   A.leaf))

noncomputable def strings_Cut_O (Kv : VW) : List Ob := (obs Tryz.prog strings_Cut_E 13 (strings_Cut_A Kv) strings_Cut_C (fun _ => retQ Tryz.prog Tryz.f27.results Kv))

theorem strings_Cut_e (Kv : VW) (s_0 : ByteArray) (sep_1 : ByteArray) (w : World) : strings_Cut_sd s_0 sep_1 (fun (r0 : ByteArray) (r1 : ByteArray) (r2 : Bool) (w' : World) => Kv (Value.tuple #[(Value.string r0), (Value.string r1), (Value.bool r2)]) w') w = W Tryz.prog strings_Cut_E 13 (strings_Cut_A Kv) strings_Cut_C [] (retQ Tryz.prog Tryz.f27.results Kv) [] (startS [(Value.string s_0), (Value.string sep_1)]) w := by kernel_rfl

theorem strings_Cut_n (Kv : VW) : obAt (strings_Cut_O Kv) 0 = none := by kernel_rfl

theorem strings_Cut_h (Kv : VW) : ∀ k, holdsAt Tryz.prog strings_Cut_E 13 (strings_Cut_O Kv) k := fun _ => holdsAt_ge (strings_Cut_n Kv) (Nat.zero_le _)

theorem strings_Cut_ok : Sound Tryz.prog 27 strings_Cut_S := ⟨Tryz.call27, fun vs w Kv h => by
  unfold strings_Cut_S at h
  split at h
  · have h := h.out
    rw [strings_Cut_e] at h
    exact calls_sound (Γ := strings_Cut_E) progMixed ⟨.inl stringslite_Cut_ok, trivial⟩ Tryz.func27 (code := strings_Cut_C) (by kernel_rfl) (strings_Cut_A Kv) Kv (holds_all (strings_Cut_h Kv)) (Nat.le_of_ble_eq_true (by kernel_rfl)) h
  · exact h.elim⟩

/-! strconv_Atoi -/
structure strconv_Atoi_sh (a0 : ByteArray) (K : Int → Value → World → Prop) (w : World) : Prop where
  out : Calls Tryz.prog 28 #[(Value.string a0)] w fun e w' => ∃ r0 : Int, ∃ r1 : Value, e = .returned (Value.tuple #[(Value.int .i64 r0), r1]) ∧ K r0 r1 w'

noncomputable def strconv_Atoi_S : Pw.Spec := fun vs w Kv =>
  match vs with
  | [.string a0] => strconv_Atoi_sh a0 (fun (r0 : Int) (r1 : Value) (w' : World) => Kv (Value.tuple #[(Value.int .i64 r0), r1]) w') w
  | _ => False

theorem strconv_Atoi_ok : Sound Tryz.prog 28 strconv_Atoi_S := ⟨Tryz.call28, fun vs w Kv h => by
  unfold strconv_Atoi_S at h
  split at h
  · exact h.out.mono fun e w' he => by
      obtain ⟨_, _, he, hk⟩ := he
      exact ⟨_, he, hk⟩
  · exact h.elim⟩

/-! strconv_Itoa -/
structure strconv_Itoa_sh (a0 : Int) (K : ByteArray → World → Prop) (w : World) : Prop where
  out : Calls Tryz.prog 26 #[(Value.int .i64 a0)] w fun e w' => ∃ r0 : ByteArray, e = .returned (Value.string r0) ∧ K r0 w'

noncomputable def strconv_Itoa_S : Pw.Spec := fun vs w Kv =>
  match vs with
  | [.int .i64 a0] => strconv_Itoa_sh a0 (fun (r0 : ByteArray) (w' : World) => Kv (Value.string r0) w') w
  | _ => False

theorem strconv_Itoa_ok : Sound Tryz.prog 26 strconv_Itoa_S := ⟨Tryz.call26, fun vs w Kv h => by
  unfold strconv_Itoa_S at h
  split at h
  · exact h.out.mono fun e w' he => by
      obtain ⟨_, he, hk⟩ := he
      exact ⟨_, he, hk⟩
  · exact h.elim⟩

/-! ratio_Text -/
def ratio_Text_sd (a_0_0 : Int) (a_0_1 : Int) (K : ByteArray → World → Prop) (w : World) : Prop :=
  let w1 : World := w.alloc (Obj.cells #[(Value.int .i64 a_0_0), (Value.int .i64 a_0_1)] 26)
  ∃ x2 : Int, w1.cell? (Addr.mk w.heap.size 0 none) = some (Value.int .i64 x2) ∧ ∃ x3 : Int, w1.cell? (Addr.mk w.heap.size 1 none) = some (Value.int .i64 x3) ∧ ratio_Right_sh x2 x3 (fun (r5 : Bool) (w4 : World) => cnd (!r5)
    (K (str []) w4)
    (∃ x6 : Int, w4.cell? (Addr.mk w.heap.size 1 none) = some (Value.int .i64 x6) ∧ cnd (x6 == (1 : Int))
    (∃ x7 : Int, w4.cell? (Addr.mk w.heap.size 0 none) = some (Value.int .i64 x7) ∧ strconv_Itoa_sh x7 (fun (r9 : ByteArray) (w8 : World) => K r9 w8) w4)
    (let w10 : World := w4.drew
  ∃ S11 : World → Prop, S11 w10 ∧ ∃ x12 : Int, (∀ w' : World, S11 w' → w'.cell? (Addr.mk w.heap.size 0 none) = some (Value.int .i64 x12)) ∧ ∃ x13 : Int, (∀ w' : World, S11 w' → w'.cell? (Addr.mk w.heap.size 1 none) = some (Value.int .i64 x13)) ∧ strconv_Itoa_sh x12 (fun (r15 : ByteArray) (w14 : World) => S11 w14 ∧ (((r15.size + (str [47]).size : Nat) : Int) ≤ maxI) ∧ strconv_Itoa_sh x13 (fun (r17 : ByteArray) (w16 : World) => S11 w16 ∧ ((((r15 ++ (str [47])).size + r17.size : Nat) : Int) ≤ maxI) ∧ K ((r15 ++ (str [47])) ++ r17) w16) w14) w10))) w1

structure ratio_Text_sh (a_0_0 : Int) (a_0_1 : Int) (K : ByteArray → World → Prop) (w : World) : Prop where
  out : ratio_Text_sd a_0_0 a_0_1 K w

noncomputable def ratio_Text_S : Pw.Spec := fun vs w Kv =>
  match vs with
  | [.agg ⟨[.int .i64 a_0_0, .int .i64 a_0_1]⟩] => ratio_Text_sh a_0_0 a_0_1 (fun (r0 : ByteArray) (w' : World) => Kv (Value.string r0) w') w
  | _ => False

noncomputable def ratio_Text_E : Pw.Env := [(25, ratio_Right_S), (26, strconv_Itoa_S)]

noncomputable def ratio_Text_C : Code := (Tryz.f8.body).getD .skip

noncomputable def ratio_Text_A (_Kv : VW) : Pw.A :=
  (A.seq (A.reg (RA.run (RA.run RA.done)))
   (A.seq (A.blk (A.seq (A.reg (RA.run (RA.run (RA.run (RA.run RA.done)))))
   (A.cond (A.seq (A.reg (RA.run RA.done))
   A.leaf)
   (A.seq (A.reg (RA.run (RA.run (RA.run (RA.run RA.done)))))
   (A.cond (A.seq (A.reg (RA.run (RA.run (RA.run (RA.run RA.done)))))
   A.leaf)
   A.leaf)))))
   (A.seq (A.drw (DA.pur 0 (DA.pur 1 (DA.pur 4 (DA.pur 5 (DA.eff 2 (DA.pur 3 (DA.eff 6 (DA.pur 7 (DA.pur 8 DA.done))))))))))
   A.leaf)))

noncomputable def ratio_Text_O (Kv : VW) : List Ob := (obs Tryz.prog ratio_Text_E 22 (ratio_Text_A Kv) ratio_Text_C (fun _ => retQ Tryz.prog Tryz.f8.results Kv))

theorem ratio_Text_e (Kv : VW) (a_0_0 : Int) (a_0_1 : Int) (w : World) : ratio_Text_sd a_0_0 a_0_1 (fun (r0 : ByteArray) (w' : World) => Kv (Value.string r0) w') w = W Tryz.prog ratio_Text_E 22 (ratio_Text_A Kv) ratio_Text_C [] (retQ Tryz.prog Tryz.f8.results Kv) [] (startS [(Value.agg #[(Value.int .i64 a_0_0), (Value.int .i64 a_0_1)])]) w := by kernel_rfl

theorem ratio_Text_n (Kv : VW) : obAt (ratio_Text_O Kv) 0 = none := by kernel_rfl

theorem ratio_Text_h (Kv : VW) : ∀ k, holdsAt Tryz.prog ratio_Text_E 22 (ratio_Text_O Kv) k := fun _ => holdsAt_ge (ratio_Text_n Kv) (Nat.zero_le _)

theorem ratio_Text_ok : Sound Tryz.prog 8 ratio_Text_S := ⟨Tryz.call8, fun vs w Kv h => by
  unfold ratio_Text_S at h
  split at h
  · have h := h.out
    rw [ratio_Text_e] at h
    exact calls_sound (Γ := ratio_Text_E) progMixed ⟨.inl ratio_Right_ok, .inl strconv_Itoa_ok, trivial⟩ Tryz.func8 (code := ratio_Text_C) (by kernel_rfl) (ratio_Text_A Kv) Kv (holds_all (ratio_Text_h Kv)) (Nat.le_of_ble_eq_true (by kernel_rfl)) h
  · exact h.elim⟩

/-! ratio_Parse -/
def ratio_Parse_k1d (t_2 : Addr)  (K : Int → Int → Bool → World → Prop) (w : World) : Prop :=
  ratio_zero_sh (fun (r24_0 : Int) (r24_1 : Int) (w23 : World) => wrOk w23 t_2 ∧ 
  (let w25 : World := w23.setCell t_2 (Value.int .i64 r24_0)
  wrOk w25 (t_2.add 1) ∧ 
  (let w26 : World := w25.setCell (t_2.add 1) (Value.int .i64 r24_1)
  ∃ x27 : Int, w26.cell? t_2 = some (Value.int .i64 x27) ∧ ∃ x28 : Int, w26.cell? (t_2.add 1) = some (Value.int .i64 x28) ∧ K x27 x28 false w26))) w
structure ratio_Parse_k1 (t_2 : Addr)  (K : Int → Int → Bool → World → Prop) (w : World) : Prop where
  out : ratio_Parse_k1d t_2 K w

def ratio_Parse_k0d (s_0 : ByteArray) (t_2 : Addr) (a_7 : Addr) (e_8 : Value) (f_9 : Value)  (K : Int → Int → Bool → World → Prop) (w : World) : Prop :=
  nif e_8 fun b17 => cnd (!b17)
    (ratio_Parse_k1 t_2 K w)
    (nif f_9 fun b18 => cnd (!b18)
    (ratio_Parse_k1 t_2 K w)
    (∃ x19 : Int, w.cell? a_7 = some (Value.int .i64 x19) ∧ ∃ x20 : Int, w.cell? (a_7.add 1) = some (Value.int .i64 x20) ∧ ratio_Text_sh x19 x20 (fun (r22 : ByteArray) (w21 : World) => cnd (!decide (r22 = s_0))
    (ratio_Parse_k1 t_2 K w21)
    (∃ x29 : Int, w21.cell? a_7 = some (Value.int .i64 x29) ∧ ∃ x30 : Int, w21.cell? (a_7.add 1) = some (Value.int .i64 x30) ∧ wrOk w21 t_2 ∧ 
  (let w31 : World := w21.setCell t_2 (Value.int .i64 x29)
  wrOk w31 (t_2.add 1) ∧ 
  (let w32 : World := w31.setCell (t_2.add 1) (Value.int .i64 x30)
  ∃ x33 : Int, w32.cell? t_2 = some (Value.int .i64 x33) ∧ ∃ x34 : Int, w32.cell? (t_2.add 1) = some (Value.int .i64 x34) ∧ K x33 x34 true w32)))) w))
structure ratio_Parse_k0 (s_0 : ByteArray) (t_2 : Addr) (a_7 : Addr) (e_8 : Value) (f_9 : Value)  (K : Int → Int → Bool → World → Prop) (w : World) : Prop where
  out : ratio_Parse_k0d s_0 t_2 a_7 e_8 f_9 K w

def ratio_Parse_sd (s_0 : ByteArray) (K : Int → Int → Bool → World → Prop) (w : World) : Prop :=
  let w1 : World := w.alloc (Obj.cells #[(Value.int .i64 (0 : Int)), (Value.int .i64 (0 : Int))] 26)
  strings_Cut_sh s_0 (str [47]) (fun (r3 : ByteArray) (r4 : ByteArray) (r5 : Bool) (w2 : World) => let w6 : World := w2.alloc (Obj.cells #[(Value.int .i64 (0 : Int)), (Value.int .i64 (0 : Int))] 26)
  wrOk w6 (Addr.mk w2.heap.size 0 none) ∧ 
  (let w7 : World := w6.setCell (Addr.mk w2.heap.size 0 none) (Value.int .i64 (0 : Int))
  wrOk w7 (Addr.mk w2.heap.size 1 none) ∧ 
  (let w8 : World := w7.setCell (Addr.mk w2.heap.size 1 none) (Value.int .i64 (1 : Int))
  strconv_Atoi_sh r3 (fun (r10 : Int) (r11 : Value) (w9 : World) => wrOk w9 (Addr.mk w2.heap.size 0 none) ∧ 
  (let w12 : World := w9.setCell (Addr.mk w2.heap.size 0 none) (Value.int .i64 r10)
  cnd r5
    (strconv_Atoi_sh r4 (fun (r14 : Int) (r15 : Value) (w13 : World) => wrOk w13 (Addr.mk w2.heap.size 1 none) ∧ 
  (let w16 : World := w13.setCell (Addr.mk w2.heap.size 1 none) (Value.int .i64 r14)
  ratio_Parse_k0 s_0 (Addr.mk w.heap.size 0 none) (Addr.mk w2.heap.size 0 none) r11 r15 K w16)) w12)
    (ratio_Parse_k0 s_0 (Addr.mk w.heap.size 0 none) (Addr.mk w2.heap.size 0 none) r11 Value.nilIface K w12))) w8))) w1

structure ratio_Parse_sh (s_0 : ByteArray) (K : Int → Int → Bool → World → Prop) (w : World) : Prop where
  out : ratio_Parse_sd s_0 K w

def ratio_Parse_P0 (Kv : VW) (ρ : Rho) (vs : List Value) (w : World) : Prop :=
  match ρ, vs with
  | _, [.string s_0, .pointer (some t_2), .pointer (some a_7), e_8, f_9] => ratio_Parse_k0 s_0 t_2 a_7 e_8 f_9  (fun (r0_0 : Int) (r0_1 : Int) (r1 : Bool) (w' : World) => Kv (Value.tuple #[(Value.agg #[(Value.int .i64 r0_0), (Value.int .i64 r0_1)]), (Value.bool r1)]) w') w
  | _, _ => False

def ratio_Parse_P1 (Kv : VW) (ρ : Rho) (vs : List Value) (w : World) : Prop :=
  match ρ, vs with
  | _, [.pointer (some t_2)] => ratio_Parse_k1 t_2  (fun (r0_0 : Int) (r0_1 : Int) (r1 : Bool) (w' : World) => Kv (Value.tuple #[(Value.agg #[(Value.int .i64 r0_0), (Value.int .i64 r0_1)]), (Value.bool r1)]) w') w
  | _, _ => False

noncomputable def ratio_Parse_S : Pw.Spec := fun vs w Kv =>
  match vs with
  | [.string s_0] => ratio_Parse_sh s_0 (fun (r0_0 : Int) (r0_1 : Int) (r1 : Bool) (w' : World) => Kv (Value.tuple #[(Value.agg #[(Value.int .i64 r0_0), (Value.int .i64 r0_1)]), (Value.bool r1)]) w') w
  | _ => False

noncomputable def ratio_Parse_E : Pw.Env := [(8, ratio_Text_S), (27, strings_Cut_S), (28, strconv_Atoi_S), (29, ratio_zero_S)]

noncomputable def ratio_Parse_C : Code := (Tryz.f9.body).getD .skip

noncomputable def ratio_Parse_A (Kv : VW) : Pw.A :=
  (A.seq (A.reg (RA.run (RA.run RA.done)))
   (A.seq (A.reg (RA.run (RA.run (RA.run (RA.run (RA.run (RA.run (RA.run (RA.run (RA.run RA.done))))))))))
   (A.seq (A.reg (RA.run (RA.run (RA.run RA.done))))
   (A.seq (A.reg (RA.run (RA.run RA.done)))
   (A.seq (A.reg (RA.run (RA.run (RA.run (RA.run (RA.run (RA.run (RA.run (RA.run RA.done)))))))))
   (A.seq (A.seq (A.reg (RA.run RA.done))
   (A.cond (A.reg (RA.run (RA.run (RA.run (RA.run (RA.run (RA.run (RA.run (RA.run RA.done)))))))))
   A.leaf))
   (A.cut [0, 2, 7, 8, 9] (ratio_Parse_P0 Kv) (A.seq (A.seq (A.reg (RA.run (RA.run (RA.run (RA.spl 32 (RA.skp (RA.skp (RA.run (RA.run (RA.skp (RA.skp (RA.skp (RA.skp (RA.run RA.done))))))))) (RA.run (RA.run (RA.run (RA.run (RA.spl 36 (RA.skp (RA.skp (RA.skp (RA.skp (RA.run RA.done))))) (RA.run (RA.run (RA.run (RA.run (RA.run RA.done)))))))))))))))
   (A.cond (A.cut [2] (ratio_Parse_P1 Kv) (A.seq (A.reg (RA.run (RA.run (RA.run RA.done))))
   A.leaf))
   A.leaf))
   (A.seq (A.reg (RA.run (RA.run (RA.run RA.done))))
   A.leaf)))))))))

noncomputable def ratio_Parse_O (Kv : VW) : List Ob := (obs Tryz.prog ratio_Parse_E 44 (ratio_Parse_A Kv) ratio_Parse_C (fun _ => retQ Tryz.prog Tryz.f9.results Kv))

theorem ratio_Parse_e (Kv : VW) (s_0 : ByteArray) (w : World) : ratio_Parse_sd s_0 (fun (r0_0 : Int) (r0_1 : Int) (r1 : Bool) (w' : World) => Kv (Value.tuple #[(Value.agg #[(Value.int .i64 r0_0), (Value.int .i64 r0_1)]), (Value.bool r1)]) w') w = W Tryz.prog ratio_Parse_E 44 (ratio_Parse_A Kv) ratio_Parse_C [] (retQ Tryz.prog Tryz.f9.results Kv) [] (startS [(Value.string s_0)]) w := by kernel_rfl

theorem ratio_Parse_e0 (Kv : VW) (ρ : Rho) (s_0 : ByteArray) (t_2 : Addr) (a_7 : Addr) (e_8 : Value) (f_9 : Value) (w : World) : ratio_Parse_k0d s_0 t_2 a_7 e_8 f_9  (fun (r0_0 : Int) (r0_1 : Int) (r1 : Bool) (w' : World) => Kv (Value.tuple #[(Value.agg #[(Value.int .i64 r0_0), (Value.int .i64 r0_1)]), (Value.bool r1)]) w') w = goalAt Tryz.prog ratio_Parse_E 44 (ratio_Parse_O Kv) 0 (ρ) [(Value.string s_0), (Value.pointer (some t_2)), (Value.pointer (some a_7)), e_8, f_9] w := by kernel_rfl

theorem ratio_Parse_q0 (Kv : VW) (ρ : Rho) (vs : List Value) (w : World) : labAt (ratio_Parse_O Kv) 0 ρ vs w = ratio_Parse_P0 Kv ρ vs w := by kernel_rfl

theorem ratio_Parse_h0 (Kv : VW) : holdsAt Tryz.prog ratio_Parse_E 44 (ratio_Parse_O Kv) 0 := holdsAt_cut (.inl (by kernel_rfl)) (fun ρ vs w h => by
  rw [ratio_Parse_q0] at h
  unfold ratio_Parse_P0 at h
  split at h
  · rw [← ratio_Parse_e0]; exact h.out
  · exact h.elim)

theorem ratio_Parse_e1 (Kv : VW) (ρ : Rho) (t_2 : Addr) (w : World) : ratio_Parse_k1d t_2  (fun (r0_0 : Int) (r0_1 : Int) (r1 : Bool) (w' : World) => Kv (Value.tuple #[(Value.agg #[(Value.int .i64 r0_0), (Value.int .i64 r0_1)]), (Value.bool r1)]) w') w = goalAt Tryz.prog ratio_Parse_E 44 (ratio_Parse_O Kv) 1 (ρ) [(Value.pointer (some t_2))] w := by kernel_rfl

theorem ratio_Parse_q1 (Kv : VW) (ρ : Rho) (vs : List Value) (w : World) : labAt (ratio_Parse_O Kv) 1 ρ vs w = ratio_Parse_P1 Kv ρ vs w := by kernel_rfl

theorem ratio_Parse_h1 (Kv : VW) : holdsAt Tryz.prog ratio_Parse_E 44 (ratio_Parse_O Kv) 1 := holdsAt_cut (.inl (by kernel_rfl)) (fun ρ vs w h => by
  rw [ratio_Parse_q1] at h
  unfold ratio_Parse_P1 at h
  split at h
  · rw [← ratio_Parse_e1]; exact h.out
  · exact h.elim)

theorem ratio_Parse_n (Kv : VW) : obAt (ratio_Parse_O Kv) 2 = none := by kernel_rfl

theorem ratio_Parse_h (Kv : VW) : ∀ k, holdsAt Tryz.prog ratio_Parse_E 44 (ratio_Parse_O Kv) k := fun k => match k with
  | 0 => ratio_Parse_h0 Kv
  | 1 => ratio_Parse_h1 Kv
  | _k + 2 => holdsAt_ge (ratio_Parse_n Kv) (Nat.le_add_left _ _)

theorem ratio_Parse_ok : Sound Tryz.prog 9 ratio_Parse_S := ⟨Tryz.call9, fun vs w Kv h => by
  unfold ratio_Parse_S at h
  split at h
  · have h := h.out
    rw [ratio_Parse_e] at h
    exact calls_sound (Γ := ratio_Parse_E) progMixed ⟨.inl ratio_Text_ok, .inl strings_Cut_ok, .inl strconv_Atoi_ok, .inl ratio_zero_ok, trivial⟩ Tryz.func9 (code := ratio_Parse_C) (by kernel_rfl) (ratio_Parse_A Kv) Kv (holds_all (ratio_Parse_h Kv)) (Nat.le_of_ble_eq_true (by kernel_rfl)) h
  · exact h.elim⟩

/-! probitylaw01_is -/
def probitylaw01_is_sd (a_0_0 : Int) (a_0_1 : Int) (ok_1 : Bool) (num_2 : Int) (den_3 : Int) (K : Bool → World → Prop) (w : World) : Prop :=
  let w1 : World := w.alloc (Obj.cells #[(Value.int .i64 a_0_0), (Value.int .i64 a_0_1)] 26)
  cnd ok_1
    (∃ x2 : Int, w1.cell? (Addr.mk w.heap.size 0 none) = some (Value.int .i64 x2) ∧ ∃ x3 : Int, w1.cell? (Addr.mk w.heap.size 1 none) = some (Value.int .i64 x3) ∧ K (x2 == num_2 && (x3 == den_3 && true)) w1)
    (K false w1)

structure probitylaw01_is_sh (a_0_0 : Int) (a_0_1 : Int) (ok_1 : Bool) (num_2 : Int) (den_3 : Int) (K : Bool → World → Prop) (w : World) : Prop where
  out : probitylaw01_is_sd a_0_0 a_0_1 ok_1 num_2 den_3 K w

noncomputable def probitylaw01_is_S : Pw.Spec := fun vs w Kv =>
  match vs with
  | [.agg ⟨[.int .i64 a_0_0, .int .i64 a_0_1]⟩, .bool ok_1, .int .i64 num_2, .int .i64 den_3] => probitylaw01_is_sh a_0_0 a_0_1 ok_1 num_2 den_3 (fun (r0 : Bool) (w' : World) => Kv (Value.bool r0) w') w
  | _ => False

noncomputable def probitylaw01_is_E : Pw.Env := []

noncomputable def probitylaw01_is_C : Code := (Tryz.f19.body).getD .skip

noncomputable def probitylaw01_is_A (_Kv : VW) : Pw.A :=
  (A.seq (A.reg (RA.run (RA.run RA.done)))
   (A.seq (A.reg (RA.run (RA.run (RA.spl 10 (RA.run (RA.run (RA.run (RA.run (RA.run (RA.run (RA.run RA.done))))))) (RA.skp (RA.skp (RA.skp (RA.skp (RA.skp (RA.run (RA.run RA.done)))))))))))
   A.leaf))

noncomputable def probitylaw01_is_O (Kv : VW) : List Ob := (obs Tryz.prog probitylaw01_is_E 17 (probitylaw01_is_A Kv) probitylaw01_is_C (fun _ => retQ Tryz.prog Tryz.f19.results Kv))

theorem probitylaw01_is_e (Kv : VW) (a_0_0 : Int) (a_0_1 : Int) (ok_1 : Bool) (num_2 : Int) (den_3 : Int) (w : World) : probitylaw01_is_sd a_0_0 a_0_1 ok_1 num_2 den_3 (fun (r0 : Bool) (w' : World) => Kv (Value.bool r0) w') w = W Tryz.prog probitylaw01_is_E 17 (probitylaw01_is_A Kv) probitylaw01_is_C [] (retQ Tryz.prog Tryz.f19.results Kv) [] (startS [(Value.agg #[(Value.int .i64 a_0_0), (Value.int .i64 a_0_1)]), (Value.bool ok_1), (Value.int .i64 num_2), (Value.int .i64 den_3)]) w := by kernel_rfl

theorem probitylaw01_is_n (Kv : VW) : obAt (probitylaw01_is_O Kv) 0 = none := by kernel_rfl

theorem probitylaw01_is_h (Kv : VW) : ∀ k, holdsAt Tryz.prog probitylaw01_is_E 17 (probitylaw01_is_O Kv) k := fun _ => holdsAt_ge (probitylaw01_is_n Kv) (Nat.zero_le _)

theorem probitylaw01_is_ok : Sound Tryz.prog 19 probitylaw01_is_S := ⟨Tryz.call19, fun vs w Kv h => by
  unfold probitylaw01_is_S at h
  split at h
  · have h := h.out
    rw [probitylaw01_is_e] at h
    exact calls_sound (Γ := probitylaw01_is_E) progMixed trivial Tryz.func19 (code := probitylaw01_is_C) (by kernel_rfl) (probitylaw01_is_A Kv) Kv (holds_all (probitylaw01_is_h Kv)) (Nat.le_of_ble_eq_true (by kernel_rfl)) h
  · exact h.elim⟩

/-! probitylaw01_none -/
def probitylaw01_none_sd (a_0_0 : Int) (a_0_1 : Int) (ok_1 : Bool) (K : Bool → World → Prop) (w : World) : Prop :=
  let w1 : World := w.alloc (Obj.cells #[(Value.int .i64 a_0_0), (Value.int .i64 a_0_1)] 26)
  cnd (!ok_1)
    (∃ x2 : Int, w1.cell? (Addr.mk w.heap.size 0 none) = some (Value.int .i64 x2) ∧ ∃ x3 : Int, w1.cell? (Addr.mk w.heap.size 1 none) = some (Value.int .i64 x3) ∧ K (x2 == (0 : Int) && (x3 == (1 : Int) && true)) w1)
    (K false w1)

structure probitylaw01_none_sh (a_0_0 : Int) (a_0_1 : Int) (ok_1 : Bool) (K : Bool → World → Prop) (w : World) : Prop where
  out : probitylaw01_none_sd a_0_0 a_0_1 ok_1 K w

noncomputable def probitylaw01_none_S : Pw.Spec := fun vs w Kv =>
  match vs with
  | [.agg ⟨[.int .i64 a_0_0, .int .i64 a_0_1]⟩, .bool ok_1] => probitylaw01_none_sh a_0_0 a_0_1 ok_1 (fun (r0 : Bool) (w' : World) => Kv (Value.bool r0) w') w
  | _ => False

noncomputable def probitylaw01_none_E : Pw.Env := []

noncomputable def probitylaw01_none_C : Code := (Tryz.f20.body).getD .skip

noncomputable def probitylaw01_none_A (_Kv : VW) : Pw.A :=
  (A.seq (A.reg (RA.run (RA.run RA.done)))
   (A.seq (A.reg (RA.run (RA.run (RA.run (RA.spl 7 (RA.run (RA.run (RA.run (RA.run (RA.run RA.done))))) (RA.skp (RA.skp (RA.skp (RA.run (RA.run RA.done))))))))))
   A.leaf))

noncomputable def probitylaw01_none_O (Kv : VW) : List Ob := (obs Tryz.prog probitylaw01_none_E 12 (probitylaw01_none_A Kv) probitylaw01_none_C (fun _ => retQ Tryz.prog Tryz.f20.results Kv))

theorem probitylaw01_none_e (Kv : VW) (a_0_0 : Int) (a_0_1 : Int) (ok_1 : Bool) (w : World) : probitylaw01_none_sd a_0_0 a_0_1 ok_1 (fun (r0 : Bool) (w' : World) => Kv (Value.bool r0) w') w = W Tryz.prog probitylaw01_none_E 12 (probitylaw01_none_A Kv) probitylaw01_none_C [] (retQ Tryz.prog Tryz.f20.results Kv) [] (startS [(Value.agg #[(Value.int .i64 a_0_0), (Value.int .i64 a_0_1)]), (Value.bool ok_1)]) w := by kernel_rfl

theorem probitylaw01_none_n (Kv : VW) : obAt (probitylaw01_none_O Kv) 0 = none := by kernel_rfl

theorem probitylaw01_none_h (Kv : VW) : ∀ k, holdsAt Tryz.prog probitylaw01_none_E 12 (probitylaw01_none_O Kv) k := fun _ => holdsAt_ge (probitylaw01_none_n Kv) (Nat.zero_le _)

theorem probitylaw01_none_ok : Sound Tryz.prog 20 probitylaw01_none_S := ⟨Tryz.call20, fun vs w Kv h => by
  unfold probitylaw01_none_S at h
  split at h
  · have h := h.out
    rw [probitylaw01_none_e] at h
    exact calls_sound (Γ := probitylaw01_none_E) progMixed trivial Tryz.func20 (code := probitylaw01_none_C) (by kernel_rfl) (probitylaw01_none_A Kv) Kv (holds_all (probitylaw01_none_h Kv)) (Nat.le_of_ble_eq_true (by kernel_rfl)) h
  · exact h.elim⟩

/-! probitylaw01_same -/
def probitylaw01_same_sd (a_0_0 : Int) (a_0_1 : Int) (b_1 : Bool) (c_2_0 : Int) (c_2_1 : Int) (d_3 : Bool) (K : Bool → World → Prop) (w : World) : Prop :=
  let w1 : World := w.alloc (Obj.cells #[(Value.int .i64 a_0_0), (Value.int .i64 a_0_1)] 26)
  let w2 : World := w1.alloc (Obj.cells #[(Value.int .i64 c_2_0), (Value.int .i64 c_2_1)] 26)
  ∃ x3 : Int, w2.cell? (Addr.mk w.heap.size 0 none) = some (Value.int .i64 x3) ∧ ∃ x4 : Int, w2.cell? (Addr.mk w.heap.size 1 none) = some (Value.int .i64 x4) ∧ ∃ x5 : Int, w2.cell? (Addr.mk w1.heap.size 0 none) = some (Value.int .i64 x5) ∧ ∃ x6 : Int, w2.cell? (Addr.mk w1.heap.size 1 none) = some (Value.int .i64 x6) ∧ cnd (x3 == x5 && (x4 == x6 && true))
    (K (b_1 == d_3) w2)
    (K false w2)

structure probitylaw01_same_sh (a_0_0 : Int) (a_0_1 : Int) (b_1 : Bool) (c_2_0 : Int) (c_2_1 : Int) (d_3 : Bool) (K : Bool → World → Prop) (w : World) : Prop where
  out : probitylaw01_same_sd a_0_0 a_0_1 b_1 c_2_0 c_2_1 d_3 K w

noncomputable def probitylaw01_same_S : Pw.Spec := fun vs w Kv =>
  match vs with
  | [.agg ⟨[.int .i64 a_0_0, .int .i64 a_0_1]⟩, .bool b_1, .agg ⟨[.int .i64 c_2_0, .int .i64 c_2_1]⟩, .bool d_3] => probitylaw01_same_sh a_0_0 a_0_1 b_1 c_2_0 c_2_1 d_3 (fun (r0 : Bool) (w' : World) => Kv (Value.bool r0) w') w
  | _ => False

noncomputable def probitylaw01_same_E : Pw.Env := []

noncomputable def probitylaw01_same_C : Code := (Tryz.f12.body).getD .skip

noncomputable def probitylaw01_same_A (_Kv : VW) : Pw.A :=
  (A.seq (A.reg (RA.run (RA.run (RA.run RA.done))))
   (A.seq (A.reg (RA.run (RA.run (RA.run (RA.run (RA.spl 12 (RA.run (RA.run (RA.run (RA.run (RA.run RA.done))))) (RA.skp (RA.skp (RA.skp (RA.run (RA.run RA.done)))))))))))
   A.leaf))

noncomputable def probitylaw01_same_O (Kv : VW) : List Ob := (obs Tryz.prog probitylaw01_same_E 17 (probitylaw01_same_A Kv) probitylaw01_same_C (fun _ => retQ Tryz.prog Tryz.f12.results Kv))

theorem probitylaw01_same_e (Kv : VW) (a_0_0 : Int) (a_0_1 : Int) (b_1 : Bool) (c_2_0 : Int) (c_2_1 : Int) (d_3 : Bool) (w : World) : probitylaw01_same_sd a_0_0 a_0_1 b_1 c_2_0 c_2_1 d_3 (fun (r0 : Bool) (w' : World) => Kv (Value.bool r0) w') w = W Tryz.prog probitylaw01_same_E 17 (probitylaw01_same_A Kv) probitylaw01_same_C [] (retQ Tryz.prog Tryz.f12.results Kv) [] (startS [(Value.agg #[(Value.int .i64 a_0_0), (Value.int .i64 a_0_1)]), (Value.bool b_1), (Value.agg #[(Value.int .i64 c_2_0), (Value.int .i64 c_2_1)]), (Value.bool d_3)]) w := by kernel_rfl

theorem probitylaw01_same_n (Kv : VW) : obAt (probitylaw01_same_O Kv) 0 = none := by kernel_rfl

theorem probitylaw01_same_h (Kv : VW) : ∀ k, holdsAt Tryz.prog probitylaw01_same_E 17 (probitylaw01_same_O Kv) k := fun _ => holdsAt_ge (probitylaw01_same_n Kv) (Nat.zero_le _)

theorem probitylaw01_same_ok : Sound Tryz.prog 12 probitylaw01_same_S := ⟨Tryz.call12, fun vs w Kv h => by
  unfold probitylaw01_same_S at h
  split at h
  · have h := h.out
    rw [probitylaw01_same_e] at h
    exact calls_sound (Γ := probitylaw01_same_E) progMixed trivial Tryz.func12 (code := probitylaw01_same_C) (by kernel_rfl) (probitylaw01_same_A Kv) Kv (holds_all (probitylaw01_same_h Kv)) (Nat.le_of_ble_eq_true (by kernel_rfl)) h
  · exact h.elim⟩

/-! probitylaw01_sanity -/
def probitylaw01_sanity_k0d (third_8 : Addr) (o_17 : Addr) (p_18 : Bool) (q_19 : Addr) (r_20 : Bool) (one_21 : Bool)  (K : Bool → World → Prop) (w : World) : Prop :=
  cnd one_21
    (ratio_Floor_sh (-7 : Int) (2 : Int) (fun (r102 : Int) (w101 : World) => cnd (r102 == (-4 : Int))
    (∃ x103 : Int, w101.cell? third_8 = some (Value.int .i64 x103) ∧ ∃ x104 : Int, w101.cell? (third_8.add 1) = some (Value.int .i64 x104) ∧ ratio_Cmp_sh x103 x104 (333333333 : Int) (1000000000 : Int) (fun (r106 : Int) (w105 : World) => cnd (r106 == (1 : Int))
    (∃ x107 : Int, w105.cell? o_17 = some (Value.int .i64 x107) ∧ ∃ x108 : Int, w105.cell? (o_17.add 1) = some (Value.int .i64 x108) ∧ probitylaw01_is_sh x107 x108 p_18 (-1 : Int) (2 : Int) (fun (r110 : Bool) (w109 : World) => cnd r110
    (∃ x111 : Int, w109.cell? q_19 = some (Value.int .i64 x111) ∧ ∃ x112 : Int, w109.cell? (q_19.add 1) = some (Value.int .i64 x112) ∧ probitylaw01_none_sh x111 x112 r_20 (fun (r114 : Bool) (w113 : World) => K r114 w113) w109)
    (K false w109)) w105)
    (K false w105)) w101)
    (K false w101)) w)
    (K false w)
structure probitylaw01_sanity_k0 (third_8 : Addr) (o_17 : Addr) (p_18 : Bool) (q_19 : Addr) (r_20 : Bool) (one_21 : Bool)  (K : Bool → World → Prop) (w : World) : Prop where
  out : probitylaw01_sanity_k0d third_8 o_17 p_18 q_19 r_20 one_21 K w

def probitylaw01_sanity_sd  (K : Bool → World → Prop) (w : World) : Prop :=
  ratio_Make_sh (6 : Int) (-4 : Int) (fun (r2_0 : Int) (r2_1 : Int) (r3 : Bool) (w1 : World) => let w4 : World := w1.alloc (Obj.cells #[(Value.int .i64 (0 : Int)), (Value.int .i64 (0 : Int))] 26)
  wrOk w4 (Addr.mk w1.heap.size 0 none) ∧ 
  (let w5 : World := w4.setCell (Addr.mk w1.heap.size 0 none) (Value.int .i64 r2_0)
  wrOk w5 (Addr.mk w1.heap.size 1 none) ∧ 
  (let w6 : World := w5.setCell (Addr.mk w1.heap.size 1 none) (Value.int .i64 r2_1)
  ratio_Make_sh (1 : Int) (0 : Int) (fun (r8_0 : Int) (r8_1 : Int) (r9 : Bool) (w7 : World) => let w10 : World := w7.alloc (Obj.cells #[(Value.int .i64 (0 : Int)), (Value.int .i64 (0 : Int))] 26)
  wrOk w10 (Addr.mk w7.heap.size 0 none) ∧ 
  (let w11 : World := w10.setCell (Addr.mk w7.heap.size 0 none) (Value.int .i64 r8_0)
  wrOk w11 (Addr.mk w7.heap.size 1 none) ∧ 
  (let w12 : World := w11.setCell (Addr.mk w7.heap.size 1 none) (Value.int .i64 r8_1)
  ratio_Make_sh (-9223372036854775808 : Int) (-1 : Int) (fun (r14_0 : Int) (r14_1 : Int) (r15 : Bool) (w13 : World) => let w16 : World := w13.alloc (Obj.cells #[(Value.int .i64 (0 : Int)), (Value.int .i64 (0 : Int))] 26)
  wrOk w16 (Addr.mk w13.heap.size 0 none) ∧ 
  (let w17 : World := w16.setCell (Addr.mk w13.heap.size 0 none) (Value.int .i64 r14_0)
  wrOk w17 (Addr.mk w13.heap.size 1 none) ∧ 
  (let w18 : World := w17.setCell (Addr.mk w13.heap.size 1 none) (Value.int .i64 r14_1)
  let w19 : World := w18.alloc (Obj.cells #[(Value.int .i64 (0 : Int)), (Value.int .i64 (0 : Int))] 26)
  wrOk w19 (Addr.mk w18.heap.size 0 none) ∧ 
  (let w20 : World := w19.setCell (Addr.mk w18.heap.size 0 none) (Value.int .i64 (1 : Int))
  wrOk w20 (Addr.mk w18.heap.size 1 none) ∧ 
  (let w21 : World := w20.setCell (Addr.mk w18.heap.size 1 none) (Value.int .i64 (2 : Int))
  let w22 : World := w21.alloc (Obj.cells #[(Value.int .i64 (0 : Int)), (Value.int .i64 (0 : Int))] 26)
  wrOk w22 (Addr.mk w21.heap.size 0 none) ∧ 
  (let w23 : World := w22.setCell (Addr.mk w21.heap.size 0 none) (Value.int .i64 (1 : Int))
  wrOk w23 (Addr.mk w21.heap.size 1 none) ∧ 
  (let w24 : World := w23.setCell (Addr.mk w21.heap.size 1 none) (Value.int .i64 (3 : Int))
  ∃ x25 : Int, w24.cell? (Addr.mk w18.heap.size 0 none) = some (Value.int .i64 x25) ∧ ∃ x26 : Int, w24.cell? (Addr.mk w18.heap.size 1 none) = some (Value.int .i64 x26) ∧ ∃ x27 : Int, w24.cell? (Addr.mk w21.heap.size 0 none) = some (Value.int .i64 x27) ∧ ∃ x28 : Int, w24.cell? (Addr.mk w21.heap.size 1 none) = some (Value.int .i64 x28) ∧ ratio_Add_sh x25 x26 x27 x28 (fun (r30_0 : Int) (r30_1 : Int) (r31 : Bool) (w29 : World) => let w32 : World := w29.alloc (Obj.cells #[(Value.int .i64 (0 : Int)), (Value.int .i64 (0 : Int))] 26)
  wrOk w32 (Addr.mk w29.heap.size 0 none) ∧ 
  (let w33 : World := w32.setCell (Addr.mk w29.heap.size 0 none) (Value.int .i64 r30_0)
  wrOk w33 (Addr.mk w29.heap.size 1 none) ∧ 
  (let w34 : World := w33.setCell (Addr.mk w29.heap.size 1 none) (Value.int .i64 r30_1)
  ratio_Of_sh (9223372036854775807 : Int) (fun (r36_0 : Int) (r36_1 : Int) (w35 : World) => ratio_Of_sh (1 : Int) (fun (r38_0 : Int) (r38_1 : Int) (w37 : World) => ratio_Add_sh r36_0 r36_1 r38_0 r38_1 (fun (r40_0 : Int) (r40_1 : Int) (r41 : Bool) (w39 : World) => let w42 : World := w39.alloc (Obj.cells #[(Value.int .i64 (0 : Int)), (Value.int .i64 (0 : Int))] 26)
  wrOk w42 (Addr.mk w39.heap.size 0 none) ∧ 
  (let w43 : World := w42.setCell (Addr.mk w39.heap.size 0 none) (Value.int .i64 r40_0)
  wrOk w43 (Addr.mk w39.heap.size 1 none) ∧ 
  (let w44 : World := w43.setCell (Addr.mk w39.heap.size 1 none) (Value.int .i64 r40_1)
  ratio_Mul_sh (9223372036854775807 : Int) (2 : Int) (2 : Int) (9223372036854775807 : Int) (fun (r46_0 : Int) (r46_1 : Int) (r47 : Bool) (w45 : World) => let w48 : World := w45.alloc (Obj.cells #[(Value.int .i64 (0 : Int)), (Value.int .i64 (0 : Int))] 26)
  wrOk w48 (Addr.mk w45.heap.size 0 none) ∧ 
  (let w49 : World := w48.setCell (Addr.mk w45.heap.size 0 none) (Value.int .i64 r46_0)
  wrOk w49 (Addr.mk w45.heap.size 1 none) ∧ 
  (let w50 : World := w49.setCell (Addr.mk w45.heap.size 1 none) (Value.int .i64 r46_1)
  ratio_Of_sh (1 : Int) (fun (r52_0 : Int) (r52_1 : Int) (w51 : World) => ratio_Of_sh (-9223372036854775808 : Int) (fun (r54_0 : Int) (r54_1 : Int) (w53 : World) => ratio_Quo_sh r52_0 r52_1 r54_0 r54_1 (fun (r56_0 : Int) (r56_1 : Int) (r57 : Bool) (w55 : World) => let w58 : World := w55.alloc (Obj.cells #[(Value.int .i64 (0 : Int)), (Value.int .i64 (0 : Int))] 26)
  wrOk w58 (Addr.mk w55.heap.size 0 none) ∧ 
  (let w59 : World := w58.setCell (Addr.mk w55.heap.size 0 none) (Value.int .i64 r56_0)
  wrOk w59 (Addr.mk w55.heap.size 1 none) ∧ 
  (let w60 : World := w59.setCell (Addr.mk w55.heap.size 1 none) (Value.int .i64 r56_1)
  ratio_Parse_sh (str [45, 49, 47, 50]) (fun (r62_0 : Int) (r62_1 : Int) (r63 : Bool) (w61 : World) => let w64 : World := w61.alloc (Obj.cells #[(Value.int .i64 (0 : Int)), (Value.int .i64 (0 : Int))] 26)
  wrOk w64 (Addr.mk w61.heap.size 0 none) ∧ 
  (let w65 : World := w64.setCell (Addr.mk w61.heap.size 0 none) (Value.int .i64 r62_0)
  wrOk w65 (Addr.mk w61.heap.size 1 none) ∧ 
  (let w66 : World := w65.setCell (Addr.mk w61.heap.size 1 none) (Value.int .i64 r62_1)
  ratio_Parse_sh (str [50, 47, 52]) (fun (r68_0 : Int) (r68_1 : Int) (r69 : Bool) (w67 : World) => let w70 : World := w67.alloc (Obj.cells #[(Value.int .i64 (0 : Int)), (Value.int .i64 (0 : Int))] 26)
  wrOk w70 (Addr.mk w67.heap.size 0 none) ∧ 
  (let w71 : World := w70.setCell (Addr.mk w67.heap.size 0 none) (Value.int .i64 r68_0)
  wrOk w71 (Addr.mk w67.heap.size 1 none) ∧ 
  (let w72 : World := w71.setCell (Addr.mk w67.heap.size 1 none) (Value.int .i64 r68_1)
  ∃ x73 : Int, w72.cell? (Addr.mk w1.heap.size 0 none) = some (Value.int .i64 x73) ∧ ∃ x74 : Int, w72.cell? (Addr.mk w1.heap.size 1 none) = some (Value.int .i64 x74) ∧ probitylaw01_is_sh x73 x74 r3 (-3 : Int) (2 : Int) (fun (r76 : Bool) (w75 : World) => cnd r76
    (∃ x77 : Int, w75.cell? (Addr.mk w7.heap.size 0 none) = some (Value.int .i64 x77) ∧ ∃ x78 : Int, w75.cell? (Addr.mk w7.heap.size 1 none) = some (Value.int .i64 x78) ∧ probitylaw01_none_sh x77 x78 r9 (fun (r80 : Bool) (w79 : World) => cnd r80
    (∃ x81 : Int, w79.cell? (Addr.mk w13.heap.size 0 none) = some (Value.int .i64 x81) ∧ ∃ x82 : Int, w79.cell? (Addr.mk w13.heap.size 1 none) = some (Value.int .i64 x82) ∧ probitylaw01_none_sh x81 x82 r15 (fun (r84 : Bool) (w83 : World) => cnd r84
    (∃ x85 : Int, w83.cell? (Addr.mk w29.heap.size 0 none) = some (Value.int .i64 x85) ∧ ∃ x86 : Int, w83.cell? (Addr.mk w29.heap.size 1 none) = some (Value.int .i64 x86) ∧ probitylaw01_is_sh x85 x86 r31 (5 : Int) (6 : Int) (fun (r88 : Bool) (w87 : World) => cnd r88
    (∃ x89 : Int, w87.cell? (Addr.mk w39.heap.size 0 none) = some (Value.int .i64 x89) ∧ ∃ x90 : Int, w87.cell? (Addr.mk w39.heap.size 1 none) = some (Value.int .i64 x90) ∧ probitylaw01_none_sh x89 x90 r41 (fun (r92 : Bool) (w91 : World) => cnd r92
    (∃ x93 : Int, w91.cell? (Addr.mk w45.heap.size 0 none) = some (Value.int .i64 x93) ∧ ∃ x94 : Int, w91.cell? (Addr.mk w45.heap.size 1 none) = some (Value.int .i64 x94) ∧ probitylaw01_is_sh x93 x94 r47 (1 : Int) (1 : Int) (fun (r96 : Bool) (w95 : World) => cnd r96
    (∃ x97 : Int, w95.cell? (Addr.mk w55.heap.size 0 none) = some (Value.int .i64 x97) ∧ ∃ x98 : Int, w95.cell? (Addr.mk w55.heap.size 1 none) = some (Value.int .i64 x98) ∧ probitylaw01_none_sh x97 x98 r57 (fun (r100 : Bool) (w99 : World) => probitylaw01_sanity_k0 (Addr.mk w21.heap.size 0 none) (Addr.mk w61.heap.size 0 none) r63 (Addr.mk w67.heap.size 0 none) r69 r100 K w99) w95)
    (probitylaw01_sanity_k0 (Addr.mk w21.heap.size 0 none) (Addr.mk w61.heap.size 0 none) r63 (Addr.mk w67.heap.size 0 none) r69 false K w95)) w91)
    (probitylaw01_sanity_k0 (Addr.mk w21.heap.size 0 none) (Addr.mk w61.heap.size 0 none) r63 (Addr.mk w67.heap.size 0 none) r69 false K w91)) w87)
    (probitylaw01_sanity_k0 (Addr.mk w21.heap.size 0 none) (Addr.mk w61.heap.size 0 none) r63 (Addr.mk w67.heap.size 0 none) r69 false K w87)) w83)
    (probitylaw01_sanity_k0 (Addr.mk w21.heap.size 0 none) (Addr.mk w61.heap.size 0 none) r63 (Addr.mk w67.heap.size 0 none) r69 false K w83)) w79)
    (probitylaw01_sanity_k0 (Addr.mk w21.heap.size 0 none) (Addr.mk w61.heap.size 0 none) r63 (Addr.mk w67.heap.size 0 none) r69 false K w79)) w75)
    (probitylaw01_sanity_k0 (Addr.mk w21.heap.size 0 none) (Addr.mk w61.heap.size 0 none) r63 (Addr.mk w67.heap.size 0 none) r69 false K w75)) w72))) w66))) w60))) w53) w51) w50))) w44))) w37) w35) w34))) w24))))))) w12))) w6))) w

structure probitylaw01_sanity_sh  (K : Bool → World → Prop) (w : World) : Prop where
  out : probitylaw01_sanity_sd  K w

def probitylaw01_sanity_P0 (Kv : VW) (ρ : Rho) (vs : List Value) (w : World) : Prop :=
  match ρ, vs with
  | _, [.pointer (some third_8), .pointer (some o_17), .bool p_18, .pointer (some q_19), .bool r_20, .bool one_21] => probitylaw01_sanity_k0 third_8 o_17 p_18 q_19 r_20 one_21  (fun (r0 : Bool) (w' : World) => Kv (Value.bool r0) w') w
  | _, _ => False

noncomputable def probitylaw01_sanity_S : Pw.Spec := fun vs w Kv =>
  match vs with
  | [] => probitylaw01_sanity_sh  (fun (r0 : Bool) (w' : World) => Kv (Value.bool r0) w') w
  | _ => False

noncomputable def probitylaw01_sanity_E : Pw.Env := [(9, ratio_Parse_S), (14, ratio_Make_S), (15, ratio_Add_S), (16, ratio_Of_S), (17, ratio_Mul_S), (18, ratio_Quo_S), (19, probitylaw01_is_S), (20, probitylaw01_none_S), (21, ratio_Floor_S), (22, ratio_Cmp_S)]

noncomputable def probitylaw01_sanity_C : Code := (Tryz.f6.body).getD .skip

noncomputable def probitylaw01_sanity_A (Kv : VW) : Pw.A :=
  (A.seq (A.reg (RA.run RA.done))
   (A.seq (A.reg (RA.run (RA.run (RA.run (RA.run (RA.run (RA.run (RA.run RA.done))))))))
   (A.seq (A.reg (RA.run (RA.run (RA.run (RA.run (RA.run (RA.run (RA.run RA.done))))))))
   (A.seq (A.reg (RA.run (RA.run (RA.run (RA.run (RA.run (RA.run (RA.run RA.done))))))))
   (A.seq (A.reg (RA.run (RA.run (RA.run RA.done))))
   (A.seq (A.reg (RA.run (RA.run (RA.run RA.done))))
   (A.seq (A.reg (RA.run (RA.run (RA.run (RA.run (RA.run (RA.run (RA.run (RA.run (RA.run RA.done))))))))))
   (A.seq (A.reg (RA.run (RA.run (RA.run (RA.run (RA.run (RA.run (RA.run (RA.run (RA.run RA.done))))))))))
   (A.seq (A.reg (RA.run (RA.run (RA.run (RA.run (RA.run (RA.run (RA.run (RA.run (RA.run RA.done))))))))))
   (A.seq (A.reg (RA.run (RA.run (RA.run (RA.run (RA.run (RA.run (RA.run (RA.run (RA.run RA.done))))))))))
   (A.seq (A.reg (RA.run (RA.run (RA.run (RA.run (RA.run (RA.run (RA.run RA.done))))))))
   (A.seq (A.reg (RA.run (RA.run (RA.run (RA.run (RA.run (RA.run (RA.run RA.done))))))))
   (A.seq (A.reg (RA.run (RA.run (RA.run (RA.run (RA.spl 71 (RA.run (RA.run (RA.run (RA.run (RA.run (RA.spl 76 (RA.run (RA.run (RA.run (RA.run (RA.run (RA.spl 81 (RA.run (RA.run (RA.run (RA.run (RA.run (RA.spl 86 (RA.run (RA.run (RA.run (RA.run (RA.run (RA.spl 91 (RA.run (RA.run (RA.run (RA.run (RA.run (RA.spl 96 (RA.run (RA.run (RA.run (RA.run (RA.run RA.done))))) (RA.skp (RA.skp (RA.skp (RA.run (RA.run RA.done))))))))))) (RA.skp (RA.skp (RA.skp (RA.run (RA.run (RA.skp (RA.skp (RA.skp (RA.run (RA.run RA.done)))))))))))))))) (RA.skp (RA.skp (RA.skp (RA.run (RA.run (RA.skp (RA.skp (RA.skp (RA.run (RA.run (RA.skp (RA.skp (RA.skp (RA.run (RA.run RA.done))))))))))))))))))))) (RA.skp (RA.skp (RA.skp (RA.run (RA.run (RA.skp (RA.skp (RA.skp (RA.run (RA.run (RA.skp (RA.skp (RA.skp (RA.run (RA.run (RA.skp (RA.skp (RA.skp (RA.run (RA.run RA.done)))))))))))))))))))))))))) (RA.skp (RA.skp (RA.skp (RA.run (RA.run (RA.skp (RA.skp (RA.skp (RA.run (RA.run (RA.skp (RA.skp (RA.skp (RA.run (RA.run (RA.skp (RA.skp (RA.skp (RA.run (RA.run (RA.skp (RA.skp (RA.skp (RA.run (RA.run RA.done))))))))))))))))))))))))))))))) (RA.skp (RA.skp (RA.skp (RA.run (RA.run (RA.skp (RA.skp (RA.skp (RA.run (RA.run (RA.skp (RA.skp (RA.skp (RA.run (RA.run (RA.skp (RA.skp (RA.skp (RA.run (RA.run (RA.skp (RA.skp (RA.skp (RA.run (RA.run (RA.skp (RA.skp (RA.skp (RA.run (RA.run RA.done))))))))))))))))))))))))))))))))))))
   (A.cut [8, 17, 18, 19, 20, 21] (probitylaw01_sanity_P0 Kv) (A.seq (A.reg (RA.run (RA.run (RA.spl 102 (RA.run (RA.run (RA.run (RA.run (RA.run (RA.spl 107 (RA.run (RA.run (RA.run (RA.run (RA.run (RA.run (RA.spl 113 (RA.run (RA.run (RA.run (RA.run (RA.run (RA.spl 118 (RA.run (RA.run (RA.run (RA.run (RA.run RA.done))))) (RA.skp (RA.skp (RA.skp (RA.run (RA.run RA.done))))))))))) (RA.skp (RA.skp (RA.skp (RA.run (RA.run (RA.skp (RA.skp (RA.skp (RA.run (RA.run RA.done))))))))))))))))) (RA.skp (RA.skp (RA.skp (RA.skp (RA.run (RA.run (RA.skp (RA.skp (RA.skp (RA.run (RA.run (RA.skp (RA.skp (RA.skp (RA.run (RA.run RA.done)))))))))))))))))))))) (RA.skp (RA.skp (RA.skp (RA.run (RA.run (RA.skp (RA.skp (RA.skp (RA.skp (RA.run (RA.run (RA.skp (RA.skp (RA.skp (RA.run (RA.run (RA.skp (RA.skp (RA.skp (RA.run (RA.run RA.done)))))))))))))))))))))))))
   A.leaf)))))))))))))))

noncomputable def probitylaw01_sanity_O (Kv : VW) : List Ob := (obs Tryz.prog probitylaw01_sanity_E 123 (probitylaw01_sanity_A Kv) probitylaw01_sanity_C (fun _ => retQ Tryz.prog Tryz.f6.results Kv))

theorem probitylaw01_sanity_e (Kv : VW)  (w : World) : probitylaw01_sanity_sd  (fun (r0 : Bool) (w' : World) => Kv (Value.bool r0) w') w = W Tryz.prog probitylaw01_sanity_E 123 (probitylaw01_sanity_A Kv) probitylaw01_sanity_C [] (retQ Tryz.prog Tryz.f6.results Kv) [] (startS []) w := by kernel_rfl

theorem probitylaw01_sanity_e0 (Kv : VW) (ρ : Rho) (third_8 : Addr) (o_17 : Addr) (p_18 : Bool) (q_19 : Addr) (r_20 : Bool) (one_21 : Bool) (w : World) : probitylaw01_sanity_k0d third_8 o_17 p_18 q_19 r_20 one_21  (fun (r0 : Bool) (w' : World) => Kv (Value.bool r0) w') w = goalAt Tryz.prog probitylaw01_sanity_E 123 (probitylaw01_sanity_O Kv) 0 (ρ) [(Value.pointer (some third_8)), (Value.pointer (some o_17)), (Value.bool p_18), (Value.pointer (some q_19)), (Value.bool r_20), (Value.bool one_21)] w := by kernel_rfl

theorem probitylaw01_sanity_q0 (Kv : VW) (ρ : Rho) (vs : List Value) (w : World) : labAt (probitylaw01_sanity_O Kv) 0 ρ vs w = probitylaw01_sanity_P0 Kv ρ vs w := by kernel_rfl

theorem probitylaw01_sanity_h0 (Kv : VW) : holdsAt Tryz.prog probitylaw01_sanity_E 123 (probitylaw01_sanity_O Kv) 0 := holdsAt_cut (.inl (by kernel_rfl)) (fun ρ vs w h => by
  rw [probitylaw01_sanity_q0] at h
  unfold probitylaw01_sanity_P0 at h
  split at h
  · rw [← probitylaw01_sanity_e0]; exact h.out
  · exact h.elim)

theorem probitylaw01_sanity_n (Kv : VW) : obAt (probitylaw01_sanity_O Kv) 1 = none := by kernel_rfl

theorem probitylaw01_sanity_h (Kv : VW) : ∀ k, holdsAt Tryz.prog probitylaw01_sanity_E 123 (probitylaw01_sanity_O Kv) k := fun k => match k with
  | 0 => probitylaw01_sanity_h0 Kv
  | _k + 1 => holdsAt_ge (probitylaw01_sanity_n Kv) (Nat.le_add_left _ _)

theorem probitylaw01_sanity_ok : Sound Tryz.prog 6 probitylaw01_sanity_S := ⟨Tryz.call6, fun vs w Kv h => by
  unfold probitylaw01_sanity_S at h
  split at h
  · have h := h.out
    rw [probitylaw01_sanity_e] at h
    exact calls_sound (Γ := probitylaw01_sanity_E) progMixed ⟨.inl ratio_Parse_ok, .inl ratio_Make_ok, .inl ratio_Add_ok, .inl ratio_Of_ok, .inl ratio_Mul_ok, .inl ratio_Quo_ok, .inl probitylaw01_is_ok, .inl probitylaw01_none_ok, .inl ratio_Floor_ok, .inl ratio_Cmp_ok, trivial⟩ Tryz.func6 (code := probitylaw01_sanity_C) (by kernel_rfl) (probitylaw01_sanity_A Kv) Kv (holds_all (probitylaw01_sanity_h Kv)) (Nat.le_of_ble_eq_true (by kernel_rfl)) h
  · exact h.elim⟩

end Go.Proofs.YtfclokkfnkieoaaGreatDoor
