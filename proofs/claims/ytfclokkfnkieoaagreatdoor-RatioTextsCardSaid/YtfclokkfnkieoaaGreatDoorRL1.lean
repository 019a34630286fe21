/- What the laws compare, and the examples of the chapter. Conditions: none. -/
import Derived.Test.YtfclokkfnkieoaaGreatDoorRT
namespace Go.Proofs.YtfclokkfnkieoaaGreatDoor
open Go Pw

theorem textL_inj {n d n' d' : Int} (hn : I64 n) (hd : I64 d) (hn' : I64 n') (hd' : I64 d') (h : textL n d = textL n' d') : n = n' ∧ d = d' := by
  have inj : ∀ {a b : Int}, I64 a → I64 b → Lib.itoa a = Lib.itoa b → a = b := fun {a b} ha hb e => by
    have h1 := atoi_itoa ha.1 ha.2
    rw [e, atoi_itoa hb.1 hb.2] at h1
    injection h1 with h1
    exact h1.symm
  unfold textL at h
  split at h
  · rename_i h1
    split at h
    · rename_i h2
      exact ⟨inj hn hn' h, by rw [h1, h2]⟩
    · exact absurd (show (47 : UInt8) ∈ Lib.itoa n by rw [h]; simp) (itoa_noslash n)
  · split at h
    · exact absurd (show (47 : UInt8) ∈ Lib.itoa n' by rw [← h]; simp) (itoa_noslash n')
    · have h1 := cut_hit (b := Lib.itoa d) (itoa_noslash n)
      rw [h, cut_hit (itoa_noslash n')] at h1
      simp only [Prod.mk.injEq, and_true] at h1
      exact ⟨(inj hn' hn h1.1).symm, (inj hd' hd h1.2).symm⟩

def isB (n d : Int) (ok : Bool) (a b : Int) : Bool := ok && (n == a && (d == b && true))
def noneB (n d : Int) (ok : Bool) : Bool := !ok && (n == 0 && (d == 1 && true))
def sameB (n d : Int) (ok : Bool) (n' d' : Int) (ok' : Bool) : Bool := (n == n' && (d == d' && true)) && (ok == ok')

theorem sameB_iff {r s : RR} : sameB r.n r.d r.ok s.n s.d s.ok = true ↔ r = s := by
  cases r; cases s
  simp [sameB, and_assoc]

section
variable {w w' w0 : World}

theorem is_spec {n d a b : Int} {ok : Bool} {K : Bool → World → Prop} (hK : ∀ w', Fr F0 w w' → K (isB n d ok a b) w') : probitylaw01_is_sh n d ok a b K w := by
  refine ⟨?_⟩
  unfold probitylaw01_is_sd
  intro w1
  have m : Mem w w1 _ := Mem.nil.alloc
  clear_value w1
  cases ok
  · rw [cnd_false]
    exact hK w1 m.1
  · rw [cnd_true]
    exact ⟨_, m.ld 0 rfl rfl, _, m.ld 0 rfl rfl, hK w1 m.1⟩

theorem none_spec {n d : Int} {ok : Bool} {K : Bool → World → Prop} (hK : ∀ w', Fr F0 w w' → K (noneB n d ok) w') : probitylaw01_none_sh n d ok K w := by
  refine ⟨?_⟩
  unfold probitylaw01_none_sd
  intro w1
  have m : Mem w w1 _ := Mem.nil.alloc
  clear_value w1
  cases ok
  · rw [Bool.not_false, cnd_true]
    exact ⟨_, m.ld 0 rfl rfl, _, m.ld 0 rfl rfl, hK w1 m.1⟩
  · rw [Bool.not_true, cnd_false]
    exact hK w1 m.1

theorem same_spec {n d n' d' : Int} {ok ok' : Bool} {K : Bool → World → Prop} (hK : ∀ w', Fr F0 w w' → K (sameB n d ok n' d' ok') w') : probitylaw01_same_sh n d ok n' d' ok' K w := by
  unfold sameB at hK
  refine ⟨?_⟩
  unfold probitylaw01_same_sd
  intro w1
  have m : Mem w w1 _ := Mem.nil.alloc
  clear_value w1
  intro w2
  have m : Mem w w2 _ := m.alloc
  clear_value w2
  refine ⟨_, m.ld 1 rfl rfl, _, m.ld 1 rfl rfl, _, m.ld 0 rfl rfl, _, m.ld 0 rfl rfl, ?_⟩
  have := hK w2 m.1
  rw [cnd_iff]
  constructor
  · intro h
    rw [h, Bool.true_and] at this
    exact this
  · intro h
    rw [h, Bool.false_and] at this
    exact this

theorem Make_c {n d a b : Int} {ok : Bool} {K : Int → Int → Bool → World → Prop} (hn : I64 n) (hd : I64 d) (h : makeQ n d = ⟨a, b, ok⟩) (hK : ∀ w', Fr F0 w w' → K a b ok w') : ratio_Make_sh n d K w :=
  Make_spec hn hd fun w' hf => by
    have := hK w' hf
    show Kr K (makeQ n d) w'
    rw [h]
    exact this

theorem Add_c {n d n' d' a b : Int} {ok : Bool} {K : Int → Int → Bool → World → Prop} (hn : I64 n) (hd : I64 d) (hn' : I64 n') (hd' : I64 d') (h : addQ n d n' d' = ⟨a, b, ok⟩) (hK : ∀ w', Fr F0 w w' → K a b ok w') : ratio_Add_sh n d n' d' K w :=
  Add_spec hn hd hn' hd' fun w' hf => by
    have := hK w' hf
    rw [h]
    exact this

theorem Mul_c {n d n' d' a b : Int} {ok : Bool} {K : Int → Int → Bool → World → Prop} (hn : I64 n) (hd : I64 d) (hn' : I64 n') (hd' : I64 d') (h : mulQ n d n' d' = ⟨a, b, ok⟩) (hK : ∀ w', Fr F0 w w' → K a b ok w') : ratio_Mul_sh n d n' d' K w :=
  Mul_spec hn hd hn' hd' fun w' hf => by
    have := hK w' hf
    rw [h]
    exact this

theorem Quo_c {n d n' d' a b : Int} {ok : Bool} {K : Int → Int → Bool → World → Prop} (hn : I64 n) (hd : I64 d) (hn' : I64 n') (hd' : I64 d') (h : quoQ n d n' d' = ⟨a, b, ok⟩) (hK : ∀ w', Fr F0 w w' → K a b ok w') : ratio_Quo_sh n d n' d' K w :=
  Quo_spec hn hd hn' hd' fun w' hf => by
    have := hK w' hf
    rw [h]
    exact this

theorem Parse_c1 {s : ByteArray} {n d : Int} {K : Int → Int → Bool → World → Prop} (hs : s.size < 4294967281) (hr : rightP n d) (hn : I64 n) (hd : I64 d) (h : textL n d = bl s) (g : Gl w) (hK : ∀ w', Fr F0 w w' → K n d true w') : ratio_Parse_sh s K w :=
  Parse_spec (by omega) g (fun n' d' hr' hn' hd' ht w' hf => by
    obtain ⟨rfl, rfl⟩ := textL_inj hn' hd' hn hd (by rw [ht, h])
    exact hK w' hf) fun hno => absurd ⟨n, d, hr, hn, hd, h⟩ hno

theorem Parse_c0 {s : ByteArray} {n d : Int} {K : Int → Int → Bool → World → Prop} (hs : s.size < 4294967281) (hr : ¬ rightP n d) (hn : I64 n) (hd : I64 d) (h : textL n d = bl s) (g : Gl w) (hK : ∀ w', Fr F0 w w' → K 0 1 false w') : ratio_Parse_sh s K w :=
  Parse_spec (by omega) g (fun n' d' hr' hn' hd' ht => by
    obtain ⟨rfl, rfl⟩ := textL_inj hn' hd' hn hd (by rw [ht, h])
    exact absurd hr' hr) fun _ => hK
end

theorem i64 {n : Int} (h : (decide (-9223372036854775808 ≤ n) && decide (n < 9223372036854775808)) = true) : I64 n := by
  simp only [Bool.and_eq_true, decide_eq_true_eq] at h
  exact h

theorem x1 : makeQ 6 (-4) = ⟨-3, 2, true⟩ := by kernel_rfl
theorem x2 : makeQ 1 0 = ⟨0, 1, false⟩ := by kernel_rfl
theorem x3 : makeQ (-9223372036854775808) (-1) = ⟨0, 1, false⟩ := by kernel_rfl
theorem r12 : rightP 1 2 := ⟨by decide, by decide⟩
theorem r13 : rightP 1 3 := ⟨by decide, by decide⟩
theorem rI (n : Int) : rightP n 1 := ⟨by decide, by simp⟩
theorem x4 : addQ 1 2 1 3 = ⟨5, 6, true⟩ := by unfold addQ; rw [if_pos ⟨r12, r13⟩]; kernel_rfl
theorem x5 : addQ 9223372036854775807 1 1 1 = ⟨0, 1, false⟩ := by unfold addQ; rw [if_pos ⟨rI _, rI _⟩]; kernel_rfl
theorem x6 : mulQ 9223372036854775807 2 2 9223372036854775807 = ⟨1, 1, true⟩ := by unfold mulQ; rw [if_pos ⟨⟨by decide, by decide +kernel⟩, ⟨by decide, by decide +kernel⟩⟩]; kernel_rfl
theorem x7 : quoQ 1 1 (-9223372036854775808) 1 = ⟨0, 1, false⟩ := by unfold quoQ; rw [if_pos ⟨rI _, rI _⟩, if_neg (by decide)]; kernel_rfl
theorem dec1 {d : Nat} (h : d < 10) : Lib.decDigits d = [UInt8.ofNat (48 + d)] := by rw [Lib.decDigits, dif_pos h]
theorem x8 : textL (-1) 2 = bl (str [45, 49, 47, 50]) := by
  rw [bl_str]
  unfold textL Lib.itoa
  rw [if_neg (by decide), if_pos (by decide), if_neg (by decide), dec1 (by decide), dec1 (by decide)]
  rfl
theorem x9 : textL 2 4 = bl (str [50, 47, 52]) := by
  rw [bl_str]
  unfold textL Lib.itoa
  rw [if_neg (by decide), if_neg (by decide), if_neg (by decide), dec1 (by decide), dec1 (by decide)]
  rfl
theorem x10 : floorQ (-7) 2 = -4 := by unfold floorQ; rw [if_pos ⟨by decide, by decide⟩]; rfl
theorem x11 : cmpQ 1 3 333333333 1000000000 = 1 := by unfold cmpQ; rw [if_pos ⟨r13, ⟨by decide, by decide +kernel⟩⟩]; rfl
theorem nr24 : ¬ rightP 2 4 := fun h => absurd h.2 (by decide)

section
variable {w w' w0 : World}

theorem sanity_k0 {l : List (Nat × List Value)} {t o q : Nat} {K : Bool → World → Prop} (m : Mem w0 w l) (jt jo jq : Nat) (ht : l[jt]? = some (t, [.int .i64 1, .int .i64 3])) (ho : l[jo]? = some (o, [.int .i64 (-1), .int .i64 2])) (hq : l[jq]? = some (q, [.int .i64 0, .int .i64 1]))
    (hK : ∀ w', Fr F0 w0 w' → K true w') : probitylaw01_sanity_k0 ⟨t, 0, none⟩ ⟨o, 0, none⟩ true ⟨q, 0, none⟩ false true K w := by
  refine ⟨?_⟩
  unfold probitylaw01_sanity_k0d
  rw [cnd_true]
  refine Floor_spec (i64 (by decide)) (i64 (by decide)) fun w1 hf => ?_
  have m := m.fr hf
  rw [x10, show ((-4 : Int) == -4) = true from rfl, cnd_true]
  refine ⟨_, m.ld jt ht rfl, _, m.ld jt ht rfl, Cmp_spec (i64 (by decide)) (i64 (by decide)) (i64 (by decide)) (i64 (by decide)) fun w2 hf => ?_⟩
  have m := m.fr hf
  rw [x11, show ((1 : Int) == 1) = true from rfl, cnd_true]
  refine ⟨_, m.ld jo ho rfl, _, m.ld jo ho rfl, is_spec fun w3 hf => ?_⟩
  have m := m.fr hf
  rw [show isB (-1) 2 true (-1) 2 = true from rfl, cnd_true]
  exact ⟨_, m.ld jq hq rfl, _, m.ld jq hq rfl, none_spec fun w4 hf => hK w4 (m.fr hf).1⟩

theorem s1 {K : Int → Int → Bool → World → Prop} (hK : ∀ w', Fr F0 w w' → K (-3) 2 true w') : ratio_Make_sh 6 (-4) K w := Make_c (i64 rfl) (i64 rfl) x1 hK
theorem s2 {K : Int → Int → Bool → World → Prop} (hK : ∀ w', Fr F0 w w' → K 0 1 false w') : ratio_Make_sh 1 0 K w := Make_c (i64 rfl) (i64 rfl) x2 hK
theorem s3 {K : Int → Int → Bool → World → Prop} (hK : ∀ w', Fr F0 w w' → K 0 1 false w') : ratio_Make_sh (-9223372036854775808) (-1) K w := Make_c (i64 rfl) (i64 rfl) x3 hK
theorem s4 {K : Int → Int → Bool → World → Prop} (hK : ∀ w', Fr F0 w w' → K 5 6 true w') : ratio_Add_sh 1 2 1 3 K w := Add_c (i64 rfl) (i64 rfl) (i64 rfl) (i64 rfl) x4 hK
theorem s5 {K : Int → Int → Bool → World → Prop} (hK : ∀ w', Fr F0 w w' → K 0 1 false w') : ratio_Add_sh 9223372036854775807 1 1 1 K w := Add_c (i64 rfl) (i64 rfl) (i64 rfl) (i64 rfl) x5 hK
theorem s6 {K : Int → Int → Bool → World → Prop} (hK : ∀ w', Fr F0 w w' → K 1 1 true w') : ratio_Mul_sh 9223372036854775807 2 2 9223372036854775807 K w := Mul_c (i64 rfl) (i64 rfl) (i64 rfl) (i64 rfl) x6 hK
theorem s7 {K : Int → Int → Bool → World → Prop} (hK : ∀ w', Fr F0 w w' → K 0 1 false w') : ratio_Quo_sh 1 1 (-9223372036854775808) 1 K w := Quo_c (i64 rfl) (i64 rfl) (i64 rfl) (i64 rfl) x7 hK
theorem s8 {K : Int → Int → Bool → World → Prop} (g : Gl w) (hK : ∀ w', Fr F0 w w' → K (-1) 2 true w') : ratio_Parse_sh (str [45, 49, 47, 50]) K w := Parse_c1 (by decide) ⟨by decide, by decide⟩ (i64 rfl) (i64 rfl) x8 g hK
theorem s9 {K : Int → Int → Bool → World → Prop} (g : Gl w) (hK : ∀ w', Fr F0 w w' → K 0 1 false w') : ratio_Parse_sh (str [50, 47, 52]) K w := Parse_c0 (by decide) nr24 (i64 rfl) (i64 rfl) x9 g hK

set_option maxHeartbeats 1000000 in
theorem sanity_spec {K : Bool → World → Prop} (g : Gl w) (hK : ∀ w', Fr F0 w w' → K true w') : probitylaw01_sanity_sh K w := by
  refine ⟨?_⟩
  unfold probitylaw01_sanity_sd
  have m : Mem w w [] := Mem.nil
  refine s1 fun w1 hf => ?_; have m := m.fr hf
  intro w4; have m : Mem w w4 _ := m.allocL; clear_value w4
  refine ⟨m.wr 0 rfl rfl, ?_⟩
  intro w5; have m : Mem w w5 _ := m.set 0 rfl; clear_value w5; simp only [List.set_cons_zero] at m
  refine ⟨m.wr 0 rfl rfl, ?_⟩
  intro w6; have m : Mem w w6 _ := m.set 0 rfl; clear_value w6; simp only [List.set_cons_zero, List.set_cons_succ] at m
  refine s2 fun w7 hf => ?_; have m := m.fr hf
  intro w10; have m : Mem w w10 _ := m.allocL; clear_value w10
  refine ⟨m.wr 0 rfl rfl, ?_⟩
  intro w11; have m : Mem w w11 _ := m.set 0 rfl; clear_value w11; simp only [List.set_cons_zero] at m
  refine ⟨m.wr 0 rfl rfl, ?_⟩
  intro w12; have m : Mem w w12 _ := m.set 0 rfl; clear_value w12; simp only [List.set_cons_zero, List.set_cons_succ] at m
  refine s3 fun w13 hf => ?_; have m := m.fr hf
  intro w16; have m : Mem w w16 _ := m.allocL; clear_value w16
  refine ⟨m.wr 0 rfl rfl, ?_⟩
  intro w17; have m : Mem w w17 _ := m.set 0 rfl; clear_value w17; simp only [List.set_cons_zero] at m
  refine ⟨m.wr 0 rfl rfl, ?_⟩
  intro w18; have m : Mem w w18 _ := m.set 0 rfl; clear_value w18; simp only [List.set_cons_zero, List.set_cons_succ] at m
  intro w19; have m : Mem w w19 _ := m.allocL; clear_value w19
  refine ⟨m.wr 0 rfl rfl, ?_⟩
  intro w20; have m : Mem w w20 _ := m.set 0 rfl; clear_value w20; simp only [List.set_cons_zero] at m
  refine ⟨m.wr 0 rfl rfl, ?_⟩
  intro w21; have m : Mem w w21 _ := m.set 0 rfl; clear_value w21; simp only [List.set_cons_zero, List.set_cons_succ] at m
  intro w22; have m : Mem w w22 _ := m.allocL; clear_value w22
  refine ⟨m.wr 0 rfl rfl, ?_⟩
  intro w23; have m : Mem w w23 _ := m.set 0 rfl; clear_value w23; simp only [List.set_cons_zero] at m
  refine ⟨m.wr 0 rfl rfl, ?_⟩
  intro w24; have m : Mem w w24 _ := m.set 0 rfl; clear_value w24; simp only [List.set_cons_zero, List.set_cons_succ] at m
  refine ⟨_, m.ld 1 rfl rfl, ?_⟩
  refine ⟨_, m.ld 1 rfl rfl, ?_⟩
  refine ⟨_, m.ld 0 rfl rfl, ?_⟩
  refine ⟨_, m.ld 0 rfl rfl, ?_⟩
  refine s4 fun w29 hf => ?_; have m := m.fr hf
  intro w32; have m : Mem w w32 _ := m.allocL; clear_value w32
  refine ⟨m.wr 0 rfl rfl, ?_⟩
  intro w33; have m : Mem w w33 _ := m.set 0 rfl; clear_value w33; simp only [List.set_cons_zero] at m
  refine ⟨m.wr 0 rfl rfl, ?_⟩
  intro w34; have m : Mem w w34 _ := m.set 0 rfl; clear_value w34; simp only [List.set_cons_zero, List.set_cons_succ] at m
  refine Of_spec fun w35 hf => ?_; have m := m.fr hf
  refine Of_spec fun w37 hf => ?_; have m := m.fr hf
  refine s5 fun w39 hf => ?_; have m := m.fr hf
  intro w42; have m : Mem w w42 _ := m.allocL; clear_value w42
  refine ⟨m.wr 0 rfl rfl, ?_⟩
  intro w43; have m : Mem w w43 _ := m.set 0 rfl; clear_value w43; simp only [List.set_cons_zero] at m
  refine ⟨m.wr 0 rfl rfl, ?_⟩
  intro w44; have m : Mem w w44 _ := m.set 0 rfl; clear_value w44; simp only [List.set_cons_zero, List.set_cons_succ] at m
  refine s6 fun w45 hf => ?_; have m := m.fr hf
  intro w48; have m : Mem w w48 _ := m.allocL; clear_value w48
  refine ⟨m.wr 0 rfl rfl, ?_⟩
  intro w49; have m : Mem w w49 _ := m.set 0 rfl; clear_value w49; simp only [List.set_cons_zero] at m
  refine ⟨m.wr 0 rfl rfl, ?_⟩
  intro w50; have m : Mem w w50 _ := m.set 0 rfl; clear_value w50; simp only [List.set_cons_zero, List.set_cons_succ] at m
  refine Of_spec fun w51 hf => ?_; have m := m.fr hf
  refine Of_spec fun w53 hf => ?_; have m := m.fr hf
  refine s7 fun w55 hf => ?_; have m := m.fr hf
  intro w58; have m : Mem w w58 _ := m.allocL; clear_value w58
  refine ⟨m.wr 0 rfl rfl, ?_⟩
  intro w59; have m : Mem w w59 _ := m.set 0 rfl; clear_value w59; simp only [List.set_cons_zero] at m
  refine ⟨m.wr 0 rfl rfl, ?_⟩
  intro w60; have m : Mem w w60 _ := m.set 0 rfl; clear_value w60; simp only [List.set_cons_zero, List.set_cons_succ] at m
  refine s8 (g.fr m.1) fun w61 hf => ?_; have m := m.fr hf
  intro w64; have m : Mem w w64 _ := m.allocL; clear_value w64
  refine ⟨m.wr 0 rfl rfl, ?_⟩
  intro w65; have m : Mem w w65 _ := m.set 0 rfl; clear_value w65; simp only [List.set_cons_zero] at m
  refine ⟨m.wr 0 rfl rfl, ?_⟩
  intro w66; have m : Mem w w66 _ := m.set 0 rfl; clear_value w66; simp only [List.set_cons_zero, List.set_cons_succ] at m
  refine s9 (g.fr m.1) fun w67 hf => ?_; have m := m.fr hf
  intro w70; have m : Mem w w70 _ := m.allocL; clear_value w70
  refine ⟨m.wr 0 rfl rfl, ?_⟩
  intro w71; have m : Mem w w71 _ := m.set 0 rfl; clear_value w71; simp only [List.set_cons_zero] at m
  refine ⟨m.wr 0 rfl rfl, ?_⟩
  intro w72; have m : Mem w w72 _ := m.set 0 rfl; clear_value w72; simp only [List.set_cons_zero, List.set_cons_succ] at m
  refine ⟨_, m.ld 10 rfl rfl, ?_⟩
  refine ⟨_, m.ld 10 rfl rfl, ?_⟩
  refine is_spec fun w75 hf => ?_; have m := m.fr hf
  refine (show cnd true _ _ from ?_); rw [cnd_true]
  refine ⟨_, m.ld 9 rfl rfl, ?_⟩
  refine ⟨_, m.ld 9 rfl rfl, ?_⟩
  refine none_spec fun w79 hf => ?_; have m := m.fr hf
  refine (show cnd true _ _ from ?_); rw [cnd_true]
  refine ⟨_, m.ld 8 rfl rfl, ?_⟩
  refine ⟨_, m.ld 8 rfl rfl, ?_⟩
  refine none_spec fun w83 hf => ?_; have m := m.fr hf
  refine (show cnd true _ _ from ?_); rw [cnd_true]
  refine ⟨_, m.ld 5 rfl rfl, ?_⟩
  refine ⟨_, m.ld 5 rfl rfl, ?_⟩
  refine is_spec fun w87 hf => ?_; have m := m.fr hf
  refine (show cnd true _ _ from ?_); rw [cnd_true]
  refine ⟨_, m.ld 4 rfl rfl, ?_⟩
  refine ⟨_, m.ld 4 rfl rfl, ?_⟩
  refine none_spec fun w91 hf => ?_; have m := m.fr hf
  refine (show cnd true _ _ from ?_); rw [cnd_true]
  refine ⟨_, m.ld 3 rfl rfl, ?_⟩
  refine ⟨_, m.ld 3 rfl rfl, ?_⟩
  refine is_spec fun w95 hf => ?_; have m := m.fr hf
  refine (show cnd true _ _ from ?_); rw [cnd_true]
  refine ⟨_, m.ld 2 rfl rfl, ?_⟩
  refine ⟨_, m.ld 2 rfl rfl, ?_⟩
  refine none_spec fun w99 hf => ?_; have m := m.fr hf
  exact sanity_k0 m 6 1 0 rfl rfl rfl hK
end
end Go.Proofs.YtfclokkfnkieoaaGreatDoor
