/- The reference's integers: what is right. Conditions: none. -/
import Derived.Test.YtfkmpbpkahcogaaGreatDoorDRTX
namespace Go.Proofs.YtfkmpbpkahcogaaGreatDoor
open Go Pw
theorem Kr_of {K : Int -> Int -> Bool -> World -> Prop} {r : RR} {w : World} (h : K r.n r.d r.ok w) : Kr K r w := h
theorem right_code {n d : Int} (hn : I64 n) (hd : I64 d) (hpos : 0 < d) : ((fitQ (Rat.divInt n d)).ok && ((fitQ (Rat.divInt n d)).n == n && ((fitQ (Rat.divInt n d)).d == d && true))) = decide (rightP n d) := by
 have hr := fitQ_right (Rat.divInt n d)
 rw [Bool.eq_iff_iff]
 simp only [Bool.and_eq_true, beq_iff_eq, and_true, decide_eq_true_eq]
 constructor
 ·rintro ⟨_, h1, h2⟩
  rw [h1, h2] at hr
  exact hr
 ·intro h
  rw [← val_div hpos, fitQ_self h hn hd]
  exact ⟨rfl, rfl, rfl⟩
section
variable {w w' w0 : World}
theorem Right_k1 {n d : Int} {a b : Nat} {l : List (Nat × List Value)} {K : Bool -> World -> Prop} (hn : I64 n) (hd : I64 d) (hpos : 0 < d)
  (m : Mem w0 w ((b, [.int .i64 (fitQ (Rat.divInt n d)).n, .int .i64 (fitQ (Rat.divInt n d)).d]) :: (a, [.int .i64 n, .int .i64 d]) :: l)) (hK : ∀ w', Fr F0 w0 w' -> K (decide (rightP n d)) w') :
  z0w_k1 ⟨a, 0, none⟩ ⟨b, 0, none⟩ (fitQ (Rat.divInt n d)).ok K w := by
 rw [← right_code hn hd hpos] at hK
 refine ⟨?_⟩
 unfold z0w_k1d
 have := hK w m.1
 cases hok : (fitQ (Rat.divInt n d)).ok
 ·rw [hok, Bool.false_and] at this
  rw [cnd_false]
  exact this
 ·rw [hok, Bool.true_and] at this
  rw [cnd_true]
  refine ⟨_, m.ld 1 rfl rfl, _, m.ld 1 rfl rfl, _, m.ld 0 rfl rfl, _, m.ld 0 rfl rfl, ?_⟩
  show K _ _
  rw [show (n == (fitQ (Rat.divInt n d)).n) = ((fitQ (Rat.divInt n d)).n == n) from BEq.comm, show (d == (fitQ (Rat.divInt n d)).d) = ((fitQ (Rat.divInt n d)).d == d) from BEq.comm]
  exact this
theorem Right_k0 {n d : Int} {a : Nat} {l : List (Nat × List Value)} {K : Bool -> World -> Prop} (hn : I64 n) (hd : I64 d) (hpos : 0 < d) (m : Mem w0 w ((a, [.int .i64 n, .int .i64 d]) :: l)) (hK : ∀ w', Fr F0 w0 w' -> K (decide (rightP n d)) w') :
  z0w_k0 ⟨a, 0, none⟩ K w := by
 refine ⟨?_⟩
 unfold z0w_k0d
 intro w17; have m : Mem w0 w17 _ := m.drew; clear_value w17
 refine ⟨fun u => Rs u _, m.sub 0 rfl, ?_⟩
 refine ⟨_, fun _ h => h.ld 0 rfl rfl, ?_⟩
 refine ⟨_, fun _ h => h.ld 0 rfl rfl, ?_⟩
 refine ⟨?_, ?_⟩
 ·refine rof_spec (by assumption) fun s1 w21 o1 hf => ?_; have m := m.fr hf; (try have o1 := o1.fr hf)
  refine ⟨m.sub 0 rfl, ?_⟩
  refine ⟨?_, ?_⟩
  ·refine rof_spec (by assumption) fun s2 w23 o2 hf => ?_; have m := m.fr hf; (try have o1 := o1.fr hf)
   refine ⟨m.sub 0 rfl, ?_⟩
   refine ⟨?_, ?_⟩
   ·refine rlowest_spec (k := 4) o1.nm o2.nm (natAbs_pow_four hn) (natAbs_pow_four hd) (by omega) (by decide) fun w25 hf => ?_; have m := m.fr hf; rw [divInt_sgn]; refine Kr_of ?_
    refine ⟨m.sub 0 rfl, ?_⟩
    intro w28; have m : Mem w0 w28 _ := m.allocL; (try have o1 : Nt 4 w28 _ _ := o1.fr Fr.alloc); (try have o2 : Nt 4 w28 _ _ := o2.fr Fr.alloc); clear_value w28
    refine ⟨m.sub 1 rfl, ?_⟩
    refine ⟨m.wr 0 rfl rfl, ?_⟩
    intro w29; have m : Mem w0 w29 _ := m.set 0 rfl; clear_value w29; simp only [List.set_cons_zero] at m
    refine ⟨m.wr 0 rfl rfl, ?_⟩
    intro w30; have m : Mem w0 w30 _ := m.set 0 rfl; clear_value w30; simp only [List.set_cons_zero, List.set_cons_succ] at m
    exact Right_k1 hn hd hpos m hK
   ·intro w31; have m : Mem w0 w31 _ := m.allocL; (try have o1 : Nt 4 w31 _ _ := o1.fr Fr.alloc); (try have o2 : Nt 4 w31 _ _ := o2.fr Fr.alloc); clear_value w31
    refine ⟨m.sub 1 rfl, ?_⟩
    refine rlowest_spec (k := 4) o1.nm o2.nm (natAbs_pow_four hn) (natAbs_pow_four hd) (by omega) (by decide) fun w32 hf => ?_; have m := m.fr hf; rw [divInt_sgn]; refine Kr_of ?_
    refine ⟨m.sub 1 rfl, ?_⟩
    refine ⟨m.wr 0 rfl rfl, ?_⟩
    intro w35; have m : Mem w0 w35 _ := m.set 0 rfl; clear_value w35; simp only [List.set_cons_zero] at m
    refine ⟨m.wr 0 rfl rfl, ?_⟩
    intro w36; have m : Mem w0 w36 _ := m.set 0 rfl; clear_value w36; simp only [List.set_cons_zero, List.set_cons_succ] at m
    exact Right_k1 hn hd hpos m hK
  ·intro w37; have m : Mem w0 w37 _ := m.allocL; (try have o1 : Nt 4 w37 _ _ := o1.fr Fr.alloc); (try have o2 : Nt 4 w37 _ _ := o2.fr Fr.alloc); clear_value w37
   refine ⟨m.sub 1 rfl, ?_⟩
   refine rof_spec (by assumption) fun s2 w38 o2 hf => ?_; have m := m.fr hf; (try have o1 := o1.fr hf)
   refine ⟨m.sub 1 rfl, ?_⟩
   refine rlowest_spec (k := 4) o1.nm o2.nm (natAbs_pow_four hn) (natAbs_pow_four hd) (by omega) (by decide) fun w40 hf => ?_; have m := m.fr hf; rw [divInt_sgn]; refine Kr_of ?_
   refine ⟨m.sub 1 rfl, ?_⟩
   refine ⟨m.wr 0 rfl rfl, ?_⟩
   intro w43; have m : Mem w0 w43 _ := m.set 0 rfl; clear_value w43; simp only [List.set_cons_zero] at m
   refine ⟨m.wr 0 rfl rfl, ?_⟩
   intro w44; have m : Mem w0 w44 _ := m.set 0 rfl; clear_value w44; simp only [List.set_cons_zero, List.set_cons_succ] at m
   exact Right_k1 hn hd hpos m hK
 ·intro w45; have m : Mem w0 w45 _ := m.allocL; (try have o1 : Nt 4 w45 _ _ := o1.fr Fr.alloc); (try have o2 : Nt 4 w45 _ _ := o2.fr Fr.alloc); clear_value w45
  refine ⟨m.sub 1 rfl, ?_⟩
  refine rof_spec (by assumption) fun s1 w46 o1 hf => ?_; have m := m.fr hf; (try have o1 := o1.fr hf)
  refine ⟨m.sub 1 rfl, ?_⟩
  refine rof_spec (by assumption) fun s2 w48 o2 hf => ?_; have m := m.fr hf; (try have o1 := o1.fr hf)
  refine ⟨m.sub 1 rfl, ?_⟩
  refine rlowest_spec (k := 4) o1.nm o2.nm (natAbs_pow_four hn) (natAbs_pow_four hd) (by omega) (by decide) fun w50 hf => ?_; have m := m.fr hf; rw [divInt_sgn]; refine Kr_of ?_
  refine ⟨m.sub 1 rfl, ?_⟩
  refine ⟨m.wr 0 rfl rfl, ?_⟩
  intro w53; have m : Mem w0 w53 _ := m.set 0 rfl; clear_value w53; simp only [List.set_cons_zero] at m
  refine ⟨m.wr 0 rfl rfl, ?_⟩
  intro w54; have m : Mem w0 w54 _ := m.set 0 rfl; clear_value w54; simp only [List.set_cons_zero, List.set_cons_succ] at m
  exact Right_k1 hn hd hpos m hK
theorem rRight_spec {n d : Int} {K : Bool -> World -> Prop} (hn : I64 n) (hd : I64 d) (hK : ∀ w', Fr F0 w w' -> K (decide (rightP n d)) w') : z0w_sh n d K w := by
 refine ⟨?_⟩
 unfold z0w_sd
 intro w1
 have m : Mem w w1 _ := Mem.nil.allocL
 clear_value w1
 refine ⟨_, m.ld 0 rfl rfl, ?_⟩
 rw [cnd_prop]
 constructor
 ·intro h
  have := hK w1 m.1
  rw [decide_eq_false (fun hr => by have := hr.1; omega)] at this
  exact this
 ·intro h
  have hpos : 0 < d := by omega
  refine ⟨_, m.ld 0 rfl rfl, small_spec ?_⟩
  rw [cnd_prop]
  refine ⟨fun h1 => ?_, fun h1 => Right_k0 hn hd hpos m hK⟩
  refine ⟨_, m.ld 0 rfl rfl, small_spec ?_⟩
  rw [cnd_prop]
  refine ⟨fun h2 => ?_, fun h2 => Right_k0 hn hd hpos m hK⟩
  intro w9; have m : Mem w w9 _ := m.drew; clear_value w9
  refine ⟨fun u => Rs u _, m.sub 0 rfl, _, fun _ h => h.ld 0 rfl rfl, _, fun _ h => h.ld 0 rfl rfl, _, fun _ h => h.ld 0 rfl rfl, _, fun _ h => h.ld 0 rfl rfl, ?_⟩
  refine quick_spec (by omega) (by omega) (by omega) fun w2 hf2 => ⟨(m.fr hf2).sub 0 rfl, ?_⟩
  have := hK w2 (m.fr hf2).1
  rw [← right_code hn hd hpos, quick_ok (by omega) (by omega) (by omega), Bool.true_and] at this
  exact this
def Sm (n : Int) : Prop := -1000000000 < n /\ n < 1000000000
instance (n : Int) : Decidable (Sm n) := inferInstanceAs (Decidable (_ /\ _))
end
end Go.Proofs.YtfkmpbpkahcogaaGreatDoor
