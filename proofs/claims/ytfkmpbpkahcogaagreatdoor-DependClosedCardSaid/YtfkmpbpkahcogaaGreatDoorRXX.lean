/- The small functions of package ratio: sizes, the greatest common divisor, a number in lowest terms. Conditions: none. -/
import Derived.Test.YtfkmpbpkahcogaaGreatDoorDSTX
import Derived.Test.YtfkmpbpkahcogaaGreatDoorPWX
import Derived.Test.YtfkmpbpkahcogaaGreatDoorCG1
namespace Go.Proofs.YtfkmpbpkahcogaaGreatDoor
open Go Pw
def I64 (n : Int) : Prop := -9223372036854775808 <= n /\ n < 9223372036854775808
section
variable {w : World}
theorem size_spec {n : Int} {K : Int -> World -> Prop} (h : I64 n) (hK : K (n.natAbs : Int) w) : z35_sh n K w := by
 obtain ⟨h1, h2⟩ := h
 refine ⟨?_⟩
 unfold z35_sd
 rw [cnd_prop]
 constructor
 ·intro hn
  have e : IntKind.wrap .u64 ((0 : Int) - IntKind.wrap .u64 n) = (n.natAbs : Int) := by
   simp only [wu64_mod]
   omega
  rw [e]
  exact hK
 ·intro hn
  have e : IntKind.wrap .u64 n = (n.natAbs : Int) := by
   simp only [wu64_mod]
   omega
  rw [e]
  exact hK
theorem gcd_spec {a b : Nat} {K : Int -> World -> Prop} (hK : ∀ w', Fr F0 w w' -> K ((Nat.gcd a b : Nat) : Int) w') : z38_sh a b K w := by
 refine ⟨⟨fun x y w' => ∃ m n : Nat, x = m /\ y = n /\ Nat.gcd m n = Nat.gcd a b /\ Fr F0 w w', fun _ y _ => y.toNat, ⟨a, b, rfl, rfl, rfl, Fr.refl⟩, ?_⟩⟩
 rintro x y w1 ⟨m, n, rfl, rfl, hg, hf⟩
 unfold z38_b0
 rw [cnd_prop]
 constructor
 ·intro h
  refine ⟨by omega, ⟨trivial, n, m % n, rfl, rfl, ?_, hf.trans (G := F0) Fr.drew fun b hb _ => hb⟩, ?_⟩
  ·rw [← hg, Nat.gcd_comm n, ← Nat.gcd_rec, Nat.gcd_comm]
  ·rw [tmodN]
   have := Nat.mod_lt m (show 0 < n by omega)
   show ((m % n : Nat) : Int).toNat < (n : Int).toNat
   rw [Int.toNat_natCast, Int.toNat_natCast]
   exact this
 ·intro h
  have h0 : n = 0 := by omega
  subst h0
  rw [Nat.gcd_zero_right] at hg
  rw [hg]
  exact hK w1 hf
def Kr (K : Int -> Int -> Bool -> World -> Prop) (r : RR) (w : World) : Prop := K r.n r.d r.ok w
theorem wi64_in {n : Int} (h : I64 n) : IntKind.wrap .i64 n = n := wrap64_in h.1 h.2
end
end Go.Proofs.YtfkmpbpkahcogaaGreatDoor
namespace Go.Proofs.YtfkmpbpkahcogaaGreatDoor
open Go Pw
section
variable {w : World}
theorem Right_spec {n d : Int} {K : Bool -> World -> Prop} (hn : I64 n) (hd : I64 d) (hK : ∀ w', Fr F0 w w' -> K (decide (rightP n d)) w') : z2x_sh n d K w := by
 refine ⟨?_⟩
 unfold z2x_sd
 intro w1
 have m : Mem w w1 _ := Mem.nil.alloc
 clear_value w1
 intro w2
 have m : Mem w w2 _ := m.drew
 clear_value w2
 refine ⟨fun u => Rs u _, m.sub 0 rfl, ?_⟩
 refine ⟨_, fun _ h => h.ld 0 rfl rfl, ?_⟩
 rw [cnd_prop]
 constructor
 ·intro h0
  obtain ⟨D, rfl⟩ : ∃ D : Nat, d = D := ⟨d.natAbs, by omega⟩
  refine ⟨_, fun _ h => h.ld 0 rfl rfl, _, fun _ h => h.ld 0 rfl rfl, ?_⟩
  refine ⟨inRu (by omega) (by have := hd.2; omega), size_spec hn ⟨m.sub 0 rfl, ?_⟩⟩
  refine gcd_spec fun w3 hf => ⟨(m.fr hf).sub 0 rfl, ?_⟩
  have := hK w3 (m.fr hf).1
  have e2 : ((((n.natAbs).gcd D : Nat) : Int) == 1) = decide (rightP n D) := by
   rw [Bool.eq_iff_iff]
   simp only [beq_iff_eq, decide_eq_true_eq]
   unfold rightP
   rw [Int.natAbs_natCast]
   constructor
   ·intro h; exact ⟨by omega, by omega⟩
   ·intro h; have := h.2; omega
  rw [e2]
  exact this
 ·intro h0
  have := hK w2 m.1
  rw [decide_eq_false (fun h => h0 (by have := h.1; omega))] at this
  exact this
end
end Go.Proofs.YtfkmpbpkahcogaaGreatDoor




namespace Go.Proofs.YtfkmpbpkahcogaaGreatDoor
open Go Pw
section
variable {w : World}
def fv (s : Bool) (n d : Nat) : Value := .agg #[.bool s, .int .u64 n, .int .u64 d]
end
end Go.Proofs.YtfkmpbpkahcogaaGreatDoor
namespace Go.Proofs.YtfkmpbpkahcogaaGreatDoor
open Go Pw
theorem cmpI_lt {x y : Int} (h : x < y) : cmpI x y = -1 := by unfold cmpI; rw [if_pos h]
theorem cmpI_gt {x y : Int} (h : y < x) : cmpI x y = 1 := by unfold cmpI; rw [if_neg (by omega), if_pos h]
theorem cmpI_eq {x y : Int} (h : x = y) : cmpI x y = 0 := by unfold cmpI; rw [if_neg (by omega), if_neg (by omega)]
end Go.Proofs.YtfkmpbpkahcogaaGreatDoor

