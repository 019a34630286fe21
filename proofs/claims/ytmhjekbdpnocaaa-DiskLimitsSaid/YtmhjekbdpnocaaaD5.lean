/- Mod and repeated. Conditions: none. -/
import Derived.Test.YtmhjekbdpnocaaaD4
namespace Go.Proofs.Ytmhjekbdpnocaaa
open Go Pw

theorem mod_eq {n m : Int} (h : 0 < m) : Int.tmod (Int.tmod n m + m) m = n % m ∧ -m < Int.tmod n m ∧ Int.tmod n m < m := by
  have h0 := Int.emod_nonneg n (by omega : m ≠ 0)
  have h1 := Int.emod_lt_of_pos n h
  have e : Int.tmod n m = n % m ∨ Int.tmod n m = n % m - m := by
    rw [Int.tmod_eq_emod]
    split
    · left; omega
    · right
      have : ((m.natAbs : Nat) : Int) = m := by omega
      rw [this]
  have hlo : -m < Int.tmod n m ∧ Int.tmod n m < m := by
    refine ⟨?_, ?_⟩
    · by_cases hn : 0 ≤ n
      · have := Int.tmod_nonneg m hn
        omega
      · have h2 : Int.tmod (-n) m < m := Int.tmod_lt_of_pos _ h
        rw [Int.neg_tmod] at h2
        omega
    · exact Int.tmod_lt_of_pos _ h
  refine ⟨?_, hlo⟩
  have hnn : 0 ≤ Int.tmod n m + m := by omega
  rw [Int.tmod_eq_emod_of_nonneg hnn]
  rcases e with e | e
  · rw [e, Int.add_emod_right, Int.emod_emod]
  · rw [e]
    have : n % m - m + m = n % m := by omega
    rw [this, Int.emod_emod]

section
variable {w : World}

theorem Mod_spec {n m : Int} {K : Int → World → Prop} (h : 0 < m) (hm : m ≤ 2 ^ 31) (hK : K (n % m) w) : probityref26_Mod_sh n m K w := by
  obtain ⟨e, h1, h2⟩ := mod_eq (n := n) h
  refine ⟨⟨by omega, inR64 (by omega) (by omega), by omega, ?_⟩⟩
  rw [e]
  exact hK

theorem repeated_spec {c : UInt8} {n : Nat} {K : ByteArray → World → Prop} (hn : n ≤ 2 ^ 30) (hK : ∀ w', Fr (fun _ => False) w w' → K (ofL (List.replicate n c)) w') : probitylaw26_repeated_sh (c.toNat : Int) (n : Int) K w := by
  refine ⟨⟨by omega, by omega, by omega, by omega, ?_⟩⟩
  have hr0 : Row (w.alloc (.cells (rowZ [Value.int .u8 0] ((n : Int).toNat * [Value.int IntKind.u8 0].length)).toArray 5)) w.heap.size ((List.replicate n (0 : UInt8)).map bv) := by
    have e : rowZ [Value.int .u8 0] ((n : Int).toNat * [Value.int IntKind.u8 0].length) = (List.replicate n (0 : UInt8)).map bv := by
      rw [rowZ_u8]; simp
    rw [e]
    exact Row.new
  have hf0 : Fr (fun _ => False) w (w.alloc (.cells (rowZ [Value.int .u8 0] ((n : Int).toNat * [Value.int IntKind.u8 0].length)).toArray 5)) := Fr.alloc
  generalize w.alloc (.cells (rowZ [Value.int .u8 0] ((n : Int).toNat * [Value.int IntKind.u8 0].length)).toArray 5) = w2 at *
  refine ⟨?_⟩
  refine ⟨fun i w' => ∃ k : Nat, i = k ∧ k ≤ n ∧ Row w' w.heap.size ((List.replicate k c ++ List.replicate (n - k) 0).map bv) ∧ Fr (fun _ => False) w w', fun i _ => n - i.toNat, ⟨0, rfl, by omega, by simpa using hr0, hf0⟩, ?_⟩
  rintro i w1 ⟨k, rfl, hk, hr, hf⟩
  unfold probitylaw26_repeated_b0
  rw [cnd_prop]
  constructor
  · intro hlt
    simp only [newSl, nz_some, add_mk, Nat.zero_add, Int.toNat_natCast, Nat.mul_one]
    refine ⟨⟨by omega, by omega⟩, hr.wr (by simp; omega), inR64 (by omega) (by omega), ⟨by simp, k + 1, by omega, by omega, ?_, ?_⟩, by omega⟩
    · have := hr.set k (.int .u8 (c.toNat : Int))
      have e : ((List.replicate k c ++ List.replicate (n - k) 0).map bv).set k (.int .u8 (c.toNat : Int)) = (List.replicate (k + 1) c ++ List.replicate (n - (k + 1)) 0).map bv := by
        have h1 : Value.int .u8 (c.toNat : Int) = bv c := rfl
        rw [h1, ← List.map_set]
        congr 1
        rw [List.set_append_right _ _ (by simp)]
        obtain ⟨j, hj⟩ : ∃ j, n - k = j + 1 := ⟨n - k - 1, by omega⟩
        rw [hj, show n - (k + 1) = j by omega, List.replicate_succ' (n := k), List.replicate_succ (n := j), List.append_assoc]
        simp
      rw [e] at this
      exact this
    · exact hf.trans (Fr.set (F := fun x => x = w.heap.size) rfl) fun x h hlt => by omega
  · intro hge
    have : k = n := by omega
    subst this
    refine btsS_rd (l := List.replicate k c) ⟨by simp [newSl], fun i hi => ?_⟩ (hK _ hf)
    simp only [add_mk, Nat.zero_add]
    rw [hr.cell]
    simp at hi
    simp [hi]
end
end Go.Proofs.Ytmhjekbdpnocaaa
