/- The desk: two disks played side by side. Conditions: none. -/
import Derived.Test.YtmhjekbdpnocaaaR3
namespace Go.Proofs.Ytmhjekbdpnocaaa
open Go Pw

/-- Where an act goes. -/
def whereI (n : Int) : Int := if n < 0 ∨ n > 16777216 then n else n % 300

def longF : Nat → List UInt8 → List UInt8 → Nat → List UInt8
  | 0, s, _, _ => s
  | f + 1, s, t, n => if 0 < s.length ∧ s.length < n then longF f (s ++ t) t n else s

/-- What an act writes. -/
def longL (t : List UInt8) (n : Int) : List UInt8 := (longF 200 t t (n % 200).toNat).take 200

theorem longF_done {s t : List UInt8} {n : Nat} (h : ¬ (0 < s.length ∧ s.length < n)) : ∀ f, longF f s t n = s
  | 0 => rfl
  | f + 1 => by unfold longF; rw [if_neg h]

/-- What survives. -/
def survL (n : Int) : List Int := [n, Int.tdiv n 2, Int.tdiv n 3, Int.tdiv n 5, Int.tdiv n 7].take (n % 6).toNat

section
variable {w : World}

theorem Where_spec {a0 a1 a2 : Int} {a3 : ByteArray} {K : Int → World → Prop} (hK : ∀ w', Fr F0 w w' → K (whereI a1) w') : probityref26_Act_Where_sh a0 a1 a2 a3 K w := by
  refine ⟨?_⟩
  unfold probityref26_Act_Where_sd
  have hr : Row (w.alloc (Obj.cells #[(Value.int .i64 a0), (Value.int .i64 a1), (Value.int .i64 a2), (Value.string a3)] 33)) w.heap.size [(Value.int .i64 a0), (Value.int .i64 a1), (Value.int .i64 a2), (Value.string a3)] := Row.new
  have hf : Fr F0 w (w.alloc (Obj.cells #[(Value.int .i64 a0), (Value.int .i64 a1), (Value.int .i64 a2), (Value.string a3)] 33)) := Fr.alloc
  refine ⟨a1, hr.at rfl, ?_⟩
  rw [cnd_prop]
  constructor
  · intro h
    refine ⟨a1, by rw [add_mk]; exact hr.at rfl, ?_⟩
    have := hK _ hf
    rwa [whereI, if_pos (.inl h)] at this
  · intro h
    refine ⟨a1, hr.at rfl, ?_⟩
    rw [cnd_prop]
    constructor
    · intro h2
      refine ⟨a1, by rw [add_mk]; exact hr.at rfl, ?_⟩
      have := hK _ hf
      rwa [whereI, if_pos (.inr h2)] at this
    · intro h2
      refine ⟨a1, hr.at rfl, Mod_spec (by omega) (by omega) ?_⟩
      have := hK _ hf
      rwa [whereI, if_neg (by omega)] at this

theorem Long_spec {a0 a1 a2 : Int} {a3 : ByteArray} {K : ByteArray → World → Prop} (hK : ∀ w', Fr F0 w w' → K (ofL (longL (bl a3) a2)) w') : probityref26_Act_Long_sh a0 a1 a2 a3 K w := by
  refine ⟨?_⟩
  unfold probityref26_Act_Long_sd
  have hr : Row (w.alloc (Obj.cells #[(Value.int .i64 a0), (Value.int .i64 a1), (Value.int .i64 a2), (Value.string a3)] 33)) w.heap.size [(Value.int .i64 a0), (Value.int .i64 a1), (Value.int .i64 a2), (Value.string a3)] := Row.new
  have hf : Fr F0 w (w.alloc (Obj.cells #[(Value.int .i64 a0), (Value.int .i64 a1), (Value.int .i64 a2), (Value.string a3)] 33)) := Fr.alloc
  have h3l := bl_length a3
  refine ⟨a3, hr.at rfl, ⟨?_⟩⟩
  refine ⟨fun s w' => w' = w.alloc (Obj.cells #[(Value.int .i64 a0), (Value.int .i64 a1), (Value.int .i64 a2), (Value.string a3)] 33) ∧ (0 < s.size → 0 < a3.size) ∧ a3.size ≤ s.size ∧ ∃ f, 200 - s.size ≤ f ∧ longF f (bl s) (bl a3) (a2 % 200).toNat = longF 200 (bl a3) (bl a3) (a2 % 200).toNat,
    fun s _ => 200 - s.size, ⟨rfl, fun h => h, Nat.le_refl _, 200, by omega, rfl⟩, ?_⟩
  rintro s w1 ⟨rfl, hpos, hle, f, hf1, hf2⟩
  have hsl := bl_length s
  have fin : ¬ (0 < (bl s).length ∧ (bl s).length < (a2 % 200).toNat) → probityref26_Act_Long_k1 s K (w.alloc (Obj.cells #[(Value.int .i64 a0), (Value.int .i64 a1), (Value.int .i64 a2), (Value.string a3)] 33)) := fun hd => by
    rw [longF_done hd] at hf2
    refine ⟨⟨by omega, by omega, by omega⟩, ?_⟩
    have e : s.extract 0 (min (s.size : Int) (200 : Int)).toNat = ofL (longL (bl a3) a2) := by
      apply bl_inj
      rw [bl_ofL, bl_extract, List.drop_zero, longL, ← hf2]
      by_cases h : s.size ≤ 200
      · rw [List.take_of_length_le (by omega), List.take_of_length_le (by omega)]
      · congr 1; omega
    rw [e]
    exact hK _ hf
  unfold probityref26_Act_Long_b0
  rw [cnd_prop]
  constructor
  · intro h0
    refine ⟨a2, by rw [add_mk]; exact hr.at rfl, Mod_spec (by omega) (by omega) ?_⟩
    rw [cnd_prop]
    constructor
    · intro hlt
      refine ⟨a3, by rw [add_mk]; exact hr.at rfl, ?_, ⟨(by simp), rfl, fun _ => hpos (by omega), by rw [ByteArray.size_append]; omega, ?_⟩, ?_⟩
      · have hmax : maxI = 9223372036854775807 := rfl
        rw [hmax]; omega
      · obtain ⟨f', rfl⟩ : ∃ f', f = f' + 1 := ⟨f - 1, by omega⟩
        refine ⟨f', by rw [ByteArray.size_append]; have := hpos (by omega); omega, ?_⟩
        rw [← hf2, bl_append]
        rw [show longF (f' + 1) (bl s) (bl a3) (a2 % 200).toNat = if 0 < (bl s).length ∧ (bl s).length < (a2 % 200).toNat then longF f' (bl s ++ bl a3) (bl a3) (a2 % 200).toNat else bl s from rfl, if_pos (by omega)]
      · show 200 - (s ++ a3).size < 200 - s.size
        rw [ByteArray.size_append]
        have := hpos (by omega)
        omega
    · intro hge
      exact fin (by omega)
  · intro h0
    exact fin (by omega)

theorem survive_spec {n : Int} {K : Sl → World → Prop} (h0 : -9223372036854775808 ≤ n) (h1 : n < 9223372036854775808)
    (hK : ∀ v w', rdC w' v.p v.l ((survL n).map iv) → Fr F0 w w' → (∀ c, inB v c → w.heap.size ≤ c) → K v w') : probitylaw26_survive_sh n K w := by
  have hd : ∀ m : Int, 0 < m → inR .i64 (Int.tdiv n m) := fun m hm => by
    have e := Int.natAbs_tdiv_le_natAbs n m
    by_cases hn : n = -9223372036854775808
    · exact inR64 (by omega) (by
        have : Int.tdiv n m ≤ 0 := by
          have := Int.tdiv_nonneg (a := -n) (b := m) (by omega) (by omega)
          rw [Int.neg_tdiv] at this
          omega
        omega)
    · exact inR64 (by omega) (by omega)
  refine ⟨⟨by omega, hd 2 (by omega), by omega, hd 3 (by omega), by omega, hd 5 (by omega), by omega, hd 7 (by omega), ?_⟩⟩
  have hr : Row (w.alloc (Obj.cells #[(Value.int .i64 n), (Value.int .i64 (Int.tdiv n (2 : Int))), (Value.int .i64 (Int.tdiv n (3 : Int))), (Value.int .i64 (Int.tdiv n (5 : Int))), (Value.int .i64 (Int.tdiv n (7 : Int)))] 3)) w.heap.size ([n, Int.tdiv n 2, Int.tdiv n 3, Int.tdiv n 5, Int.tdiv n 7].map iv) := Row.new
  have hf : Fr F0 w (w.alloc (Obj.cells #[(Value.int .i64 n), (Value.int .i64 (Int.tdiv n (2 : Int))), (Value.int .i64 (Int.tdiv n (3 : Int))), (Value.int .i64 (Int.tdiv n (5 : Int))), (Value.int .i64 (Int.tdiv n (7 : Int)))] 3)) := Fr.alloc
  show probityref26_Mod_sh n 6 _ _
  generalize w.alloc (Obj.cells #[(Value.int .i64 n), (Value.int .i64 (Int.tdiv n (2 : Int))), (Value.int .i64 (Int.tdiv n (3 : Int))), (Value.int .i64 (Int.tdiv n (5 : Int))), (Value.int .i64 (Int.tdiv n (7 : Int)))] 3) = w1 at *
  refine Mod_spec (by omega) (by omega) ⟨⟨by omega, by omega, by omega⟩, ?_⟩
  have e : subP (some (Addr.mk w.heap.size 0 none)) 0 5 1 = some ⟨w.heap.size, 0, none⟩ := by simp [subP]
  rw [e]
  refine hK _ _ ⟨by simp [survL]; omega, fun i hi => ?_⟩ hf fun c ⟨a, ha, hc⟩ => by cases ha; exact Nat.le_of_eq hc
  rw [add_mk, hr.cell, Nat.zero_add]
  simp only [survL, List.length_map, List.length_take] at hi
  simp only [survL, List.getElem_map, List.getElem_take]
  rw [List.getElem?_map, List.getElem?_eq_getElem (by simp; omega)]
  rfl
end
end Go.Proofs.Ytmhjekbdpnocaaa
