/- Numbers as bytes, and strings.Clone. Conditions: none. -/
import Derived.Test.YtamkecjpcfnpjaaJD6
namespace Go.Proofs.Ytamkecjpcfnpjaa
open Go Pw

def be (w n : Nat) : List UInt8 := (List.range w).map fun k => UInt8.ofNat (n / 2 ^ (8 * (w - 1 - k)))

@[simp] theorem be_length (w n : Nat) : (be w n).length = w := by simp [be]

theorem wrap8 (n : Int) : IntKind.wrap .u8 n = n % 256 := by
  unfold IntKind.wrap
  simp [IntKind.bits, IntKind.signed]

theorem bv_ofNat (n : Nat) : bv (UInt8.ofNat n) = .int .u8 ((n : Int) % 256) := by
  simp [bv]

theorem be_step {wd n i : Nat} (h : i < wd) : (List.replicate (wd - i) (0 : UInt8) ++ (be wd n).drop (wd - i)).set (wd - 1 - i) (UInt8.ofNat (n / 2 ^ (8 * i))) =
    List.replicate (wd - (i + 1)) (0 : UInt8) ++ (be wd n).drop (wd - (i + 1)) := by
  apply List.ext_getElem
  · simp
  · intro k h1 h2
    simp at h1 h2
    rw [List.getElem_set]
    by_cases hk : wd - 1 - i = k
    · subst hk
      simp only [if_true]
      rw [List.getElem_append_right (by simp; omega)]
      simp only [List.length_replicate, List.getElem_drop, be, List.getElem_map, List.getElem_range]
      congr 4
      omega
    · simp only [hk, if_false]
      by_cases hlt : k < wd - (i + 1)
      · rw [List.getElem_append_left (by simp; omega), List.getElem_append_left (by simp; omega)]
        simp
      · rw [List.getElem_append_right (by simp; omega), List.getElem_append_right (by simp; omega)]
        simp only [List.length_replicate, List.getElem_drop]
        congr 1
        omega

section
variable {w : World}

theorem number_spec {n wd : Nat} {K : ByteArray → World → Prop} (hwd : wd = 4 ∨ wd = 8) (hK : ∀ w', Fr F0 w w' → K (ofL (be wd n)) w') : journal_number_sh (n : Int) (wd : Int) K w := by
  refine ⟨⟨by omega, Int.le_refl _, by omega, by omega, ?_⟩⟩
  have hz : rowZ [Value.int .u8 0] (((wd : Int)).toNat * [Value.int .u8 (0 : Int)].length) = (List.replicate wd (0 : UInt8)).map bv := by
    rw [rowZ_u8]; simp
  have hr0 : Row (w.alloc (Obj.cells (rowZ [Value.int .u8 0] (((wd : Int)).toNat * [Value.int .u8 (0 : Int)].length)).toArray 5)) w.heap.size ((List.replicate wd (0 : UInt8)).map bv) := by
    rw [hz]; exact Row.new
  have hf0 : Fr F0 w (w.alloc (Obj.cells (rowZ [Value.int .u8 0] (((wd : Int)).toNat * [Value.int .u8 (0 : Int)].length)).toArray 5)) := Fr.alloc
  generalize w.alloc (Obj.cells (rowZ [Value.int .u8 0] (((wd : Int)).toNat * [Value.int .u8 (0 : Int)].length)).toArray 5) = w1 at *
  simp only [newSl, Int.toNat_natCast]
  refine ⟨⟨fun t w' => ∃ i : Nat, t = i ∧ i ≤ wd ∧ Row w' w.heap.size ((List.replicate (wd - i) (0 : UInt8) ++ (be wd n).drop (wd - i)).map bv) ∧ Fr F0 w w', fun t _ => wd - t.toNat, ⟨0, rfl, by omega, ?_, hf0⟩, ?_⟩⟩
  · simp only [Nat.sub_zero]
    rw [List.drop_of_length_le (by simp), List.append_nil]
    exact hr0
  · rintro t w2 ⟨i, rfl, hi, hr, hf⟩
    unfold journal_number_b0
    rw [cnd_prop]
    refine ⟨fun h => ?_, fun h => ?_⟩
    · have hlt : i < wd := by omega
      have hidx : ((wd : Int) - 1 - (i : Int)).toNat = wd - 1 - i := by omega
      refine ⟨inR64 (by omega) (by omega), inR64 (by omega) (by omega), inR64 (by omega) (by omega), by omega, ?_⟩
      simp only [nz_some, add_mk, Nat.zero_add, Nat.mul_one, hidx]
      refine ⟨⟨by omega, by omega⟩, hr.wr (by simp; omega), ?_⟩
      refine ⟨inR64 (by omega) (by omega), ⟨by simp, i + 1, by omega, by omega, ?_, ?_⟩, by omega⟩
      · have h2 := hr.set (wd - 1 - i) (Value.int .u8 (IntKind.wrap .u8 (Int.fdiv (n : Int) (2 ^ (min ((8 : Int) * (i : Int)).toNat (IntKind.bits .i64))))))
        have hv : Value.int .u8 (IntKind.wrap .u8 (Int.fdiv (n : Int) (2 ^ (min ((8 : Int) * (i : Int)).toNat (IntKind.bits .i64))))) = bv (UInt8.ofNat (n / 2 ^ (8 * i))) := by
          rw [bv_ofNat, wrap8]
          have h8 : min ((8 : Int) * (i : Int)).toNat (IntKind.bits .i64) = 8 * i := by
            have : IntKind.bits .i64 = 64 := rfl
            omega
          rw [h8, Int.fdiv_eq_ediv_of_nonneg _ (Int.le_of_lt (Int.pow_pos (by decide)))]
          simp
        rw [hv] at h2 ⊢
        rw [← List.map_set, be_step hlt] at h2
        exact h2
      · exact hf.trans (Fr.set (F := fun c => c = w.heap.size) rfl) fun c hc hlt => by omega
    · have : i = wd := by omega
      subst this
      simp only [Nat.sub_self, List.replicate_zero, List.nil_append, List.drop_zero] at hr
      refine btsS_rd (l := be i n) ⟨by simp, fun k hk => ?_⟩ (hK _ hf)
      rw [add_mk, Nat.zero_add]
      exact hr.at (List.getElem?_eq_getElem hk)

/-- The number that bytes denote; what is missing is zeros. -/
def valF (l : List UInt8) : Nat → Int
  | 0 => 0
  | i + 1 => IntKind.wrap .i64 (valF l i * 256 + ((l.getD i 0).toNat : Int))

theorem wrap64_mod (n : Int) : IntKind.wrap .i64 n = if n % 18446744073709551616 < 9223372036854775808 then n % 18446744073709551616 else n % 18446744073709551616 - 18446744073709551616 := by
  unfold IntKind.wrap
  simp [IntKind.bits, IntKind.signed]
  omega

theorem wrap64_idem (n : Int) : IntKind.wrap .i64 n % 18446744073709551616 = n % 18446744073709551616 := by
  rw [wrap64_mod]; split <;> omega

theorem or_byte (n : Int) (b : Nat) (hb : b < 256) : IntKind.wrap .i64 (((BitVec.ofInt 64 (IntKind.wrap .i64 (n * 2 ^ 8)) ||| BitVec.ofInt 64 (b : Int)).toNat : Int)) = IntKind.wrap .i64 (n * 256 + b) := by
  have h1 : (BitVec.ofInt 64 (IntKind.wrap .i64 (n * 2 ^ 8))).toNat = (n % 72057594037927936).toNat * 2 ^ 8 := by
    rw [BitVec.toNat_ofInt]
    have := wrap64_idem (n * 2 ^ 8)
    have e : ((2 ^ 64 : Nat) : Int) = 18446744073709551616 := by decide
    rw [e, this]
    omega
  have h2 : (BitVec.ofInt 64 (b : Int)).toNat = b := by
    rw [BitVec.toNat_ofInt]
    have e : ((2 ^ 64 : Nat) : Int) = 18446744073709551616 := by decide
    rw [e]
    omega
  rw [BitVec.toNat_or, h1, h2, ← Nat.shiftLeft_eq, ← Nat.shiftLeft_add_eq_or_of_lt (by simpa using hb), Nat.shiftLeft_eq, wrap64_mod, wrap64_mod]
  have : ((((n % 72057594037927936).toNat * 2 ^ 8 + b : Nat) : Int)) % 18446744073709551616 = (n * 256 + b) % 18446744073709551616 := by omega
  rw [this]

theorem value_spec {s : ByteArray} {wd : Nat} {K : Int → World → Prop} (hwd : wd ≤ 8) (hK : K (valF (bl s) wd) w) : journal_value_sh s (wd : Int) K w := by
  refine ⟨⟨fun n t w' => ∃ i : Nat, t = i ∧ i ≤ wd ∧ n = valF (bl s) i ∧ w' = w, fun _ t _ => wd - t.toNat, ⟨0, rfl, by omega, rfl, rfl⟩, ?_⟩⟩
  rintro n t w2 ⟨i, rfl, hi, rfl, rfl⟩
  unfold journal_value_b0
  rw [cnd_prop]
  refine ⟨fun h => ⟨by omega, ?_⟩, fun h => ?_⟩
  · have hsz : (bl s).length = s.size := bl_length s
    have hm : min 8 (IntKind.bits .i64) = 8 := rfl
    rw [cnd_prop]
    refine ⟨fun h1 => ?_, fun h1 => ?_⟩
    · refine ⟨⟨by omega, h1⟩, inR64 (by omega) ?_, inR64 (by omega) (by omega), ?_⟩
      · have := (s.data.toList.getD ((i : Int)).toNat 0).toNat_lt
        omega
      · refine ⟨⟨by simp, i + 1, by omega, by omega, ?_, rfl⟩, by dsimp only; omega⟩
        have hb := (s.data.toList.getD i 0).toNat_lt
        simp only [Int.toNat_natCast, valF]
        exact or_byte (valF (bl s) i) _ (by simpa using hb)
    · refine ⟨inR64 (by omega) (by omega), ⟨by simp, i + 1, by omega, by omega, ?_, rfl⟩, by dsimp only; omega⟩
      have : (bl s).getD i 0 = 0 := by
        rw [List.getD_eq_getElem?_getD, List.getElem?_eq_none (by omega)]; rfl
      simp only [valF, this]
      rw [hm]
      simp
  · have : i = wd := by omega
    subst this
    exact hK

theorem valF_be {wd n : Nat} (hn : n < 2 ^ 62) (hw : n < 2 ^ (8 * wd)) : ∀ i, i ≤ wd → valF (be wd n) i = ((n / 2 ^ (8 * (wd - i)) : Nat) : Int)
  | 0, _ => by simp [valF, Nat.div_eq_of_lt hw]
  | i + 1, h => by
    have ih := valF_be hn hw i (by omega)
    simp only [valF, ih]
    have hb : ((be wd n).getD i 0).toNat = n / 2 ^ (8 * (wd - (i + 1))) % 256 := by
      rw [List.getD_eq_getElem?_getD, List.getElem?_eq_getElem (by simp; omega)]
      simp only [be, List.getElem_map, List.getElem_range, Option.getD_some]
      rw [show wd - 1 - i = wd - (i + 1) by omega]
      simp
    have hd : n / 2 ^ (8 * (wd - i)) = n / 2 ^ (8 * (wd - (i + 1))) / 256 := by
      rw [Nat.div_div_eq_div_mul, show 8 * (wd - i) = 8 * (wd - (i + 1)) + 8 by omega, Nat.pow_add]
    rw [hb, hd]
    have hle : n / 2 ^ (8 * (wd - (i + 1))) ≤ n := Nat.div_le_self _ _
    generalize n / 2 ^ (8 * (wd - (i + 1))) = q at *
    rw [wrap64_in (by omega) (by omega)]
    omega

theorem val_be {wd n : Nat} (hn : n < 2 ^ 62) (hw : n < 2 ^ (8 * wd)) : valF (be wd n) wd = n := by
  rw [valF_be hn hw wd (Nat.le_refl _)]
  simp

theorem valF_congr {l m : List UInt8} : ∀ i, (∀ j, j < i → l.getD j 0 = m.getD j 0) → valF l i = valF m i
  | 0, _ => rfl
  | i + 1, h => by
    simp only [valF, valF_congr i (fun j hj => h j (by omega)), h i (by omega)]

theorem valF_four (l : List UInt8) : 0 ≤ valF l 4 ∧ valF l 4 < 4294967296 := by
  have h0 : (l.getD 0 0).toNat < 256 := UInt8.toNat_lt _
  have h1 : (l.getD 1 0).toNat < 256 := UInt8.toNat_lt _
  have h2 : (l.getD 2 0).toNat < 256 := UInt8.toNat_lt _
  have h3 : (l.getD 3 0).toNat < 256 := UInt8.toNat_lt _
  have e1 : valF l 1 = ((l.getD 0 0).toNat : Int) := by
    simp only [valF]; rw [wrap64_in (by omega) (by omega)]; omega
  have e2 : valF l 2 = ((l.getD 0 0).toNat : Int) * 256 + ((l.getD 1 0).toNat : Int) := by
    show IntKind.wrap .i64 (valF l 1 * 256 + ((l.getD 1 0).toNat : Int)) = _
    rw [e1, wrap64_in (by omega) (by omega)]
  have e3 : valF l 3 = (((l.getD 0 0).toNat : Int) * 256 + ((l.getD 1 0).toNat : Int)) * 256 + ((l.getD 2 0).toNat : Int) := by
    show IntKind.wrap .i64 (valF l 2 * 256 + ((l.getD 2 0).toNat : Int)) = _
    rw [e2, wrap64_in (by omega) (by omega)]
  show 0 ≤ IntKind.wrap .i64 (valF l 3 * 256 + ((l.getD 3 0).toNat : Int)) ∧ IntKind.wrap .i64 (valF l 3 * 256 + ((l.getD 3 0).toNat : Int)) < _
  rw [e3, wrap64_in (by omega) (by omega)]
  omega

theorem shape_set {a : Addr} {v : Value} {b : Nat} : (w.setCell a v).shape? b = w.shape? b := by
  unfold World.shape? World.setCell
  simp only [Array.getElem?_modify]
  by_cases h : a.block = b
  · subst h
    cases hh : w.heap[a.block]? with
    | none => simp
    | some o =>
      cases o <;> simp
      split <;> simp
  · simp [h]

theorem wrC_shape {a : Addr} {b : Nat} : ∀ (vs : List Value) (i : Nat) (w : World), (wrC w a i vs).shape? b = w.shape? b
  | [], _, _ => rfl
  | v :: vs, i, w => by
    show (wrC (w.setCell (a.add i) v) a (i + 1) vs).shape? b = _
    rw [wrC_shape vs, shape_set]

theorem Fr.freeze {F : Nat → Prop} {b : Addr} {n : Nat} (h : F b.block) : Fr F w (w.freeze b n) := by
  unfold World.freeze
  split
  · exact Fr.refl
  · refine ⟨by simp, fun c _ hn => ?_, rfl, rfl, rfl⟩
    simp only [Array.getElem?_modify]
    have hne : ¬ b.block = c := fun he => hn (by rw [← he]; exact h)
    rw [if_neg hne]

theorem Clone_spec {s : ByteArray} {K : ByteArray → World → Prop} (hs : s.size ≤ 2 ^ 30) (hK : ∀ w', Fr F0 w w' → K s w') : strings_Clone_sh s K w := by
  refine ⟨⟨?_⟩⟩
  unfold stringslite_Clone_sd
  rw [cnd_beq]
  constructor
  · intro h
    have : s = str [] := bl_inj (List.eq_nil_of_length_eq_zero (by rw [bl_length]; omega))
    rw [← this]
    exact hK w Fr.refl
  · intro h0
    refine ⟨by omega, Int.le_refl _, by omega, by omega, ?_⟩
    have hl : (bl s).length = s.size := bl_length s
    have hz : rowZ [Value.int .u8 0] (((s.size : Int)).toNat * [Value.int .u8 (0 : Int)].length) = (List.replicate s.size (0 : UInt8)).map bv := by
      rw [rowZ_u8]; simp
    rw [hz]
    simp only [newSl, Int.toNat_natCast, cpT, nz_some]
    have hmin : min s.size s.size = s.size := by omega
    rw [hmin]
    have hr0 : Row (w.alloc (Obj.cells ((List.replicate s.size (0 : UInt8)).map bv).toArray 5)) w.heap.size ((List.replicate s.size (0 : UInt8)).map bv) := Row.new
    have hh0 : (w.alloc (Obj.cells ((List.replicate s.size (0 : UInt8)).map bv).toArray 5)).shape? w.heap.size = some (5, s.size) := by
      have : (w.alloc (Obj.cells ((List.replicate s.size (0 : UInt8)).map bv).toArray 5)).heap[w.heap.size]? = some (Obj.cells ((List.replicate s.size (0 : UInt8)).map bv).toArray 5) := by
        show (w.heap.push _)[w.heap.size]? = _
        simp
      simp only [World.shape?, this]
      simp
    have hf0 : Fr F0 w (w.alloc (Obj.cells ((List.replicate s.size (0 : UInt8)).map bv).toArray 5)) := Fr.alloc
    generalize w.alloc (Obj.cells ((List.replicate s.size (0 : UInt8)).map bv).toArray 5) = w1 at *
    refine ⟨fun i hi => by rw [add_mk, Nat.zero_add]; exact hr0.wr (by simp; omega), ⟨by omega, by omega⟩, ?_⟩
    have htk : s.data.toList.take s.size = bl s := by
      rw [← hl]; exact List.take_length
    rw [htk]
    have hrow := wrC_row (o := 0) ((bl s).map bv) 0 w1 _ hr0 (by simp; omega)
    have hsp : splice ((List.replicate s.size (0 : UInt8)).map bv) 0 ((bl s).map bv) = (bl s).map bv := by
      unfold splice
      simp
      omega
    simp only [Nat.add_zero] at hrow
    rw [hsp] at hrow
    have hsh : (wrC w1 ⟨w.heap.size, 0, none⟩ 0 ((bl s).map bv)).shape? w.heap.size = some (5, s.size) := by rw [wrC_shape, hh0]
    have hf1 : Fr F0 w (wrC w1 ⟨w.heap.size, 0, none⟩ 0 ((bl s).map bv)) :=
      hf0.trans (G := fun c => c = w.heap.size) ⟨by rw [wrC_size]; exact Nat.le_refl _, fun c _ hn => wrC_ne (a := ⟨w.heap.size, 0, none⟩) (fun he => hn he.symm) _ _ _, wrC_os _ _ _, wrC_out _ _ _, wrC_tape _ _ _⟩ fun c hc hlt => by omega
    generalize wrC w1 ⟨w.heap.size, 0, none⟩ 0 ((bl s).map bv) = w2 at *
    simp only [add_mk, Nat.zero_add]
    refine ⟨w.heap.size, bl s, s.size, rfl, by omega, fun h => by rw [h] at hl; simp at hl; omega, hsh, by omega, by unfold maxI; omega, fun j x hx => ?_, ?_⟩
    · have := hrow.at (i := j) (v := bv x) (by simp [hx])
      exact this
    · rw [ofL_bl]
      exact hK _ (hf1.trans (Fr.freeze (F := fun c => c = w.heap.size) rfl) fun c hc hlt => by omega)
end
end Go.Proofs.Ytamkecjpcfnpjaa
