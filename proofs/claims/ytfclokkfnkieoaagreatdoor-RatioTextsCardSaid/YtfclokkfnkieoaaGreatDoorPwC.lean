/- append, copy, make and the two conversions between strings and bytes, as plain conditions on the world; each sound for the model's own run. Conditions: none. -/
import Derived.Lib.UnsafeStr
import Derived.Test.YtfclokkfnkieoaaGreatDoorPwB
namespace Pw
open Go

def bv (b : UInt8) : Value := .int .u8 b.toNat
def ofL (l : List UInt8) : ByteArray := ⟨l.toArray⟩

abbrev SW := Sl → World → Prop

def newSl (w : World) (l c : Nat) : Sl := ⟨some ⟨w.heap.size, 0, none⟩, l, c⟩

/-- append, the cells that are appended given. -/
def apG (size bytes : Nat) (zero : List Value) (e : TypeId) (s : Sl) (n : Nat) (new : List Value) (w : World) (K : SW) : Prop :=
  (s.l + n ≤ s.c → match s.p with
    | none => K ⟨none, s.l + n, s.c⟩ w
    | some a => wrAll w (a.add (s.l * size)) new.length ∧ K ⟨some a, s.l + n, s.c⟩ (wrC w (a.add (s.l * size)) 0 new)) ∧
  (s.c < s.l + n → (s.l + n) * bytes ≤ 2 ^ 47 ∧ s.l + n < 2 ^ 63 ∧ (∃ old, rdC w s.p (s.l * size) old ∧ ∀ cap, s.l + n ≤ cap →
    K (newSl w (s.l + n) cap) (w.drew.alloc (.cells (old ++ new ++ rowZ zero ((cap - (s.l + n)) * zero.length)).toArray e))))

/-- append(s, x...), x a slice of the same elements. -/
def apS (size bytes : Nat) (zero : List Value) (e : TypeId) (s x : Sl) (w : World) (K : SW) : Prop :=
  ∃ new, rdC w x.p (x.l * size) new ∧ (∀ v ∈ new, okC v = true) ∧ apG size bytes zero e s x.l new w K

/-- append(s, make([]T, n)...). -/
def apZ (size bytes : Nat) (zero : List Value) (e : TypeId) (s : Sl) (n : Int) (w : World) (K : SW) : Prop :=
  0 ≤ n ∧ n < 2 ^ 63 ∧ n * bytes ≤ 2 ^ 48 ∧ apG size bytes zero e s n.toNat (rowZ zero (n.toNat * zero.length)) w K

/-- append(s, x...), x a string. -/
def apT (e : TypeId) (s : Sl) (x : ByteArray) (w : World) (K : SW) : Prop :=
  apG 1 1 [.int .u8 0] e s x.size (x.data.toList.map bv) w K

theorem add_add (a : Addr) (n m : Nat) : (a.add n).add m = a.add (n + m) := by
  unfold Addr.add
  by_cases hn : n = 0 <;> by_cases hm : m = 0 <;> simp [hn, hm]
  omega

theorem growBy_le (need : Nat) : ∀ (r c : Nat), 256 ≤ c → c ≤ 2 * need → Builtin.growBy need r c ≤ 2 * need
  | 0, c, _, h => h
  | r + 1, c, h0, h => by
    unfold Builtin.growBy
    split
    · exact h
    · exact growBy_le need r _ (by omega) (by omega)

theorem nextcap_le (need c : Nat) (h : c < need) : Builtin.nextslicecap need c ≤ 2 * need := by
  unfold Builtin.nextslicecap
  split
  · omega
  · split
    · omega
    · exact growBy_le need 4 c (by omega) (by omega)

section
variable {P : Program}

theorem firstCells_run {w : World} {p : Option Addr} {size n c : Nat} {l : Nat} {vs : List Value} (h : rdC w p (n * size) vs) :
    (Builtin.firstCells size n (.slice p l c)).run P w = .ok vs.toArray w := by
  obtain ⟨hlen, h⟩ := h
  cases p with
  | none =>
    simp only at h
    have : vs = [] := by
      apply List.eq_nil_of_length_eq_zero; omega
    subst this
    rfl
  | some a =>
    simp only at h
    have := loadCells_run (P := P) (a := a) (w := w) vs 0 #[] (fun j hj => by rw [Nat.zero_add]; exact h j hj)
    simp only [Builtin.firstCells, loadCells]
    rw [← hlen, this]; simp

theorem zeroCells_eq (zero : Array Value) (n : Nat) : Builtin.zeroCells zero n = (rowZ zero.toList (n * zero.size)).toArray := by
  unfold Builtin.zeroCells rowZ
  apply Array.ext
  · simp
  · intro i h1 h2
    have hz : 0 < zero.size := by
      rcases Nat.eq_zero_or_pos zero.size with h | h
      · simp [h] at h1
      · exact h
    have : i % zero.size < zero.size := Nat.mod_lt _ hz
    simp [this]

theorem drew_rdC {w : World} {p : Option Addr} {n : Nat} {vs : List Value} (h : rdC w p n vs) : rdC w.drew p n vs := h

/-- The core: what the model's append does where the cells are at hand. -/
theorem apG_core {e : TypeId} {ti : TypeInfo} {z : Value} (hi : P.info? e = some ti) (hz : ti.zero = some z)
    {s : Sl} {n : Nat} {new : List Value} {w : World} {K : SW} {x : Value} {zeros : Bool} {appended : Sem (Array Value)}
    (hnew : ∀ w', (w' = w ∨ w' = w.drew) → appended.run P w' = .ok new.toArray w')
    (hok : ∀ v ∈ new, okC v = true)
    (h : apG ti.size ti.bytes z.cells.toList e s n new w K) :
    ∃ r w', K r w' ∧
    (do
      let need := s.l + n
      if need ≤ s.c then
        let new ← appended
        if let some a := s.p then storeCells (a.add (s.l * ti.size)) new.toList
        pure (.slice s.p need s.c)
      else
        if (need : Int) > IntKind.i64.max ∧ (zeros ∨ (← typeInfo e).bytes = 0) then runtimePanic (.error "growslice: len out of range")
        if Builtin.nextslicecap need s.c * (← typeInfo e).bytes > 2 ^ 48 then (if zeros then runtimePanic (.error "growslice: len out of range") else do
          if !(← Builtin.mayShare ti.size s.l n s.p x) then mark .noRoom
          unsupported (.resourceLimit "append: a slice or a string whose bytes no memory bears"))
        let newCap ← choose (.appendCap need s.c e)
        askRoom (newCap * (← typeInfo e).bytes)
        let old ← Builtin.firstCells ti.size s.l (.slice s.p s.l s.c)
        let new ← appended
        let rest := Builtin.zeroCells (← zeroValue e).cells (newCap - need)
        pure (.slice (some (← newRow e (old ++ new ++ rest))) need newCap) : Sem Value).run P w = .ok (.slice r.p r.l r.c) w' := by
  obtain ⟨h1, h2⟩ := h
  by_cases hc : s.l + n ≤ s.c
  · have h1 := h1 hc
    cases hp : s.p with
    | none =>
      rw [hp] at h1
      refine ⟨_, _, h1, ?_⟩
      simp [hc, hnew w (.inl rfl)]
    | some a =>
      rw [hp] at h1
      obtain ⟨hw, hK⟩ := h1
      refine ⟨_, _, hK, ?_⟩
      have := wrC_run (P := P) (a := a.add (s.l * ti.size)) new 0 w hok (fun j hj => by rw [Nat.zero_add]; exact hw j hj)
      simp [hc, hnew w (.inl rfl), this]
  · obtain ⟨hb, hm, old, hold, hK⟩ := h2 (by omega)
    have hcap := nextcap_le (s.l + n) s.c (by omega)
    have hti : ∀ w, (typeInfo e).run P w = .ok ti w := fun w => by simp [typeInfo, hi]
    have hzv : ∀ w, (zeroValue e).run P w = .ok z w := fun w => by simp [zeroValue, typeInfo, hi, hz]
    have e1 : ¬ (((s.l + n : Nat) : Int) > IntKind.i64.max ∧ (zeros = true ∨ ti.bytes = 0)) := by
      have : IntKind.i64.max = 9223372036854775807 := by decide
      rw [this]; omega
    have e2 : ¬ (Builtin.nextslicecap (s.l + n) s.c * ti.bytes > 2 ^ 48) := by
      have : Builtin.nextslicecap (s.l + n) s.c * ti.bytes ≤ 2 * (s.l + n) * ti.bytes := Nat.mul_le_mul_right _ hcap
      have h3 : 2 * (s.l + n) * ti.bytes = 2 * ((s.l + n) * ti.bytes) := by rw [Nat.mul_assoc]
      omega
    obtain ⟨cap, hcap', hch⟩ : ∃ cap, s.l + n ≤ cap ∧ (choose (.appendCap (s.l + n) s.c e)).run P w = .ok cap w.drew := by
      refine ⟨Question.cut (.appendCap (s.l + n) s.c e) (w.tape w.drawn (.appendCap (s.l + n) s.c e)), ?_, ?_⟩
      · simp [Question.cut]
      · simp [Question.forced]
    refine ⟨_, _, hK cap hcap', ?_⟩
    simp only [Sem.run_bind, Sem.run_ite, if_neg hc, hti, Result.andThen_ok, if_neg e1, Sem.run_pure, if_neg e2, hch, run_askRoom, firstCells_run (drew_rdC hold), hnew w.drew (.inr rfl), hzv,
      newRow, run_newObj, zeroCells_eq]
    simp [newSl]
    rfl

theorem apS_sound {st xt ty : TypeId} {e e' : TypeId} {ti : TypeInfo} {z : Value} (hst : P.underlying st = some (.slice e)) (hxt : P.underlying xt = some (.slice e')) (hi : P.info? e = some ti) (hz : ti.zero = some z)
    {s x : Sl} {w : World} {K : SW} (h : apS ti.size ti.bytes z.cells.toList e s x w K) :
    ∃ r w', K r w' ∧ (Builtin.append_ #[st, xt] ty #[.slice s.p s.l s.c, .slice x.p x.l x.c]).run P w = .ok (.slice r.p r.l r.c) w' := by
  obtain ⟨new, hr, hok, h⟩ := h
  obtain ⟨r, w', hK, hrun⟩ := apG_core (P := P) (zeros := false) (x := .slice x.p x.l x.c) hi hz (appended := Builtin.firstCells ti.size x.l (.slice x.p x.l x.c))
    (fun w' hw' => firstCells_run (by rcases hw' with rfl | rfl <;> exact hr)) hok h
  refine ⟨r, w', hK, ?_⟩
  rw [← hrun]
  simp only [Builtin.append_, List.getElem?_toArray, List.getElem?_cons_zero, List.getElem?_cons_succ, Sem.run_bind, run_underlying hst, run_underlying hxt, Result.andThen_ok, sizeOf_run hi, Builtin.lenOf, Sem.run_pure]
  rfl

theorem apT_sound {st xt ty : TypeId} {e : TypeId} {ti : TypeInfo} (hst : P.underlying st = some (.slice e)) (hxt : P.underlying xt = some .string) (hi : P.info? e = some ti)
    (hz : ti.zero = some (.int .u8 0)) (hs1 : ti.size = 1) (hb1 : ti.bytes = 1)
    {s : Sl} {x : ByteArray} {w : World} {K : SW} (h : apT e s x w K) :
    ∃ r w', K r w' ∧ (Builtin.append_ #[st, xt] ty #[.slice s.p s.l s.c, .string x]).run P w = .ok (.slice r.p r.l r.c) w' := by
  have h' : apG ti.size ti.bytes (Value.int IntKind.u8 0).cells.toList e s x.size (x.data.toList.map bv) w K := by rw [hs1, hb1]; exact h
  obtain ⟨r, w', hK, hrun⟩ := apG_core (P := P) (zeros := false) (x := .string x) hi hz (appended := Builtin.firstCells ti.size x.size (.string x))
    (fun w' _ => by
      have h1 : x.extract 0 x.size = x := ByteArray.extract_zero_size
      simp [Builtin.firstCells, h1]
      apply Array.toList_inj.1
      simp [bv]) (by intro v hv; simp at hv; obtain ⟨b, _, rfl⟩ := hv; rfl) h'
  refine ⟨r, w', hK, ?_⟩
  rw [← hrun]
  simp only [Builtin.append_, List.getElem?_toArray, List.getElem?_cons_zero, List.getElem?_cons_succ, Sem.run_bind, run_underlying hst, run_underlying hxt, Result.andThen_ok, sizeOf_run hi, Builtin.lenOf, Sem.run_pure]
  rfl

theorem wrap64_in {n : Int} (h0 : -9223372036854775808 ≤ n) (h1 : n < 9223372036854775808) : IntKind.i64.wrap n = n := by
  have : n % 18446744073709551616 = n ∨ n % 18446744073709551616 = n + 18446744073709551616 := by omega
  unfold IntKind.wrap
  simp [IntKind.bits, IntKind.signed]
  omega

theorem apZ_sound {st xt ty : TypeId} {e : TypeId} {k : IntKind} {ti : TypeInfo} {z : Value} (hst : P.underlying st = some (.slice e)) (hxt : P.underlying xt = some (.int k)) (hi : P.info? e = some ti) (hz : ti.zero = some z)
    (hsz : z.cells.size = ti.size) (hz1 : ∀ v ∈ z.cells.toList, okC v = true) {s : Sl} {k' : IntKind} {m : Int} {w : World} {K : SW} (h : apZ ti.size ti.bytes z.cells.toList e s m w K) :
    ∃ r w', K r w' ∧ (Builtin.append_ #[st, xt] ty #[.slice s.p s.l s.c, .int k' m]).run P w = .ok (.slice r.p r.l r.c) w' := by
  obtain ⟨h0, h63, hb, h⟩ := h
  have hw : IntKind.i64.wrap m = m := wrap64_in (by omega) (by omega)
  have hzv : ∀ w, (zeroValue e).run P w = .ok z w := fun w => by simp [zeroValue, typeInfo, hi, hz]
  have hti : ∀ w, (typeInfo e).run P w = .ok ti w := fun w => by simp [typeInfo, hi]
  obtain ⟨r, w', hK, hrun⟩ := apG_core (P := P) (zeros := true) (x := .int k' m) hi hz
    (appended := if !true then Builtin.firstCells ti.size m.toNat (.int k' m) else if m.toNat * ti.size = 0 then pure #[] else do pure (Builtin.zeroCells (← zeroValue e).cells m.toNat))
    (new := rowZ z.cells.toList (m.toNat * z.cells.toList.length))
    (fun w' _ => by
      by_cases hm : m.toNat * ti.size = 0
      · have hm' : m.toNat * z.cells.toList.length = 0 := by rw [Array.length_toList, hsz]; exact hm
        simp only [hm, hm']
        rfl
      · simp [hm, hzv, zeroCells_eq]) (by
      intro v hv
      unfold rowZ at hv
      simp only [List.mem_map, List.mem_range] at hv
      obtain ⟨i, hi', rfl⟩ := hv
      have hpos : 0 < z.cells.toList.length := by
        rcases Nat.eq_zero_or_pos z.cells.toList.length with h | h
        · rw [h] at hi'; simp at hi'
        · exact h
      have hlt := Nat.mod_lt i hpos
      rw [List.getD_eq_getElem?_getD, List.getElem?_eq_getElem hlt]
      exact hz1 _ (List.getElem_mem hlt)) h
  refine ⟨r, w', hK, ?_⟩
  rw [← hrun]
  have c1 : ¬ (m < 0) := by omega
  have c2 : ¬ (m * (ti.bytes : Int) > 2 ^ 48) := by omega
  simp only [Builtin.append_, List.getElem?_toArray, List.getElem?_cons_zero, List.getElem?_cons_succ, Sem.run_bind, run_underlying hst, run_underlying hxt, Result.andThen_ok, sizeOf_run hi, Builtin.lenOf, Sem.run_pure,
    asInt, asIntOf, hw, if_neg c1, hti, if_neg c2, if_true, Sem.run_ite]
  rfl

/-- copy(d, x), both slices. -/
def cpS (size : Nat) (d x : Sl) (w : World) (K : Int → World → Prop) : Prop :=
  ∃ new, rdC w x.p (min x.l d.l * size) new ∧ (∀ v ∈ new, okC v = true) ∧ match d.p with
    | none => K (min x.l d.l : Nat) w
    | some a => wrAll w a new.length ∧ K (min x.l d.l : Nat) (wrC w a 0 new)

/-- copy(d, x), x a string. -/
def cpT (d : Sl) (x : ByteArray) (w : World) (K : Int → World → Prop) : Prop :=
  match d.p with
    | none => K (min x.size d.l : Nat) w
    | some a => wrAll w a (min x.size d.l) ∧ K (min x.size d.l : Nat) (wrC w a 0 ((x.data.toList.take (min x.size d.l)).map bv))

theorem cpS_sound {dt xt ty e : TypeId} {rest : List TypeId} {ti : TypeInfo} (hd : P.underlying dt = some (.slice e)) (hi : P.info? e = some ti) {d x : Sl} {w : World} {K : Int → World → Prop}
    (h : cpS ti.size d x w K) : ∃ r w', K r w' ∧ (Builtin.copy_ (dt :: xt :: rest).toArray ty #[.slice d.p d.l d.c, .slice x.p x.l x.c]).run P w = .ok (.int .i64 r) w' := by
  obtain ⟨new, hr, hok, h⟩ := h
  have hf := firstCells_run (P := P) (n := min x.l d.l) (c := x.c) (l := x.l) hr
  cases hp : d.p with
  | none =>
    rw [hp] at h
    refine ⟨_, _, h, ?_⟩
    simp only [Builtin.copy_, List.getElem?_toArray, List.getElem?_cons_zero, List.getElem?_cons_succ, Sem.run_bind, run_underlying hd, Result.andThen_ok, sizeOf_run hi, Builtin.lenOf, Sem.run_pure]
    change ((Builtin.firstCells ti.size (min x.l d.l) (.slice x.p x.l x.c)).run P w).andThen _ = _
    rw [hf]; rfl
  | some a =>
    rw [hp] at h
    obtain ⟨hw, hK⟩ := h
    refine ⟨_, _, hK, ?_⟩
    have := wrC_run (P := P) (a := a) new 0 w hok (fun j hj => by rw [Nat.zero_add]; exact hw j hj)
    simp only [Builtin.copy_, List.getElem?_toArray, List.getElem?_cons_zero, List.getElem?_cons_succ, Sem.run_bind, run_underlying hd, Result.andThen_ok, sizeOf_run hi, Builtin.lenOf, Sem.run_pure]
    change ((Builtin.firstCells ti.size (min x.l d.l) (.slice x.p x.l x.c)).run P w).andThen _ = _
    rw [hf]
    simp only [Result.andThen_ok, this]
    rfl

theorem cpT_sound {dt xt ty e : TypeId} {rest : List TypeId} {ti : TypeInfo} (hd : P.underlying dt = some (.slice e)) (hi : P.info? e = some ti) {d : Sl} {x : ByteArray} {w : World} {K : Int → World → Prop}
    (h : cpT d x w K) : ∃ r w', K r w' ∧ (Builtin.copy_ (dt :: xt :: rest).toArray ty #[.slice d.p d.l d.c, .string x]).run P w = .ok (.int .i64 r) w' := by
  have hf : (Builtin.firstCells ti.size (min x.size d.l) (.string x)).run P w = .ok ((x.data.toList.take (min x.size d.l)).map bv).toArray w := by
    simp only [Builtin.firstCells, Sem.run_pure]
    congr 1
    apply Array.toList_inj.1
    simp only [Array.toList_map, ByteArray.data_extract, Array.toList_extract, List.extract_eq_take_drop, Nat.sub_zero, List.drop_zero]
    rfl
  unfold cpT at h
  cases hp : d.p with
  | none =>
    rw [hp] at h
    refine ⟨_, _, h, ?_⟩
    simp only [Builtin.copy_, List.getElem?_toArray, List.getElem?_cons_zero, List.getElem?_cons_succ, Sem.run_bind, run_underlying hd, Result.andThen_ok, sizeOf_run hi, Builtin.lenOf, Sem.run_pure]
    change ((Builtin.firstCells ti.size (min x.size d.l) (.string x)).run P w).andThen _ = _
    rw [hf]; rfl
  | some a =>
    rw [hp] at h
    obtain ⟨hw, hK⟩ := h
    refine ⟨_, _, hK, ?_⟩
    have := wrC_run (P := P) (a := a) ((x.data.toList.take (min x.size d.l)).map bv) 0 w (by intro v hv; obtain ⟨b, _, rfl⟩ := List.mem_map.1 hv; rfl) (fun j hj => by
      rw [Nat.zero_add]
      refine hw j ?_
      simp at hj; omega)
    simp only [Builtin.copy_, List.getElem?_toArray, List.getElem?_cons_zero, List.getElem?_cons_succ, Sem.run_bind, run_underlying hd, Result.andThen_ok, sizeOf_run hi, Builtin.lenOf, Sem.run_pure]
    change ((Builtin.firstCells ti.size (min x.size d.l) (.string x)).run P w).andThen _ = _
    rw [hf]
    simp only [Result.andThen_ok, this]
    rfl

/-- make([]T, len, cap). -/
def mkS (bytes : Nat) (zero : List Value) (e : TypeId) (len cap : Int) (w : World) (K : SW) : Prop :=
  0 ≤ len ∧ len ≤ cap ∧ cap < 2 ^ 63 ∧ cap * bytes ≤ 2 ^ 48 ∧ K (newSl w len.toNat cap.toNat) (w.alloc (.cells (rowZ zero (cap.toNat * zero.length)).toArray e))

theorem madeCells_eq (zero : Array Value) (n : Nat) (h : n = 0 ∨ 0 < zero.size) : madeCells zero n = (rowZ zero.toList n).toArray := by
  apply Array.ext
  · simp [rowZ, madeCells]
  · intro i i1 i2
    have hpos : 0 < zero.size := by
      rcases h with rfl | h
      · simp [madeCells] at i1
      · exact h
    have := Nat.mod_lt i hpos
    simp [rowZ, madeCells, this]

theorem mkS_sound {t e : TypeId} {ti : TypeInfo} {z : Value} (ht : P.underlying t = some (.slice e)) (hi : P.info? e = some ti) (hz : ti.zero = some z) (hsz : z.cells.size = ti.size)
    {k k' : IntKind} {len cap : Int} {w : World} {K : SW} (h : mkS ti.bytes z.cells.toList e len cap w K) :
    ∃ r w', K r w' ∧ (Instr.makeSlice t (.int k len) (.int k' cap)).run P w = .ok (.slice r.p r.l r.c) w' := by
  obtain ⟨h0, h1, h2, hb, hK⟩ := h
  refine ⟨_, _, hK, ?_⟩
  rw [run_make w t e ti z ht hi hz k k' len cap h0 h1 (by rw [Int.mul_comm]; omega) (by omega), madeCells_eq, Array.length_toList, hsz]
  · rfl
  · rw [← hsz]
    rcases Nat.eq_zero_or_pos z.cells.size with h | h
    · left; rw [h, Nat.mul_zero]
    · right; exact h

/-- []byte(s). -/
def stbS (e : TypeId) (s : ByteArray) (w : World) (K : SW) : Prop :=
  ∀ cap, s.size ≤ cap → K (newSl w s.size cap) (w.drew.alloc (.cells ((s.data.toList.map bv) ++ List.replicate (cap - s.size) (Value.int .u8 0)).toArray e (cap, cap + 1)))

theorem stbS_sound {sT dT e : TypeId} {s : ByteArray} (hs : P.underlying sT = some .string) (hd : P.underlying dT = some (.slice e)) (he : P.underlying e = some (.int .u8)) {w : World} {K : SW} (h : stbS e s w K) :
    ∃ r w', K r w' ∧ (convert sT dT (.string s)).run P w = .ok (.slice r.p r.l r.c) w' := by
  have hcut : s.size ≤ grownCap w s.size 0 e := by simp [grownCap, Question.cut]
  refine ⟨_, _, h _ hcut, ?_⟩
  rw [run_bytes_of_string w sT dT e s hs hd he]
  have hrow : bytesRow s (grownCap w s.size 0 e) = ((s.data.toList.map bv) ++ List.replicate (grownCap w s.size 0 e - s.size) (Value.int .u8 0)).toArray := by
    apply Array.toList_inj.1
    unfold bytesRow bv
    simp
  have hsz : (bytesRow s (grownCap w s.size 0 e)).size = grownCap w s.size 0 e := by
    rw [hrow]
    simp
    omega
  rw [hsz, hrow]
  rfl

/-- string(b). -/
def btsS (s : Sl) (w : World) (K : ByteArray → Prop) : Prop :=
  ∃ bs : List UInt8, rdC w s.p s.l (bs.map bv) ∧ K (ofL bs)

theorem btsS_sound {sT dT e : TypeId} (hs : P.underlying sT = some (.slice e)) (hd : P.underlying dT = some .string) (he : P.underlying e = some (.int .u8)) {s : Sl} {w : World} {K : ByteArray → Prop} (h : btsS s w K) :
    ∃ r, K r ∧ (convert sT dT (.slice s.p s.l s.c)).run P w = .ok (.string r) w := by
  obtain ⟨bs, ⟨hlen, hr⟩, hK⟩ := h
  refine ⟨_, hK, ?_⟩
  simp only [List.length_map] at hlen
  cases hp : s.p with
  | none =>
    rw [hp] at hr
    simp only at hr
    have : bs = [] := List.eq_nil_of_length_eq_zero (by omega)
    subst this
    rw [run_convert_bytes_string w sT dT e none s.l s.c hs he hd]
    rfl
  | some a =>
    rw [hp] at hr
    simp only at hr
    rw [← hlen]
    exact run_convert_bytes_back w sT dT e a s.c bs hs he hd (fun j hj => by
      have := hr j (by simpa using hj)
      simpa [bv] using this)

/-- unsafe.String(&b[0], n), n not 0: the bytes; they are frozen. -/
def usS (e : TypeId) (a : Addr) (n : Int) (w : World) (K : ByteArray → World → Prop) : Prop :=
  ∃ (g : Nat) (l : List UInt8) (cells : Nat), a = ⟨g, 0, none⟩ ∧ n = l.length ∧ l ≠ [] ∧ w.shape? g = some (e, cells) ∧ l.length ≤ cells ∧ (l.length : Int) ≤ maxI ∧
    (∀ j x, l[j]? = some x → w.cell? ⟨g, j, none⟩ = some (.int .u8 x.toNat)) ∧ K (ofL l) (w.freeze ⟨g, 0, none⟩ l.length)

theorem usS_sound {pt it ty e : TypeId} (hp : P.underlying pt = some (.pointer e)) (hc : P.cellsOf e = 1) {a : Addr} {n : Int} {w : World} {K : ByteArray → World → Prop} (h : usS e a n w K) :
    ∃ r w', K r w' ∧ (Builtin.unsafeString_ #[pt, it] ty #[.pointer (some a), .int .i64 n]).run P w = .ok (.string r) w' := by
  obtain ⟨g, l, cells, rfl, rfl, h0, hsh, hle, hmax, hcell, hK⟩ := h
  refine ⟨_, _, hK, ?_⟩
  refine Lib.run_unsafeString_row (P := P) w pt it ty e hp hc g cells hsh l h0 hle (by unfold maxI at hmax; omega) fun j x hx => ?_
  have : (⟨g, 0, none⟩ : Addr).add j = ⟨g, j, none⟩ := by
    unfold Addr.add
    by_cases hj : j = 0 <;> simp [hj]
  rw [this]
  exact hcell j x hx
end
end Pw
