/- The disk under a journal: its blocks by name, its limits; one Append as a turn of the disk's state. Conditions: none. -/
import Derived.Test.YtamkecjpcfnpjaaJN1
namespace Go.Proofs.Ytamkecjpcfnpjaa
open Go Pw

/-- What a disk keeps within bounds. -/
structure Fine (st : DS) (n p : Nat) : Prop where
  lens : Lens st
  pl : st.pcs.length ≤ p
  c0 : 0 ≤ st.calls
  c1 : st.calls ≤ n
  lim : ∀ v, st.lim = some v → 0 ≤ v ∧ v ≤ 2 ^ 40

theorem Fine.mono {st : DS} {n p n' p' : Nat} (h : Fine st n p) (hn : n ≤ n') (hp : p ≤ p') : Fine st n' p' :=
  ⟨h.lens, Nat.le_trans h.pl hp, h.c0, by have := h.c1; omega, h.lim⟩

theorem fine_new : Fine newDS 0 0 := ⟨⟨by simp [newDS], by simp [newDS], by simp [newDS]⟩, by simp [newDS], by simp [newDS], by simp [newDS], by simp [newDS]⟩

theorem splitF_length : ∀ (f off : Nat) (s : List UInt8), (splitF f off s).length ≤ f
  | 0, _, _ => by simp [splitF]
  | f + 1, off, s => by
    unfold splitF
    split
    · simp
    · have := splitF_length f (off + min (64 - off % 64) s.length) (s.drop (64 - off % 64))
      simp; omega

theorem splitL_length (off : Nat) (s : List UInt8) : (splitL off s).length ≤ s.length := splitF_length _ _ _

theorem splitF_in : ∀ (f off : Nat) (s : List UInt8), ∀ p ∈ splitF f off s, off ≤ p.1 ∧ p.1 + p.2.length ≤ off + s.length
  | 0, _, _, p, hp => by simp [splitF] at hp
  | f + 1, off, s, p, hp => by
    unfold splitF at hp
    split at hp
    · simp at hp
    · rcases List.mem_cons.1 hp with rfl | hp
      · simp; omega
      · have := splitF_in f _ _ p hp
        simp at this
        omega

theorem splitL_in {off : Nat} {s : List UInt8} : ∀ p ∈ splitL off s, off ≤ p.1 ∧ p.1 + p.2.length ≤ off + s.length := splitF_in _ _ _

theorem lim_call {st : DS} {v : Int} (h : (callDS st).lim = some v) : ∃ u, st.lim = some u ∧ v = u - 1 := by
  unfold callDS at h
  simp only [Option.map_eq_some_iff] at h
  obtain ⟨u, hu, rfl⟩ := h
  exact ⟨u, hu, rfl⟩

theorem Fine.sync {st : DS} {n p : Nat} (h : Fine st n p) (h0 : st.lim ≠ some 0) : Fine (syncDS st) (n + 1) 0 := by
  refine ⟨⟨h.lens.now, h.lens.now, by simp [syncDS]⟩, by simp [syncDS], ?_, ?_, fun v hv => ?_⟩
  · have := h.c0; simp [syncDS, callDS]; omega
  · have := h.c1; simp [syncDS, callDS]; omega
  · obtain ⟨u, hu, rfl⟩ := lim_call hv
    have := h.lim u hu
    have : u ≠ 0 := fun e => h0 (e ▸ hu)
    omega

theorem Fine.write {st : DS} {n p off : Nat} {s : List UInt8} (h : Fine st n p) (h0 : st.lim ≠ some 0) (hs : off + s.length ≤ 2 ^ 24) : Fine (writeDS st off s) (n + 1) (p + s.length) := by
  refine ⟨⟨?_, h.lens.syn, fun q hq => ?_⟩, ?_, ?_, ?_, fun v hv => ?_⟩
  · have := h.lens.now
    simp only [writeDS]
    rw [putL_length]; omega
  · simp only [writeDS, List.mem_append] at hq
    rcases hq with hq | hq
    · exact h.lens.pcs q hq
    · have := splitL_in q hq; omega
  · have := h.pl
    have := splitL_length off s
    simp only [writeDS, List.length_append]
    omega
  · have := h.c0; simp [writeDS, callDS]; omega
  · have := h.c1; simp [writeDS, callDS]; omega
  · obtain ⟨u, hu, rfl⟩ := lim_call (st := st) hv
    have := h.lim u hu
    have : u ≠ 0 := fun e => h0 (e ▸ hu)
    omega

/-- A disk lies at block b, its blocks being O. -/
structure DI (w : World) (b : Nat) (st : DS) (O : Nat → Prop) : Prop where
  rep : Rep w b st O
  lt : ∀ c, O c → c < w.heap.size

section
variable {w w' : World} {b : Nat} {st : DS} {O : Nat → Prop} {n p : Nat}

theorem DI.fr {F : Nat → Prop} (h : DI w b st O) (hf : Fr F w w') (hd : ∀ c, O c → ¬ F c) : DI w' b st O := ⟨h.rep.fr hf hd, fun c hc => Nat.lt_of_lt_of_le (h.lt c hc) hf.1⟩

theorem DI.ob (h : DI w b st O) : O b := by
  obtain ⟨_, _, _, _, _, _, _, h⟩ := h.rep.ex
  exact h.ob

theorem nw_lt (h : ∀ c, O c → c < w.heap.size) (hs : w.heap.size ≤ w'.heap.size) : ∀ c, nw O w w' c → c < w'.heap.size := by
  intro c hc
  rcases hc with hc | hc
  · exact Nat.lt_of_lt_of_le (h c hc) hs
  · exact hc.2

theorem Sync_DI {K : Int → World → Prop} (h : DI w b st O) (hF : Fine st n p) (hn : n ≤ 2 ^ 39)
    (hoff : st.lim = some 0 → K 70 w) (hon : st.lim ≠ some 0 → ∀ w', DI w' b (syncDS st) (nw O w w') → Fr O w w' → K 0 w') : disk_Disk_Sync_sh (ptr b) K w := by
  have := hF.lens.now
  have := hF.c1
  exact Sync_spec h.rep (by omega) hF.c0 (by omega) (fun v hv => by have := hF.lim v hv; omega) hoff fun h0 w' hr hf => hon h0 w' ⟨hr, nw_lt h.lt hf.1⟩ hf

theorem Write_DI {K : Int → World → Prop} {off : Int} {s : ByteArray} (h : DI w b st O) (hF : Fine st n p) (hn : n ≤ 2 ^ 39) (hp : p ≤ 2 ^ 29) (h0 : 0 ≤ off) (h1 : off + s.size ≤ 16777216)
    (hoff : st.lim = some 0 → K 70 w) (hon : st.lim ≠ some 0 → ∀ w', DI w' b (writeDS st off.toNat (bl s)) (nw O w w') → Fr O w w' → K 0 w') : disk_Disk_Write_sh (ptr b) off s K w := by
  have := hF.lens.now
  have := hF.c1
  have := hF.pl
  exact Write_spec h.rep (by omega) (by omega) hF.c0 (by omega) (fun v hv => by have := hF.lim v hv; omega) (fun hb => by omega) (fun _ _ => hoff) fun _ _ h0 w' hr hf => hon h0 w' ⟨hr, nw_lt h.lt hf.1⟩ hf

theorem Read_DI {K : ByteArray → World → Prop} {off m : Int} (h : DI w b st O) (hF : Fine st n p) (hK : ∀ w', Fr F0 w w' → K (ofL (readL st.now off m)) w') : disk_Disk_Read_sh (ptr b) off m K w := by
  have := hF.lens.now
  exact Read_spec h.rep (by omega) hK

theorem Fail_DI {K : World → Prop} {m : Int} (h : DI w b st O) (hK : ∀ w', DI w' b (failDS st m) O → Fr O w w' → K w') : disk_Disk_Fail_sh (ptr b) m K w :=
  Fail_spec h.rep fun w' hr hf => hK w' ⟨hr, fun c hc => Nat.lt_of_lt_of_le (h.lt c hc) hf.1⟩ hf

theorem Crash_DI {K : Option Addr → World → Prop} {surv : List Int} {v : Sl} (h : DI w b st O) (hF : Fine st n p) (hp : p ≤ 2 ^ 29) (hv : rdC w v.p v.l (surv.map iv))
    (hK : ∀ w', DI w' w.heap.size (crashDS st surv) (fun x => w.heap.size ≤ x ∧ x < w'.heap.size) → Fr F0 w w' → K (ptr w.heap.size) w') : disk_Disk_Crash_sh (ptr b) v K w := by
  have := hF.pl
  exact Crash_spec h.rep hF.lens (by omega) hv fun w' hr hf => hK w' ⟨hr, fun c hc => hc.2⟩ hf
end

/-- A record as it lies on the disk. -/
def enc (r : List UInt8) : List UInt8 := be 4 r.length ++ r

theorem enc_length (r : List UInt8) : (enc r).length = 4 + r.length := by simp [enc]

/-- What a journal's Append makes of its disk: e: where the part that counts ends; true: the record is acknowledged. -/
def apDS (st : DS) (e : Nat) (r : List UInt8) : DS × Bool :=
  if st.lim = some 0 then (st, false) else
  if (writeDS st e (enc r)).lim = some 0 then (writeDS st e (enc r), false) else
  if (syncDS (writeDS st e (enc r))).lim = some 0 then (syncDS (writeDS st e (enc r)), false) else
  if (writeDS (syncDS (writeDS st e (enc r))) 0 (be 8 (e + 4 + r.length - 64))).lim = some 0 then (writeDS (syncDS (writeDS st e (enc r))) 0 (be 8 (e + 4 + r.length - 64)), false) else
  (syncDS (writeDS (syncDS (writeDS st e (enc r))) 0 (be 8 (e + 4 + r.length - 64))), true)

/-- A journal's own cells. -/
def jRow (b many : Nat) (bytes : Int) (e : Nat) (broken : Bool) : List Value := [.pointer (ptr b), .int .i64 many, .int .i64 bytes, .int .i64 e, .bool broken]
end Go.Proofs.Ytamkecjpcfnpjaa
