/- The desk: what an act does, and that the two disks are the same. Conditions: none. -/
import Derived.Test.YtmhjekbdpnocaaaR4
import Derived.Test.YtmhjekbdpnocaaaG3
namespace Go.Proofs.Ytmhjekbdpnocaaa
open Go Pw

/-- The desk's state. -/
structure DeskP (w : World) (x : Nat) (st : DS) (k db rb : Nat) (O1 O2 : Nat → Prop) : Prop where
  row : Row w x [.pointer (ptr db), .pointer (ptr rb)]
  d : Rep w db st O1
  r : RR w rb st O2
  dis : ∀ c, O1 c → ¬ O2 c
  nx : ¬ O1 x ∧ ¬ O2 x
  b1 : ∀ c, O1 c → k ≤ c ∧ c < w.heap.size
  b2 : ∀ c, O2 c → k ≤ c ∧ c < w.heap.size
  kx : k ≤ x

def Desk (w : World) (x : Nat) (st : DS) (k : Nat) : Prop := ∃ db rb O1 O2, DeskP w x st k db rb O1 O2

/-- Bounds that hold after n acts. -/
structure Bd (st : DS) (n : Nat) : Prop where
  len : Lens st
  c0 : 0 ≤ st.calls
  c1 : st.calls ≤ n
  pl : st.pcs.length ≤ 200 * n
  lim : ∀ v, st.lim = some v → 0 ≤ v ∧ v ≤ 2 ^ 40

def stepDS (st : DS) (a0 a1 a2 : Int) (t : List UInt8) : DS :=
  if a0 % 8 = 4 then (if st.lim = some 0 then st else syncDS st)
  else if a0 % 8 = 5 then st
  else if a0 % 8 = 6 then failDS st (a2 % 9 - 1)
  else if a0 % 8 = 7 then crashDS st (survL a2)
  else if whereI a1 < 0 ∨ whereI a1 > 16777216 ∨ ((longL t a2).length : Int) > 16777216 - whereI a1 then st
  else if st.lim = some 0 then st else writeDS st (whereI a1).toNat (longL t a2)

theorem longL_len (t : List UInt8) (n : Int) : (longL t n).length ≤ 200 := by simp [longL]; omega

theorem Bd.mono {st : DS} {n m : Nat} (h : Bd st n) (hm : n ≤ m) : Bd st m := ⟨h.len, h.c0, by have := h.c1; omega, by have := h.pl; omega, h.lim⟩

theorem Bd.call {st : DS} {n : Nat} (h : Bd st n) (hl : st.lim ≠ some 0) : ∀ v, (callDS st).lim = some v → 0 ≤ v ∧ v ≤ 2 ^ 40 := by
  intro v hv
  simp only [callDS, Option.map_eq_some_iff] at hv
  obtain ⟨u, hu, rfl⟩ := hv
  have := h.lim u hu
  have : u ≠ 0 := fun e => hl (by rw [hu, e])
  omega

theorem Bd.sync {st : DS} {n : Nat} (h : Bd st n) (hl : st.lim ≠ some 0) : Bd (syncDS st) (n + 1) :=
  ⟨h.len.sync, by have := h.c0; simp only [syncDS, callDS]; omega, by have := h.c1; simp only [syncDS, callDS]; omega, by simp [syncDS], h.call hl⟩

theorem Bd.write {st : DS} {n off : Nat} {s : List UInt8} (h : Bd st n) (hl : st.lim ≠ some 0) (hs : off + s.length ≤ 2 ^ 24) (hs2 : s.length ≤ 200) : Bd (writeDS st off s) (n + 1) :=
  ⟨h.len.write hs, by have := h.c0; simp only [writeDS, callDS]; omega, by have := h.c1; simp only [writeDS, callDS]; omega, by
    have h1 := h.pl
    have h2 := splitF_len s.length off s
    simp only [writeDS, List.length_append, splitL]
    omega, h.call hl⟩

theorem Bd.crash {st : DS} {n : Nat} {v : List Int} (h : Bd st n) : Bd (crashDS st v) n :=
  ⟨h.len.crash, by simp [crashDS], by simp [crashDS], by simp [crashDS], by simp [crashDS]⟩

theorem Bd.fail {st : DS} {n : Nat} {m : Int} (h : Bd st n) (hm : m ≤ 2 ^ 40) : Bd (failDS st m) n :=
  ⟨⟨h.len.now, h.len.syn, h.len.pcs⟩, h.c0, h.c1, h.pl, fun v hv => by
    simp only [failDS] at hv
    split at hv
    · cases hv; omega
    · cases hv⟩

theorem Bd.new : Bd newDS 0 := ⟨Lens.new, by simp [newDS], by simp [newDS], by simp [newDS], by simp [newDS]⟩

section
variable {w w1 w2 : World} {x k db rb : Nat} {st st' : DS} {O1 O2 O1' O2' : Nat → Prop}

theorem DeskP.keep (h : DeskP w x st k db rb O1 O2) {F : Nat → Prop} (hf : Fr F w w1) (h1 : ∀ c, O1 c → ¬ F c) (h2 : ∀ c, O2 c → ¬ F c) (hx : ¬ F x) : DeskP w1 x st k db rb O1 O2 :=
  ⟨hf.row h.row hx, h.d.fr hf h1, h.r.fr hf h2, h.dis, h.nx, fun c hc => ⟨(h.b1 c hc).1, Nat.lt_of_lt_of_le (h.b1 c hc).2 hf.1⟩, fun c hc => ⟨(h.b2 c hc).1, Nat.lt_of_lt_of_le (h.b2 c hc).2 hf.1⟩, h.kx⟩

theorem Desk.keep (h : Desk w x st k) (hf : Fr F0 w w1) : Desk w1 x st k := by
  obtain ⟨db, rb, O1, O2, h⟩ := h
  exact ⟨db, rb, O1, O2, h.keep hf (fun _ _ h => h) (fun _ _ h => h) fun h => h⟩

/-- Both disks changed, one after the other. -/
theorem DeskP.upd (h : DeskP w x st k db rb O1 O2) (hr1 : Rep w1 db st' O1') (hf1 : Fr O1 w w1) (hO1 : ∀ c, O1' c → nw O1 w w1 c) (hr2 : RR w2 rb st' O2') (hf2 : Fr O2 w1 w2) (hO2 : ∀ c, O2' c → nw O2 w1 w2 c) : Desk w2 x st' k ∧ Fr (fun c => k ≤ c) w w2 := by
  have hs1 := hf1.1
  have hs2 := hf2.1
  have hxl := h.row.lt
  have hkx := h.kx
  refine ⟨⟨db, rb, O1', O2', hf2.row (hf1.row h.row h.nx.1) h.nx.2, hr1.fr hf2 fun c hc hO => ?_, hr2, fun c h1 h2 => ?_, ⟨fun hc => ?_, fun hc => ?_⟩, fun c hc => ?_, fun c hc => ?_, h.kx⟩, ?_⟩
  · have hb := (h.b2 c hO).2
    rcases hO1 c hc with h1 | h1
    · exact h.dis c h1 hO
    · omega
  · rcases hO1 c h1 with h1 | h1 <;> rcases hO2 c h2 with h2 | h2
    · exact h.dis c h1 h2
    · have := (h.b1 c h1).2; omega
    · have := (h.b2 c h2).2; omega
    · omega
  · rcases hO1 x hc with h1 | h1
    · exact h.nx.1 h1
    · omega
  · rcases hO2 x hc with h1 | h1
    · exact h.nx.2 h1
    · omega
  · rcases hO1 c hc with h1 | h1
    · have := h.b1 c h1; omega
    · omega
  · rcases hO2 c hc with h1 | h1
    · have := h.b2 c h1; omega
    · omega
  · exact (hf1.mono fun c hc => (h.b1 c hc).1).trans (hf2.mono fun c hc => (h.b2 c hc).1) fun c h _ => h

theorem same_spec {n : Nat} {K : Bool → World → Prop} (h : Desk w x st k) (hB : Bd st n) (hK : ∀ w', Fr F0 w w' → K true w') : probitylaw26_desk_same_sh (ptr x) K w := by
  obtain ⟨db, rb, O1, O2, h⟩ := h
  have hnow := hB.len.now
  refine ⟨?_⟩
  unfold probitylaw26_desk_same_sd
  have hd : DeskP w.drew x st k db rb O1 O2 := h.keep (Fr.drew (F := F0)) (fun _ _ h => h) (fun _ _ h => h) fun h => h
  have hfd : Fr F0 w w.drew := Fr.drew
  generalize w.drew = w1 at *
  refine ⟨fun w' => Row w' x [.pointer (ptr db), .pointer (ptr rb)], hd.row, ?_⟩
  simp only [show ptr x = some ⟨x, 0, none⟩ from rfl, nz_some, add_mk, Nat.zero_add]
  refine ⟨ptr db, fun _ h => h.at rfl, ?_⟩
  simp only [show (ptr db).isNone = false from rfl, Bool.not_false, cnd_true]
  refine ⟨ptr db, fun _ h => h.at rfl, ptr rb, fun _ h => h.at rfl, Size_spec hd.d ⟨hd.row, rSize_spec hd.r ⟨hd.row, ?_⟩⟩⟩
  rw [cnd_beq]
  refine ⟨fun _ => ?_, fun h => (h rfl).elim⟩
  refine ⟨ptr db, fun _ h => h.at rfl, ptr rb, fun _ h => h.at rfl, Calls_spec hd.d ⟨hd.row, rCalls_spec hd.r ⟨hd.row, ?_⟩⟩⟩
  rw [cnd_beq]
  refine ⟨fun _ => ?_, fun h => (h rfl).elim⟩
  refine ⟨ptr db, fun _ h => h.at rfl, ptr rb, fun _ h => h.at rfl, Read_spec hd.d (by omega) fun w2 hf2 => ?_⟩
  have hd2 := hd.keep hf2 (fun _ _ h => h) (fun _ _ h => h) fun h => h
  refine ⟨hd2.row, rRead_spec hd2.r (by omega) fun w3 hf3 => ?_⟩
  have hd3 := hd2.keep hf3 (fun _ _ h => h) (fun _ _ h => h) fun h => h
  refine ⟨hd3.row, ?_⟩
  rw [decide_eq_true rfl]
  exact hK _ ((hfd.trans hf2 fun _ h _ => h).trans hf3 fun _ h _ => h)
end
end Go.Proofs.Ytmhjekbdpnocaaa
