/- A disk whose blocks lie from a place on. Conditions: none. -/
import Derived.Test.YtamkecjpcfnpjaaJD4
namespace Go.Proofs.Ytamkecjpcfnpjaa
open Go Pw

/-- A disk whose blocks all lie from k on. -/
def RI (w : World) (b : Nat) (st : DS) (k : Nat) : Prop := ∃ O, Rep w b st O ∧ ∀ c, O c → k ≤ c ∧ c < w.heap.size

abbrev F0 : Nat → Prop := fun _ => False

section
variable {w w' : World} {b k : Nat} {st : DS}

theorem RI.keep (h : RI w b st k) (hf : Fr F0 w w') : RI w' b st k := by
  obtain ⟨O, hr, hO⟩ := h
  exact ⟨O, hr.fr hf fun _ _ h => h, fun c hc => ⟨(hO c hc).1, Nat.lt_of_lt_of_le (hO c hc).2 hf.1⟩⟩

theorem fr_after {w0 w1 w2 : World} (h : Fr F0 w0 w1) (h' : Fr (fun c => k ≤ c) w1 w2) (hk : w0.heap.size ≤ k) : Fr F0 w0 w2 := h.trans h' fun c hc hlt => absurd hlt (by omega)

theorem fr_ge (h : Fr F0 w w') : Fr (fun c => k ≤ c) w w' := h.mono fun _ h => h.elim

theorem New_RI {K : Option Addr → World → Prop} (hK : ∀ w', RI w' w.heap.size newDS w.heap.size → Fr F0 w w' → K (ptr w.heap.size) w') : disk_New_sh K w :=
  New_spec fun w' h hf hs => hK w' ⟨_, h, fun c hc => by omega⟩ hf

theorem Write_RI {K : Int → World → Prop} {off : Int} {s : ByteArray} (h : RI w b st k) (hL : Lens st) (hpl : st.pcs.length ≤ 2 ^ 29) (h0 : 0 ≤ st.calls) (h1 : st.calls ≤ 2 ^ 40) (hlim : ∀ v, st.lim = some v → -2 ^ 62 ≤ v ∧ v ≤ 2 ^ 62)
    (hbad : (off < 0 ∨ off > 16777216 ∨ (s.size : Int) > 16777216 - off) → K 1 w) (hoff : 0 ≤ off → off + s.size ≤ 16777216 → st.lim = some 0 → K 70 w)
    (hon : 0 ≤ off → off + s.size ≤ 16777216 → st.lim ≠ some 0 → ∀ w', RI w' b (writeDS st off.toNat (bl s)) k → Fr (fun c => k ≤ c) w w' → K 0 w') : disk_Disk_Write_sh (ptr b) off s K w := by
  obtain ⟨O, hr, hO⟩ := h
  have := hL.now
  refine Write_spec hr (by omega) hpl h0 h1 hlim hbad hoff fun a1 a2 a3 w' h' hf => hon a1 a2 a3 w' ⟨_, h', fun c hc => ?_⟩ (hf.mono fun c hc => (hO c hc).1)
  have hkw : k ≤ w.heap.size := by have := hO b (by obtain ⟨_, _, _, _, _, _, _, h⟩ := hr.ex; exact h.ob); omega
  rcases hc with hc | hc
  · exact ⟨(hO c hc).1, Nat.lt_of_lt_of_le (hO c hc).2 hf.1⟩
  · exact ⟨by omega, hc.2⟩

theorem Sync_RI {K : Int → World → Prop} (h : RI w b st k) (hL : Lens st) (h0 : 0 ≤ st.calls) (h1 : st.calls ≤ 2 ^ 40) (hlim : ∀ v, st.lim = some v → -2 ^ 62 ≤ v ∧ v ≤ 2 ^ 62)
    (hoff : st.lim = some 0 → K 70 w) (hon : st.lim ≠ some 0 → ∀ w', RI w' b (syncDS st) k → Fr (fun c => k ≤ c) w w' → K 0 w') : disk_Disk_Sync_sh (ptr b) K w := by
  obtain ⟨O, hr, hO⟩ := h
  have := hL.now
  refine Sync_spec hr (by omega) h0 h1 hlim hoff fun a3 w' h' hf => hon a3 w' ⟨_, h', fun c hc => ?_⟩ (hf.mono fun c hc => (hO c hc).1)
  have hkw : k ≤ w.heap.size := by have := hO b (by obtain ⟨_, _, _, _, _, _, _, h⟩ := hr.ex; exact h.ob); omega
  rcases hc with hc | hc
  · exact ⟨(hO c hc).1, Nat.lt_of_lt_of_le (hO c hc).2 hf.1⟩
  · exact ⟨by omega, hc.2⟩

theorem Fail_RI {K : World → Prop} {n : Int} (h : RI w b st k) (hK : ∀ w', RI w' b (failDS st n) k → Fr (fun c => k ≤ c) w w' → K w') : disk_Disk_Fail_sh (ptr b) n K w := by
  obtain ⟨O, hr, hO⟩ := h
  exact Fail_spec hr fun w' h' hf => hK w' ⟨_, h', fun c hc => ⟨(hO c hc).1, Nat.lt_of_lt_of_le (hO c hc).2 hf.1⟩⟩ (hf.mono fun c hc => (hO c hc).1)

theorem Crash_RI {K : Option Addr → World → Prop} {surv : List Int} {v : Sl} (h : RI w b st k) (hL : Lens st) (hpl : st.pcs.length ≤ 2 ^ 29) (hv : rdC w v.p v.l (surv.map iv))
    (hK : ∀ w', RI w' w.heap.size (crashDS st surv) w.heap.size → Fr F0 w w' → K (ptr w.heap.size) w') : disk_Disk_Crash_sh (ptr b) v K w := by
  obtain ⟨O, hr, hO⟩ := h
  exact Crash_spec hr hL hpl hv fun w' h' hf => hK w' ⟨_, h', fun c hc => hc⟩ hf

theorem Read_RI {K : ByteArray → World → Prop} {off n : Int} (h : RI w b st k) (hL : Lens st) (hK : ∀ w', Fr F0 w w' → K (ofL (readL st.now off n)) w') : disk_Disk_Read_sh (ptr b) off n K w := by
  obtain ⟨O, hr, hO⟩ := h
  have := hL.now
  exact Read_spec hr (by omega) hK

theorem Size_RI {K : Int → World → Prop} (h : RI w b st k) (hK : K (st.now.length : Int) w) : disk_Disk_Size_sh (ptr b) K w := by
  obtain ⟨O, hr, hO⟩ := h
  exact Size_spec hr hK

end
end Go.Proofs.Ytamkecjpcfnpjaa
