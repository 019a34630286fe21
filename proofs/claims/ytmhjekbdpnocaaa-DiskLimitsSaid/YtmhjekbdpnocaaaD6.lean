/- The examples of the chapter, as the law's own sanity runs them. Conditions: none. -/
import Derived.Test.YtmhjekbdpnocaaaG2
import Derived.Test.YtmhjekbdpnocaaaD5
namespace Go.Proofs.Ytmhjekbdpnocaaa
open Go Pw

/-- A disk whose blocks all lie from k on. -/
def RI (w : World) (b : Nat) (st : DS) (k : Nat) : Prop := ∃ O, Rep w b st O ∧ ∀ c, O c → k ≤ c ∧ c < w.heap.size

abbrev F0 : Nat → Prop := fun _ => False

section
variable {w w' : World} {b k : Nat} {st : DS}

theorem RI.keep (h : RI w b st k) (hf : Fr F0 w w') : RI w' b st k := by
  obtain ⟨O, hr, hO⟩ := h
  exact ⟨O, hr.fr hf fun _ _ h => h, fun c hc => ⟨(hO c hc).1, Nat.lt_of_lt_of_le (hO c hc).2 hf.1⟩⟩

theorem fr_after {w0 w1 w2 : World} (h : Fr F0 w0 w1) (h' : Fr (fun c => k ≤ c) w1 w2) (hk : w0.heap.size ≤ k) : Fr F0 w0 w2 := h.trans h' fun c hc hlt => absurd hlt (by omega)

theorem fr_ge (h : Fr F0 w w') : Fr (fun c => k ≤ c) w w' := h.mono fun _ h => h.elim

theorem New_RI {K : Option Addr → World → Prop} (hK : ∀ w', RI w' w.heap.size newDS w.heap.size → Fr F0 w w' → K (ptr w.heap.size) w') : disk_New_sh K w :=
  New_spec fun w' h hf hs => hK w' ⟨_, h, fun c hc => by omega⟩ hf

theorem Write_RI {K : Int → World → Prop} {off : Int} {s : ByteArray} (h : RI w b st k) (hL : Lens st) (hpl : st.pcs.length ≤ 2 ^ 29) (h0 : 0 ≤ st.calls) (h1 : st.calls ≤ 2 ^ 40) (hlim : ∀ v, st.lim = some v → -2 ^ 62 ≤ v ∧ v ≤ 2 ^ 62)
    (hbad : (off < 0 ∨ off > 16777216 ∨ (s.size : Int) > 16777216 - off) → K 1 w) (hoff : 0 ≤ off → off + s.size ≤ 16777216 → st.lim = some 0 → K 70 w)
    (hon : 0 ≤ off → off + s.size ≤ 16777216 → st.lim ≠ some 0 → ∀ w', RI w' b (writeDS st off.toNat (bl s)) k → Fr (fun c => k ≤ c) w w' → K 0 w') : disk_Disk_Write_sh (ptr b) off s K w := by
  obtain ⟨O, hr, hO⟩ := h
  have := hL.now
  refine Write_spec hr (by omega) hpl h0 h1 hlim hbad hoff fun a1 a2 a3 w' h' hf => hon a1 a2 a3 w' ⟨_, h', fun c hc => ?_⟩ (hf.mono fun c hc => (hO c hc).1)
  have hkw : k ≤ w.heap.size := by have := hO b (by obtain ⟨_, _, _, _, _, _, _, h⟩ := hr.ex; exact h.ob); omega
  rcases hc with hc | hc
  · exact ⟨(hO c hc).1, Nat.lt_of_lt_of_le (hO c hc).2 hf.1⟩
  · exact ⟨by omega, hc.2⟩

theorem Sync_RI {K : Int → World → Prop} (h : RI w b st k) (hL : Lens st) (h0 : 0 ≤ st.calls) (h1 : st.calls ≤ 2 ^ 40) (hlim : ∀ v, st.lim = some v → -2 ^ 62 ≤ v ∧ v ≤ 2 ^ 62)
    (hoff : st.lim = some 0 → K 70 w) (hon : st.lim ≠ some 0 → ∀ w', RI w' b (syncDS st) k → Fr (fun c => k ≤ c) w w' → K 0 w') : disk_Disk_Sync_sh (ptr b) K w := by
  obtain ⟨O, hr, hO⟩ := h
  have := hL.now
  refine Sync_spec hr (by omega) h0 h1 hlim hoff fun a3 w' h' hf => hon a3 w' ⟨_, h', fun c hc => ?_⟩ (hf.mono fun c hc => (hO c hc).1)
  have hkw : k ≤ w.heap.size := by have := hO b (by obtain ⟨_, _, _, _, _, _, _, h⟩ := hr.ex; exact h.ob); omega
  rcases hc with hc | hc
  · exact ⟨(hO c hc).1, Nat.lt_of_lt_of_le (hO c hc).2 hf.1⟩
  · exact ⟨by omega, hc.2⟩

theorem Fail_RI {K : World → Prop} {n : Int} (h : RI w b st k) (hK : ∀ w', RI w' b (failDS st n) k → Fr (fun c => k ≤ c) w w' → K w') : disk_Disk_Fail_sh (ptr b) n K w := by
  obtain ⟨O, hr, hO⟩ := h
  exact Fail_spec hr fun w' h' hf => hK w' ⟨_, h', fun c hc => ⟨(hO c hc).1, Nat.lt_of_lt_of_le (hO c hc).2 hf.1⟩⟩ (hf.mono fun c hc => (hO c hc).1)

theorem Crash_RI {K : Option Addr → World → Prop} {surv : List Int} {v : Sl} (h : RI w b st k) (hL : Lens st) (hpl : st.pcs.length ≤ 2 ^ 29) (hv : rdC w v.p v.l (surv.map iv))
    (hK : ∀ w', RI w' w.heap.size (crashDS st surv) w.heap.size → Fr F0 w w' → K (ptr w.heap.size) w') : disk_Disk_Crash_sh (ptr b) v K w := by
  obtain ⟨O, hr, hO⟩ := h
  exact Crash_spec hr hL hpl hv fun w' h' hf => hK w' ⟨_, h', fun c hc => hc⟩ hf

theorem Read_RI {K : ByteArray → World → Prop} {off n : Int} (h : RI w b st k) (hL : Lens st) (hK : ∀ w', Fr F0 w w' → K (ofL (readL st.now off n)) w') : disk_Disk_Read_sh (ptr b) off n K w := by
  obtain ⟨O, hr, hO⟩ := h
  have := hL.now
  exact Read_spec hr (by omega) hK

theorem Size_RI {K : Int → World → Prop} (h : RI w b st k) (hK : K (st.now.length : Int) w) : disk_Disk_Size_sh (ptr b) K w := by
  obtain ⟨O, hr, hO⟩ := h
  exact Size_spec hr hK

theorem Calls_RI {K : Int → World → Prop} (h : RI w b st k) (hK : K st.calls w) : disk_Disk_Calls_sh (ptr b) K w := by
  obtain ⟨O, hr, hO⟩ := h
  exact Calls_spec hr hK
end

def sA : DS := ⟨[0, 0, 97, 98], [], [(2, [97, 98])], 1, none⟩
def sB : DS := ⟨[0, 0, 97, 98], [0, 0, 97, 98], [], 2, none⟩
def sC : DS := ⟨[0, 0, 97, 120, 121, 122], [0, 0, 97, 98], [(3, [120, 121, 122])], 3, none⟩
def sD : DS := ⟨[0, 0, 97, 98], [0, 0, 97, 98], [], 0, none⟩
def xs70 : List UInt8 := List.replicate 70 120
def sE : DS := writeDS newDS 60 xs70
def sF : DS := crashDS sE [0, 1]

def lensB (st : DS) : Bool := Nat.ble st.now.length 1000 && Nat.ble st.syn.length 1000 && st.pcs.all fun p => Nat.ble (p.1 + p.2.length) 1000

theorem lensOk {st : DS} (h : lensB st = true) : Lens st := by
  simp only [lensB, Bool.and_eq_true, List.all_eq_true] at h
  obtain ⟨⟨h1, h2⟩, h3⟩ := h
  have h1 := Nat.le_of_ble_eq_true h1
  have h2 := Nat.le_of_ble_eq_true h2
  exact ⟨by omega, by omega, fun p hp => by have := Nat.le_of_ble_eq_true (h3 p hp); omega⟩

theorem nl {st : DS} (h : st.lim = none) : ∀ v, st.lim = some v → (-2 ^ 62 : Int) ≤ v ∧ v ≤ 2 ^ 62 := fun v hv => by rw [h] at hv; cases hv

theorem ofL_ne {l m : List UInt8} (h : l = m) (k : List Nat) (hk : bl (str k) = m) : decide (ofL l = str k) = true := by
  rw [decide_eq_true_eq]
  apply bl_inj
  rw [bl_ofL, hk, h]

theorem sanity_k1 {w : World} {K : Bool → World → Prop} {b1 b2 k1 k2 : Nat} (h1 : RI w b1 sD k1) (h2 : RI w b2 sF k2) (hK : ∀ w', Fr F0 w w' → K true w') :
    probitylaw26_sanity_k1 true (ptr b1) true (ptr b2) true K w := by
  refine ⟨?_⟩
  unfold probitylaw26_sanity_k1d
  simp only [cnd_true]
  refine Read_RI h1 (lensOk (by kernel_rfl)) fun w1 hf1 => ?_
  rw [ofL_ne (m := [0, 0, 97, 98]) (by kernel_rfl) _ (by kernel_rfl), cnd_true]
  have h2 := h2.keep hf1
  refine Size_RI h2 ?_
  rw [show ((sF.now.length : Int) == 128) = true from by kernel_rfl, cnd_true]
  refine Read_RI h2 (lensOk (by kernel_rfl)) fun w2 hf2 => ?_
  rw [ofL_ne (m := [0, 0, 0, 0, 120, 120, 120, 120, 120]) (by kernel_rfl) _ (by kernel_rfl)]
  exact hK w2 (hf1.trans hf2 fun _ h _ => h)

theorem sanity_k0 {w : World} {K : Bool → World → Prop} {b k : Nat} (h : RI w b sC k) (hK : ∀ w', Fr F0 w w' → K true w') :
    probitylaw26_sanity_k0 (ptr b) true K w := by
  refine ⟨?_⟩
  unfold probitylaw26_sanity_k0d
  refine Crash_RI (surv := []) h (lensOk (by kernel_rfl)) (by decide) ⟨rfl, rfl⟩ fun w13 hc hf13 => ?_
  have hc : RI w13 w.heap.size sD w.heap.size := hc
  refine New_RI fun w15 he hf15 => ?_
  refine repeated_spec (c := 120) (n := 70) (by decide) fun w17 hf17 => ?_
  have he := he.keep hf17
  have hF : Fr F0 w13 w17 := hf15.trans hf17 fun _ h _ => h
  have hsz : (ofL (List.replicate 70 (120 : UInt8))).size = 70 := by kernel_rfl
  refine Write_RI he (lensOk (by kernel_rfl)) (by decide) (by decide) (by decide) (nl rfl) (fun h => absurd h (by omega)) (fun _ _ h => by cases h) fun _ _ _ w19 he hf19 => ?_
  have hF := fr_after hF hf19 (Nat.le_refl _)
  have he : RI w19 w13.heap.size sE w13.heap.size := by
    have e : writeDS newDS (60 : Int).toNat (bl (ofL (List.replicate 70 120))) = sE := by rw [bl_ofL]; rfl
    rw [← e]; exact he
  have hfa : Fr F0 w19 (w19.alloc (Obj.cells #[(Value.int .i64 (0 : Int)), (Value.int .i64 (1 : Int))] 3)) := Fr.alloc
  have hra : Row (w19.alloc (Obj.cells #[(Value.int .i64 (0 : Int)), (Value.int .i64 (1 : Int))] 3)) w19.heap.size [.int .i64 0, .int .i64 1] := Row.new
  show disk_Disk_Crash_sh _ _ _ (w19.alloc (Obj.cells #[(Value.int .i64 (0 : Int)), (Value.int .i64 (1 : Int))] 3))
  generalize w19.alloc (Obj.cells #[(Value.int .i64 (0 : Int)), (Value.int .i64 (1 : Int))] 3) = w21 at *
  have he := he.keep hfa
  have hF := hF.trans hfa fun _ h _ => h
  have hpl : sE.pcs.length ≤ 2 ^ 29 := Nat.le_of_ble_eq_true (by kernel_rfl)
  refine Crash_RI (surv := [0, 1]) he (lensOk (by kernel_rfl)) hpl ⟨rfl, fun i hi => ?_⟩ fun w22 hfd hf22 => ?_
  · rw [add_mk, hra.cell]
    simp at hi
    rcases i with _ | _ | i
    · rfl
    · rfl
    · omega
  have hF := hF.trans hf22 fun _ h _ => h
  simp only [show ∀ b, (ptr b).isNone = false from fun _ => rfl, cnd_false]
  refine New_RI fun w24 hg hf24 => ?_
  refine Fail_RI hg fun w26 hg hf26 => ?_
  have hG := fr_after hf24 hf26 (Nat.le_refl _)
  have hl1 : ∀ v, (failDS newDS 1).lim = some v → (-2 ^ 62 : Int) ≤ v ∧ v ≤ 2 ^ 62 := fun v hv => by
    have : (failDS newDS 1).lim = some 1 := by decide
    rw [this] at hv; cases hv; omega
  have hl0 : ∀ v, (syncDS (failDS newDS 1)).lim = some v → (-2 ^ 62 : Int) ≤ v ∧ v ≤ 2 ^ 62 := fun v hv => by
    have : (syncDS (failDS newDS 1)).lim = some 0 := by decide
    rw [this] at hv; cases hv; omega
  have hs1 : (str [97]).size = 1 := by kernel_rfl
  refine Sync_RI hg (lensOk (by kernel_rfl)) (by decide) (by decide) hl1 (fun h => absurd h (by decide)) fun _ w27 hg hf27 => ?_
  have hG := fr_after hG hf27 (Nat.le_refl _)
  simp only [beq_self_eq_true, cnd_true]
  refine Write_RI hg (lensOk (by kernel_rfl)) (by decide) (by decide) (by decide) hl0 (fun h => absurd h (by omega)) (fun _ _ _ => ?_) fun _ _ h => absurd (by decide) h
  simp only [beq_self_eq_true, cnd_true]
  refine Write_RI hg (lensOk (by kernel_rfl)) (by decide) (by decide) (by decide) hl0 (fun _ => ?_) (fun h => absurd h (by omega)) fun h => absurd h (by omega)
  simp only [beq_self_eq_true, cnd_true]
  refine Calls_RI hg ?_
  rw [show ((syncDS (failDS newDS 1)).calls == 1) = true from by decide]
  exact sanity_k1 (hc.keep (hF.trans hG fun _ h _ => h)) (hfd.keep hG) fun w' hf => hK w' ((hf13.trans (hF.trans hG fun _ h _ => h) fun _ h _ => h).trans hf fun _ h _ => h)

theorem sanity_spec {w : World} {K : Bool → World → Prop} (hK : ∀ w', Fr F0 w w' → K true w') : probitylaw26_sanity_sh K w := by
  refine ⟨?_⟩
  unfold probitylaw26_sanity_sd
  refine New_RI fun w1 hd hf1 => ?_
  simp only [show ∀ b, (ptr b).isNone = false from fun _ => rfl, cnd_false]
  have hs1 : (str [97, 98]).size = 2 := by kernel_rfl
  have hs2 : (str [120, 121, 122]).size = 3 := by kernel_rfl
  refine Write_RI hd (lensOk (by kernel_rfl)) (by decide) (by decide) (by decide) (nl rfl) (fun h => absurd h (by omega)) (fun _ _ h => by cases h) fun _ _ _ w3 hd hf3 => ?_
  have hd : RI w3 w.heap.size sA w.heap.size := hd
  have hF := fr_after hf1 hf3 (Nat.le_refl _)
  simp only [beq_self_eq_true, cnd_true]
  refine Size_RI hd ?_
  rw [show ((sA.now.length : Int) == 4) = true from by decide, cnd_true]
  refine Read_RI hd (lensOk (by kernel_rfl)) fun w7 hf7 => ?_
  rw [ofL_ne (m := [0, 0, 97, 98]) (by kernel_rfl) _ (by kernel_rfl), cnd_true]
  have hF := hF.trans hf7 fun _ h _ => h
  refine Sync_RI (hd.keep hf7) (lensOk (by kernel_rfl)) (by decide) (by decide) (nl rfl) (fun h => by cases h) fun _ w9 hd hf9 => ?_
  have hd : RI w9 w.heap.size sB w.heap.size := hd
  have hF := fr_after hF hf9 (Nat.le_refl _)
  simp only [beq_self_eq_true, cnd_true]
  refine Write_RI hd (lensOk (by kernel_rfl)) (by decide) (by decide) (by decide) (nl rfl) (fun h => absurd h (by omega)) (fun _ _ h => by cases h) fun _ _ _ w11 hd hf11 => ?_
  have hd : RI w11 w.heap.size sC w.heap.size := hd
  have hF := fr_after hF hf11 (Nat.le_refl _)
  exact sanity_k0 hd fun w' hf => hK w' (hF.trans hf fun _ h _ => h)

end Go.Proofs.Ytmhjekbdpnocaaa
