/- The law DiskCrashes returns true. Conditions: none. -/
import Derived.Test.YtmhjekbdpnocaaaP1
namespace Go.Proofs.Ytmhjekbdpnocaaa
open Go Pw

section
variable {w : World} {x k : Nat} {st : DS}

theorem rdC_ge {w1 : World} {p : Option Addr} {n : Nat} {vs : List Value} (h : rdC w p n vs) (hf : Fr (fun c => k ≤ c) w w1) (hk : w.heap.size ≤ k) : rdC w1 p n vs := by
  refine ⟨h.1, ?_⟩
  have h2 := h.2
  cases p with
  | none => exact h2
  | some a =>
    simp only at h2 ⊢
    intro i hi
    have h3 := h2 i hi
    have hb : (a.add i).block < w.heap.size := by
      apply Classical.byContradiction
      intro hn
      have e : w.heap[(a.add i).block]? = none := by simp; omega
      unfold World.cell? at h3
      rw [e] at h3
      cases h3
    have he := hf.2.1 _ hb (by omega)
    rw [← h3]
    unfold World.cell?
    rw [he]

theorem desk_of {wA wB : World} {bA ob : Nat} {OA : Nat → Prop} (hA : Rep wA bA st OA) (hOA : ∀ c, OA c → k ≤ c ∧ c < wA.heap.size) (hf : Fr F0 wA wB) (hR : RR wB ob st (fun c => c = ob)) (hob : wA.heap.size ≤ ob) (hk : k ≤ wA.heap.size) :
    Desk (wB.alloc (Obj.cells #[(Value.pointer (ptr bA)), (Value.pointer (ptr ob))] 30)) wB.heap.size st k ∧ Fr F0 wB (wB.alloc (Obj.cells #[(Value.pointer (ptr bA)), (Value.pointer (ptr ob))] 30)) := by
  have hfa : Fr F0 wB (wB.alloc (Obj.cells #[(Value.pointer (ptr bA)), (Value.pointer (ptr ob))] 30)) := Fr.alloc
  have hsa : (wB.alloc (Obj.cells #[(Value.pointer (ptr bA)), (Value.pointer (ptr ob))] 30)).heap.size = wB.heap.size + 1 := by simp
  have hlt2 := hR.lt
  have hs := hf.1
  refine ⟨⟨bA, ob, _, _, Row.new, (hA.fr hf fun _ _ h => h).fr hfa fun _ _ h => h, hR.fr hfa fun _ _ h => h, fun c h1 h2 => ?_, ⟨fun h => ?_, fun h => ?_⟩, fun c hc => ?_, fun c hc => ?_, ?_⟩, hfa⟩
  · have := hOA c h1; omega
  · have := hOA _ h; omega
  · omega
  · have := hOA c hc; omega
  · omega
  · omega

theorem Crashes_k1 {n : Nat} {a : Sl} {b : Int} {surv : List Int} {K : Bool → World → Prop} (h : Desk w x st k) (hB : Bd st n) (hn : n ≤ 100) (hv : rdC w a.p a.l (surv.map iv)) (hlo : -9223372036854775808 ≤ b) (hhi : b < 9223372036854775808)
    (hK : ∀ w', Fr F0 w w' → K true w') : probitylaw26_DiskCrashes_k1 a b true ⟨x, 0, none⟩ K w := by
  have hD := h
  obtain ⟨db, rb, O1, O2, h⟩ := h
  have hpl := hB.pl
  have hkw : k ≤ w.heap.size := by have := h.kx; have := h.row.lt; omega
  refine ⟨?_⟩
  unfold probitylaw26_DiskCrashes_k1d
  simp only [add_mk, Nat.zero_add]
  have hf0 : Fr F0 w w.drew := Fr.drew
  have hP := h.keep hf0 (fun _ _ h => h) (fun _ _ h => h) fun h => h
  have hvd : rdC w.drew a.p a.l (surv.map iv) := rdC_fr hv hf0 fun _ _ h => h
  have hs0 := hf0.1
  generalize w.drew = w29 at *
  refine ⟨fun w' => Row w' x [.pointer (ptr db), .pointer (ptr rb)], hP.row, ptr db, fun _ h => h.at rfl, ptr rb, fun _ h => h.at rfl, ?_⟩
  refine Crash_spec hP.d hB.len (by omega) hvd fun w33 hA hf33 => ?_
  have hP33 := hP.keep hf33 (fun _ _ h => h) (fun _ _ h => h) fun h => h
  refine ⟨hP33.row, rCrash_spec hP33.r hB.len (by omega) (rdC_fr hvd hf33 fun _ _ h => h) fun w35 ob hob hR hf35 => ?_⟩
  have hP35 := hP33.keep hf35 (fun _ _ h => h) (fun _ _ h => h) fun h => h
  refine ⟨hP35.row, ?_⟩
  have hs33 := hf33.1
  obtain ⟨hDA, hf37⟩ := desk_of (k := k) hA (fun c hc => by omega) hf35 hR hob (by omega)
  have hP37 := hP35.keep hf37 (fun _ _ h => h) (fun _ _ h => h) fun h => h
  show Row (w35.alloc (Obj.cells #[(Value.pointer (ptr w29.heap.size)), (Value.pointer (ptr ob))] 30)) _ _ ∧ ∃ S39 : World → Prop, S39 (w35.alloc (Obj.cells #[(Value.pointer (ptr w29.heap.size)), (Value.pointer (ptr ob))] 30)).drew ∧ _
  generalize w35.alloc (Obj.cells #[(Value.pointer (ptr w29.heap.size)), (Value.pointer (ptr ob))] 30) = w37 at *
  refine ⟨hP37.row, ?_⟩
  have hf38 : Fr F0 w37 w37.drew := Fr.drew
  have hP38 := hP37.keep hf38 (fun _ _ h => h) (fun _ _ h => h) fun h => h
  have hf038 : Fr F0 w w37.drew := ge_trans (ge_trans (ge_trans (ge_trans hf0 hf33) hf35) hf37) hf38
  generalize w37.drew = w38 at *
  refine ⟨fun w' => Row w' x [.pointer (ptr db), .pointer (ptr rb)], hP38.row, ptr db, fun _ h => h.at rfl, ptr rb, fun _ h => h.at rfl, ?_⟩
  refine survive_spec hlo hhi fun v w42 hv42 hf42 _ => ?_
  have hP42 := hP38.keep hf42 (fun _ _ h => h) (fun _ _ h => h) fun h => h
  refine ⟨hP42.row, Crash_spec hP42.d hB.len (by omega) hv42 fun w44 hA2 hf44 => ?_⟩
  have hP44 := hP42.keep hf44 (fun _ _ h => h) (fun _ _ h => h) fun h => h
  refine ⟨hP44.row, survive_spec hlo hhi fun v' w46 hv46 hf46 _ => ?_⟩
  have hP46 := hP44.keep hf46 (fun _ _ h => h) (fun _ _ h => h) fun h => h
  refine ⟨hP46.row, rCrash_spec hP46.r hB.len (by omega) hv46 fun w48 ob2 hob2 hR2 hf48 => ?_⟩
  have hP48 := hP46.keep hf48 (fun _ _ h => h) (fun _ _ h => h) fun h => h
  refine ⟨hP48.row, ?_⟩
  have hs038 := hf038.1
  have hs42 := hf42.1
  have hs44 := hf44.1
  have hs46 := hf46.1
  obtain ⟨hDB, hf50⟩ := desk_of (k := k) hA2 (fun c hc => by omega) (ge_trans hf46 hf48) hR2 (by omega) (by omega)
  have hf3850 := ge_trans (ge_trans (ge_trans (ge_trans hf42 hf44) hf46) hf48) hf50
  have hP50 := hP48.keep hf50 (fun _ _ h => h) (fun _ _ h => h) fun h => h
  show Row (w48.alloc (Obj.cells #[(Value.pointer (ptr w42.heap.size)), (Value.pointer (ptr ob2))] 30)) _ _ ∧ probitylaw26_desk_same_sh _ _ (w48.alloc (Obj.cells #[(Value.pointer (ptr w42.heap.size)), (Value.pointer (ptr ob2))] 30))
  generalize w48.alloc (Obj.cells #[(Value.pointer (ptr w42.heap.size)), (Value.pointer (ptr ob2))] 30) = w50 at *
  refine ⟨hP50.row, same_spec ((hDA.keep hf38).keep hf3850) hB.crash fun w51 hf51 => ?_⟩
  refine same_spec (hDB.keep hf51) hB.crash fun w53 hf53 => ?_
  have hf053 := ge_trans (ge_trans (ge_trans hf038 hf3850) hf51) hf53
  refine same_spec (hD.keep hf053) hB fun w55 hf55 => ?_
  simp only [cnd_true]
  exact hK _ (ge_trans hf053 hf55)
end
end Go.Proofs.Ytmhjekbdpnocaaa
