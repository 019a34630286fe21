/- The examples of the chapter hold. Conditions: none. -/
import Derived.Test.YtmkjcheafdionaaCE4
namespace Go.Proofs.Ytmkjcheafdionaa
open Go Pw

section
variable {w : World}

/-- One example. -/
theorem one_spec {budget most off pts : Int} {x y : Int} {K : Bool -> World -> Prop} (hr : rightB (exP budget most off) = true) (hn : prefN (exP budget most off) [1, 2] <= 1000) (hb : bestB (exP budget most off) [x, y] = true) (hpt : ptsOf (exP budget most off) [x, y] = pts)
    (hK : ∀ w', Fr F0 w w' -> K true w') :
    Lw_example_sh budget most off (fun r0 r1 r2 r3 r4 w1 => let w2 : World := w1.alloc (Obj.cells #[.int .i64 x, .int .i64 y] 3)
      Lw_takes_sh r0 r1 r2 r3 r4 ⟨some ⟨w1.heap.size, 0, none⟩, 2, 2⟩ pts K w2) w := by
  refine example_spec fun w1 s0 s1 s2 hf h => ?_
  intro w2
  have m2 : Mem w1 w2 _ := Mem.nil.allocL (cs := [.int .i64 x, .int .i64 y])
  clear_value w2
  exact takes_spec (p := exP budget most off) (a := [x, y]) (rightB_iff.1 hr) (h.fr m2.1) (Row.ow (fun a => ie_length _ _ a) (l := [x, y]) (m2.row 0 rfl)).vw (by simp) hn (bestB_ok hb) hpt fun w' hf' => hK w' (hf.t (m2.1.t hf'))

theorem sanity_spec {K : Bool -> World -> Prop} (hK : ∀ w', Fr F0 w w' -> K true w') : Lw_sanity_sh K w := by
  refine ⟨?_⟩
  unfold Lw_sanity_sd
  refine one_spec (by decide +kernel) (by decide +kernel) (by decide +kernel) (by decide +kernel) fun w1 h1 => cnd_iff.2 ⟨fun _ => ?_, fun h => by cases h⟩
  refine one_spec (by decide +kernel) (by decide +kernel) (by decide +kernel) (by decide +kernel) fun w2 h2 => cnd_iff.2 ⟨fun _ => ?_, fun h => by cases h⟩
  refine one_spec (by decide +kernel) (by decide +kernel) (by decide +kernel) (by decide +kernel) fun w3 h3 => ⟨?_⟩
  unfold Lw_sanity_k0d
  refine one_spec (by decide +kernel) (by decide +kernel) (by decide +kernel) (by decide +kernel) fun w4 h4 => cnd_iff.2 ⟨fun _ => ?_, fun h => by cases h⟩
  refine one_spec (by decide +kernel) (by decide +kernel) (by decide +kernel) (by decide +kernel) fun w5 h5 => ⟨?_⟩
  unfold Lw_sanity_k1d
  refine example_spec fun w6 s0 s1 s2 h6 h => ?_
  intro w7
  have m7 : Mem w6 w7 _ := Mem.nil.allocL (cs := [.int .i64 0, .int .i64 2])
  clear_value w7
  refine Paid_spec (p := exP 18 0 1) (f := [0, 2]) (h.fr m7.1) (Row.ow (fun a => ie_length _ _ a) (l := [(0 : Int), 2]) (m7.row 0 rfl)).vw (by simp) fun w8 h8 => ?_
  rw [show paidR (exP 18 0 1) (rightB (exP 18 0 1)) (fitsB (exP 18 0 1) [0, 2]) [0, 2] = (18, true) by decide +kernel]
  refine cnd_iff.2 ⟨fun _ => cnd_iff.2 ⟨fun _ => ?_, fun h => by cases h⟩, fun h => by cases h⟩
  exact cnd_iff.2 ⟨fun _ => hK w8 (h1.t (h2.t (h3.t (h4.t (h5.t (h6.t (m7.1.t h8))))))), fun h => by cases h⟩
end
end Go.Proofs.Ytmkjcheafdionaa
