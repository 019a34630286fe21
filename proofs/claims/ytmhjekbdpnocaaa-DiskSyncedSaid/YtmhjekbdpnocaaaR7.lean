/- A list of acts among the arguments. Conditions: none. -/
import Derived.Test.YtmhjekbdpnocaaaPwL
import Derived.Lib.SmallJoins
import Derived.Test.YtmhjekbdpnocaaaN1
namespace Go.Proofs.Ytmhjekbdpnocaaa
open Go Go.ChangeShapes Go.WideShapes Go.ChangeAt Go.RowKit

structure Act where
  k : Int
  at1 : Int
  n : Int
  t : ByteArray

def Act.ok (a : Act) : Prop := -9223372036854775808 ≤ a.n ∧ a.n < 9223372036854775808

def actV (a : Act) : List Value := [.int .i64 a.k, .int .i64 a.at1, .int .i64 a.n, .string a.t]

/-- The acts lie where the slice points. -/
def ActsAt (w : World) (q : Pw.Sl) (l : List Act) : Prop :=
  l.length = q.l ∧ ∀ i (h : i < l.length), ∃ a, q.p = some a ∧ a.block < w.heap.size ∧ ∀ j, j < 4 → w.cell? ((a.add (i * 4)).add j) = (actV l[i])[j]?

theorem u22 : Try.prog.underlying 22 = some (.slice 33) := by kernel_rfl
theorem c33 : Try.prog.cellsOf 33 = 4 := by kernel_rfl
theorem u3 : Try.prog.underlying 3 = some (.int .i64) := by kernel_rfl
theorem u9 : Try.prog.underlying 9 = some .string := by kernel_rfl
theorem c3 : Try.prog.cellsOf 3 = 1 := by kernel_rfl
theorem c9 : Try.prog.cellsOf 9 = 1 := by kernel_rfl
noncomputable def fs33 : Array Field := match Try.prog.underlying 33 with | some (.struct fs) => fs | _ => #[]
theorem u33 : Try.prog.underlying 33 = some (.struct fs33) := by kernel_rfl
theorem fs33_eq : ∃ f0 f1 f2 f3 : Field, fs33 = #[f0, f1, f2, f3] ∧ f0.type = 3 ∧ f1.type = 3 ∧ f2.type = 3 ∧ f3.type = 9 ∧ f0.offset = 0 ∧ f1.offset = 1 ∧ f2.offset = 2 ∧ f3.offset = 3 :=
  ⟨fs33[0]!, fs33[1]!, fs33[2]!, fs33[3]!, by kernel_rfl, by kernel_rfl, by kernel_rfl, by kernel_rfl, by kernel_rfl, by kernel_rfl, by kernel_rfl, by kernel_rfl, by kernel_rfl⟩

theorem open_act {H : Type} {enc : TypeId × Value → H} {w : World} {base fuel : Nat} {sp : Nat → Bool} {held : Bool} {cs : List Value} {x : DataW H × List MemPlace} (h : DataW.trod enc Try.prog w base sp held fuel 33 cs = some x) :
    ∃ a : Act, a.ok ∧ cs = actV a := by
  obtain ⟨f0, f1, f2, f3, he, t0, t1, t2, t3, o0, o1, o2, o3⟩ := fs33_eq
  have hs := u33
  rw [he] at hs
  obtain ⟨y0, y1, y2, y3, n, _, hl, h0, h1, h2, h3⟩ := Joins.trod_struct4 hs h
  rw [c33] at hl
  rw [t0, o0, c3] at h0
  rw [t1, o1, c3] at h1
  rw [t2, o2, c3] at h2
  rw [t3, o3, c9] at h3
  obtain ⟨n0, e0, _, _⟩ := DataW.trod_int u3 h0
  obtain ⟨n1, e1, _, _⟩ := DataW.trod_int u3 h1
  obtain ⟨n2, e2, _, w2⟩ := DataW.trod_int u3 h2
  obtain ⟨s, e3, _, _⟩ := DataW.trod_string u9 h3
  match cs, hl with
  | [a, b, c, d], _ =>
    simp at e0 e1 e2 e3
    subst e0 e1 e2 e3
    have := bounds_i64 w2
    exact ⟨⟨n0, n1, n2, s⟩, ⟨this.1, by show n2 < _; omega⟩, rfl⟩

theorem arg_acts {H : Type} {enc : TypeId × Value → H} {W : World} {r : Reach} {b0 : Nat} {v : Value} {d : DataW H} {ps : List MemPlace} (hval : Value.okWide Try.prog W r b0 22 v) (h : DataW.Trod enc Try.prog W 0 (fun _ => true) true 22 v d ps) :
    ∃ (q : Pw.Sl) (l : List Act), v = .slice q.p q.l q.c ∧ ActsAt W q l ∧ ∀ a ∈ l, a.ok := by
  obtain ⟨a, len, cap, rfl⟩ := okWide_slice u22 hval
  obtain ⟨fuel, hf⟩ := h
  rcases Go.Deep.open_slice u22 hf with ⟨hcs, _⟩ | ⟨a', len', cap', m, n, D, Pl, hcs, _, hle, _, hm, _, hel⟩
  · simp only [Value.cells, List.cons.injEq, Value.slice.injEq, and_true] at hcs
    obtain ⟨rfl, rfl, rfl⟩ := hcs
    exact ⟨⟨none, 0, 0⟩, [], rfl, ⟨rfl, by simp⟩, by simp⟩
  · simp only [Value.cells, List.cons.injEq, Value.slice.injEq, and_true] at hcs
    obtain ⟨rfl, rfl, rfl⟩ := hcs
    simp only [if_true] at hm
    subst hm
    rw [c33] at hel
    have key : ∀ i, i < len → ∃ x : Act, x.ok ∧ a'.block < W.heap.size ∧ ∀ j, j < 4 → W.cell? ((a'.add (i * 4)).add j) = (actV x)[j]? := fun i hi => by
      obtain ⟨cs', h1, h2⟩ := hel i (by omega)
      obtain ⟨x, hx, rfl⟩ := open_act h2
      have hb := World.cells?_block h1 (by omega)
      rw [Pw.add_block] at hb
      exact ⟨x, hx, hb, (World.cells?_some h1).2.2⟩
    refine ⟨⟨some a', len, _⟩, (List.range len).pmap (fun i hi => Classical.choose (key i hi)) (fun i hi => by simpa using hi), rfl, ⟨by simp, fun i hi => ?_⟩, fun x hx => ?_⟩
    · simp at hi
      refine ⟨a', rfl, (Classical.choose_spec (key i hi)).2.1, fun j hj => ?_⟩
      rw [(Classical.choose_spec (key i hi)).2.2 j hj]
      simp
    · obtain ⟨i, hi, rfl⟩ := List.mem_pmap.1 hx
      exact (Classical.choose_spec (key i (List.mem_range.1 hi))).1
end Go.Proofs.Ytmhjekbdpnocaaa
