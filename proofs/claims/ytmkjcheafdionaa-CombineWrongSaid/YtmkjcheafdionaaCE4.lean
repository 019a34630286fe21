/- The examples of the chapter, and what Solve answers on them. Conditions: none. -/
import Derived.Test.YtmkjcheafdionaaCE3
import Derived.Test.YtmkjcheafdionaaCDA
import Derived.Test.YtmkjcheafdionaaCG6
namespace Pw
open Go

/-- The problem of the examples. -/
def exP (budget most off : Int) : Pr := ⟨[1, 2], [⟨1, 5, 10, 8⟩, ⟨1, 6, 7, 6⟩, ⟨2, 5, 9, 7⟩], if 0 < off then [⟨5, [1, 2], off⟩] else [], most, budget⟩

/-- All takes of some lots. -/
def takesL (p : Pr) : List Int -> List (List Int)
  | [] => [[]]
  | lot :: ls => (opts p lot).flatMap fun n => (takesL p ls).map (n :: ·)

theorem takesL_mem {p : Pr} : ∀ (ls t : List Int), t.length = ls.length -> Decs p ls t -> t ∈ takesL p ls
  | [], [], _, _ => by simp [takesL]
  | [], _ :: _, h, _ => by simp at h
  | _ :: _, [], h, _ => by simp at h
  | lot :: ls, n :: t, h, hd => by
    refine List.mem_flatMap.2 ⟨n, opts_mem.2 hd.1, List.mem_map.2 ⟨t, takesL_mem ls t (by simpa using h) hd.2, rfl⟩⟩

def bestB (p : Pr) (t : List Int) : Bool := permB p t && (takesL p p.lots).all fun u => !permB p u || !btB p u t

theorem bestB_ok {p : Pr} {t : List Int} (h : bestB p t = true) : IsBest p t := by
  unfold bestB at h
  rw [Bool.and_eq_true, List.all_eq_true] at h
  refine ⟨permB_iff.1 h.1, fun u hu hb => ?_⟩
  have := h.2 u (takesL_mem _ _ hu.1 hu.2.1)
  rw [permB_iff.2 hu, btB_iff.2 hb] at this
  cases this

theorem Row.ow {α : Type} {n : Nat} {enc : α -> List Value} {w : World} {b : Nat} {l : List α} (hn : ∀ a, (enc a).length = n) (h : Row w b (l.flatMap enc)) : Ow n enc w ⟨some ⟨b, 0, none⟩, l.length, l.length⟩ l := by
  refine ⟨rfl, ?_, .inr ⟨b, _, rfl, h, ?_, Nat.le_refl _, ?_⟩⟩
  · simp [fm_length hn]
  · rw [fm_length hn]
  · exact List.take_of_length_le (by rw [fm_length hn]; exact Nat.le_refl _)
end Pw
namespace Go.Proofs.Ytmkjcheafdionaa
open Go Pw

section
variable {w w' w0 : World} {s t s0 s1 s2 : Sl} {p : Pr} {a b : List Int}

theorem example_spec {budget most off : Int} {K : Sl -> Sl -> Sl -> Int -> Int -> World -> Prop} (hK : ∀ w' s0 s1 s2, Fr F0 w w' -> PV w' s0 s1 s2 (exP budget most off) -> K s0 s1 s2 most budget w') : Lw_example_sh budget most off K w := by
  refine ⟨?_⟩
  unfold Lw_example_sd
  intro w1
  have m1 : Mem w w1 _ := Mem.nil.allocL (cs := [.slice none 0 0, .slice none 0 0, .slice none 0 0, .int .i64 0, .int .i64 0])
  clear_value w1
  intro w2
  have m2 : Mem w w2 _ := m1.allocL (cs := [.int .i64 1, .int .i64 2])
  clear_value w2
  refine stN_new rfl m2 fun w4 m4 => ?_
  intro w5
  have m5 : Mem w w5 _ := m4.allocL (cs := [.int .i64 1, .int .i64 5, .int .i64 10, .int .i64 8, .int .i64 1, .int .i64 6, .int .i64 7, .int .i64 6, .int .i64 2, .int .i64 5, .int .i64 9, .int .i64 7])
  clear_value w5
  refine ⟨m5.wr 1 rfl rfl, ?_⟩
  intro w6
  have m6 : Mem w w6 _ := m5.set (i := 1) (v := .slice (some ⟨w4.heap.size, 0, none⟩) 3 3) 1 rfl
  clear_value w6
  simp only [List.set_cons_zero, List.set_cons_succ] at m6
  rw [cnd_prop]
  refine ⟨fun hlt => ?_, fun hge => ?_⟩
  · intro w7
    have m7 : Mem w w7 _ := m6.allocL (cs := [.int .i64 1, .int .i64 2])
    clear_value w7
    intro w8
    have m8 : Mem w w8 _ := m7.allocL (cs := [.int .i64 5, .slice (some ⟨w6.heap.size, 0, none⟩) 2 2, .int .i64 off])
    clear_value w8
    refine ⟨m8.wr 3 rfl rfl, ?_⟩
    intro w9
    have m9 : Mem w w9 _ := m8.set (i := 2) (v := .slice (some ⟨w7.heap.size, 0, none⟩) 1 1) 3 rfl
    clear_value w9
    simp only [List.set_cons_zero, List.set_cons_succ] at m9
    refine ⟨?_⟩
    unfold Lw_example_k0d
    refine ⟨⟨some ⟨w1.heap.size, 0, none⟩, 2, 2⟩, m9.ld 3 rfl rfl, ⟨some ⟨w4.heap.size, 0, none⟩, 3, 3⟩, m9.ld 3 rfl rfl, ⟨some ⟨w7.heap.size, 0, none⟩, 1, 1⟩, m9.ld 3 rfl rfl, _, m9.ld 3 rfl rfl, _, m9.ld 3 rfl rfl, stN_at m9 5 rfl rfl fun w10 m10 => ?_⟩
    simp only [List.set_cons_zero, List.set_cons_succ] at m10
    refine ⟨⟨some ⟨w1.heap.size, 0, none⟩, 2, 2⟩, m10.ld 5 rfl rfl, ⟨some ⟨w4.heap.size, 0, none⟩, 3, 3⟩, m10.ld 5 rfl rfl, ⟨some ⟨w7.heap.size, 0, none⟩, 1, 1⟩, m10.ld 5 rfl rfl, _, m10.ld 5 rfl rfl, _, m10.ld 5 rfl rfl, hK w10 _ _ _ m10.1 ?_⟩
    have hd : (exP budget most off).de = [⟨5, [1, 2], off⟩] := by simp [exP, hlt]
    refine ⟨?_, ?_, ⟨[(⟨5, [1, 2], off⟩, ⟨some ⟨w6.heap.size, 0, none⟩, 2, 2⟩)], ?_, hd.symm, fun x hx => ?_⟩, ?_, ?_, ?_⟩
    · exact (Row.ow (fun a => ie_length _ _ a) (l := [(1 : Int), 2]) (m10.row 4 rfl)).vw
    · exact (Row.ow (fun a => encC_length a) (l := (exP budget most off).ch) (m10.row 2 rfl)).vw
    · exact (Row.ow (fun a => encD_length a) (l := [((⟨5, [1, 2], off⟩ : De), (⟨some ⟨w6.heap.size, 0, none⟩, 2, 2⟩ : Sl))]) (m10.row 0 rfl)).vw
    · rw [List.mem_singleton] at hx
      subst hx
      exact ⟨(Row.ow (fun a => ie_length _ _ a) (l := [(1 : Int), 2]) (m10.row 1 rfl)).vw, by simp⟩
    · simp [exP]
    · simp [exP]
    · rw [hd]; simp
  · refine ⟨?_⟩
    unfold Lw_example_k0d
    refine ⟨⟨some ⟨w1.heap.size, 0, none⟩, 2, 2⟩, m6.ld 1 rfl rfl, ⟨some ⟨w4.heap.size, 0, none⟩, 3, 3⟩, m6.ld 1 rfl rfl, ⟨none, 0, 0⟩, m6.ld 1 rfl rfl, _, m6.ld 1 rfl rfl, _, m6.ld 1 rfl rfl, stN_at m6 3 rfl rfl fun w10 m10 => ?_⟩
    simp only [List.set_cons_zero, List.set_cons_succ] at m10
    refine ⟨⟨some ⟨w1.heap.size, 0, none⟩, 2, 2⟩, m10.ld 3 rfl rfl, ⟨some ⟨w4.heap.size, 0, none⟩, 3, 3⟩, m10.ld 3 rfl rfl, ⟨none, 0, 0⟩, m10.ld 3 rfl rfl, _, m10.ld 3 rfl rfl, _, m10.ld 3 rfl rfl, hK w10 _ _ _ m10.1 ?_⟩
    have hd : (exP budget most off).de = [] := by simp [exP, hge]
    refine ⟨?_, ?_, ⟨[], Vw.nil, hd.symm, fun x hx => by cases hx⟩, ?_, ?_, ?_⟩
    · exact (Row.ow (fun a => ie_length _ _ a) (l := [(1 : Int), 2]) (m10.row 2 rfl)).vw
    · exact (Row.ow (fun a => encC_length a) (l := (exP budget most off).ch) (m10.row 0 rfl)).vw
    · simp [exP]
    · simp [exP]
    · rw [hd]; simp

/-- With enough work. -/
theorem Solve_full {work : Int} {K : Sl -> Int -> Int -> Sl -> Int -> World -> Prop} (hp : RightPr p) (h : PV w s0 s1 s2 p) (hw : Wi work 1048576) (hn : (prefN p p.lots : Int) <= work)
    (hK : ∀ w' t bnd ns T cs N, V w w' [] [] [] ns t T cs N -> IsBest p T -> bnd = ptsOf p T -> Tree (upB p) p T N p.lots [] 0 N.length -> K t (ptsOf p T) bnd ns 0 w') : Cb_Solve_sh s0 s1 s2 p.most p.budget work K w := by
  refine Solve_spec h (fun hbad => ?_) fun _ _ w' t pts bnd ns e T cs N hV hS => ?_
  · rcases hbad with hb | hb
    · rw [rightB_iff.2 hp] at hb; cases hb
    · exfalso
      have : wiB work 1048576 = true := by simpa [wiB, Wi] using hw
      rw [this] at hb; cases hb
  · rcases hS with ⟨rfl, h1, rfl, rfl, h2⟩ | ⟨_, _, _, _, _, h2⟩
    · exact hK w' t _ ns T cs N hV h1 rfl h2
    · omega

theorem takes_spec {pts : Int} {K : Bool -> World -> Prop} (hp : RightPr p) (h : PV w s0 s1 s2 p) (ht : VI w t a) (hl : a.length < 2 ^ 63) (hn : prefN p p.lots <= 1000) (hb : IsBest p a) (hpt : ptsOf p a = pts)
    (hK : ∀ w', Fr F0 w w' -> K true w') : Lw_takes_sh s0 s1 s2 p.most p.budget t pts K w := by
  refine ⟨?_⟩
  unfold Lw_takes_sd
  intro w1
  have m1 : Mem w w1 _ := Mem.nil.allocL (cs := prC s0 s1 s2 p.most p.budget)
  clear_value w1
  refine ⟨s0, m1.ld 0 rfl rfl, s1, m1.ld 0 rfl rfl, s2, m1.ld 0 rfl rfl, _, m1.ld 0 rfl rfl, _, m1.ld 0 rfl rfl, ?_⟩
  refine Solve_full hp (h.fr m1.1) ⟨by decide, by decide⟩ (by omega) fun w' t' bnd ns T cs N hV hT hbd _ => ?_
  subst hbd
  have : T = a := hT.uniq hb
  subst this
  subst hpt
  have hf : Fr F0 w w' := m1.1.t hV.m.1
  refine stN_new (w0 := w') (l := []) rfl Mem.nil fun w2 m2 => ?_
  rw [cnd_beq]
  refine ⟨fun _ => ⟨t', m2.ld 0 rfl rfl, ?_⟩, fun h => absurd rfl h⟩
  refine Ints_spec (hV.tv.vw.fr m2.1) (ht.fr (hf.t m2.1)) hl fun w3 hf3 => ?_
  have m3 := m2.fr hf3
  rw [decide_eq_true rfl]
  refine cnd_iff.2 ⟨fun _ => ⟨_, m3.ld 0 rfl rfl, ?_⟩, fun h => by cases h⟩
  rw [cnd_beq]
  refine ⟨fun _ => ⟨_, m3.ld 0 rfl rfl, ?_⟩, fun h => absurd rfl h⟩
  rw [show (ptsOf p T == ptsOf p T) = true from beq_self_eq_true _]
  exact hK w3 (hf.t m3.1)
end
end Go.Proofs.Ytmkjcheafdionaa
