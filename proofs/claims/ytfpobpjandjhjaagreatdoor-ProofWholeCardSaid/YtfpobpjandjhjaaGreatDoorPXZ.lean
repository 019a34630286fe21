/- The chapter's examples hold. Conditions: none. -/
import Derived.Test.YtfpobpjandjhjaaGreatDoorPXY
import Derived.Test.YtfpobpjandjhjaaGreatDoorPG4
import Derived.Test.YtfpobpjandjhjaaGreatDoorCL1
namespace Go.Proofs.YtfpobpjandjhjaaGreatDoor
open Go Pw
def exP22 : Pr := ⟨[1], [⟨1, 5, 7, 3⟩, ⟨1, 6, 9, 4⟩], [], 0, 8⟩
def exN : List Nd := [⟨0, 0, 0, [1, 2, 3]⟩, ⟨0, 0, 1, []⟩, ⟨0, 0, 1, []⟩, ⟨0, 0, 1, []⟩]
theorem NV.take {w : World} {s : Sl} {N : List Nd} (h : NV w s N) {j : Nat} (hj : j <= N.length) : NV w ⟨subP s.p 0 s.c 4, j - 0, s.c - 0⟩ (N.take j) := by
 obtain ⟨⟨cs, h1, h2, h3⟩, h4⟩ := h
 refine ⟨⟨cs.take j, h1.take (fun a => encN_length a) (by omega), by simp [h2], fun i c n hc hn => ?_⟩, by simp; omega⟩
 have hi : i < j := by
  have := (List.getElem?_eq_some_iff.1 hc).1
  simp at this
  omega
 rw [List.getElem?_take, if_pos hi] at hc hn
 exact h3 i c n hc hn
theorem OwR.far {w0 w w' : World} {t ns : Sl} {T : List Int} {cs : List NdC} {N : List Nd} {x : Nat} (h : OwR w0 w t T ns cs N) (hf : ∀ c, c ≠ x -> w'.heap[c]? = w.heap[c]?) (hx : ∀ b, (inB t b \/ inB ns b \/ ∃ c ∈ cs, inB c.nx b) -> b ≠ x) : OwR w0 w' t T ns cs N :=
 { h with
  tk := Rests.ow t T w w' (fun b hb => hf b (hx b (.inl hb))) h.tk
  nds := Rests.ow ns cs w w' (fun b hb => hf b (hx b (.inr (.inl hb)))) h.nds
  nd := fun i c n hc hn => ⟨(h.nd i c n hc hn).1, Rests.ow c.nx n.next w w' (fun b hb => hf b (hx b (.inr (.inr ⟨c, List.mem_of_getElem? hc, hb⟩)))) (h.nd i c n hc hn).2.1, (h.nd i c n hc hn).2.2⟩ }
theorem OwR.lt {w0 w : World} {t ns : Sl} {T : List Int} {cs : List NdC} {N : List Nd} (h : OwR w0 w t T ns cs N) : ∀ b, (inB t b \/ inB ns b \/ ∃ c ∈ cs, inB c.nx b) -> b < w.heap.size := fun b hb => by
 rcases hb with hb | hb | ⟨c, hc, hb⟩
 ·exact h.tk.lt' hb
 ·exact h.nds.lt' hb
 ·obtain ⟨i, hi, rfl⟩ := List.mem_iff_getElem.1 hc
  have hl := h.len
  exact (h.nd i _ _ (List.getElem?_eq_getElem hi) (List.getElem?_eq_getElem (by omega))).2.1.lt' hb
section
variable {w w' w0 wB wC wD : World} {s0 s1 s2 tS nS t1 n1 t2 n2 : Sl} {cs1 cs2 : List NdC} {pb rb wa sa : Nat}
theorem example22_spec {K : Sl -> Sl -> Sl -> Int -> Int -> World -> Prop} (hK : ∀ w' s0 s1 s2, Fr F0 w w' -> PV w' s0 s1 s2 exP22 -> K s0 s1 s2 0 8 w') : z0z_sh K w := by
 refine ⟨?_⟩
 unfold z0z_sd
 intro w1
 have m : Mem w w1 _ := Mem.nil.allocL (cs := [.slice none 0 0, .slice none 0 0, .slice none 0 0, .int .i64 0, .int .i64 0])
 clear_value w1
 intro w2
 have m : Mem w w2 _ := m.allocL (cs := [.int .i64 1])
 clear_value w2
 intro w3
 have m : Mem w w3 _ := m.allocL (cs := [.int .i64 1, .int .i64 5, .int .i64 7, .int .i64 3, .int .i64 1, .int .i64 6, .int .i64 9, .int .i64 4])
 clear_value w3
 refine stN_at m 2 rfl rfl fun w4 m => ?_
 simp only [List.set_cons_zero, List.set_cons_succ] at m
 refine ⟨⟨some ⟨w1.heap.size, 0, none⟩, 1, 1⟩, m.ld 2 rfl rfl, ⟨some ⟨w2.heap.size, 0, none⟩, 2, 2⟩, m.ld 2 rfl rfl, ⟨none, 0, 0⟩, m.ld 2 rfl rfl, _, m.ld 2 rfl rfl, _, m.ld 2 rfl rfl, hK w4 _ _ _ m.1 ?_⟩
 refine ⟨?_, ?_, ⟨[], Vw.nil, rfl, fun x hx => by cases hx⟩, by simp [exP22], by simp [exP22], by simp [exP22]⟩
 ·exact (Row.ow (fun a => ie_length _ _ a) (l := [(1 : Int)]) (m.row 1 rfl)).vw
 ·exact (Row.ow (fun a => encC_length a) (l := exP22.ch) (m.row 0 rfl)).vw
theorem exN_len : exN.length < 2 ^ 47 := by decide
theorem exN_sm : SmR [0] exN := ⟨by decide, by decide, by decide⟩
theorem sanity_k0 {K : Bool -> World -> Prop} (g : GlT wB) (hP : PV wB s0 s1 s2 exP22) (hpr : Row wB pb (prC s0 s1 s2 0 8)) (hrr : Row wB rb (rsC tS 3 3 nS)) (hT : VI wB tS [0]) (hN : NV wB nS exN)
  (hF : Fr F0 wB w) (hw : Row w wa (rsC t1 3 3 n1)) (hs : Row w sa (rsC t2 3 3 n2)) (hwa : wB.heap.size <= wa) (hsa : wB.heap.size <= sa) (hne : wa ≠ sa) (o1 : OwR wC w t1 [0] n1 cs1 exN) (o2 : OwR wD w t2 [0] n2 cs2 exN)
  (h1 : ∀ b, (inB t1 b \/ inB n1 b \/ ∃ c ∈ cs1, inB c.nx b) -> b ≠ sa /\ b ≠ wa) (h2 : ∀ b, (inB t2 b \/ inB n2 b \/ ∃ c ∈ cs2, inB c.nx b) -> b ≠ sa /\ b ≠ wa)
  (hK : ∀ w', Fr F0 wB w' -> K true w') : z19_k0 ⟨pb, 0, none⟩ 27 true 26 true ⟨rb, 0, none⟩ ⟨wa, 0, none⟩ ⟨sa, 0, none⟩ K w := by
 refine ⟨?_⟩
 unfold z19_k0d
 refine ⟨hw.wr (i := 1) (by show 1 < 4; decide), ?_⟩
 intro w1
 have o1 : OwR wC w1 t1 [0] n1 cs1 exN := o1.far (x := wa) (fun c hc => heap_set_ne (Ne.symm hc)) fun b hb => (h1 b hb).2
 have o2 : OwR wD w1 t2 [0] n2 cs2 exN := o2.far (x := wa) (fun c hc => heap_set_ne (Ne.symm hc)) fun b hb => (h2 b hb).2
 have hw : Row w1 wa (rsC t1 4 3 n1) := hw.set 1 _
 have hs : Row w1 sa (rsC t2 3 3 n2) := hs.congr (heap_set_ne hne)
 have hF : Fr F0 wB w1 := hF.trans (Fr.set (F := fun c => c = wa) rfl) fun b hb hlt => by omega
 clear_value w1
 refine ⟨hw.wr (i := 2) (by show 2 < 4; decide), ?_⟩
 intro w2
 have o1 : OwR wC w2 t1 [0] n1 cs1 exN := o1.far (x := wa) (fun c hc => heap_set_ne (Ne.symm hc)) fun b hb => (h1 b hb).2
 have o2 : OwR wD w2 t2 [0] n2 cs2 exN := o2.far (x := wa) (fun c hc => heap_set_ne (Ne.symm hc)) fun b hb => (h2 b hb).2
 have hw : Row w2 wa (rsC t1 4 4 n1) := hw.set 2 _
 have hs : Row w2 sa (rsC t2 3 3 n2) := hs.congr (heap_set_ne hne)
 have hF : Fr F0 wB w2 := hF.trans (Fr.set (F := fun c => c = wa) rfl) fun b hb hlt => by omega
 clear_value w2
 have hn2l : n2.l = 4 := (o2.nv exN_len).len
 have hn2c := o2.nds.vw.cap
 refine ⟨n2, hs.at rfl, ⟨by omega, by omega, by omega⟩, hs.wr (i := 3) (by show 3 < 4; decide), ?_⟩
 intro w3
 have o1 : OwR wC w3 t1 [0] n1 cs1 exN := o1.far (x := sa) (fun c hc => heap_set_ne (Ne.symm hc)) fun b hb => (h1 b hb).1
 have o2 : OwR wD w3 t2 [0] n2 cs2 exN := o2.far (x := sa) (fun c hc => heap_set_ne (Ne.symm hc)) fun b hb => (h2 b hb).1
 have hs : Row w3 sa (rsC t2 3 3 ⟨subP n2.p 0 n2.c 4, 3 - 0, n2.c - 0⟩) := hs.set 3 _
 have hw : Row w3 wa (rsC t1 4 4 n1) := hw.congr (heap_set_ne (Ne.symm hne))
 have hF : Fr F0 wB w3 := hF.trans (Fr.set (F := fun c => c = sa) rfl) fun b hb hlt => by omega
 clear_value w3
 have v1 : VI w3 t1 [0] := o1.tk.vw
 have v2 : VI w3 t2 [0] := o2.tk.vw
 have x1 : NV w3 n1 exN := o1.nv exN_len
 have x2 : NV w3 ⟨subP n2.p 0 n2.c 4, 3 - 0, n2.c - 0⟩ (exN.take 3) := (o2.nv exN_len).take (j := 3) (by decide)
 intro w4
 have m4 : Mem w3 w4 _ := Mem.nil.allocL (cs := [.int .i64 0])
 clear_value w4
 intro w5
 have m4 : Mem w3 w5 _ := m4.allocL (cs := [.int .i64 0, .int .i64 1, .int .i64 2, .slice none 0 0])
 clear_value w5
 have vT : VI w5 ⟨some ⟨w3.heap.size, 0, none⟩, 1, 1⟩ [0] := (Row.ow (fun a => ie_length _ _ a) (l := [(0 : Int)]) (m4.row 1 rfl)).vw
 have vN : NV w5 ⟨some ⟨w4.heap.size, 0, none⟩, 1, 1⟩ [⟨0, 1, 2, []⟩] := by
  refine ⟨⟨[⟨0, 1, 2, ⟨none, 0, 0⟩⟩], (Row.ow (fun a => encN_length a) (l := [(⟨0, 1, 2, ⟨none, 0, 0⟩⟩ : NdC)]) (m4.row 0 rfl)).vw, rfl, fun i c n hc hn => ?_⟩, by decide⟩
  match i, hc, hn with
  | 0, hc, hn =>
   cases hc
   cases hn
   exact ⟨⟨rfl, rfl, rfl⟩, Vw.nil, ⟨by decide, by decide⟩, ⟨by decide, by decide⟩⟩
 refine Encode_spec vT vN ⟨by decide, by decide, by decide⟩ (by decide) (by decide) ⟨by decide, ⟨by decide, by decide⟩, ⟨by decide, by decide⟩, by decide⟩ (g.fr (hF.t m4.1)) (by rw [enc_example]; decide) fun w6 f6 => ?_
 have hF6 : Fr F0 wB w6 := hF.t (m4.1.t f6)
 have f36 : Fr F0 w3 w6 := m4.1.t f6
 refine cnd_iff.2 ⟨fun _ => cnd_iff.2 ⟨fun _ => cnd_iff.2 ⟨fun _ => cnd_iff.2 ⟨fun _ => ?_, fun h => by cases h⟩, fun h => by cases h⟩, fun h => by cases h⟩, fun h => by cases h⟩
 have p6 := hF6.row hpr fun h => h
 have r6 := hF6.row hrr fun h => h
 refine ⟨s0, p6.at rfl, s1, p6.at rfl, s2, p6.at rfl, _, p6.at rfl, _, p6.at rfl, tS, r6.at rfl, _, r6.at rfl, _, r6.at rfl, nS, r6.at rfl, ?_⟩
 refine pCheck_spec (p := exP22) (hP.fr hF6) (hT.fr hF6) (by decide) (hN.fr hF6) fun w7 f7 => ?_
 rw [show chkP exP22 [0] 3 3 exN = 0 by decide +kernel]
 refine cnd_iff.2 ⟨fun _ => ?_, fun h => by cases h⟩
 have p7 := f7.row p6 fun h => h
 have f37 := f36.t f7
 have w7r := f37.row hw fun h => h
 refine ⟨s0, p7.at rfl, s1, p7.at rfl, s2, p7.at rfl, _, p7.at rfl, _, p7.at rfl, t1, w7r.at rfl, _, w7r.at rfl, _, w7r.at rfl, n1, w7r.at rfl, ?_⟩
 refine pCheck_spec (p := exP22) (hP.fr (hF6.t f7)) (v1.fr f37) (by decide) (x1.fr f37) fun w8 f8 => ?_
 rw [show chkP exP22 [0] 4 4 exN = 41 by decide +kernel]
 refine cnd_iff.2 ⟨fun _ => ?_, fun h => by cases h⟩
 have p8 := f8.row p7 fun h => h
 have f38 := f37.t f8
 have w8r := f38.row hs fun h => h
 refine ⟨s0, p8.at rfl, s1, p8.at rfl, s2, p8.at rfl, _, p8.at rfl, _, p8.at rfl, t2, w8r.at rfl, _, w8r.at rfl, _, w8r.at rfl, ⟨subP n2.p 0 n2.c 4, 3 - 0, n2.c - 0⟩, w8r.at rfl, ?_⟩
 refine pCheck_spec (p := exP22) (hP.fr (hF6.t (f7.t f8))) (v2.fr f38) (by decide) (x2.fr f38) fun w9 f9 => ?_
 rw [show chkP exP22 [0] 3 3 (exN.take 3) = 41 by decide +kernel]
 refine cnd_iff.2 ⟨fun _ => ?_, fun h => by cases h⟩
 rw [enc_example, decide_eq_true (by rfl)]
 exact hK w9 (hF6.t (f7.t (f8.t f9)))
theorem sanity_spec {K : Bool -> World -> Prop} (g : GlT w) (hK : ∀ w', Fr F0 w w' -> K true w') : z19_sh K w := by
 refine ⟨?_⟩
 unfold z19_sd
 refine example22_spec fun w1 s0 s1 s2 f1 hP => ?_
 intro w3
 have m : Mem w1 w3 _ := Mem.nil.allocL (cs := prC ⟨none, 0, 0⟩ ⟨none, 0, 0⟩ ⟨none, 0, 0⟩ 0 0)
 clear_value w3
 refine stN_at m 0 rfl rfl fun w4 m => ?_
 have m : Mem w1 w4 [(w1.heap.size, prC s0 s1 s2 0 8)] := m
 intro w5
 have m : Mem w1 w5 _ := m.allocL (cs := [.int .i64 0, .int .i64 0])
 clear_value w5
 refine ⟨m.wr 0 rfl rfl, ?_⟩
 intro w6
 have m : Mem w1 w6 [(w4.heap.size, [.int .i64 0, .int .i64 0]), (w1.heap.size, prC s0 s1 s2 0 8)] := m.set 0 rfl
 clear_value w6
 refine ⟨m.wr 0 rfl rfl, ?_⟩
 intro w7
 have m : Mem w1 w7 [(w4.heap.size, [.int .i64 0, .int .i64 1]), (w1.heap.size, prC s0 s1 s2 0 8)] := m.set 0 rfl
 clear_value w7
 have hPF : ∀ {u}, Fr F0 w1 u -> PF u s0 s1 s2 ⟨none, 0, 0⟩ exP22 [] := fun h => ⟨hP.fr h, Vw.nil, by decide⟩
 refine ⟨s0, m.ld 1 rfl rfl, s1, m.ld 1 rfl rfl, s2, m.ld 1 rfl rfl, _, m.ld 1 rfl rfl, _, m.ld 1 rfl rfl, _, m.ld 0 rfl rfl, _, m.ld 0 rfl rfl, ?_⟩
 refine pBound_spec (p := exP22) (hPF m.1) ⟨by decide, by decide⟩ ⟨by decide, by decide⟩ fun w15 f15 => ?_
 rw [show upR exP22 [] 0 1 = (27, true) by decide +kernel]
 have m := m.fr f15
 refine ⟨s0, m.ld 1 rfl rfl, s1, m.ld 1 rfl rfl, s2, m.ld 1 rfl rfl, _, m.ld 1 rfl rfl, _, m.ld 1 rfl rfl, ?_⟩
 refine pBound_spec (p := exP22) (hPF m.1) ⟨by decide, by decide⟩ ⟨by decide, by decide⟩ fun w23 f23 => ?_
 rw [show upR exP22 [] 1 1 = (26, true) by decide +kernel]
 have m := m.fr f23
 refine ⟨_, m.ld 0 rfl rfl, _, m.ld 0 rfl rfl, ?_⟩
 intro w28
 have m : Mem w1 w28 _ := m.allocL (cs := [.int .i64 0, .int .i64 0, .int .i64 0, .slice none 0 0])
 clear_value w28
 refine stN_at m 0 rfl rfl fun w29 m => ?_
 simp only [List.set_cons_zero] at m
 intro w30
 have m : Mem w1 w30 _ := m.allocL (cs := [.int .i64 0])
 clear_value w30
 intro w31
 have m : Mem w1 w31 _ := m.allocL (cs := [.int .i64 1, .int .i64 2, .int .i64 3])
 clear_value w31
 refine ⟨_, m.ld 2 rfl rfl, _, m.ld 2 rfl rfl, _, m.ld 2 rfl rfl, ⟨none, 0, 0⟩, m.ld 2 rfl rfl, _, m.ld 2 rfl rfl, _, m.ld 2 rfl rfl, _, m.ld 2 rfl rfl, ⟨none, 0, 0⟩, m.ld 2 rfl rfl, _, m.ld 2 rfl rfl, _, m.ld 2 rfl rfl, _, m.ld 2 rfl rfl, ⟨none, 0, 0⟩, m.ld 2 rfl rfl, ?_⟩
 intro w44
 have m : Mem w1 w44 _ := m.allocL (cs := ([⟨0, 0, 0, ⟨some ⟨w30.heap.size, 0, none⟩, 3, 3⟩⟩, ⟨0, 0, 1, ⟨none, 0, 0⟩⟩, ⟨0, 0, 1, ⟨none, 0, 0⟩⟩, ⟨0, 0, 1, ⟨none, 0, 0⟩⟩] : List NdC).flatMap encN)
 clear_value w44
 intro w45
 have m : Mem w1 w45 _ := m.allocL (cs := rsC ⟨none, 0, 0⟩ 0 0 ⟨none, 0, 0⟩)
 clear_value w45
 refine stN_at m 0 rfl rfl fun wB m => ?_
 simp only [List.set_cons_zero] at m
 have hpr : Row wB w1.heap.size (prC s0 s1 s2 0 8) := m.row 6 rfl
 have hrr : Row wB w44.heap.size (rsC ⟨some ⟨w29.heap.size, 0, none⟩, 1, 1⟩ 3 3 ⟨some ⟨w31.heap.size, 0, none⟩, 4, 4⟩) := m.row 0 rfl
 have hT : VI wB ⟨some ⟨w29.heap.size, 0, none⟩, 1, 1⟩ [0] := (Row.ow (fun a => ie_length _ _ a) (l := [(0 : Int)]) (m.row 3 rfl)).vw
 have hX : VI wB ⟨some ⟨w30.heap.size, 0, none⟩, 3, 3⟩ [1, 2, 3] := (Row.ow (fun a => ie_length _ _ a) (l := [(1 : Int), 2, 3]) (m.row 2 rfl)).vw
 have hN : NV wB ⟨some ⟨w31.heap.size, 0, none⟩, 4, 4⟩ exN := by
  refine ⟨⟨_, (Row.ow (fun a => encN_length a) (l := ([⟨0, 0, 0, ⟨some ⟨w30.heap.size, 0, none⟩, 3, 3⟩⟩, ⟨0, 0, 1, ⟨none, 0, 0⟩⟩, ⟨0, 0, 1, ⟨none, 0, 0⟩⟩, ⟨0, 0, 1, ⟨none, 0, 0⟩⟩] : List NdC)) (m.row 1 rfl)).vw, rfl, fun i c n hc hn => ?_⟩, exN_len⟩
  match i, hc, hn with
  | 0, hc, hn => cases hc; cases hn; exact ⟨⟨rfl, rfl, rfl⟩, hX, ⟨by decide, by decide⟩, ⟨by decide, by decide⟩⟩
  | 1, hc, hn => cases hc; cases hn; exact ⟨⟨rfl, rfl, rfl⟩, Vw.nil, ⟨by decide, by decide⟩, ⟨by decide, by decide⟩⟩
  | 2, hc, hn => cases hc; cases hn; exact ⟨⟨rfl, rfl, rfl⟩, Vw.nil, ⟨by decide, by decide⟩, ⟨by decide, by decide⟩⟩
  | 3, hc, hn => cases hc; cases hn; exact ⟨⟨rfl, rfl, rfl⟩, Vw.nil, ⟨by decide, by decide⟩, ⟨by decide, by decide⟩⟩
 have hPB := hP.fr m.1
 have hFB : Fr F0 w wB := f1.t m.1
 have gB := g.fr hFB
 clear m
 generalize (⟨some ⟨w29.heap.size, 0, none⟩, 1, 1⟩ : Sl) = tS at *
 generalize (⟨some ⟨w31.heap.size, 0, none⟩, 4, 4⟩ : Sl) = nS at *
 intro w47
 have m : Mem wB w47 [] := Mem.nil.drew
 clear_value w47
 have hSS : ∀ {u}, Fr F0 wB u -> Rs u [(w44.heap.size, rsC tS 3 3 nS)] := fun h q hq => by
  rw [List.mem_singleton] at hq
  subst hq
  exact h.row hrr fun h => h
 have hgo : ∀ {u : World} {wa sa : Nat} {t1 n1 : Sl} {cs1 : List NdC} {t2 n2 : Sl} {cs2 : List NdC} {wC wD : World}, Fr F0 wB u -> Row u wa (rsC t1 3 3 n1) -> Row u sa (rsC t2 3 3 n2) -> wB.heap.size <= wa -> wB.heap.size <= sa -> wa ≠ sa -> OwR wC u t1 [0] n1 cs1 exN -> OwR wD u t2 [0] n2 cs2 exN -> (∀ b, (inB t1 b \/ inB n1 b \/ ∃ c ∈ cs1, inB c.nx b) -> b ≠ sa /\ b ≠ wa) -> (∀ b, (inB t2 b \/ inB n2 b \/ ∃ c ∈ cs2, inB c.nx b) -> b ≠ sa /\ b ≠ wa) ->
   z19_k0 ⟨w1.heap.size, 0, none⟩ 27 true 26 true ⟨w44.heap.size, 0, none⟩ ⟨wa, 0, none⟩ ⟨sa, 0, none⟩ K u := fun m a b c d e o1 o2 h1 h2 => sanity_k0 gB hPB hpr hrr hT hN m a b c d e o1 o2 h1 h2 fun w' h => hK w' (hFB.t h)
 refine ⟨fun u => Rs u [(w44.heap.size, rsC tS 3 3 nS)], hSS m.1, tS, fun _ h => h.ld 0 rfl rfl, _, fun _ h => h.ld 0 rfl rfl, _, fun _ h => h.ld 0 rfl rfl, nS, fun _ h => h.ld 0 rfl rfl, tS, fun _ h => h.ld 0 rfl rfl, _, fun _ h => h.ld 0 rfl rfl, _, fun _ h => h.ld 0 rfl rfl, nS, fun _ h => h.ld 0 rfl rfl, ?_⟩
 refine ⟨?_, ?_, ?_⟩
 ·skip
  refine Copy_spec (hT.fr m.1) (hN.fr m.1) exN_sm fun u1 tA nA csA f1 oA => ⟨hSS (m.1.t f1), ?_⟩
  have lA : ∀ b, (inB tA b \/ inB nA b \/ ∃ c ∈ csA, inB c.nx b) -> w47.heap.size <= b /\ b < u1.heap.size := fun b hb => ⟨oA.nw b hb, oA.lt b hb⟩
  have z1 : w47.heap.size <= u1.heap.size := f1.1
  have m := m.fr f1
  refine ⟨?_, ?_, ?_⟩
  ·skip
   refine Copy_spec (hT.fr m.1) (hN.fr m.1) exN_sm fun u2 tB nB csB f2 oB => ⟨hSS (m.1.t f2), ?_⟩
   have lB : ∀ b, (inB tB b \/ inB nB b \/ ∃ c ∈ csB, inB c.nx b) -> u1.heap.size <= b /\ b < u2.heap.size := fun b hb => ⟨oB.nw b hb, oB.lt b hb⟩
   have z2 : u1.heap.size <= u2.heap.size := f2.1
   have oA := oA.fr f2
   have m := m.fr f2
   refine ⟨?_, ?_⟩
   ·skip
    intro u3
    have m : Mem wB u3 _ := m.allocL (cs := rsC ⟨none, 0, 0⟩ 0 0 ⟨none, 0, 0⟩)
    have z3 : u2.heap.size < u3.heap.size := (m.row 0 rfl).lt
    have oA : OwR _ u3 _ _ _ _ _ := oA.fr Fr.alloc
    have oB : OwR _ u3 _ _ _ _ _ := oB.fr Fr.alloc
    clear_value u3
    refine ⟨hSS m.1, ?_⟩
    intro u4
    have m : Mem wB u4 _ := m.allocL (cs := rsC ⟨none, 0, 0⟩ 0 0 ⟨none, 0, 0⟩)
    have z4 : u3.heap.size < u4.heap.size := (m.row 0 rfl).lt
    have oA : OwR _ u4 _ _ _ _ _ := oA.fr Fr.alloc
    have oB : OwR _ u4 _ _ _ _ _ := oB.fr Fr.alloc
    clear_value u4
    refine ⟨hSS m.1, ?_⟩
    refine stN_far m 1 rfl rfl fun v1 m e1 => ⟨hSS m.1, ?_⟩
    have oA := oA.far e1 fun b hb => by have := lA b hb; omega
    have oB := oB.far e1 fun b hb => by have := lB b hb; omega
    refine stN_far m 0 rfl rfl fun v2 m e2 => ?_
    have oA := oA.far e2 fun b hb => by have := lA b hb; omega
    have oB := oB.far e2 fun b hb => by have := lB b hb; omega
    simp only [List.set_cons_zero, List.set_cons_succ] at m
    exact hgo m.1 (m.row 1 rfl) (m.row 0 rfl) (m.2.2.2 _ (List.mem_of_getElem? (i := 1) rfl)) (m.2.2.2 _ (List.mem_of_getElem? (i := 0) rfl)) (by omega) oA oB (fun b hb => by have := lA b hb; omega) (fun b hb => by have := lB b hb; omega)
   ·skip
    intro u5
    have m : Mem wB u5 _ := m.allocL (cs := rsC ⟨none, 0, 0⟩ 0 0 ⟨none, 0, 0⟩)
    have z5 : u2.heap.size < u5.heap.size := (m.row 0 rfl).lt
    have oA : OwR _ u5 _ _ _ _ _ := oA.fr Fr.alloc
    have oB : OwR _ u5 _ _ _ _ _ := oB.fr Fr.alloc
    clear_value u5
    refine ⟨hSS m.1, ?_⟩
    intro u6
    have m : Mem wB u6 _ := m.allocL (cs := rsC ⟨none, 0, 0⟩ 0 0 ⟨none, 0, 0⟩)
    have z6 : u5.heap.size < u6.heap.size := (m.row 0 rfl).lt
    have oA : OwR _ u6 _ _ _ _ _ := oA.fr Fr.alloc
    have oB : OwR _ u6 _ _ _ _ _ := oB.fr Fr.alloc
    clear_value u6
    refine ⟨hSS m.1, ?_⟩
    refine stN_far m 0 rfl rfl fun v1 m e1 => ⟨hSS m.1, ?_⟩
    have oA := oA.far e1 fun b hb => by have := lA b hb; omega
    have oB := oB.far e1 fun b hb => by have := lB b hb; omega
    refine stN_far m 1 rfl rfl fun v2 m e2 => ?_
    have oA := oA.far e2 fun b hb => by have := lA b hb; omega
    have oB := oB.far e2 fun b hb => by have := lB b hb; omega
    simp only [List.set_cons_zero, List.set_cons_succ] at m
    exact hgo m.1 (m.row 0 rfl) (m.row 1 rfl) (m.2.2.2 _ (List.mem_of_getElem? (i := 0) rfl)) (m.2.2.2 _ (List.mem_of_getElem? (i := 1) rfl)) (by omega) oA oB (fun b hb => by have := lA b hb; omega) (fun b hb => by have := lB b hb; omega)
  ·skip
   intro u7
   have m : Mem wB u7 _ := m.allocL (cs := rsC ⟨none, 0, 0⟩ 0 0 ⟨none, 0, 0⟩)
   have z7 : u1.heap.size < u7.heap.size := (m.row 0 rfl).lt
   have oA : OwR _ u7 _ _ _ _ _ := oA.fr Fr.alloc
   clear_value u7
   refine ⟨hSS m.1, ?_⟩
   refine ⟨?_, ?_⟩
   ·skip
    refine Copy_spec (hT.fr m.1) (hN.fr m.1) exN_sm fun u8 tB nB csB f8 oB => ⟨hSS (m.1.t f8), ?_⟩
    have lB : ∀ b, (inB tB b \/ inB nB b \/ ∃ c ∈ csB, inB c.nx b) -> u7.heap.size <= b /\ b < u8.heap.size := fun b hb => ⟨oB.nw b hb, oB.lt b hb⟩
    have z8 : u7.heap.size <= u8.heap.size := f8.1
    have oA := oA.fr f8
    have m := m.fr f8
    intro u9
    have m : Mem wB u9 _ := m.allocL (cs := rsC ⟨none, 0, 0⟩ 0 0 ⟨none, 0, 0⟩)
    have z9 : u8.heap.size < u9.heap.size := (m.row 0 rfl).lt
    have oA : OwR _ u9 _ _ _ _ _ := oA.fr Fr.alloc
    have oB : OwR _ u9 _ _ _ _ _ := oB.fr Fr.alloc
    clear_value u9
    refine ⟨hSS m.1, ?_⟩
    refine stN_far m 1 rfl rfl fun v1 m e1 => ⟨hSS m.1, ?_⟩
    have oA := oA.far e1 fun b hb => by have := lA b hb; omega
    have oB := oB.far e1 fun b hb => by have := lB b hb; omega
    refine stN_far m 0 rfl rfl fun v2 m e2 => ?_
    have oA := oA.far e2 fun b hb => by have := lA b hb; omega
    have oB := oB.far e2 fun b hb => by have := lB b hb; omega
    simp only [List.set_cons_zero, List.set_cons_succ] at m
    exact hgo m.1 (m.row 1 rfl) (m.row 0 rfl) (m.2.2.2 _ (List.mem_of_getElem? (i := 1) rfl)) (m.2.2.2 _ (List.mem_of_getElem? (i := 0) rfl)) (by omega) oA oB (fun b hb => by have := lA b hb; omega) (fun b hb => by have := lB b hb; omega)
   ·skip
    intro u10
    have m : Mem wB u10 _ := m.allocL (cs := rsC ⟨none, 0, 0⟩ 0 0 ⟨none, 0, 0⟩)
    have z10 : u7.heap.size < u10.heap.size := (m.row 0 rfl).lt
    have oA : OwR _ u10 _ _ _ _ _ := oA.fr Fr.alloc
    clear_value u10
    refine ⟨hSS m.1, ?_⟩
    refine Copy_spec (hT.fr m.1) (hN.fr m.1) exN_sm fun u11 tB nB csB f11 oB => ⟨hSS (m.1.t f11), ?_⟩
    have lB : ∀ b, (inB tB b \/ inB nB b \/ ∃ c ∈ csB, inB c.nx b) -> u10.heap.size <= b /\ b < u11.heap.size := fun b hb => ⟨oB.nw b hb, oB.lt b hb⟩
    have z11 : u10.heap.size <= u11.heap.size := f11.1
    have oA := oA.fr f11
    have m := m.fr f11
    refine stN_far m 1 rfl rfl fun v1 m e1 => ⟨hSS m.1, ?_⟩
    have oA := oA.far e1 fun b hb => by have := lA b hb; omega
    have oB := oB.far e1 fun b hb => by have := lB b hb; omega
    refine stN_far m 0 rfl rfl fun v2 m e2 => ?_
    have oA := oA.far e2 fun b hb => by have := lA b hb; omega
    have oB := oB.far e2 fun b hb => by have := lB b hb; omega
    simp only [List.set_cons_zero, List.set_cons_succ] at m
    exact hgo m.1 (m.row 1 rfl) (m.row 0 rfl) (m.2.2.2 _ (List.mem_of_getElem? (i := 1) rfl)) (m.2.2.2 _ (List.mem_of_getElem? (i := 0) rfl)) (by omega) oA oB (fun b hb => by have := lA b hb; omega) (fun b hb => by have := lB b hb; omega)
  ·skip
   intro u12
   have m : Mem wB u12 _ := m.allocL (cs := rsC ⟨none, 0, 0⟩ 0 0 ⟨none, 0, 0⟩)
   have z12 : u1.heap.size < u12.heap.size := (m.row 0 rfl).lt
   have oA : OwR _ u12 _ _ _ _ _ := oA.fr Fr.alloc
   clear_value u12
   refine ⟨hSS m.1, ?_⟩
   refine ⟨?_, ?_⟩
   ·skip
    refine Copy_spec (hT.fr m.1) (hN.fr m.1) exN_sm fun u13 tB nB csB f13 oB => ⟨hSS (m.1.t f13), ?_⟩
    have lB : ∀ b, (inB tB b \/ inB nB b \/ ∃ c ∈ csB, inB c.nx b) -> u12.heap.size <= b /\ b < u13.heap.size := fun b hb => ⟨oB.nw b hb, oB.lt b hb⟩
    have z13 : u12.heap.size <= u13.heap.size := f13.1
    have oA := oA.fr f13
    have m := m.fr f13
    intro u14
    have m : Mem wB u14 _ := m.allocL (cs := rsC ⟨none, 0, 0⟩ 0 0 ⟨none, 0, 0⟩)
    have z14 : u13.heap.size < u14.heap.size := (m.row 0 rfl).lt
    have oA : OwR _ u14 _ _ _ _ _ := oA.fr Fr.alloc
    have oB : OwR _ u14 _ _ _ _ _ := oB.fr Fr.alloc
    clear_value u14
    refine ⟨hSS m.1, ?_⟩
    refine stN_far m 0 rfl rfl fun v1 m e1 => ⟨hSS m.1, ?_⟩
    have oA := oA.far e1 fun b hb => by have := lA b hb; omega
    have oB := oB.far e1 fun b hb => by have := lB b hb; omega
    refine stN_far m 1 rfl rfl fun v2 m e2 => ?_
    have oA := oA.far e2 fun b hb => by have := lA b hb; omega
    have oB := oB.far e2 fun b hb => by have := lB b hb; omega
    simp only [List.set_cons_zero, List.set_cons_succ] at m
    exact hgo m.1 (m.row 0 rfl) (m.row 1 rfl) (m.2.2.2 _ (List.mem_of_getElem? (i := 0) rfl)) (m.2.2.2 _ (List.mem_of_getElem? (i := 1) rfl)) (by omega) oA oB (fun b hb => by have := lA b hb; omega) (fun b hb => by have := lB b hb; omega)
   ·skip
    intro u15
    have m : Mem wB u15 _ := m.allocL (cs := rsC ⟨none, 0, 0⟩ 0 0 ⟨none, 0, 0⟩)
    have z15 : u12.heap.size < u15.heap.size := (m.row 0 rfl).lt
    have oA : OwR _ u15 _ _ _ _ _ := oA.fr Fr.alloc
    clear_value u15
    refine ⟨hSS m.1, ?_⟩
    refine Copy_spec (hT.fr m.1) (hN.fr m.1) exN_sm fun u16 tB nB csB f16 oB => ⟨hSS (m.1.t f16), ?_⟩
    have lB : ∀ b, (inB tB b \/ inB nB b \/ ∃ c ∈ csB, inB c.nx b) -> u15.heap.size <= b /\ b < u16.heap.size := fun b hb => ⟨oB.nw b hb, oB.lt b hb⟩
    have z16 : u15.heap.size <= u16.heap.size := f16.1
    have oA := oA.fr f16
    have m := m.fr f16
    refine stN_far m 0 rfl rfl fun v1 m e1 => ⟨hSS m.1, ?_⟩
    have oA := oA.far e1 fun b hb => by have := lA b hb; omega
    have oB := oB.far e1 fun b hb => by have := lB b hb; omega
    refine stN_far m 1 rfl rfl fun v2 m e2 => ?_
    have oA := oA.far e2 fun b hb => by have := lA b hb; omega
    have oB := oB.far e2 fun b hb => by have := lB b hb; omega
    simp only [List.set_cons_zero, List.set_cons_succ] at m
    exact hgo m.1 (m.row 0 rfl) (m.row 1 rfl) (m.2.2.2 _ (List.mem_of_getElem? (i := 0) rfl)) (m.2.2.2 _ (List.mem_of_getElem? (i := 1) rfl)) (by omega) oA oB (fun b hb => by have := lA b hb; omega) (fun b hb => by have := lB b hb; omega)
 ·skip
  intro u17
  have m : Mem wB u17 _ := m.allocL (cs := rsC ⟨none, 0, 0⟩ 0 0 ⟨none, 0, 0⟩)
  have z17 : w47.heap.size < u17.heap.size := (m.row 0 rfl).lt
  clear_value u17
  refine ⟨hSS m.1, ?_⟩
  refine ⟨?_, ?_⟩
  ·skip
   refine Copy_spec (hT.fr m.1) (hN.fr m.1) exN_sm fun u18 tA nA csA f18 oA => ⟨hSS (m.1.t f18), ?_⟩
   have lA : ∀ b, (inB tA b \/ inB nA b \/ ∃ c ∈ csA, inB c.nx b) -> u17.heap.size <= b /\ b < u18.heap.size := fun b hb => ⟨oA.nw b hb, oA.lt b hb⟩
   have z18 : u17.heap.size <= u18.heap.size := f18.1
   have m := m.fr f18
   refine ⟨?_, ?_⟩
   ·skip
    refine Copy_spec (hT.fr m.1) (hN.fr m.1) exN_sm fun u19 tB nB csB f19 oB => ⟨hSS (m.1.t f19), ?_⟩
    have lB : ∀ b, (inB tB b \/ inB nB b \/ ∃ c ∈ csB, inB c.nx b) -> u18.heap.size <= b /\ b < u19.heap.size := fun b hb => ⟨oB.nw b hb, oB.lt b hb⟩
    have z19 : u18.heap.size <= u19.heap.size := f19.1
    have oA := oA.fr f19
    have m := m.fr f19
    intro u20
    have m : Mem wB u20 _ := m.allocL (cs := rsC ⟨none, 0, 0⟩ 0 0 ⟨none, 0, 0⟩)
    have z20 : u19.heap.size < u20.heap.size := (m.row 0 rfl).lt
    have oA : OwR _ u20 _ _ _ _ _ := oA.fr Fr.alloc
    have oB : OwR _ u20 _ _ _ _ _ := oB.fr Fr.alloc
    clear_value u20
    refine ⟨hSS m.1, ?_⟩
    refine stN_far m 1 rfl rfl fun v1 m e1 => ⟨hSS m.1, ?_⟩
    have oA := oA.far e1 fun b hb => by have := lA b hb; omega
    have oB := oB.far e1 fun b hb => by have := lB b hb; omega
    refine stN_far m 0 rfl rfl fun v2 m e2 => ?_
    have oA := oA.far e2 fun b hb => by have := lA b hb; omega
    have oB := oB.far e2 fun b hb => by have := lB b hb; omega
    simp only [List.set_cons_zero, List.set_cons_succ] at m
    exact hgo m.1 (m.row 1 rfl) (m.row 0 rfl) (m.2.2.2 _ (List.mem_of_getElem? (i := 1) rfl)) (m.2.2.2 _ (List.mem_of_getElem? (i := 0) rfl)) (by omega) oA oB (fun b hb => by have := lA b hb; omega) (fun b hb => by have := lB b hb; omega)
   ·skip
    intro u21
    have m : Mem wB u21 _ := m.allocL (cs := rsC ⟨none, 0, 0⟩ 0 0 ⟨none, 0, 0⟩)
    have z21 : u18.heap.size < u21.heap.size := (m.row 0 rfl).lt
    have oA : OwR _ u21 _ _ _ _ _ := oA.fr Fr.alloc
    clear_value u21
    refine ⟨hSS m.1, ?_⟩
    refine Copy_spec (hT.fr m.1) (hN.fr m.1) exN_sm fun u22 tB nB csB f22 oB => ⟨hSS (m.1.t f22), ?_⟩
    have lB : ∀ b, (inB tB b \/ inB nB b \/ ∃ c ∈ csB, inB c.nx b) -> u21.heap.size <= b /\ b < u22.heap.size := fun b hb => ⟨oB.nw b hb, oB.lt b hb⟩
    have z22 : u21.heap.size <= u22.heap.size := f22.1
    have oA := oA.fr f22
    have m := m.fr f22
    refine stN_far m 1 rfl rfl fun v1 m e1 => ⟨hSS m.1, ?_⟩
    have oA := oA.far e1 fun b hb => by have := lA b hb; omega
    have oB := oB.far e1 fun b hb => by have := lB b hb; omega
    refine stN_far m 0 rfl rfl fun v2 m e2 => ?_
    have oA := oA.far e2 fun b hb => by have := lA b hb; omega
    have oB := oB.far e2 fun b hb => by have := lB b hb; omega
    simp only [List.set_cons_zero, List.set_cons_succ] at m
    exact hgo m.1 (m.row 1 rfl) (m.row 0 rfl) (m.2.2.2 _ (List.mem_of_getElem? (i := 1) rfl)) (m.2.2.2 _ (List.mem_of_getElem? (i := 0) rfl)) (by omega) oA oB (fun b hb => by have := lA b hb; omega) (fun b hb => by have := lB b hb; omega)
  ·skip
   intro u23
   have m : Mem wB u23 _ := m.allocL (cs := rsC ⟨none, 0, 0⟩ 0 0 ⟨none, 0, 0⟩)
   have z23 : u17.heap.size < u23.heap.size := (m.row 0 rfl).lt
   clear_value u23
   refine ⟨hSS m.1, ?_⟩
   refine Copy_spec (hT.fr m.1) (hN.fr m.1) exN_sm fun u24 tA nA csA f24 oA => ⟨hSS (m.1.t f24), ?_⟩
   have lA : ∀ b, (inB tA b \/ inB nA b \/ ∃ c ∈ csA, inB c.nx b) -> u23.heap.size <= b /\ b < u24.heap.size := fun b hb => ⟨oA.nw b hb, oA.lt b hb⟩
   have z24 : u23.heap.size <= u24.heap.size := f24.1
   have m := m.fr f24
   refine Copy_spec (hT.fr m.1) (hN.fr m.1) exN_sm fun u25 tB nB csB f25 oB => ⟨hSS (m.1.t f25), ?_⟩
   have lB : ∀ b, (inB tB b \/ inB nB b \/ ∃ c ∈ csB, inB c.nx b) -> u24.heap.size <= b /\ b < u25.heap.size := fun b hb => ⟨oB.nw b hb, oB.lt b hb⟩
   have z25 : u24.heap.size <= u25.heap.size := f25.1
   have oA := oA.fr f25
   have m := m.fr f25
   refine stN_far m 1 rfl rfl fun v1 m e1 => ⟨hSS m.1, ?_⟩
   have oA := oA.far e1 fun b hb => by have := lA b hb; omega
   have oB := oB.far e1 fun b hb => by have := lB b hb; omega
   refine stN_far m 0 rfl rfl fun v2 m e2 => ?_
   have oA := oA.far e2 fun b hb => by have := lA b hb; omega
   have oB := oB.far e2 fun b hb => by have := lB b hb; omega
   simp only [List.set_cons_zero, List.set_cons_succ] at m
   exact hgo m.1 (m.row 1 rfl) (m.row 0 rfl) (m.2.2.2 _ (List.mem_of_getElem? (i := 1) rfl)) (m.2.2.2 _ (List.mem_of_getElem? (i := 0) rfl)) (by omega) oA oB (fun b hb => by have := lA b hb; omega) (fun b hb => by have := lB b hb; omega)
 ·skip
  intro u26
  have m : Mem wB u26 _ := m.allocL (cs := rsC ⟨none, 0, 0⟩ 0 0 ⟨none, 0, 0⟩)
  have z26 : w47.heap.size < u26.heap.size := (m.row 0 rfl).lt
  clear_value u26
  refine ⟨hSS m.1, ?_⟩
  refine ⟨?_, ?_⟩
  ·skip
   refine Copy_spec (hT.fr m.1) (hN.fr m.1) exN_sm fun u27 tA nA csA f27 oA => ⟨hSS (m.1.t f27), ?_⟩
   have lA : ∀ b, (inB tA b \/ inB nA b \/ ∃ c ∈ csA, inB c.nx b) -> u26.heap.size <= b /\ b < u27.heap.size := fun b hb => ⟨oA.nw b hb, oA.lt b hb⟩
   have z27 : u26.heap.size <= u27.heap.size := f27.1
   have m := m.fr f27
   refine ⟨?_, ?_⟩
   ·skip
    refine Copy_spec (hT.fr m.1) (hN.fr m.1) exN_sm fun u28 tB nB csB f28 oB => ⟨hSS (m.1.t f28), ?_⟩
    have lB : ∀ b, (inB tB b \/ inB nB b \/ ∃ c ∈ csB, inB c.nx b) -> u27.heap.size <= b /\ b < u28.heap.size := fun b hb => ⟨oB.nw b hb, oB.lt b hb⟩
    have z28 : u27.heap.size <= u28.heap.size := f28.1
    have oA := oA.fr f28
    have m := m.fr f28
    intro u29
    have m : Mem wB u29 _ := m.allocL (cs := rsC ⟨none, 0, 0⟩ 0 0 ⟨none, 0, 0⟩)
    have z29 : u28.heap.size < u29.heap.size := (m.row 0 rfl).lt
    have oA : OwR _ u29 _ _ _ _ _ := oA.fr Fr.alloc
    have oB : OwR _ u29 _ _ _ _ _ := oB.fr Fr.alloc
    clear_value u29
    refine ⟨hSS m.1, ?_⟩
    refine stN_far m 0 rfl rfl fun v1 m e1 => ⟨hSS m.1, ?_⟩
    have oA := oA.far e1 fun b hb => by have := lA b hb; omega
    have oB := oB.far e1 fun b hb => by have := lB b hb; omega
    refine stN_far m 1 rfl rfl fun v2 m e2 => ?_
    have oA := oA.far e2 fun b hb => by have := lA b hb; omega
    have oB := oB.far e2 fun b hb => by have := lB b hb; omega
    simp only [List.set_cons_zero, List.set_cons_succ] at m
    exact hgo m.1 (m.row 0 rfl) (m.row 1 rfl) (m.2.2.2 _ (List.mem_of_getElem? (i := 0) rfl)) (m.2.2.2 _ (List.mem_of_getElem? (i := 1) rfl)) (by omega) oA oB (fun b hb => by have := lA b hb; omega) (fun b hb => by have := lB b hb; omega)
   ·skip
    intro u30
    have m : Mem wB u30 _ := m.allocL (cs := rsC ⟨none, 0, 0⟩ 0 0 ⟨none, 0, 0⟩)
    have z30 : u27.heap.size < u30.heap.size := (m.row 0 rfl).lt
    have oA : OwR _ u30 _ _ _ _ _ := oA.fr Fr.alloc
    clear_value u30
    refine ⟨hSS m.1, ?_⟩
    refine Copy_spec (hT.fr m.1) (hN.fr m.1) exN_sm fun u31 tB nB csB f31 oB => ⟨hSS (m.1.t f31), ?_⟩
    have lB : ∀ b, (inB tB b \/ inB nB b \/ ∃ c ∈ csB, inB c.nx b) -> u30.heap.size <= b /\ b < u31.heap.size := fun b hb => ⟨oB.nw b hb, oB.lt b hb⟩
    have z31 : u30.heap.size <= u31.heap.size := f31.1
    have oA := oA.fr f31
    have m := m.fr f31
    refine stN_far m 0 rfl rfl fun v1 m e1 => ⟨hSS m.1, ?_⟩
    have oA := oA.far e1 fun b hb => by have := lA b hb; omega
    have oB := oB.far e1 fun b hb => by have := lB b hb; omega
    refine stN_far m 1 rfl rfl fun v2 m e2 => ?_
    have oA := oA.far e2 fun b hb => by have := lA b hb; omega
    have oB := oB.far e2 fun b hb => by have := lB b hb; omega
    simp only [List.set_cons_zero, List.set_cons_succ] at m
    exact hgo m.1 (m.row 0 rfl) (m.row 1 rfl) (m.2.2.2 _ (List.mem_of_getElem? (i := 0) rfl)) (m.2.2.2 _ (List.mem_of_getElem? (i := 1) rfl)) (by omega) oA oB (fun b hb => by have := lA b hb; omega) (fun b hb => by have := lB b hb; omega)
  ·skip
   intro u32
   have m : Mem wB u32 _ := m.allocL (cs := rsC ⟨none, 0, 0⟩ 0 0 ⟨none, 0, 0⟩)
   have z32 : u26.heap.size < u32.heap.size := (m.row 0 rfl).lt
   clear_value u32
   refine ⟨hSS m.1, ?_⟩
   refine Copy_spec (hT.fr m.1) (hN.fr m.1) exN_sm fun u33 tA nA csA f33 oA => ⟨hSS (m.1.t f33), ?_⟩
   have lA : ∀ b, (inB tA b \/ inB nA b \/ ∃ c ∈ csA, inB c.nx b) -> u32.heap.size <= b /\ b < u33.heap.size := fun b hb => ⟨oA.nw b hb, oA.lt b hb⟩
   have z33 : u32.heap.size <= u33.heap.size := f33.1
   have m := m.fr f33
   refine Copy_spec (hT.fr m.1) (hN.fr m.1) exN_sm fun u34 tB nB csB f34 oB => ⟨hSS (m.1.t f34), ?_⟩
   have lB : ∀ b, (inB tB b \/ inB nB b \/ ∃ c ∈ csB, inB c.nx b) -> u33.heap.size <= b /\ b < u34.heap.size := fun b hb => ⟨oB.nw b hb, oB.lt b hb⟩
   have z34 : u33.heap.size <= u34.heap.size := f34.1
   have oA := oA.fr f34
   have m := m.fr f34
   refine stN_far m 0 rfl rfl fun v1 m e1 => ⟨hSS m.1, ?_⟩
   have oA := oA.far e1 fun b hb => by have := lA b hb; omega
   have oB := oB.far e1 fun b hb => by have := lB b hb; omega
   refine stN_far m 1 rfl rfl fun v2 m e2 => ?_
   have oA := oA.far e2 fun b hb => by have := lA b hb; omega
   have oB := oB.far e2 fun b hb => by have := lB b hb; omega
   simp only [List.set_cons_zero, List.set_cons_succ] at m
   exact hgo m.1 (m.row 0 rfl) (m.row 1 rfl) (m.2.2.2 _ (List.mem_of_getElem? (i := 0) rfl)) (m.2.2.2 _ (List.mem_of_getElem? (i := 1) rfl)) (by omega) oA oB (fun b hb => by have := lA b hb; omega) (fun b hb => by have := lB b hb; omega)
end
end Go.Proofs.YtfpobpjandjhjaaGreatDoor
namespace Go.Proofs.YtfpobpjandjhjaaGreatDoor
open Go Pw
section
variable {w w' w0 : World} {s0 s1 s2 s5 : Sl} {p : Pr} {f : List Int}
theorem prefix22_mk {K : Sl -> World -> Prop} (hp : RightPr p) (hP : PV w s0 s1 s2 p) (hf : VI w s5 f)
  (hK : ∀ w' s T, Mk w 1 (ie .i64 (id : Int -> Int)) w' s T -> T.length <= 12 -> K s w') : z18_sh s0 s1 s2 p.most p.budget s5 K w := by
 have e0 := hP.lots.len
 have e1 := hP.ch.len
 have e5 := hf.len
 have hfew := hp.few
 have hchs := hp.chs
 refine ⟨?_⟩
 unfold z18_sd
 intro w1
 have m : Mem w w1 _ := Mem.nil.allocL (cs := prC s0 s1 s2 p.most p.budget)
 clear_value w1
 have h : Sp w w1 _ _ _ 1 (ie .i64 (id : Int -> Int)) ⟨none, 0, 0⟩ [] := Sp.start m
 refine ⟨⟨fun out k u => ∃ (k' : Nat) (T : List Int), k = k' /\ k' <= f.length /\ T.length = k' /\ k' <= p.lots.length /\ Sp w u [(w.heap.size, prC s0 s1 s2 p.most p.budget)] (fun _ => False) (fun _ => True) 1 (ie .i64 (id : Int -> Int)) out T, fun _ k _ => f.length - k.toNat, ⟨0, [], rfl, by omega, rfl, by omega, h⟩, ?_⟩⟩
 clear h
 rintro out k u ⟨k, T, rfl, hk, hT, hkl, h⟩
 unfold z18_b0
 refine cnd_prop.2 ⟨fun hlt => ⟨s0, h.ld 0 rfl rfl, cnd_prop.2 ⟨fun hlt2 => ?_, fun _ => hK u out T h.mk'' (by omega)⟩⟩, fun _ => hK u out T h.mk'' (by omega)⟩
 have hkf : k < f.length := by omega
 have hkl : k < p.lots.length := by omega
 intro w3
 have hmk : Mk u 1 (ie .i64 (id : Int -> Int)) w3 ⟨some ⟨u.heap.size, 0, none⟩, 1, 1⟩ [-1] := Mk.new Fr.refl rfl rfl
 have g : Sp w w3 _ _ _ _ _ _ _ := Sp.nextMk h hmk
 clear_value w3
 refine ⟨s1, g.ld 0 rfl rfl, ?_⟩
 refine ⟨⟨fun sm i v => ∃ (i' : Nat) (S : List Int), i = i' /\ i' <= p.ch.length /\ 0 < S.length /\ S.length <= i' + 1 /\ Sp w v [(w.heap.size, prC s0 s1 s2 p.most p.budget)] (fun b => False \/ inB out b) (fun w => True /\ Ow 1 (ie .i64 (id : Int -> Int)) w out T) 1 (ie .i64 (id : Int -> Int)) sm S, fun _ i _ => p.ch.length - i.toNat, ⟨0, [-1], rfl, by omega, by simp, by simp, g⟩, ?_⟩⟩
 clear g hmk
 rintro sm i v ⟨i, S, rfl, hi, hS0, hS1, g⟩
 unfold z18_b1
 refine cnd_prop.2 ⟨fun hlt3 => ?_, fun hge => ?_⟩
 ·have hic : i < p.ch.length := by omega
  refine VC.ld (hP.fr g.m.1).ch i rfl hic fun x hc => ?_
  obtain ⟨c0, c1, c2, c3⟩ := hc v Fr.refl
  refine ⟨_, c0, _, c1, _, c2, _, c3, ?_⟩
  intro w10
  have g : Sp w w10 _ _ _ _ _ _ _ := g.allocL (vs := [.int .i64 0, .int .i64 0, .int .i64 0, .int .i64 0])
  clear_value w10
  refine stN_sp g 0 rfl rfl fun w11 g => ?_
  simp only [List.set_cons_zero] at g
  intro w12
  have g : Sp w w12 _ _ _ _ _ _ _ := g.drew
  clear_value w12
  refine ⟨_, g.ld 0 rfl rfl, s0, g.ld 1 rfl rfl, VI.ld (hP.fr g.m.1).lots k rfl hkl (cnd_beq.2 ⟨fun _ => ?_, fun _ => ?_⟩)⟩
  ·intro w17
   refine g.push (a := (i : Int)) rfl rfl (ie_ok _ _) rfl (by simp; omega) (by simp; omega) fun r w19 g => ?_
   have g : Sp w w19 [(w.heap.size, prC s0 s1 s2 p.most p.budget)] _ _ _ _ _ _ := g.dr 1 rfl
   exact ⟨inR64 (by omega) (by omega), ⟨⟨rfl, rfl, rfl, rfl, rfl, rfl, trivial⟩, i + 1, _, by omega, by omega, by simp, by simp; omega, g⟩, by dsimp only; omega⟩
  ·have g : Sp w w12 [(w.heap.size, prC s0 s1 s2 p.most p.budget)] _ _ _ _ _ _ := g.dr 1 rfl
   exact ⟨inR64 (by omega) (by omega), ⟨⟨rfl, rfl, rfl, rfl, rfl, rfl, trivial⟩, i + 1, _, by omega, by omega, hS0, by omega, g⟩, by dsimp only; omega⟩
 ·have es := g.ow.vw.len
  refine VI.ld (hf.fr g.m.1) k rfl hkf (rMod_spec (by omega) (by omega) fun r hr0 hr1 => ?_)
  obtain ⟨r, rfl⟩ := Int.eq_ofNat_of_zero_le hr0
  refine VI.ld g.ow.vw r rfl (by omega) ?_
  have g := g.back Rests.top (fun b _ h => h)
  intro w26
  refine g.push (a := S[r]'(by omega)) rfl rfl (ie_ok _ _) rfl (by omega) (by omega) fun r' w28 g => ?_
  exact ⟨inR64 (by omega) (by omega), ⟨⟨rfl, rfl, trivial⟩, k + 1, _, by omega, by omega, by simp [hT], by omega, g.say Rests.top (fun _ h => h.elim) fun _ => trivial⟩, by dsimp only; omega⟩
end
end Go.Proofs.YtfpobpjandjhjaaGreatDoor
namespace Go.Proofs.YtfpobpjandjhjaaGreatDoor
open Go Pw
section
variable {p : Pr} {T : List Int} {N : List Nd}
theorem closedB_closed {f : List Int} {a b : Int} (hp : RightPr p) (hT : Perm p T) (h : closedB p f a b T = true) : Closed (upB p) p f a b T := by
 unfold closedB at h
 simp only [Bool.or_eq_true, Bool.and_eq_true, decide_eq_true_eq] at h
 rcases h with h | h | ⟨hl, h⟩ | h
 ·exact .inl (crowdB_iff.1 h)
 ·exact .inr (.inl h)
 ·refine .inr (.inr (.inl ⟨hl, fun ⟨h1, h2⟩ => ?_⟩))
  unfold betterR at h
  rw [rightB_iff.2 hp, permB_iff.2 h1, permB_iff.2 hT, btB_iff.2 h2] at h
  cases h
 ·refine .inr (.inr (.inr ?_))
  cases ho : (if (rightB p && decsB p p.lots f) = true then upB p f a b else none) with
  | none =>
   unfold boundB upR at h
   rw [ho] at h
   simp at h
  | some n =>
   unfold boundB upR at h
   rw [ho] at h
   simp at h
   refine ⟨n, ?_, h⟩
   split at ho
   ·exact ho
   ·cases ho
theorem walk_sound (hp : RightPr p) (hT : Perm p T) {t : List Int} (ht : Perm p t) : ∀ (ls ds f : List Int) (n : Int) (seen : List Bool), p.lots = ds ++ ls -> f.length = ds.length -> f <+: t -> (walkB p N T ls f n seen).1 = true -> ¬ Bt p t T := by
 intro ls
 induction ls with
 | nil =>
  intro ds f n seen hl hf hft hw
  unfold walkB at hw
  split at hw
  ·cases hw
  ·split at hw
   ·cases hw
   ·split at hw
    ·exact closed_sound hp (upB_good hp) (closedB_closed hp hT hw) hft ht
    ·cases hw
 | cons lot ls ih =>
  intro ds f n seen hl hf hft hw
  unfold walkB at hw
  split at hw
  ·cases hw
  ·split at hw
   ·cases hw
   ·split at hw
    ·exact closed_sound hp (upB_good hp) (closedB_closed hp hT hw) hft ht
    ·simp only at hw
     split at hw
     ·cases hw
     ·rename_i x _ _ _ hc
      have hlen : x.next.length = (opts p lot).length := by
       by_cases h : x.next.length = (opts p lot).length
       ·exact h
       ·exact absurd (.inr h) hc
      have hflt : f.length < t.length := by rw [ht.1, hl, hf]; simp
      have hsn : f ++ [t[f.length]] <+: t := by
       obtain ⟨r, rfl⟩ := hft
       cases r with
       | nil => simp at hflt
       | cons y r => exact ⟨r, by simp⟩
      have hdo : t[f.length] ∈ opts p lot := by
       refine opts_mem.2 ?_
       have hd := ht.2.1
       obtain ⟨lt', h1, h2⟩ := dec_at p.lots t f.length t[f.length] hd (List.getElem?_eq_getElem hflt)
       rw [hl, hf] at h1
       simp at h1
       rw [h1]
       exact h2
      have key : ∀ (os ks : List Int) (sq : List Bool), ks.length = os.length -> (kidsB (walkB p N T ls) n f os ks sq).1 = true -> ∀ o ∈ os, ∃ k sq', (walkB p N T ls (f ++ [o]) k sq').1 = true := by
       intro os
       induction os with
       | nil => intro ks sq _ _ o ho; cases ho
       | cons o os iho =>
        intro ks sq hl h o' ho'
        cases ks with
        | nil => simp at hl
        | cons k ks =>
         unfold kidsB at h
         split at h
         ·cases h
         ·split at h
          ·rename_i hk
           rcases List.mem_cons.1 ho' with rfl | ho'
           ·exact ⟨k, sq, hk⟩
           ·exact iho ks _ (by simpa using hl) h o' ho'
          ·cases h
      obtain ⟨k, sq', hk⟩ := key _ _ _ hlen hw _ hdo
      exact ih (ds ++ [lot]) (f ++ [t[f.length]]) k sq' (by rw [hl]; simp) (by simp [hf]) hsn hk
theorem proof_sound (h : proofB p N T = true) : RightPr p /\ IsBest p T := by
 unfold proofB at h
 simp only [Bool.and_eq_true] at h
 obtain ⟨⟨hr, hT⟩, hw, _⟩ := h
 have hp := rightB_iff.1 hr
 have hT := permB_iff.1 hT
 exact ⟨hp, hT, fun u hu => walk_sound hp hT hu p.lots [] [] 0 _ rfl rfl (List.nil_prefix) hw⟩
theorem chk_best {pts bnd : Int} (h : chkP p T pts bnd N = 0) : RightPr p /\ IsBest p T := by
 unfold chkP at h
 split at h
 ·split at h
  ·rename_i hc
   simp only [Bool.and_eq_true] at hc
   exact proof_sound hc.2.2.2
  ·cases h
 ·cases h
end
end Go.Proofs.YtfpobpjandjhjaaGreatDoor
