/- DependKeeps. Conditions: none. -/
import Derived.Test.YtfkmpbpkahcogaaGreatDoorDRTX
import Derived.Test.YtfkmpbpkahcogaaGreatDoorDL7
namespace Go.Proofs.YtfkmpbpkahcogaaGreatDoor
open Go Pw Dp
section
variable {w w' u w0 : World} {x : T29} {p : Pn} {K : Bool -> World -> Prop}
def WR (lo hi : Nat) (u : World) (s : Sl) : Prop := s.l = 0 \/ ∃ b cs, s.p = some ⟨b, 0, none⟩ /\ Row u b cs /\ s.l <= cs.length /\ lo <= b /\ b < hi
theorem WR.fr {lo hi : Nat} {s : Sl} (h : WR lo hi w s) (hf : Fr F0 w w') : WR lo hi w' s := by
 rcases h with h | ⟨b, cs, h1, h2, h3, h4, h5⟩
 ·exact .inl h
 ·exact .inr ⟨b, cs, h1, hf.row h2 fun h => h, h3, h4, h5⟩
theorem WR.set {lo hi b i : Nat} {v : Value} {s : Sl} (h : WR lo hi w s) : WR lo hi (w.setCell ⟨b, i, none⟩ v) s := by
 rcases h with h | ⟨c, cs, h1, h2, h3, h4, h5⟩
 ·exact .inl h
 ·by_cases e : c = b
  ·subst e
   exact .inr ⟨c, _, h1, h2.set i v, by simpa using h3, h4, h5⟩
  ·exact .inr ⟨c, cs, h1, (Fr.set (F := fun d => d = b) rfl).row h2 e, h3, h4, h5⟩
theorem wR_mk {lo hi : Nat} {s : Sl} {l : List B} (h : Mk w0 1 encB w s l) (h1 : lo <= w0.heap.size) (h2 : w.heap.size <= hi) : WR lo hi w s := by
 rcases h.ow.own.2 with ⟨_, h2, _⟩ | ⟨b, cs, h3, h4, h5, h6, _⟩
 ·exact .inl h2
 ·have := h.nw b ⟨_, h3, rfl⟩
  have := h4.lt
  exact .inr ⟨b, cs, h3, h4, by omega, by omega, by omega⟩
theorem Keeps_l1 {head : Bool} {ba bo ob j : Nat} {l : List Sl} {s : Sl} {N0 : Bool -> Addr -> Addr -> Sl -> Int -> Int -> World -> Prop} (hs : s ∈ l) (h : ∀ s ∈ l, WR w0.heap.size ob w s) (hr : Row w ob (l.flatMap encZ)) (hf : Fr F0 w0 w) (hj : j < 2 ^ 20) (hl : s.l < 2 ^ 62)
  (hN : ∀ u, Fr F0 w0 u -> Row u ob (l.flatMap encZ) -> (∀ s ∈ l, WR w0.heap.size ob u s) -> N0 head ⟨ba, 0, none⟩ ⟨bo, 0, none⟩ ⟨some ⟨ob, 0, none⟩, 5, 5⟩ 5 (j + 1) u) :
  probitylaw07_DependKeeps_l1 head ⟨ba, 0, none⟩ ⟨bo, 0, none⟩ s ⟨some ⟨ob, 0, none⟩, 5, 5⟩ 5 j (s.l : Int) 0 N0 K w := by
 refine ⟨⟨fun i u => ∃ i' : Nat, i = i' /\ i' <= s.l /\ Fr F0 w0 u /\ Row u ob (l.flatMap encZ) /\ ∀ s ∈ l, WR w0.heap.size ob u s, fun i _ => s.l - i.toNat, ⟨0, rfl, by omega, hf, hr, h⟩, ?_⟩⟩
 rintro i u ⟨i, rfl, hi, hf, hr, h⟩
 unfold probitylaw07_DependKeeps_b1
 refine cnd_prop.2 ⟨fun hlt => ?_, fun hge => ⟨inR64 (by omega) (by omega), hN u hf hr h⟩⟩
 rcases h s hs with h0 | ⟨b, cs, h1, h2, h3, h4, h5⟩
 ·omega
 ·rw [h1]
  refine ⟨⟨by omega, hlt⟩, ?_⟩
  rw [add_mk]
  refine ⟨h2.wr (by omega), ?_⟩
  have fs : Fr (fun c => c = b) u (u.setCell ⟨b, 0 + (i : Int).toNat * 1, none⟩ (Value.string (str [99, 104, 97, 110, 103, 101, 100]))) := Fr.set rfl
  refine ⟨inR64 (by omega) (by omega), ⟨⟨rfl, rfl, rfl, rfl, rfl, rfl, rfl, rfl, trivial⟩, i + 1, by omega, by omega, hf.trans fs fun c hc hlt => by omega, fs.row hr (by omega), fun s hs => (h s hs).set⟩, by dsimp only; omega⟩
theorem Keeps_spec {q0 q1 q2 : Int} (g : GlT w) (hp : PP w x p) (hf : PFit p) (hq : I64 q2) (hK : ∀ w', Fr F0 w w' -> K true w') : probitylaw07_DependKeeps_sh x q0 q1 q2 K w := by
 refine ⟨?_⟩
 unfold probitylaw07_DependKeeps_sd
 intro w1
 have m : Mem w w1 [(w.heap.size, x.cs)] := Mem.nil.allocL
 clear_value w1
 intro w2
 have m : Mem w w2 [(w1.heap.size, [.int .i64 q0, .int .i64 q1, .int .i64 q2]), (w.heap.size, x.cs)] := m.allocL
 clear_value w2
 refine sanity_spec (g.fr m.1) fun w3 f3 => ?_
 have m := m.fr f3
 intro w5
 have m := m.drew
 have m : Mem w w5 [(w1.heap.size, [.int .i64 q0, .int .i64 q1, .int .i64 q2]), (w.heap.size, x.cs)] := m
 clear_value w5
 have kbq := (m.row 0 rfl).lt
 generalize w1.heap.size = bq at m kbq
 have hR : ∀ {u : World}, Fr F0 w5 u -> Row u w.heap.size x.cs := fun f => (m.fr f).row 1 rfl
 have hP : ∀ {u : World}, Fr F0 w5 u -> PP u x p := fun f => hp.fr (m.1.t f)
 refine ⟨fun u => Fr F0 w5 u, Fr.refl, T29.lds_row (fun u hu => hR hu) (T29.lds_row (fun u hu => hR hu) ⟨fun u u' h hs => hs.t h.f0, ⟨fun u => ExtL.alloc, fun u => ExtL.alloc, trivial⟩, fun w9 e9 => ?_⟩)⟩
 refine TenderW_spec (hP e9.f0) hf fun w10 r11 Z1 f10 T1 O1 => ⟨f10.ext, fun w12 e12 => ?_⟩
 have f12 := e9.f0.t (f10.t e12.f0)
 refine TenderW_spec (hP f12) hf fun w13 r14 Z2 f13 T2 O2 => ⟨f13.ext, fun w15 e15 w16 e16 _ g16 w17 e17 n17 g17 => ?_⟩
 have f15 := f12.t (f13.t e15.f0)
 have ga := e12.f0.t (f13.t e15.f0)
 have r16 := g16.f0.row (Row.new (cs := zT)) fun h => h
 have r17 := g17.f0.row (Row.new (cs := zT)) fun h => h
 have hne : w16.heap.size ≠ w17.heap.size := n17 _ (List.mem_cons_self ..)
 have l16 := e16.f0.1
 have l17 := e17.f0.1
 have c16 := r16.lt
 have c17 := r17.lt
 generalize w16.heap.size = ba at hne r16 l16 c16 ⊢
 generalize w17.heap.size = bo at hne r17 l17 c17 ⊢
 refine two_box r16 r17 hne (T1.fr ga) (O1.fr ga) (T2.fr e15.f0) (O2.fr e15.f0) (fun u f => f15.trans f fun b hb _ => by omega) fun w19 f19 v1 v2 U1 U2 => ?_
 have F19 : Fr F0 w5 w19 := f15.trans f19 fun b hb _ => by omega
 have m := m.fr F19
 refine T43.ld_row v1 ⟨_, m.ld (i := 0) 0 rfl rfl, _, m.ld (i := 1) 0 rfl rfl, _, m.ld (i := 2) 0 rfl rfl, ?_⟩
 have A1 := tdP_fitK hf
 refine Edit_spec U1 A1 fun w24 r25 f24 U3 => ?_
 have A2 := edit_fit (q0 := q0) (q1 := q1) A1 hq
 generalize editP (tdP p) q0 q1 q2 = tb at U3 A2
 intro w26
 have r26 : Row w26 w24.heap.size zT := Row.new
 have f26 : Fr F0 w24 w26 := Fr.alloc
 clear_value w26
 generalize hbb : w24.heap.size = bb at r26 ⊢
 refine stN_fr r26 rfl fun w27 f27 v3 => ?_
 have F27 : Fr F0 w24 w27 := f26.trans f27 fun c hc hlt => by omega
 intro w28
 have d28 : Fr F0 w27 w28 := Fr.drew
 clear_value w28
 have F28 := F27.t d28
 have G28 := f24.t F28
 have v1 := G28.row v1 fun h => h
 have v2 := G28.row v2 fun h => h
 have v3 := d28.row v3 fun h => h
 have U1 := U1.fr G28
 have U2 := U2.fr G28
 have U3 := U3.fr F28
 have g := g.fr (m.1.t G28)
 have hK : ∀ w', Fr F0 w28 w' -> K true w' := fun w' h => hK w' ((m.1.t G28).t h)
 have B1 := A1.fit
 have B2 := A2.fit
 clear m F19 f15 ga f12 e9 f10 e12 f13 e15 e16 g16 e17 g17 T1 T2 O1 O2 hR hP f19 f24 F27 d28 F28 G28 f26 f27 r26 r16 r17
 have R1 : ∀ {u : World}, Fr F0 w28 u -> Row u ba r11.cs := fun f => f.row v1 fun h => h
 have R3 : ∀ {u : World}, Fr F0 w28 u -> Row u bb r25.cs := fun f => f.row v3 fun h => h
 refine ⟨fun u => Fr F0 w28 u, Fr.refl, T43.lds_row (fun u hu => R1 hu) (T43.lds_row (fun u hu => R1 hu) (T43.lds_row (fun u hu => R1 hu) (T43.lds_row (fun u hu => R1 hu) (T43.lds_row (fun u hu => R3 hu) (T43.lds_row (fun u hu => R1 hu) (T43.lds_row (fun u hu => R3 hu) ?_))))))⟩
 have hcl := clauses_len (tdP p)
 have hcb := clauses_len tb
 have a1 := A1.small
 have a2 := A2.small
 have hbl : (both (tdP p) tb).length <= 2 ^ 30 := by
  have := foldB_len (clauses (tdP p)) (clauses tb)
  unfold both
  omega
 refine Clauses_spec U1 B1 g fun w37 s1 m1 => ⟨m1.fr0, ?_⟩
 refine Uses_spec (c := wForm) (U1.fr m1.fr0) B1 (g.fr m1.fr0) fun w39 s2 m2 => ⟨m1.fr0.t m2.fr0, ?_⟩
 have F39 := m1.fr0.t m2.fr0
 refine Uses_spec (c := wTies) (U1.fr F39) B1 (g.fr F39) fun w41 s3 m3 => ⟨F39.t m3.fr0, ?_⟩
 have F41 := F39.t m3.fr0
 refine Changed_spec (U1.fr F41) (U3.fr F41) B1 B2 (g.fr F41) fun w43 s4 m4 => ⟨F41.t m4.fr0, ?_⟩
 have F43 := F41.t m4.fr0
 refine Affected_spec (U1.fr F43) (U3.fr F43) B1 B2 (g.fr F43) fun w45 s5 m5 => ⟨F43.t m5.fr0, ?_⟩
 have F45 := F43.t m5.fr0
 intro w47
 have r47 : Row w47 w45.heap.size ([s1, s2, s3, s4, s5].flatMap encZ) := Row.new
 have f47 : Fr F0 w45 w47 := Fr.alloc
 clear_value w47
 have x1 := m1.fr0.1; have x2 := m2.fr0.1; have x3 := m3.fr0.1; have x4 := m4.fr0.1; have x5 := m5.fr0.1
 have hw : ∀ s ∈ [s1, s2, s3, s4, s5], WR w28.heap.size w45.heap.size w47 s /\ s.l < 2 ^ 62 := by
  intro s hs
  simp only [List.mem_cons, List.not_mem_nil, or_false] at hs
  have lu : ∀ c, (uses (tdP p) c).length <= (clauses (tdP p)).length := fun c => by
   unfold uses
   split
   ·exact List.length_filter_le _ _
   ·simp
  rcases hs with rfl | rfl | rfl | rfl | rfl
  ·exact ⟨(wR_mk m1 (Nat.le_refl _) (by omega)).fr ((m2.fr0.t (m3.fr0.t (m4.fr0.t m5.fr0))).t f47), by rw [m1.len]; omega⟩
  ·exact ⟨(wR_mk m2 x1 (by omega)).fr ((m3.fr0.t (m4.fr0.t m5.fr0)).t f47), by rw [m2.len]; have := lu wForm; omega⟩
  ·exact ⟨(wR_mk m3 (by omega) (by omega)).fr ((m4.fr0.t m5.fr0).t f47), by rw [m3.len]; have := lu wTies; omega⟩
  ·exact ⟨(wR_mk m4 (by omega) (by omega)).fr (m5.fr0.t f47), by rw [m4.len]; have : (changed (tdP p) tb).length <= _ := List.length_filter_le _ _; omega⟩
  ·exact ⟨(wR_mk m5 (by omega) (Nat.le_refl _)).fr f47, by rw [m5.len]; have : (affected (tdP p) tb).length <= _ := List.length_filter_le _ _; omega⟩
 refine ⟨F45.t f47, ?_⟩
 have F47 := F45.t f47
 clear m1 m2 m3 m4 m5 F39 F41 F43 F45 f47 x1 x2 x3 x4 x5
 generalize w45.heap.size = ob at r47 hw ⊢
 refine ⟨⟨fun i u => ∃ i' : Nat, i = i' /\ i' <= 5 /\ Fr F0 w28 u /\ Row u ob ([s1, s2, s3, s4, s5].flatMap encZ) /\ ∀ s ∈ [s1, s2, s3, s4, s5], WR w28.heap.size ob u s, fun i _ => 5 - i.toNat, ⟨0, rfl, by omega, F47, r47, fun s hs => (hw s hs).1⟩, ?_⟩⟩
 rintro i u ⟨i, rfl, hi, hf, hr, h⟩
 unfold probitylaw07_DependKeeps_b0
 refine cnd_prop.2 ⟨fun hlt => ?_, fun hge => ?_⟩
 ·have hi5 : i < [s1, s2, s3, s4, s5].length := by show i < 5; omega
  refine ldZ (Row.ow encZ_length (l := [s1, s2, s3, s4, s5]) hr).vw i rfl hi5 ?_
  have hm : [s1, s2, s3, s4, s5][i] ∈ [s1, s2, s3, s4, s5] := List.getElem_mem hi5
  refine Keeps_l1 hm h hr hf (by omega) (hw _ hm).2 fun u hf hr h => ⟨⟨rfl, rfl, rfl, rfl, rfl, trivial⟩, i + 1, by omega, by omega, hf, hr, h⟩ |> fun z => ⟨z, by dsimp only; omega⟩
 ·refine cnd_yes (T43.ld_row (R1 hf) (T43.ld_row (hf.row v2 fun h => h) ?_))
  refine Changed_spec (U1.fr hf) (U2.fr hf) B1 B1 (g.fr hf) fun w54 r55 m55 => ?_
  have hl := m55.len
  rw [changed_self] at hl
  refine cnd_beq.2 ⟨fun _ => ?_, fun hn => by simp at hl; omega⟩
  have F54 := hf.t m55.fr0
  refine ⟨r11.f11, by rw [add_mk]; exact (R1 F54).at (i := 11) rfl, r14.f11, by rw [add_mk]; exact (F54.row v2 fun h => h).at (i := 11) rfl, ?_⟩
  refine is_spec (U1.fr F54).ties (U2.fr F54).ties (by omega) fun w58 f58 => ?_
  rw [decide_eq_true rfl]
  exact hK w58 (F54.t f58)
theorem Keeps_fr {q0 q1 q2 : Int} (g : GlT w) (hp : PP w x p) (hf : PFit p) (hq : I64 q0 /\ I64 q1 /\ I64 q2) (hK : ∀ w', Fr F0 w w' -> K true w') : probitylaw07_DependKeeps_sh x q0 q1 q2 K w := Keeps_spec g hp hf hq.2.2 hK
end
end Go.Proofs.YtfkmpbpkahcogaaGreatDoor
