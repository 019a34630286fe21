/- ProofWhole. Conditions: none. -/
import Derived.Test.YtfpobpjandjhjaaGreatDoorPW3
import Derived.Test.YtfpobpjandjhjaaGreatDoorPEZ
namespace Go.Proofs.YtfpobpjandjhjaaGreatDoor
open Go Pw
section
variable {w w' w0 wB : World} {s s0 s1 s2 s5 sb ns : Sl} {p : Pr} {f l T : List Int} {N : List Nd} {pb rb : Nat}
theorem pts_best (hp : RightPr p) (hb : IsBest p T) : pointsR p (rightB p) (fitsB p T) T = ptsOf p T := by
 unfold pointsR
 rw [rightB_iff.2 hp, perm_fits (permB_iff.2 hb.1)]
 rfl
theorem chk_whole (hp : RightPr p) (hb : IsBest p T) (ht : TreeF p T N p.lots [] 0 N.length) (X : List Int) : ((chkP p X (pointsR p (rightB p) (fitsB p X) X) (pointsR p (rightB p) (fitsB p X) X) N == 0) == decide (X = T)) = true := by
 by_cases h : X = T
 ·subst h
  rw [pts_best hp hb, chkF hp hb ht rfl rfl, decide_eq_true rfl]
  rfl
 ·rw [decide_eq_false h]
  have : chkP p X (pointsR p (rightB p) (fitsB p X) X) (pointsR p (rightB p) (fitsB p X) X) N ≠ 0 := fun hz => h ((chk_best hz).2.uniq hb)
  rw [beq_eq_false_iff_ne.2 this]
  rfl
theorem Whole_k1 {K : Bool -> World -> Prop} (hp : RightPr p) (hP : PV wB s0 s1 s2 p) (hpr : Row wB pb (prC s0 s1 s2 p.most p.budget)) (hT : VI wB sb T) (hbest : IsBest p T) (hN : NV wB ns N) (ht : TreeF p T N p.lots [] 0 N.length) (hf : VI wB s5 f) (hfl : f.length * 8 <= 140737488351232)
  (m : Mem wB w [(rb, rsC sb (ptsOf p T) 0 ns)]) (hK : ∀ w', Fr F0 wB w' -> K true w') : z0d_k1 s5 true ⟨pb, 0, none⟩ sb ⟨rb, 0, none⟩ K w := by
 have hTl : T.length <= 12 := by rw [hbest.1.1]; exact hp.few
 refine ⟨?_⟩
 unfold z0d_k1d
 refine ⟨_, m.ld 0 rfl rfl, m.wr 0 rfl rfl, ?_⟩
 intro w48
 have m : Mem wB w48 [(rb, rsC sb (ptsOf p T) (ptsOf p T) ns)] := m.set 0 rfl
 clear_value w48
 refine ⟨sb, m.ld 0 rfl rfl, _, m.ld 0 rfl rfl, _, m.ld 0 rfl rfl, ns, m.ld 0 rfl rfl, ?_⟩
 refine stN_new rfl m fun w54 m => ?_
 intro w55
 have m : Mem wB w55 [(w48.heap.size, rsC sb (ptsOf p T) (ptsOf p T) ns), (rb, rsC sb (ptsOf p T) (ptsOf p T) ns)] := m.drew
 clear_value w55
 have hsl55 : w48.heap.size < w55.heap.size := (m.row 0 rfl).lt
 have hS : ∀ {u}, Fr F0 w55 u -> Row u pb (prC s0 s1 s2 p.most p.budget) := fun h => (m.1.t h).row hpr fun h => h
 refine ⟨fun u => Row u pb (prC s0 s1 s2 p.most p.budget), hS Fr.refl, s0, fun u hu => hu.at rfl, s1, fun u hu => hu.at rfl, s2, fun u hu => hu.at rfl, _, fun u hu => hu.at rfl, _, fun u hu => hu.at rfl, ?_⟩
 intro w62
 have h : Sp w55 w62 _ _ _ 1 (ie .i64 (id : Int -> Int)) _ _ := Sp.empty (fun a => ie_length _ _ a) Mem.nil
 clear_value w62
 have hm := h.mk''
 refine ⟨hS hm.fr0, hm.app (hf.fr (m.1.t hm.fr0)) (ie_ok _ _) rfl (by simp; omega) (by simp; omega) fun s63 w64 hm _ => ⟨hS hm.fr0, ?_⟩⟩
 rw [List.nil_append] at hm
 refine hm.appZ (z := (0 : Int)) (k := 12) rfl rfl (by omega) (by omega) fun s65 w66 hm => ⟨hS hm.fr0, ?_⟩
 have m := m.fr hm.fr0
 refine prefix22_mk hp (hP.fr m.1) hm.vw fun w67 y X hy hXl => ?_
 have m := m.fr hy.fr0
 have hyl := hy.nw
 have hsl : w48.heap.size < w66.heap.size := Nat.lt_of_lt_of_le hsl55 hm.fr0.1
 have hyb : ∀ b, inB y b -> b ≠ w48.heap.size := fun b hb he => by have := hyl b hb; omega
 refine ⟨m.wr 0 rfl rfl, ?_⟩
 intro w69
 have hv69 : VI w69 y X := hy.vw.frF (Fr.set (F := fun c => c = w48.heap.size) rfl) hyb
 have m : Mem wB w69 [(w48.heap.size, rsC y (ptsOf p T) (ptsOf p T) ns), (rb, rsC sb (ptsOf p T) (ptsOf p T) ns)] := m.set 0 rfl
 clear_value w69
 have hpr69 := m.1.row hpr fun h => h
 refine ⟨s0, hpr69.at rfl, s1, hpr69.at rfl, s2, hpr69.at rfl, _, hpr69.at rfl, _, hpr69.at rfl, y, m.ld 0 rfl rfl, refPoints_spec ⟨hP.fr m.1, hv69, by omega⟩ fun w76 f76 => ?_⟩
 have m := m.fr f76
 have hv76 := hv69.fr f76
 have hchk := chk_whole hp hbest ht X
 generalize pointsR p (rightB p) (fitsB p X) X = pt at *
 refine ⟨m.wr 0 rfl rfl, ?_⟩
 intro w78
 have hv78 : VI w78 y X := hv76.frF (Fr.set (F := fun c => c = w48.heap.size) rfl) hyb
 have m : Mem wB w78 [(w48.heap.size, rsC y pt (ptsOf p T) ns), (rb, rsC sb (ptsOf p T) (ptsOf p T) ns)] := m.set 0 rfl
 clear_value w78
 refine ⟨_, m.ld 0 rfl rfl, m.wr 0 rfl rfl, ?_⟩
 intro w80
 have hv80 : VI w80 y X := hv78.frF (Fr.set (F := fun c => c = w48.heap.size) rfl) hyb
 have m : Mem wB w80 [(w48.heap.size, rsC y pt pt ns), (rb, rsC sb (ptsOf p T) (ptsOf p T) ns)] := m.set 0 rfl
 clear_value w80
 refine ⟨y, m.ld 0 rfl rfl, Ints_spec hv80 (hT.fr m.1) (by omega) fun w82 f82 => cnd_iff.2 ⟨fun _ => ?_, fun h => by cases h⟩⟩
 have m := m.fr f82
 have hv82 := hv80.fr f82
 have hpr82 := m.1.row hpr fun h => h
 refine ⟨s0, hpr82.at rfl, s1, hpr82.at rfl, s2, hpr82.at rfl, _, hpr82.at rfl, _, hpr82.at rfl, sb, m.ld 1 rfl rfl, _, m.ld 1 rfl rfl, _, m.ld 1 rfl rfl, ns, m.ld 1 rfl rfl, ?_⟩
 refine pCheck_spec (hP.fr m.1) (hT.fr m.1) (by omega) (hN.fr m.1) fun w93 f93 => ?_
 rw [chkF hp hbest ht rfl rfl]
 refine cnd_beq.2 ⟨fun _ => ?_, fun h => absurd rfl h⟩
 have m := m.fr f93
 have hv93 := hv82.fr f93
 have hpr93 := m.1.row hpr fun h => h
 refine ⟨s0, hpr93.at rfl, s1, hpr93.at rfl, s2, hpr93.at rfl, _, hpr93.at rfl, _, hpr93.at rfl, y, m.ld 0 rfl rfl, _, m.ld 0 rfl rfl, _, m.ld 0 rfl rfl, ns, m.ld 0 rfl rfl, ?_⟩
 refine pCheck_spec (hP.fr m.1) hv93 (by omega) (hN.fr m.1) fun w104 f104 => ?_
 rw [hchk]
 exact hK w104 (m.1.t f104)
theorem Whole_k0 {K : Bool -> World -> Prop} (hp : RightPr p) (hpn : prefN p p.lots <= 2 ^ 19) (hP : PV w s0 s1 s2 p) (hpr : Row w pb (prC s0 s1 s2 p.most p.budget)) (hf : VI w s5 f) (hfl : f.length * 8 <= 140737488351232) (hK : ∀ w', Fr F0 w w' -> K true w') : z0d_k0 s5 true ⟨pb, 0, none⟩ K w := by
 have hbest := bF_best hp
 generalize hTd : bF p [] p.lots [] = T at hbest
 have hTl : T.length <= 12 := by rw [hbest.1.1]; exact hp.few
 refine ⟨?_⟩
 unfold z0d_k0d
 intro w17
 have m : Mem w w17 _ := Mem.nil.allocL (cs := [.slice none 0 0])
 clear_value w17
 intro w18
 have m : Mem w w18 _ := m.allocL (cs := [Value.nilFunc])
 clear_value w18
 refine ⟨m.wr 0 rfl rfl, ?_⟩
 intro w19
 have m : Mem w w19 (gRows w.heap.size pb w17.heap.size nilS) := m.set 0 rfl
 clear_value w19
 have no : ∀ b, ¬ blk nilS nilS [] b := fun b hb => by
  rcases hb with ⟨a, ha, _⟩ | ⟨a, ha, _⟩ | ⟨d, hd, _⟩
  ·cases ha
  ·cases ha
  ·cases hd
 have hG : G w w19 (gRows w.heap.size pb w17.heap.size nilS) [(nilS, [])] nilS [] [] :=
  ⟨m, ⟨⟨rfl, by simpa using OwnV.nil⟩, ⟨rfl, by simpa using OwnV.nil⟩, rfl, fun i d m hd => (by simp at hd), fun b hb => (no b hb).elim, fun b hb => (no b (.inl hb)).elim, fun d hd => (by cases hd), fun d hd => (by cases hd), List.Pairwise.nil⟩, fun _ _ h => no _ h, fun x hx => (by rw [List.mem_singleton.1 hx]; exact Vw.nil), fun x hx b hb => (by rw [List.mem_singleton.1 hx] at hb; exact (no b (.inl hb)).elim)⟩
 refine ⟨_, m.ld 0 rfl rfl, ?_⟩
 refine callV_of z05_ok ?_
 refine pgrow_ok hp hP hpr hbest p.lots [] [] w19 nilS [] [] nilS [] _ hG rfl rfl (by simp; omega) fun w22 ns cs N hG _ ht hl => ?_
 have ht : TreeF p T N p.lots [] 0 N.length := ht
 have hl : N.length = 0 + prefN p p.lots := hl
 refine ⟨_, rfl, ?_⟩
 have m := hG.m
 have hN : NV w22 ns N := hG.o.rd.nv (by omega)
 have hp22 := m.1.row hpr fun h => h
 refine ⟨s0, hp22.at rfl, s1, hp22.at rfl, s2, hp22.at rfl, _, hp22.at rfl, _, hp22.at rfl, refBest_spec hp (hP.fr m.1) fun w29 sb f29 hvb => ?_⟩
 rw [hTd] at hvb
 have m := m.fr f29
 have hN := hN.fr f29
 intro w31
 have m : Mem w w31 (gRows w.heap.size pb w17.heap.size ns) := m.drew
 have hvb : VI w31 sb T := hvb.fr Fr.drew
 have hN : NV w31 ns N := hN.fr Fr.drew
 clear_value w31
 have hS : ∀ {u}, Fr F0 w31 u -> Row u pb (prC s0 s1 s2 p.most p.budget) /\ Row u w.heap.size [.slice ns.p ns.l ns.c] := fun h => ⟨(m.1.t h).row hpr fun h => h, h.row (m.row 1 rfl) fun h => h⟩
 have hK31 : ∀ u, Fr F0 w31 u -> K true u := fun u hu => hK u (m.1.t hu)
 refine ⟨fun u => Row u pb (prC s0 s1 s2 p.most p.budget) /\ Row u w.heap.size [.slice ns.p ns.l ns.c], hS Fr.refl, s0, fun u hu => hu.1.at rfl, s1, fun u hu => hu.1.at rfl, s2, fun u hu => hu.1.at rfl, _, fun u hu => hu.1.at rfl, _, fun u hu => hu.1.at rfl, ns, fun u hu => hu.2.at rfl, ?_, ?_⟩
 ·refine refPoints_spec ⟨hP.fr m.1, hvb, by omega⟩ fun w39 f39 => ⟨hS f39, ?_⟩
  rw [pts_best hp hbest]
  intro w41
  have n : Mem w39 w41 [(w39.heap.size, rsC nilS 0 0 nilS)] := Mem.nil.allocL (cs := rsC nilS 0 0 nilS)
  clear_value w41
  refine ⟨hS (f39.t n.1), stN_at n 0 rfl rfl fun w42 n => ?_⟩
  exact Whole_k1 hp (hP.fr (m.1.t f39)) (hS f39).1 (hvb.fr f39) hbest (hN.fr f39) ht (hf.fr (m.1.t f39)) hfl n fun u hu => hK31 u (f39.t hu)
 ·intro w43
  have n : Mem w31 w43 [(w31.heap.size, rsC nilS 0 0 nilS)] := Mem.nil.allocL (cs := rsC nilS 0 0 nilS)
  clear_value w43
  refine ⟨hS n.1, refPoints_spec ⟨hP.fr (m.1.t n.1), hvb.fr n.1, by omega⟩ fun w44 f44 => ?_⟩
  rw [pts_best hp hbest]
  have n := n.fr f44
  refine ⟨hS n.1, stN_at n 0 rfl rfl fun w46 n => ?_⟩
  exact Whole_k1 hp (hP.fr m.1) (hS Fr.refl).1 hvb hbest hN ht (hf.fr m.1) hfl n hK31
theorem example22_mem {L : List (Nat × List Value)} {K : Sl -> Sl -> Sl -> Int -> Int -> World -> Prop} (m : Mem wB w L)
  (hK : ∀ w' b1 b2 x, Mem wB w' ((b2, exP22.ch.flatMap encC) :: (b1, [.int .i64 1]) :: x :: L) -> K ⟨some ⟨b1, 0, none⟩, 1, 1⟩ ⟨some ⟨b2, 0, none⟩, 2, 2⟩ ⟨none, 0, 0⟩ 0 8 w') : z0z_sh K w := by
 refine ⟨?_⟩
 unfold z0z_sd
 intro w1
 have m : Mem wB w1 _ := m.allocL (cs := [.slice none 0 0, .slice none 0 0, .slice none 0 0, .int .i64 0, .int .i64 0])
 clear_value w1
 intro w2
 have m : Mem wB w2 _ := m.allocL (cs := [.int .i64 1])
 clear_value w2
 intro w3
 have m : Mem wB w3 _ := m.allocL (cs := [.int .i64 1, .int .i64 5, .int .i64 7, .int .i64 3, .int .i64 1, .int .i64 6, .int .i64 9, .int .i64 4])
 clear_value w3
 refine stN_at m 2 rfl rfl fun w4 m => ?_
 simp only [List.set_cons_zero, List.set_cons_succ] at m
 exact ⟨⟨some ⟨w1.heap.size, 0, none⟩, 1, 1⟩, m.ld 2 rfl rfl, ⟨some ⟨w2.heap.size, 0, none⟩, 2, 2⟩, m.ld 2 rfl rfl, ⟨none, 0, 0⟩, m.ld 2 rfl rfl, _, m.ld 2 rfl rfl, _, m.ld 2 rfl rfl, hK w4 _ _ _ m⟩
theorem Whole_law {K : Bool -> World -> Prop} (g : GlT w) (hv : VI w s l) (hl : l.length < 2 ^ 63) (hf : VI w s5 f) (hfl : f.length * 8 <= 140737488351232) (hK : ∀ w', Fr F0 w w' -> K true w') : z0d_sh s s5 K w := by
 have hp := madeP_right l
 have hpn := made_prefN l
 refine ⟨?_⟩
 unfold z0d_sd
 refine sanity_spec g fun w1 f1 => ?_
 refine Made_spec (hv.fr f1) hl fun w3 s0 s1 s2 f3 hP => ?_
 have f3 := f1.t f3
 refine stN_new (w0 := w3) (l := []) rfl Mem.nil fun w6 m => ?_
 refine ⟨s0, m.ld 0 rfl rfl, s1, m.ld 0 rfl rfl, s2, m.ld 0 rfl rfl, _, m.ld 0 rfl rfl, _, m.ld 0 rfl rfl, ?_⟩
 refine Prefixes_spec (hP.fr m.1) (by omega) fun w12 f12 => ?_
 have m := m.fr f12
 refine cnd_prop.2 ⟨fun _ => ?_, fun _ => ?_⟩
 ·refine example22_mem m fun w14 b1 b2 x m => ?_
  refine stN_at m 3 rfl rfl fun w16 m => ?_
  simp only [List.set_cons_zero, List.set_cons_succ] at m
  refine Whole_k0 (p := exP22) (rightB_iff.1 (by decide +kernel)) (by decide) ⟨(Row.ow (fun a => ie_length _ _ a) (l := [(1 : Int)]) (m.row 1 rfl)).vw, (Row.ow (fun a => encC_length a) (l := exP22.ch) (m.row 0 rfl)).vw, ⟨[], Vw.nil, rfl, fun x hx => by cases hx⟩, by simp [exP22], by simp [exP22], by simp [exP22]⟩ (m.row 3 rfl) (hf.fr (f3.t m.1)) hfl fun u hu => hK u (f3.t (m.1.t hu))
 ·exact Whole_k0 hp (by omega) (hP.fr m.1) (m.row 0 rfl) (hf.fr (f3.t m.1)) hfl fun u hu => hK u (f3.t (m.1.t hu))
theorem Whole_fr {K : Bool -> World -> Prop} (g : GlT w) (hv : VI w s l) (hl : l.length < 2 ^ 63) (hf : VI w s5 f) (_ : f.length < 2 ^ 63) (hfl : f.length * 8 <= 140737488351232) (hK : ∀ w', Fr F0 w w' -> K true w') : z0d_sh s s5 K w := Whole_law g hv hl hf hfl hK
end
end Go.Proofs.YtfpobpjandjhjaaGreatDoor
