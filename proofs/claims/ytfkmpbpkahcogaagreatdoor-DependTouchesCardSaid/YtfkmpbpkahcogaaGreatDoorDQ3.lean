/- DependTouches. Conditions: none. -/
import Derived.Test.YtfkmpbpkahcogaaGreatDoorDRTY
import Derived.Test.YtfkmpbpkahcogaaGreatDoorDP3
import Derived.Test.YtfkmpbpkahcogaaGreatDoorDL6
namespace Go.Proofs.YtfkmpbpkahcogaaGreatDoor
open Go Pw Dp
section
variable {w w' u w0 : World} {x : T29} {y z : T43} {ta tb : Td} {p : Pn} {K : Bool -> World -> Prop}
theorem wr_small {n : Nat} (h : n < 2 ^ 40) : IntKind.wrap .i64 ((n : Int) + 1) = ((n + 1 : Nat) : Int) := by rw [wrap64_in (by omega) (by omega)]; omega
theorem Touches_k4_spec {ba bo bc : Nat} {ls : Sl} {lots : List Int} {yc : T43} {tc : Td} (ra : Row w ba y.cs) (rb : Row w bo z.cs) (rc : Row w bc yc.cs) (Ua : TP w y ta) (Ub : TP w z tb) (Uc : TP w yc tc) (hA : Fit ta) (hB : Fit tb) (hC : Fit tc) (hal : Akin ta tc) (g : GlT w) (hv : Vw 1 encI w ls lots) (hl : lots.length < 2 ^ 62) (hi : ∀ i ∈ lots, I64 i) (hK : ∀ w', Fr F0 w w' -> K true w') :
  probitylaw07_DependTouches_k4 ls true ⟨ba, 0, none⟩ ⟨bo, 0, none⟩ (touches ta tb lots) ⟨bc, 0, none⟩ K w := by
 refine ⟨?_⟩
 unfold probitylaw07_DependTouches_k4d
 refine cnd_yes (T43.ld_row ra (T43.ld_row rb ?_))
 refine Touches_spec Ua Ub hA hB g hv hl hi fun w77 f77 => ?_
 rw [beq_self_eq_true]
 refine cnd_yes (T43.ld_row (f77.row ra fun h => h) (T43.ld_row (f77.row rc fun h => h) ?_))
 refine Touches_spec (Ua.fr f77) (Uc.fr f77) hA hC (g.fr f77) (hv.fr f77) hl hi fun w81 f81 => ?_
 rw [touches_quiet hal]
 exact hK w81 (f77.t f81)
def TC (w0 u : World) (bc : Nat) (ta : Td) (k : Nat) (yc : T43) : Prop :=
 ∃ (B : Nat -> Prop) (Q : World -> Prop) (Z : List Sl) (tc : Td), Sp w0 u [(bc, yc.cs)] B Q 1 encZ yc.f13 Z /\ (∀ v, Q v -> TP0 v yc tc /\ InZ v Z tc.combos) /\ Akin ta tc /\ FitK k tc
theorem Touches_l3_spec {ba bo bc : Nat} {es ls : Sl} {el : List (Int × Int × Int)} {lots : List Int} {yc : T43} (ra : Row w0 ba y.cs) (rb : Row w0 bo z.cs) (Ua : TP w0 y ta) (Ub : TP w0 z tb) (hA : Fit ta) (hB : Fit tb) (hc : TC w0 w bc ta 10 yc) (g : GlT w0) (he : Vw 3 encT3 w0 es el) (hei : ∀ e ∈ el, I64 e.1 /\ I64 e.2.1 /\ I64 e.2.2)
  (hv : Vw 1 encI w0 ls lots) (hl : lots.length < 2 ^ 62) (hi : ∀ i ∈ lots, I64 i) (hK : ∀ w', Fr F0 w0 w' -> K true w') :
  probitylaw07_DependTouches_l3 es ls true ⟨ba, 0, none⟩ ⟨bo, 0, none⟩ (touches ta tb lots) ⟨bc, 0, none⟩ 0 K w := by
 have eel := he.len
 refine ⟨⟨fun i u => ∃ (i' : Nat) (yc : T43), i = i' /\ i' <= 4 /\ TC w0 u bc ta (10 - i') yc, fun i _ => 4 - i.toNat, ⟨0, yc, rfl, by omega, hc⟩, ?_⟩⟩
 rintro i u ⟨i, yc, rfl, h4, B, Q, Z, tc, h, hQ, hal, hC⟩
 unfold probitylaw07_DependTouches_b3
 have hend : probitylaw07_DependTouches_k4 ls true ⟨ba, 0, none⟩ ⟨bo, 0, none⟩ (touches ta tb lots) ⟨bc, 0, none⟩ K u := by
  have f := h.m.1
  obtain ⟨q1, q2⟩ := hQ u h.q
  exact Touches_k4_spec (f.row ra fun h => h) (f.row rb fun h => h) (h.row 0 rfl) (Ua.fr f) (Ub.fr f) (q1.tp ⟨Z, h.ow.vw, q2⟩) hA hB hC.fit hal (g.fr f) (hv.fr f) hl hi fun w' f' => hK w' (f.t f')
 refine cnd_prop.2 ⟨fun h1 => cnd_prop.2 ⟨fun h2 => ?_, fun _ => hend⟩, fun _ => hend⟩
 have hlt : i < el.length := by omega
 have eE : ∀ {v : World}, Fr F0 w0 v -> Vw 3 encT3 v es el := fun f => he.fr f
 have hq := hei _ (List.getElem_mem hlt)
 have hZ := (hQ u h.q).2.1
 have hcm := hC.combos
 intro w45
 have h : Sp w0 w45 [(bc, yc.cs)] B Q 1 encZ yc.f13 Z := h.drew
 clear_value w45
 refine ⟨fun v => v = w45, rfl, _, fun v hv => by rw [hv, add_mk]; exact h.ld (i := 12) 0 rfl rfl, ?_⟩
 refine Vw.goS (S := fun v => v = w45) encT3_length (by decide) rfl (fun v hv => by rw [hv]; exact eE h.m.1) i rfl hlt fun a hc => ⟨⟨by decide, by decide⟩, _, hc 0 _ rfl, ?_⟩
 rw [add_mk]
 refine ⟨h.wr 0 rfl rfl, ?_⟩
 intro w50
 have h : Sp w0 w50 [(bc, T43.cs { yc with f12 := wr64 (yc.f12 + el[i].1) })] B Q 1 encZ yc.f13 Z := h.set 0 rfl
 clear_value w50
 intro w51
 have h : Sp w0 w51 [(bc, T43.cs { yc with f12 := wr64 (yc.f12 + el[i].1) })] B Q 1 encZ yc.f13 Z := h.drew
 clear_value w51
 refine ⟨fun v => v = w51, rfl, _, fun v hv => by rw [hv, add_mk]; exact h.ld (i := 14) 0 rfl rfl, ?_⟩
 refine Vw.goS (S := fun v => v = w51) encT3_length (by decide) rfl (fun v hv => by rw [hv]; exact eE h.m.1) i rfl hlt fun a hc => ⟨⟨by decide, by decide⟩, _, hc 1 _ rfl, ?_⟩
 rw [add_mk]
 refine ⟨h.wr 0 rfl rfl, ?_⟩
 intro w56
 have h : Sp w0 w56 [(bc, T43.cs { yc with f12 := wr64 (yc.f12 + el[i].1), f14 := wr64 (yc.f14 + el[i].2.1) })] B Q 1 encZ yc.f13 Z := h.set 0 rfl
 clear_value w56
 intro w57
 have h : Sp w0 w57 [(bc, T43.cs { yc with f12 := wr64 (yc.f12 + el[i].1), f14 := wr64 (yc.f14 + el[i].2.1) })] B Q 1 encZ yc.f13 Z := h.drew
 clear_value w57
 refine ⟨fun v => v = w57, rfl, _, fun v hv => by rw [hv, add_mk]; exact h.ld (i := 16) 0 rfl rfl, ?_⟩
 refine Vw.goS (S := fun v => v = w57) encT3_length (by decide) rfl (fun v hv => by rw [hv]; exact eE h.m.1) i rfl hlt fun a hc => ⟨⟨by decide, by decide⟩, _, hc 2 _ rfl, ?_⟩
 rw [add_mk]
 refine ⟨h.wr 0 rfl rfl, ?_⟩
 intro w62
 have h : Sp w0 w62 [(bc, T43.cs { yc with f12 := wr64 (yc.f12 + el[i].1), f14 := wr64 (yc.f14 + el[i].2.1), f16 := wr64 (yc.f16 + el[i].2.2) })] B Q 1 encZ yc.f13 Z := h.set 0 rfl
 clear_value w62
 intro w63
 have h : Sp w0 w63 [(bc, T43.cs { yc with f12 := wr64 (yc.f12 + el[i].1), f14 := wr64 (yc.f14 + el[i].2.1), f16 := wr64 (yc.f16 + el[i].2.2) })] B Q 1 encZ yc.f13 Z := h.drew
 clear_value w63
 have hS : Rs w63 [(bc, T43.cs { yc with f12 := wr64 (yc.f12 + el[i].1), f14 := wr64 (yc.f14 + el[i].2.1), f16 := wr64 (yc.f16 + el[i].2.2) })] /\ Vw 3 encT3 w63 es el := ⟨h.sub 0 rfl, eE h.m.1⟩
 refine ⟨fun v => Rs v [(bc, T43.cs { yc with f12 := wr64 (yc.f12 + el[i].1), f14 := wr64 (yc.f14 + el[i].2.1), f16 := wr64 (yc.f16 + el[i].2.2) })] /\ Vw 3 encT3 v es el, hS, yc.f13, fun v hv => by rw [add_mk]; exact hv.1.ld (i := 13) 0 rfl rfl, ?_⟩
 refine Vw.goS (S := fun v => Rs v [(bc, T43.cs { yc with f12 := wr64 (yc.f12 + el[i].1), f14 := wr64 (yc.f14 + el[i].2.1), f16 := wr64 (yc.f16 + el[i].2.2) })] /\ Vw 3 encT3 v es el) encT3_length (by decide) hS (fun v hv => hv.2) i rfl hlt fun a hc => ⟨⟨by decide, by decide⟩, _, hc 0 _ rfl, ?_⟩
 refine Vw.goS (S := fun v => Rs v [(bc, T43.cs { yc with f12 := wr64 (yc.f12 + el[i].1), f14 := wr64 (yc.f14 + el[i].2.1), f16 := wr64 (yc.f16 + el[i].2.2) })] /\ Vw 3 encT3 v es el) encT3_length (by decide) hS (fun v hv => hv.2) i rfl hlt fun a hc => ⟨⟨by decide, by decide⟩, _, hc 2 _ rfl, ?_⟩
 intro w70
 have h : Sp w0 w70 ((w63.heap.size, [el[i].1, el[i].2.2].flatMap encI) :: _) B Q 1 encZ yc.f13 Z := h.allocL (vs := [el[i].1, el[i].2.2].flatMap encI)
 clear_value w70
 refine ⟨⟨h.sub 1 rfl, eE h.m.1⟩, ?_⟩
 have h' := h.fr (Fr.alloc (o := Obj.cells (encZ ⟨some ⟨w63.heap.size, 0, none⟩, 2, 2⟩).toArray 25))
 refine ⟨⟨h'.sub 1 rfl, eE h'.m.1⟩, h.push (a := ⟨some ⟨w63.heap.size, 0, none⟩, 2, 2⟩) rfl rfl encZ_ok rfl (by omega) (by omega) fun s72 w73 h => ⟨⟨h.sub 1 rfl, eE h.m.1⟩, ?_⟩⟩
 rw [add_mk]
 refine ⟨h.wr 1 rfl rfl, ?_⟩
 rw [wr_small (by omega)]
 have hn := (h.set (i := 13) (v := .slice s72.p s72.l s72.c) 1 rfl).bury
 refine ⟨⟨rfl, rfl, rfl, rfl, rfl, rfl, rfl, trivial⟩, i + 1, { yc with f12 := wr64 (yc.f12 + el[i].1), f14 := wr64 (yc.f14 + el[i].2.1), f16 := wr64 (yc.f16 + el[i].2.2), f13 := s72 }, rfl, by omega, _, _, _,
  { tc with most := wr64 (tc.most + el[i].1), budget := wr64 (tc.budget + el[i].2.1), t2 := wr64 (tc.t2 + el[i].2.2), combos := tc.combos ++ [[el[i].1, el[i].2.2]] }, hn, fun v hv => ?_, ⟨hal.name, hal.lots, hal.crit, hal.reqs, hal.low, hal.high, hal.fm, hal.ties⟩, ?_⟩ |> fun z => ⟨z, by dsimp only; omega⟩
 ·obtain ⟨q1, q2⟩ := hQ v hv.1
  exact ⟨{ q1 with most := by show wr64 _ = _; rw [q1.most], budget := by show wr64 _ = _; rw [q1.budget], t2 := by show wr64 _ = _; rw [q1.t2] }, q2.push (Row.ow encI_length (l := [el[i].1, el[i].2.2]) hv.2).vw⟩
 ·have h0 := FitK.mono hC (k' := 10 - (i + 1)) (by omega)
  refine { h0 with most := wr64_I _, budget := wr64_I _, t2 := wr64_I _, combos := by simp; omega, combo := fun s hs => ?_ }
  rcases List.mem_append.1 hs with hs | hs
  ·exact hC.combo s hs
  ·rw [List.mem_singleton.1 hs]
   refine ⟨by show (2 : Nat) <= _; decide, fun j hj => ?_⟩
   simp only [List.mem_cons, List.not_mem_nil, or_false] at hj
   rcases hj with rfl | rfl
   ·exact hq.1
   ·exact hq.2.2
theorem cnd_off {X Y : Prop} (h : Y) : cnd false X Y := h
structure TL (w0 : World) (x : T29) (p : Pn) (pb : Nat) (es ls : Sl) (el : List (Int × Int × Int)) (lots : List Int) : Prop where
 g : GlT w0
 hp : PP w0 x p
 rp : Row w0 pb x.cs
 hf : PFit p
 he : Vw 3 encT3 w0 es el
 hei : ∀ e ∈ el, I64 e.1 /\ I64 e.2.1 /\ I64 e.2.2
 hv : Vw 1 encI w0 ls lots
 hl : lots.length < 2 ^ 20
 hi : ∀ i ∈ lots, I64 i
theorem TL.fr {x : T29} {pb : Nat} {es ls : Sl} {el : List (Int × Int × Int)} {lots : List Int} (h : TL w x p pb es ls el lots) (f : Fr F0 w w') : TL w' x p pb es ls el lots :=
 ⟨h.g.fr f, h.hp.fr f, f.row h.rp fun h => h, h.hf, h.he.fr f, h.hei, h.hv.fr f, h.hl, h.hi⟩
theorem Touches_k1_spec {ba bo pb : Nat} {es ls : Sl} {el : List (Int × Int × Int)} {lots : List Int} (T : TL w x p pb es ls el lots) (ra : Row w ba y.cs) (rb : Row w bo z.cs) (Ua : TP w y (tdP p)) (Ub : TP w z tb) (hB : Fit tb) (hK : ∀ w', Fr F0 w w' -> K true w') :
  probitylaw07_DependTouches_k1 es ls ⟨pb, 0, none⟩ true ⟨ba, 0, none⟩ ⟨bo, 0, none⟩ K w := by
 have hA := (tdP_fitK T.hf).fit
 have ll := T.hv.len
 have hll := T.hl
 refine ⟨?_⟩
 unfold probitylaw07_DependTouches_k1d
 refine T43.ld_row ra (T43.ld_row rb ?_)
 refine Touches_spec Ua Ub hA hB T.g Vw.nil (by decide) (fun i h => by cases h) fun w31 f31 => ?_
 refine ⟨⟨fun wt i u => ∃ i' : Nat, i = i' /\ i' <= lots.length /\ Fr F0 w u /\ wt = (touches (tdP p) tb [] || (lots.take i').any fun j => touches (tdP p) tb [j]), fun _ i _ => lots.length - i.toNat, ⟨0, rfl, by omega, f31, by simp⟩, ?_⟩⟩
 rintro wt i u ⟨i, rfl, hi, f, hw⟩
 unfold probitylaw07_DependTouches_b2
 have T' := T.fr f
 refine cnd_prop.2 ⟨fun h1 => ?_, fun h1 => ?_⟩
 ·have hil : i < lots.length := by omega
  have hany : ((lots.take (i + 1)).any fun j => touches (tdP p) tb [j]) = (((lots.take i).any fun j => touches (tdP p) tb [j]) || touches (tdP p) tb [lots[i]]) := by
   rw [List.take_add_one, List.getElem?_eq_getElem hil, Option.toList_some, List.any_append, List.any_cons, List.any_nil, Bool.or_false]
  refine ldI T'.hv i rfl hil ?_
  rw [wr_small (by omega)]
  cases wt with
  | true =>
   refine cnd_yes ?_
   refine ⟨⟨rfl, rfl, rfl, rfl, rfl, rfl, rfl, rfl, trivial⟩, i + 1, rfl, by omega, f, ?_⟩ |> fun z => ⟨z, by dsimp only; omega⟩
   rw [hany, ← Bool.or_assoc, ← hw, Bool.true_or]
  | false =>
   refine cnd_off ?_
   refine T43.ld_row (f.row ra fun h => h) (T43.ld_row (f.row rb fun h => h) ?_)
   intro w37
   have r : Row w37 u.heap.size ([lots[i]].flatMap encI) := Row.new
   have d : Fr F0 u w37 := Fr.alloc
   clear_value w37
   have F := f.t d
   refine Touches_spec (lots := [lots[i]]) (Ua.fr F) (Ub.fr F) hA hB (T.g.fr F) (Row.ow encI_length (l := [lots[i]]) r).vw (by show (1 : Nat) < _; decide) (fun j hj => by rw [List.mem_singleton.1 hj]; exact T.hi _ (List.getElem_mem hil)) fun w38 f38 => ?_
   refine ⟨⟨rfl, rfl, rfl, rfl, rfl, rfl, rfl, rfl, trivial⟩, i + 1, rfl, by omega, F.t f38, ?_⟩ |> fun z => ⟨z, by dsimp only; omega⟩
   rw [hany, ← Bool.or_assoc, ← hw, Bool.false_or]
 ·have hil : i = lots.length := by omega
  rw [hil, List.take_length, ← touches_split] at hw
  subst hw
  refine T29.ld_row T'.rp ?_
  refine TenderQ_spec T'.hp T.hf fun w41 yc B Q Z h hq => ?_
  intro w43
  have h : Sp u w43 [(w41.heap.size, zT)] B Q 1 encZ yc.f13 Z := h.allocL (vs := zT)
  clear_value w43
  refine stN_sp h 0 rfl rfl fun w44 h => ?_
  refine Touches_l3_spec (f.row ra fun h => h) (f.row rb fun h => h) (Ua.fr f) (Ub.fr f) hA hB ⟨B, Q, Z, tdP p, h, fun v hv => ⟨(hq v hv).tp, (hq v hv).io.inz⟩, ⟨rfl, rfl, rfl, rfl, rfl, rfl, rfl, rfl⟩, FitK.mono (tdP_fitK T.hf) (by omega)⟩ T'.g T'.he T.hei T'.hv (by omega) T.hi fun w' f' => hK w' (f.t f')
theorem Touches_l0_spec {ba bo lo pb : Nat} {es ls : Sl} {el : List (Int × Int × Int)} {lots : List Int} {Za Zb : List Sl} {D : Nat -> Prop} (T : TL w0 x p pb es ls el lots) (f0 : Fr F0 w0 w) (hbo : w0.heap.size <= bo) (hne : ba ≠ bo) (ra : Row w ba y.cs) (rb : Row w bo z.cs) (Ua : TD D w y (tdP p) Za) (hD : D bo) (Ub : TE lo w z tb Zb) (hB : FitK 4 tb) (hK : ∀ w', Fr F0 w0 w' -> K true w') :
  probitylaw07_DependTouches_l0 es ls ⟨pb, 0, none⟩ true ⟨ba, 0, none⟩ ⟨bo, 0, none⟩ 0 K w := by
 have he := T.he
 have eel := he.len
 refine ⟨⟨fun i u => ∃ (i' lo : Nat) (z : T43) (tb : Td) (Zb : List Sl), i = i' /\ i' <= 4 /\ i' <= el.length /\ Fr F0 w0 u /\ Row u ba y.cs /\ Row u bo z.cs /\ TD D u y (tdP p) Za /\ TE lo u z tb Zb /\ FitK (4 - i') tb, fun i _ => 4 - i.toNat, ⟨0, lo, z, tb, Zb, rfl, by omega, by omega, f0, ra, rb, Ua, Ub, hB⟩, ?_⟩⟩
 rintro i u ⟨i, lo, z, tb, Zb, rfl, h4, hil, f0, ra, rb, Ua, Ub, hB⟩
 unfold probitylaw07_DependTouches_b0
 have hend : probitylaw07_DependTouches_k1 es ls ⟨pb, 0, none⟩ true ⟨ba, 0, none⟩ ⟨bo, 0, none⟩ K u := Touches_k1_spec (T.fr f0) ra rb Ua.tp Ub.tp hB.fit fun w' f => hK w' (f0.t f)
 refine cnd_prop.2 ⟨fun h1 => cnd_prop.2 ⟨fun h2 => ?_, fun _ => hend⟩, fun _ => hend⟩
 have hlt : i < el.length := by omega
 intro w33
 have d : Fr F0 u w33 := Fr.drew
 clear_value w33
 have f0 := f0.t d
 have ra := d.row ra fun h => h
 have rb := d.row rb fun h => h
 have Ua := Ua.fr d
 have Ub := Ub.fr d
 refine ⟨fun v => v = w33, rfl, T43.lds_row (fun v hv => by rw [hv]; exact rb) ?_⟩
 refine Vw.goS (S := fun v => v = w33) encT3_length (by decide) rfl (fun v hv => by rw [hv]; exact he.fr f0) i rfl hlt fun a hc => ⟨_, hc 0 _ rfl, _, hc 1 _ rfl, _, hc 2 _ rfl, ?_⟩
 obtain ⟨k, hk⟩ : ∃ k, 4 - i = k + 1 := ⟨3 - i, by omega⟩
 rw [hk] at hB
 have hq := (T.hei _ (List.getElem_mem hlt)).2.2
 rw [wr_small (by omega)]
 refine edit_store rb Ub hB fun v z' Z' fv rb' U' => ⟨⟨⟨rfl, rfl, rfl, rfl, rfl, rfl, trivial⟩, i + 1, _, z', _, Z', rfl, by omega, by omega, ?_, fv.row ra hne, rb', ?_, U', ?_⟩, by dsimp only; omega⟩
 ·exact f0.trans fv fun b hb hlt => by omega
 ·exact Ua.frB (F := fun c => c = bo) (fun c hc => by rw [show c = bo from hc]; exact hD) (fun c hc => ⟨z, by rw [show c = bo from hc]; exact rb⟩) (fun c hc => ⟨z', by rw [show c = bo from hc]; exact rb'⟩) fv
 ·exact FitK.mono (edit_fit hB hq) (by omega)
theorem Touches_fr {es ls : Sl} {el : List (Int × Int × Int)} {lots : List Int} (g : GlT w) (hp : PP w x p) (hf : PFit p) (he : Vw 3 encT3 w es el) (hei : ∀ e ∈ el, I64 e.1 /\ I64 e.2.1 /\ I64 e.2.2) (hv : Vw 1 encI w ls lots) (hi : ∀ i ∈ lots, I64 i) (_ : lots.length < 2 ^ 62) (hK : ∀ w', Fr F0 w w' -> K true w') : probitylaw07_DependTouches_sh x es ls K w := by
 refine ⟨?_⟩
 unfold probitylaw07_DependTouches_sd
 intro w1
 have m : Mem w w1 [(w.heap.size, x.cs)] := Mem.nil.allocL
 clear_value w1
 refine sanity_spec (g.fr m.1) fun w2 f2 => ?_
 have m := m.fr f2
 have vl := hv.len
 have vc := hv.cap
 refine ⟨⟨by decide, by omega, by omega⟩, ?_⟩
 intro w4
 have m : Mem w w4 [(w.heap.size, x.cs)] := m.drew
 clear_value w4
 have hR : ∀ {u : World}, Fr F0 w4 u -> Row u w.heap.size x.cs := fun f => (m.fr f).row 0 rfl
 have hP : ∀ {u : World}, Fr F0 w4 u -> PP u x p := fun f => hp.fr (m.1.t f)
 refine ⟨fun u => Fr F0 w4 u, Fr.refl, T29.lds_row (fun u hu => hR hu) (T29.lds_row (fun u hu => hR hu) ⟨fun u u' h hs => hs.t h.f0, ⟨fun u => ExtL.alloc, fun u => ExtL.alloc, trivial⟩, fun w8 e8 => ?_⟩)⟩
 refine TenderW_spec (hP e8.f0) hf fun w9 r10 Z1 f9 T1 O1 => ⟨f9.ext, fun w11 e11 => ?_⟩
 have f11 := e8.f0.t (f9.t e11.f0)
 refine TenderW_spec (hP f11) hf fun w12 r13 Z2 f12 T2 O2 => ⟨f12.ext, fun w14 e14 w15 e15 _ g15 w16 e16 n16 g16 => ?_⟩
 have f14 := f11.t (f12.t e14.f0)
 have ga := e11.f0.t (f12.t e14.f0)
 have r15 := g15.f0.row (Row.new (cs := zT)) fun h => h
 have r16 := g16.f0.row (Row.new (cs := zT)) fun h => h
 have hne : w15.heap.size ≠ w16.heap.size := n16 _ (List.mem_cons_self ..)
 have l15 := e15.f0.1
 have l16 := e16.f0.1
 generalize w15.heap.size = ba at hne r15 l15 ⊢
 generalize w16.heap.size = bo at hne r16 l16 ⊢
 refine two_box r15 r16 hne (T1.fr ga) (O1.fr ga) (T2.fr e14.f0) (O2.fr e14.f0) (fun u f => f14.trans f fun b hb _ => by omega) fun w18 f18 v1 v2 U1 U2 => ?_
 have F18 : Fr F0 w4 w18 := f14.trans f18 fun b hb _ => by omega
 have A1 := tdP_fitK hf
 have W18 := m.1.t F18
 have kw := m.1.1
 have hv6 := hv.take encI_length (j := min lots.length 6) (by omega)
 have ej : (min (ls.l : Int) 6).toNat = min lots.length 6 := by omega
 rw [ej]
 have W4 := m.1
 have hrp := (m.row 0 rfl)
 have kp := hrp.lt
 have rp : Row w4 w.heap.size x.cs := hrp
 have T : TL w4 x p w.heap.size es ⟨subP ls.p 0 ls.c 1, min lots.length 6 - 0, ls.c - 0⟩ el (lots.take (min lots.length 6)) :=
  ⟨g.fr W4, hp.fr W4, rp, hf, he.fr W4, hei, hv6.fr W4, by simp; omega, fun i h => hi i (List.mem_of_mem_take h)⟩
 exact Touches_l0_spec (lo := 0) T F18 l16 hne v1 v2 U1 (.inr rfl) U2.te (FitK.mono A1 (by omega)) fun w' f => hK w' (W4.t f)
end
end Go.Proofs.YtfkmpbpkahcogaaGreatDoor
