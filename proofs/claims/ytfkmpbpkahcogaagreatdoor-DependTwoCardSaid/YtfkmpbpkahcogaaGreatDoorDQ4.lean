/- DependTwo. Conditions: none. -/
import Derived.Test.YtfkmpbpkahcogaaGreatDoorDRTY
import Derived.Test.YtfkmpbpkahcogaaGreatDoorDV5
import Derived.Test.YtfkmpbpkahcogaaGreatDoorDL3
namespace Go.Proofs.YtfkmpbpkahcogaaGreatDoor
open Go Pw Dp
section
variable {w : World} {x y : T29} {p q : Pn} {K : Bool -> World -> Prop}
theorem Two_fr {ls : Sl} {lots : List Int} (g : GlT w) (hp : PP w x p) (hf : PFit p) (hq : PP w y q) (hfq : PFit q) (hv : Vw 1 encI w ls lots) (hi : ∀ i ∈ lots, I64 i) (hl : lots.length < 2 ^ 62) (hK : ∀ w', Fr F0 w w' -> K true w') : probitylaw07_DependTwo_sh x y ls K w := by
 refine ⟨?_⟩
 unfold probitylaw07_DependTwo_sd
 intro w1
 have m : Mem w w1 [(w.heap.size, x.cs)] := Mem.nil.allocL
 clear_value w1
 intro w2
 have m : Mem w w2 [(w1.heap.size, y.cs), (w.heap.size, x.cs)] := m.allocL
 clear_value w2
 refine sanity_spec (g.fr m.1) fun w3 f3 => ?_
 have m := m.fr f3
 intro w5
 have m : Mem w w5 [(w1.heap.size, y.cs), (w.heap.size, x.cs)] := m.drew
 clear_value w5
 have hR : ∀ {u : World}, Fr F0 w5 u -> Row u w.heap.size x.cs := fun f => (m.fr f).row 1 rfl
 have hR' : ∀ {u : World}, Fr F0 w5 u -> Row u w1.heap.size y.cs := fun f => (m.fr f).row 0 rfl
 have hP : ∀ {u : World}, Fr F0 w5 u -> PP u x p := fun f => hp.fr (m.1.t f)
 have hQ : ∀ {u : World}, Fr F0 w5 u -> PP u y q := fun f => hq.fr (m.1.t f)
 refine ⟨fun u => Fr F0 w5 u, Fr.refl, T29.lds_row (fun u hu => hR hu) (T29.lds_row (fun u hu => hR' hu) ⟨fun u u' h hs => hs.t h.f0, ⟨fun u => ExtL.alloc, fun u => ExtL.alloc, trivial⟩, fun w9 e9 => ?_⟩)⟩
 refine TenderW_spec (hP e9.f0) hf fun w10 r11 Z1 f10 T1 O1 => ⟨f10.ext, fun w12 e12 => ?_⟩
 have f12 := e9.f0.t (f10.t e12.f0)
 refine TenderW_spec (hQ f12) hfq fun w13 r14 Z2 f13 T2 O2 => ⟨f13.ext, fun w15 e15 w16 e16 _ g16 w17 e17 n17 g17 => ?_⟩
 have f15 := f12.t (f13.t e15.f0)
 have ga := e12.f0.t (f13.t e15.f0)
 have r16 := g16.f0.row (Row.new (cs := zT)) fun h => h
 have r17 := g17.f0.row (Row.new (cs := zT)) fun h => h
 have hne : w16.heap.size ≠ w17.heap.size := n17 _ (List.mem_cons_self ..)
 have l16 := e16.f0.1
 have l17 := e17.f0.1
 generalize w16.heap.size = ba at hne r16 l16 ⊢
 generalize w17.heap.size = bo at hne r17 l17 ⊢
 refine two_box r16 r17 hne (T1.fr ga) (O1.fr ga) (T2.fr e15.f0) (O2.fr e15.f0) (fun u f => f15.trans f fun b hb _ => by omega) fun w19 f19 v1 v2 U1 U2 => ?_
 have F19 : Fr F0 w5 w19 := f15.trans f19 fun b hb _ => by omega
 have A := (tdP_fitK hf).fit
 have B := (tdP_fitK hfq).fit
 have W19 := m.1.t F19
 intro w20
 have d : Fr F0 w19 w20 := Fr.drew
 clear_value w20
 have W20 := W19.t d
 have v1 := d.row v1 fun h => h
 have v2 := d.row v2 fun h => h
 have U1 := (U1.fr d).tp
 have U2 := (U2.fr d).tp
 have g := g.fr W20
 have hv := hv.fr W20
 have hK : ∀ w', Fr F0 w20 w' -> K true w' := fun w' f => hK w' (W20.t f)
 have R1 : ∀ u, Fr F0 w20 u -> Row u ba r11.cs := fun u f => f.row v1 fun h => h
 have R2 : ∀ u, Fr F0 w20 u -> Row u bo r14.cs := fun u f => f.row v2 fun h => h
 have hbl := A.both B
 have hch : (changed (tdP p) (tdP q)).length <= (both (tdP p) (tdP q)).length := List.length_filter_le _ _
 have haf : (affected (tdP p) (tdP q)).length <= (both (tdP p) (tdP q)).length := List.length_filter_le _ _
 clear m F19 f15 ga f12 e9 f10 e12 f13 e15 e16 g16 e17 g17 T1 T2 O1 O2 hR hR' hP hQ f19
 refine ⟨fun u => Fr F0 w20 u, Fr.refl, ?_⟩
 rw [cnd_true]
 refine T43.lds_row R1 (T43.lds_row R2 (T43.lds_row R1 (T43.lds_row R2 ?_)))
 refine Changed_spec U1 U2 A B g fun w26 s1 m1 => ⟨m1.fr0, ?_⟩
 refine rChanged_spec (U1.fr m1.fr0) (U2.fr m1.fr0) A B fun w28 s2 m2 => ⟨m1.fr0.t m2.fr0, ?_⟩
 refine is_spec (m1.vw.fr m2.fr0) m2.vw (by omega) fun w30 f30 => ?_
 have F30 := m1.fr0.t (m2.fr0.t f30)
 rw [decide_eq_true rfl, cnd_true]
 refine ⟨F30, T43.lds_row R1 (T43.lds_row R2 (T43.lds_row R1 (T43.lds_row R2 ?_)))⟩
 refine Affected_spec (U1.fr F30) (U2.fr F30) A B (g.fr F30) fun w36 s3 m3 => ⟨F30.t m3.fr0, ?_⟩
 have F36 := F30.t m3.fr0
 refine rAffected_spec (U1.fr F36) (U2.fr F36) A B fun w38 s4 m4 => ⟨F36.t m4.fr0, ?_⟩
 refine is_spec (m3.vw.fr m4.fr0) m4.vw (by omega) fun w40 f40 => ?_
 have F40 := F36.t (m4.fr0.t f40)
 rw [decide_eq_true rfl, cnd_true]
 refine ⟨F40, T43.lds_row R1 (T43.lds_row R2 (T43.lds_row R1 (T43.lds_row R2 ?_)))⟩
 refine Touches_spec (U1.fr F40) (U2.fr F40) A B (g.fr F40) (hv.fr F40) hl hi fun w46 f46 => ⟨F40.t f46, ?_⟩
 have F46 := F40.t f46
 refine rTouches_spec (U1.fr F46) (U2.fr F46) A B (hv.fr F46) hl hi fun w48 f48 => ⟨F46.t f48, ?_⟩
 rw [beq_self_eq_true]
 exact hK w48 (F46.t f48)
end
end Go.Proofs.YtfkmpbpkahcogaaGreatDoor
