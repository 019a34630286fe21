/- DependSame. Conditions: none. -/
import Derived.Test.YtfkmpbpkahcogaaGreatDoorDRTY
import Derived.Test.YtfkmpbpkahcogaaGreatDoorDL4
namespace Go.Proofs.YtfkmpbpkahcogaaGreatDoor
open Go Pw Dp
section
variable {w w' u w0 : World} {x : T29} {p : Pn} {K : Bool -> World -> Prop} {l m : List B} {s s' : Sl}
theorem sput_new {α : Type} {n : ByteArray} {v : α} : ∀ {l : List (ByteArray × α)}, (∀ p ∈ l, p.1 ≠ n) -> sput n v l = l ++ [(n, v)]
 | [], _ => rfl
 | p :: l, h => by
  unfold sput
  rw [if_neg (h p (List.mem_cons_self ..)), sput_new fun q hq => h q (List.mem_cons_of_mem _ hq)]
  rfl
theorem sget_true : ∀ {l : List B} {c : B}, sgetD false (ofL c) (l.map fun c => (ofL c, true)) = decide (c ∈ l)
 | [], c => by simp [sgetD]
 | a :: l, c => by
  simp only [List.map_cons, sgetD]
  by_cases h : a = c
  ·subst h
   simp
  ·rw [if_neg (fun e => h (ofL_inj.1 e)), sget_true]
   rw [decide_eq_decide]
   exact ⟨fun h => List.mem_cons_of_mem _ h, fun hm => (List.mem_cons.1 hm).resolve_left fun e => h e.symm⟩
theorem set_spec {J : Option Nat -> World -> Prop} (hv : Vw 1 encB w s l) (hl : l.length < 2 ^ 62) (hnd : l.Nodup) (hJ : ∀ w' mb, Fr F0 w w' -> Ms w' mb ((l.map fun c => (ofL c, true)).map fun p => (p.1, Value.bool p.2)) -> J (some mb) w') : z1v_sh s J w := by
 have el := hv.len
 refine ⟨?_⟩
 unfold z1v_sd
 intro w1
 have hM : Ms w1 w.heap.size [] := Ms.made w
 have hf : Fr F0 w w1 := Fr.alloc
 clear_value w1
 refine ⟨⟨fun i u => ∃ i' : Nat, i = i' /\ i' <= l.length /\ Fr F0 w u /\ Ms u w.heap.size (((l.take i').map fun c => (ofL c, true)).map fun p => (p.1, Value.bool p.2)), fun i _ => l.length - i.toNat, ⟨0, rfl, by omega, hf, hM⟩, ?_⟩⟩
 rintro i u ⟨i, rfl, hi, hf, hM⟩
 unfold z1v_b0
 refine cnd_prop.2 ⟨fun hlt => ?_, fun hge => ?_⟩
 ·have hil : i < l.length := by omega
  refine ldB (hv.fr hf) i rfl hil ⟨⟨_, hM⟩, ?_⟩
  have h2 := hM.set (ofL l[i]) (.bool true)
  refine ⟨inR64 (by omega) (by omega), ⟨⟨rfl, rfl, rfl, trivial⟩, i + 1, by omega, by omega, ?_, ?_⟩, by dsimp only; omega⟩
  ·exact hf.trans (F := F0) (G := fun c => c = w.heap.size) sset_frB fun c hc hlt => by omega
  ·rw [take_succ_map _ _ hil, List.map_append, List.map_cons, List.map_nil]
   rw [sput_new] at h2
   ·exact h2
   ·intro q hq e
    obtain ⟨z, hz, rfl⟩ := List.mem_map.1 hq
    obtain ⟨c, hc, rfl⟩ := List.mem_map.1 hz
    have := ofL_inj.1 e
    subst this
    obtain ⟨j, hj, he⟩ := List.mem_iff_getElem.1 hc
    rw [List.getElem_take] at he
    simp only [List.length_take] at hj
    exact List.pairwise_iff_getElem.1 hnd j i (by omega) hil (by omega) he
 ·have : l.take i = l := List.take_of_length_le (by omega)
  rw [this] at hM
  exact hJ u _ hf hM
theorem len_eq {a b : List B} (h1 : a.Nodup) (h2 : b.Nodup) (h : ∀ c, c ∈ a ↔ c ∈ b) : a.length = b.length := ((List.perm_ext_iff_of_nodup h1 h2).2 h).length_eq
variable {y z : T43} {ta tb : Td}
theorem chg_call {Kv : VW} (hx : TP w y ta) (hy : TP w z tb) (hA : Fit ta) (hB : Fit tb) (g : GlT w) (hK : ∀ w' r, Mk w 1 encB w' r (changed ta tb) -> Kv (.slice r.p r.l r.c) w') : CallV Tryz.prog (.func (.func 18) #[] #[]) [.agg y.cs.toArray, .agg z.cs.toArray] w Kv :=
 callV_of z2c_ok (Changed_spec (K := fun s u => Kv (.slice s.p s.l s.c) u) hx hy hA hB g hK)
theorem aff_call {Kv : VW} (hx : TP w y ta) (hy : TP w z tb) (hA : Fit ta) (hB : Fit tb) (g : GlT w) (hK : ∀ w' r, Mk w 1 encB w' r (affected ta tb) -> Kv (.slice r.p r.l r.c) w') : CallV Tryz.prog (.func (.func 20) #[] #[]) [.agg y.cs.toArray, .agg z.cs.toArray] w Kv :=
 callV_of z24_ok (Affected_spec (K := fun s u => Kv (.slice s.p s.l s.c) u) hx hy hA hB g hK)
theorem Same_l3_spec {lx ly : List B} {xs ys ls t55 : Sl} {hd : Bool} {a b : Addr} {mb : Nat} {j : Int} {N2 : Sl -> Bool -> Addr -> Addr -> Sl -> Int -> Int -> World -> Prop} (hx : xs.l = lx.length) (hy : Vw 1 encB w ys ly) (hM : Ms w mb ((lx.map fun c => (ofL c, true)).map fun p => (p.1, Value.bool p.2))) (hsub : ∀ c ∈ ly, c ∈ lx) (hlen : lx.length = ly.length) (hl : ly.length < 2 ^ 62) (hj : 0 <= j /\ j < 100)
  (hN : N2 ls hd a b t55 2 (j + 1) w) : probitylaw07_DependSame_l3 ls hd a b xs ys (some mb) t55 2 j ys (ys.l : Int) 0 N2 K w := by
 have el := hy.len
 refine ⟨⟨fun i u => ∃ i' : Nat, i = i' /\ i' <= ly.length /\ u = w, fun i _ => ly.length - i.toNat, ⟨0, rfl, by omega, rfl⟩, ?_⟩⟩
 rintro i u ⟨i, rfl, hi, rfl⟩
 unfold probitylaw07_DependSame_b3
 refine cnd_prop.2 ⟨fun hlt => ?_, fun hge => ?_⟩
 ·have hil : i < ly.length := by omega
  refine ldB hy i rfl hil ⟨_, hM, ?_⟩
  rw [sget_true, decide_eq_true (hsub _ (List.getElem_mem hil))]
  exact cnd_no ⟨inR64 (by omega) (by omega), ⟨⟨rfl, rfl, rfl, rfl, rfl, rfl, rfl, rfl, rfl, rfl, rfl, rfl, trivial⟩, i + 1, by omega, by omega, rfl⟩, by dsimp only; omega⟩
 ·refine cnd_bne.2 ⟨fun h => absurd (by omega) h, fun _ => ⟨_, hM.len, cnd_bne.2 ⟨fun h => absurd (by simp; omega) h, fun _ => ⟨inR64 (by omega) (by omega), hN⟩⟩⟩⟩
theorem Same_k1_spec {ba bo : Nat} {ls : Sl} {lots : List Int} (ra : Row w ba y.cs) (rb : Row w bo z.cs) (U1 : TP w y ta) (U2 : TP w z tb) (hA : Fit ta) (hB : Fit tb) (g : GlT w) (hv : Vw 1 encI w ls lots) (hl : lots.length < 2 ^ 62) (hi : ∀ i ∈ lots, I64 i) (hK : ∀ w', Fr F0 w w' -> K true w') :
  probitylaw07_DependSame_k1 ls true ⟨ba, 0, none⟩ ⟨bo, 0, none⟩ K w := by
 refine ⟨?_⟩
 unfold probitylaw07_DependSame_k1d
 intro w43
 have rf : Row w43 w.heap.size [.func (.func 18) #[] #[], .func (.func 20) #[] #[]] := Row.new
 have f43 : Fr F0 w w43 := Fr.alloc
 clear_value w43
 generalize w.heap.size = fb at rf ⊢
 refine ⟨⟨fun i u => ∃ i' : Nat, i = i' /\ i' <= 2 /\ Fr F0 w u /\ Row u fb [.func (.func 18) #[] #[], .func (.func 20) #[] #[]], fun i _ => 2 - i.toNat, ⟨0, rfl, by omega, f43, rf⟩, ?_⟩⟩
 rintro i u ⟨i, rfl, hi2, hf, hr⟩
 unfold probitylaw07_DependSame_b2
 have Ra : ∀ {v : World}, Fr F0 w v -> Row v ba y.cs := fun f => f.row ra fun h => h
 have Rb : ∀ {v : World}, Fr F0 w v -> Row v bo z.cs := fun f => f.row rb fun h => h
 have hbl : ∀ (s t : Td), Fit s -> Fit t -> (both s t).length <= 2 ^ 30 := fun s t hs ht => by
  have := foldB_len (clauses s) (clauses t)
  have := clauses_len s
  have := clauses_len t
  have := hs.lots; have := hs.crit; have := hs.reqs
  have := ht.lots; have := ht.crit; have := ht.reqs
  unfold both
  omega
 refine cnd_prop.2 ⟨fun hlt => ?_, fun hge => ?_⟩
 ·obtain ⟨v, F, hcell, hc, hnd, hcm, hle⟩ : ∃ (v : Value) (F : Td -> Td -> List B), [Value.func (.func 18) #[] #[], .func (.func 20) #[] #[]][i]? = some v /\
    (∀ (s t : Td) (x y : T43) (u : World) (Kv : VW), TP u x s -> TP u y t -> Fit s -> Fit t -> GlT u -> (∀ w' r, Mk u 1 encB w' r (F s t) -> Kv (.slice r.p r.l r.c) w') -> CallV Tryz.prog v [.agg x.cs.toArray, .agg y.cs.toArray] u Kv) /\
    (∀ s t, (F s t).Nodup) /\ (∀ s t c, c ∈ F s t ↔ c ∈ F t s) /\ ∀ s t, Fit s -> Fit t -> (F s t).length <= 2 ^ 30 := by
   rcases (show i = 0 \/ i = 1 by omega) with rfl | rfl
   ·exact ⟨_, changed, rfl, fun s t x y u Kv h1 h2 h3 h4 h5 h6 => chg_call h1 h2 h3 h4 h5 h6, fun s t => nodup_changed, fun s t c => changed_comm, fun s t h1 h2 => Nat.le_trans (List.length_filter_le _ _) (hbl s t h1 h2)⟩
   ·exact ⟨_, affected, rfl, fun s t x y u Kv h1 h2 h3 h4 h5 h6 => aff_call h1 h2 h3 h4 h5 h6, fun s t => nodup_affected, fun s t c => by rw [mem_affected, mem_affected]; exact ⟨aff_comm, aff_comm⟩, fun s t h1 h2 => Nat.le_trans (List.length_filter_le _ _) (hbl s t h1 h2)⟩
  refine ⟨⟨by omega, hlt⟩, v, ?_, ?_⟩
  ·rw [add_mk, hr.cell]
   simpa using hcell
  intro w46
  have f46 : Fr F0 u w46 := Fr.drew
  clear_value w46
  have F46 := hf.t f46
  refine ⟨fun v => Fr F0 w46 v, Fr.refl, T43.lds_row (fun _ h => Ra (F46.t h)) (T43.lds_row (fun _ h => Rb (F46.t h)) (T43.lds_row (fun _ h => Rb (F46.t h)) (T43.lds_row (fun _ h => Ra (F46.t h)) ?_)))⟩
  refine hc ta tb y z w46 _ (U1.fr F46) (U2.fr F46) hA hB (g.fr F46) fun w53 r1 m1 => ⟨r1, rfl, m1.fr0, ?_⟩
  have F53 := F46.t m1.fr0
  refine hc tb ta z y w53 _ (U2.fr F53) (U1.fr F53) hB hA (g.fr F53) fun w56 r2 m2 => ⟨r2, rfl, m1.fr0.t m2.fr0, ?_⟩
  have l1 := hle ta tb hA hB
  have l2 := hle tb ta hB hA
  refine set_spec (m1.vw.fr m2.fr0) (by omega) (hnd _ _) fun w58 mb f58 hM => ?_
  refine Same_l3_spec m1.len (m2.vw.fr f58) hM (fun c h => (hcm _ _ c).1 h) (len_eq (hnd _ _) (hnd _ _) (hcm _ _)) (by omega) (by omega) ?_
  exact ⟨⟨rfl, rfl, rfl, rfl, rfl, rfl, trivial⟩, i + 1, by omega, by omega, F53.t (m2.fr0.t f58), (f46.t (m1.fr0.t (m2.fr0.t f58))).row hr fun h => h⟩ |> fun z => ⟨z, by dsimp only; omega⟩
 ·intro w66
  have F66 : Fr F0 w w66 := hf.t Fr.drew
  clear_value w66
  refine ⟨fun v => Fr F0 w v, F66, cnd_yes (T43.lds_row (fun _ h => Ra h) (T43.lds_row (fun _ h => Rb h) (T43.lds_row (fun _ h => Rb h) (T43.lds_row (fun _ h => Ra h) ?_))))⟩
  refine Touches_spec (U1.fr F66) (U2.fr F66) hA hB (g.fr F66) (hv.fr F66) hl hi fun w72 f72 => ⟨F66.t f72, ?_⟩
  have F72 := F66.t f72
  refine Touches_spec (U2.fr F72) (U1.fr F72) hB hA (g.fr F72) (hv.fr F72) hl hi fun w74 f74 => ⟨F72.t f74, ?_⟩
  rw [touches_comm lots, beq_self_eq_true]
  exact hK w74 (F72.t f74)
theorem FitK.mono {k k' : Nat} {t : Td} (h : FitK k t) (hk : k' <= k) : FitK k' t :=
 { h with fp := by have := h.fp; omega, lots := by have := h.lots; omega, ties := by have := h.ties; omega, combos := by have := h.combos; omega }
theorem Same_l0_spec {ba bo lo : Nat} {es ls : Sl} {el : List (Int × Int × Int)} {lots : List Int} {Za Zb : List Sl} {D : Nat -> Prop} (f0 : Fr F0 w0 w) (hbo : w0.heap.size <= bo) (hne : ba ≠ bo) (ra : Row w ba y.cs) (rb : Row w bo z.cs) (Ua : TD D w y ta Za) (hD : D bo) (Ub : TE lo w z tb Zb) (hA : Fit ta) (hB : FitK 4 tb) (g : GlT w0)
  (he : Vw 3 encT3 w0 es el) (hei : ∀ e ∈ el, I64 e.2.2) (hv : Vw 1 encI w0 ls lots) (hl : lots.length < 2 ^ 62) (hi : ∀ i ∈ lots, I64 i) (hK : ∀ w', Fr F0 w0 w' -> K true w') :
  probitylaw07_DependSame_l0 es ls true ⟨ba, 0, none⟩ ⟨bo, 0, none⟩ 0 K w := by
 have eel := he.len
 refine ⟨⟨fun i u => ∃ (i' lo : Nat) (z : T43) (tb : Td) (Zb : List Sl), i = i' /\ i' <= 4 /\ i' <= el.length /\ Fr F0 w0 u /\ Row u ba y.cs /\ Row u bo z.cs /\ TD D u y ta Za /\ TE lo u z tb Zb /\ FitK (4 - i') tb, fun i _ => 4 - i.toNat, ⟨0, lo, z, tb, Zb, rfl, by omega, by omega, f0, ra, rb, Ua, Ub, hB⟩, ?_⟩⟩
 rintro i u ⟨i, lo, z, tb, Zb, rfl, h4, hil, f0, ra, rb, Ua, Ub, hB⟩
 unfold probitylaw07_DependSame_b0
 have hend : probitylaw07_DependSame_k1 ls true ⟨ba, 0, none⟩ ⟨bo, 0, none⟩ K u := Same_k1_spec ra rb Ua.tp Ub.tp hA hB.fit (g.fr f0) (hv.fr f0) hl hi fun w' f => hK w' (f0.t f)
 refine cnd_prop.2 ⟨fun h1 => cnd_prop.2 ⟨fun h2 => ?_, fun _ => hend⟩, fun _ => hend⟩
 have hlt : i < el.length := by omega
 intro w33
 have d : Fr F0 u w33 := Fr.drew
 clear_value w33
 have f0 := f0.t d
 have ra := d.row ra fun h => h
 have rb := d.row rb fun h => h
 have Ua := Ua.fr d
 have Ub := Ub.fr d
 refine ⟨fun v => v = w33, rfl, T43.lds_row (fun v hv => by rw [hv]; exact rb) ?_⟩
 refine Vw.goS (S := fun v => v = w33) encT3_length (by decide) rfl (fun v hv => by rw [hv]; exact he.fr f0) i rfl hlt fun a hc => ⟨_, hc 0 _ rfl, _, hc 1 _ rfl, _, hc 2 _ rfl, ?_⟩
 obtain ⟨k, hk⟩ : ∃ k, 4 - i = k + 1 := ⟨3 - i, by omega⟩
 rw [hk] at hB
 have hq := hei _ (List.getElem_mem hlt)
 refine edit_store rb Ub hB fun v z' Z' fv rb' U' => ⟨inR64 (by omega) (by omega), ⟨⟨rfl, rfl, rfl, rfl, rfl, trivial⟩, i + 1, _, z', _, Z', by omega, by omega, by omega, ?_, fv.row ra hne, rb', ?_, U', ?_⟩, by dsimp only; omega⟩
 ·exact f0.trans fv fun b hb hlt => by omega
 ·exact Ua.frB (F := fun c => c = bo) (fun c hc => by rw [show c = bo from hc]; exact hD) (fun c hc => ⟨z, by rw [show c = bo from hc]; exact rb⟩) (fun c hc => ⟨z', by rw [show c = bo from hc]; exact rb'⟩) fv
 ·exact FitK.mono (edit_fit hB hq) (by omega)
theorem Same_fr {es ls : Sl} {el : List (Int × Int × Int)} {lots : List Int} (g : GlT w) (hp : PP w x p) (hf : PFit p) (he : Vw 3 encT3 w es el) (hei : ∀ e ∈ el, I64 e.1 /\ I64 e.2.1 /\ I64 e.2.2) (hv : Vw 1 encI w ls lots) (hi : ∀ i ∈ lots, I64 i) (hl : lots.length < 2 ^ 62) (hK : ∀ w', Fr F0 w w' -> K true w') : probitylaw07_DependSame_sh x es ls K w := by
 refine ⟨?_⟩
 unfold probitylaw07_DependSame_sd
 intro w1
 have m : Mem w w1 [(w.heap.size, x.cs)] := Mem.nil.allocL
 clear_value w1
 refine sanity_spec (g.fr m.1) fun w2 f2 => ?_
 have m := m.fr f2
 intro w4
 have m : Mem w w4 [(w.heap.size, x.cs)] := m.drew
 clear_value w4
 have hR : ∀ {u : World}, Fr F0 w4 u -> Row u w.heap.size x.cs := fun f => (m.fr f).row 0 rfl
 have hP : ∀ {u : World}, Fr F0 w4 u -> PP u x p := fun f => hp.fr (m.1.t f)
 refine ⟨fun u => Fr F0 w4 u, Fr.refl, T29.lds_row (fun u hu => hR hu) (T29.lds_row (fun u hu => hR hu) ⟨fun u u' h hs => hs.t h.f0, ⟨fun u => ExtL.alloc, fun u => ExtL.alloc, trivial⟩, fun w8 e8 => ?_⟩)⟩
 refine TenderW_spec (hP e8.f0) hf fun w9 r10 Z1 f9 T1 O1 => ⟨f9.ext, fun w11 e11 => ?_⟩
 have f11 := e8.f0.t (f9.t e11.f0)
 refine TenderW_spec (hP f11) hf fun w12 r13 Z2 f12 T2 O2 => ⟨f12.ext, fun w14 e14 w15 e15 _ g15 w16 e16 n16 g16 => ?_⟩
 have f14 := f11.t (f12.t e14.f0)
 have ga := e11.f0.t (f12.t e14.f0)
 have r15 := g15.f0.row (Row.new (cs := zT)) fun h => h
 have r16 := g16.f0.row (Row.new (cs := zT)) fun h => h
 have hne : w15.heap.size ≠ w16.heap.size := n16 _ (List.mem_cons_self ..)
 have l15 := e15.f0.1
 have l16 := e16.f0.1
 generalize w15.heap.size = ba at hne r15 l15 ⊢
 generalize w16.heap.size = bo at hne r16 l16 ⊢
 refine two_box r15 r16 hne (T1.fr ga) (O1.fr ga) (T2.fr e14.f0) (O2.fr e14.f0) (fun u f => f14.trans f fun b hb _ => by omega) fun w18 f18 v1 v2 U1 U2 => ?_
 have F18 : Fr F0 w4 w18 := f14.trans f18 fun b hb _ => by omega
 have A1 := tdP_fitK hf
 have B1 := A1.fit
 have W18 := m.1.t F18
 intro w19
 have d : Fr F0 w18 w19 := Fr.drew
 clear_value w19
 have W19 := W18.t d
 have v1 := d.row v1 fun h => h
 have v2 := d.row v2 fun h => h
 have U1 := U1.fr d
 have U2 := U2.fr d
 have g19 := g.fr W19
 have R1 : ∀ {u : World}, Fr F0 w19 u -> Row u ba r10.cs := fun f => f.row v1 fun h => h
 have R2 : ∀ {u : World}, Fr F0 w19 u -> Row u bo r13.cs := fun f => f.row v2 fun h => h
 refine ⟨fun u => Fr F0 w19 u, Fr.refl, T43.lds_row (fun _ h => R1 h) (T43.lds_row (fun _ h => R2 h) (T43.lds_row (fun _ h => R1 h) (T43.lds_row (fun _ h => R2 h) ?_)))⟩
 refine Changed_spec U1.tp U2.tp B1 B1 g19 fun w25 s1 m1 => ⟨m1.fr0, ?_⟩
 refine Affected_spec (U1.tp.fr m1.fr0) (U2.tp.fr m1.fr0) B1 B1 (g19.fr m1.fr0) fun w27 s2 m2 => ⟨m1.fr0.t m2.fr0, ?_⟩
 have F27 := m1.fr0.t m2.fr0
 have h1 := m1.len
 have h2 := m2.len
 rw [changed_self] at h1
 rw [affected_self] at h2
 simp only [List.length_nil] at h1 h2
 refine ⟨inR64 (by omega) (by omega), cnd_bne.2 ⟨fun h => absurd (by omega) h, fun _ => ?_⟩⟩
 refine T43.lds_row (fun _ h => R1 h) (T43.lds_row (fun _ h => R2 h) ?_)
 refine Touches_spec (U1.tp.fr F27) (U2.tp.fr F27) B1 B1 (g19.fr F27) (hv.fr (W19.t F27)) hl hi fun w31 f31 => ⟨F27.t f31, ?_⟩
 rw [touches_self]
 have F31 := F27.t f31
 have W31 := W19.t F31
 have kw := m.1.1
 refine Same_l0_spec (lo := 0) W31 (by omega) hne (R1 F31) (R2 F31) (U1.fr F31) (.inr rfl) (U2.fr F31).te B1 (FitK.mono A1 (by omega)) g he (fun e h => (hei e h).2.2) hv hl hi fun w' f => hK w' f
end
end Go.Proofs.YtfkmpbpkahcogaaGreatDoor
