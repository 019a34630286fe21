/- The reference: Both, Changed, Affected, Touches. Conditions: none. -/
import Derived.Test.YtfkmpbpkahcogaaGreatDoorDV4
import Derived.Test.YtfkmpbpkahcogaaGreatDoorProg
import Derived.KernelRfl
import Derived.Test.YtfkmpbpkahcogaaGreatDoorPwY
import Derived.Test.YtfkmpbpkahcogaaGreatDoorDT
import Derived.Test.YtfkmpbpkahcogaaGreatDoorCG0
import Derived.Test.YtfkmpbpkahcogaaGreatDoorCG1
import Derived.Test.YtfkmpbpkahcogaaGreatDoorDG0
import Derived.Test.YtfkmpbpkahcogaaGreatDoorDG1
import Derived.Test.YtfkmpbpkahcogaaGreatDoorDG2
import Derived.Test.YtfkmpbpkahcogaaGreatDoorDG3
import Derived.Test.YtfkmpbpkahcogaaGreatDoorDG4
import Derived.Test.YtfkmpbpkahcogaaGreatDoorDG5
namespace Go.Proofs.YtfkmpbpkahcogaaGreatDoor
open Go Pw Dp
section
variable {v w u w' : World} {x y : T43} {a b : Td} {b1 b2 : Nat} {c : B} {s s' all us : Sl} {A S U : List B}
theorem Fit.cl {t : Td} (h : Fit t) : (clauses t).length <= 2 ^ 22 := by
 have := clauses_len t
 have := h.lots; have := h.crit; have := h.reqs
 omega
theorem Fit.both {a b : Td} (h : Fit a) (h' : Fit b) : (both a b).length <= 2 ^ 23 := by
 have := foldB_len (clauses a) (clauses b)
 have := h.cl
 have := h'.cl
 unfold Dp.both
 omega
theorem rBoth_spec {K : Sl -> World -> Prop} (hx : TP w x a) (hy : TP w y b) (hA : Fit a) (hB : Fit b) (hK : ∀ w' r, Mk w 1 encB w' r (both a b) -> K r w') : z1h_sh x y K w := by
 have ha := hA.cl
 have hb := hB.cl
 refine ⟨?_⟩
 unfold z1h_sd
 intro w1
 have m : Mem w w1 [(w.heap.size, x.cs)] := Mem.nil.allocL
 clear_value w1
 intro w2
 have m : Mem w w2 [(w1.heap.size, y.cs), (w.heap.size, x.cs)] := m.allocL
 clear_value w2
 refine T43.ld_row (m.row 0 rfl) (rClauses_spec (hy.fr m.1) hB fun w3 r hm => ?_)
 have m3 := m.fr hm.fr0
 refine T43.ld_row (m3.row 1 rfl) (rClauses_spec (hx.fr m3.1) hA fun w4 q hq => ?_)
 have hel := hq.len
 have hr4 : Mk w2 1 encB w4 r (clauses b) := hm.fr hq.fr0
 have hqn : ∀ b, inB q b -> w3.heap.size <= b := hq.nw
 have hrn : ∀ c, inB r c -> c < w3.heap.size := fun c hc => hm.ow.lt' hc
 refine ⟨⟨fun out i u => ∃ i' : Nat, i = i' /\ i' <= (clauses a).length /\ NW w2 u q out (clauses a) (((clauses a).take i').foldl addB (clauses b)), fun _ i _ => (clauses a).length - i.toNat, ⟨0, rfl, by omega, by simpa using hr4, hq.ow.vw, fun _ c hc => ⟨hq.ow.lt' hc, fun h => by have := hrn c h; have := hqn c hc; omega⟩⟩, ?_⟩⟩
 rintro out i u ⟨i, rfl, hi, hu⟩
 unfold z1h_b0
 have hlen := foldB_len ((clauses a).take i) (clauses b)
 simp only [List.length_take] at hlen
 refine cnd_prop.2 ⟨fun hlt => ?_, fun hge => ?_⟩
 ·have hil : i < (clauses a).length := by omega
  have et : (clauses a).take (i + 1) = (clauses a).take i ++ [(clauses a)[i]] := by rw [List.take_add_one, List.getElem?_eq_getElem hil]; rfl
  refine ldB hu.nv i rfl hil (rhas_spec hu.ow.vw (by omega) (cnd_iff.2 ⟨fun h => ?_, fun h => ?_⟩))
  ·have hn : (clauses a)[i] ∉ ((clauses a).take i).foldl addB (clauses b) := by simpa using h
   refine ldB hu.nv i rfl hil (hu.push (a := (clauses a)[i]) rfl (by omega) fun s6 w7 h7 => ⟨inR64 (by omega) (by omega), ⟨⟨rfl, trivial⟩, i + 1, by omega, by omega, ?_⟩, by dsimp only; omega⟩)
   rw [et, List.foldl_append]
   rw [← addB_new hn] at h7
   exact h7
  ·have hn : (clauses a)[i] ∈ ((clauses a).take i).foldl addB (clauses b) := by simpa using h
   refine ⟨inR64 (by omega) (by omega), ⟨⟨rfl, trivial⟩, i + 1, by omega, by omega, ?_⟩, by dsimp only; omega⟩
   rw [et, List.foldl_append]
   rw [← addB_in hn] at hu
   exact hu
 ·have : i = (clauses a).length := by omega
  subst this
  rw [List.take_length] at hu
  exact hK u out ⟨m.1.t hu.ow.fr0, hu.ow.ow, fun b hb => Nat.le_trans m.1.1 (hu.ow.nw b hb)⟩
theorem rdiffers_spec {K : Bool -> World -> Prop} (hx : TP w x a) (hy : TP w y b) (hA : Fit a) (hB : Fit b) (hK : ∀ w', Fr F0 w w' -> K (isCh a b c) w') : z0m_sh x y (ofL c) K w := by
 have ha := hA.cl
 have hb := hB.cl
 refine ⟨?_⟩
 unfold z0m_sd
 intro w1
 have m : Mem w w1 [(w.heap.size, x.cs)] := Mem.nil.allocL
 clear_value w1
 intro w2
 have m : Mem w w2 [(w1.heap.size, y.cs), (w.heap.size, x.cs)] := m.allocL
 clear_value w2
 refine T43.ld_row (m.row 1 rfl) (rClauses_spec (hx.fr m.1) hA fun w3 r hm => rhas_spec hm.vw (by omega) ?_)
 have m3 := m.fr hm.fr0
 refine T43.ld_row (m3.row 0 rfl) (rClauses_spec (hy.fr m3.1) hB fun w4 q hq => rhas_spec hq.vw (by omega) ?_)
 have m4 := m3.fr hq.fr0
 have e : isCh a b c = !(decide (c ∈ clauses a) && (decide (c ∈ clauses b) && eqc a b c)) := rfl
 refine cnd_iff.2 ⟨fun h => ?_, fun h1 => cnd_iff.2 ⟨fun h => ?_, fun h2 => ?_⟩⟩
 ·have : isCh a b c = true := by
   have : decide (c ∈ clauses a) = false := by simpa using h
   rw [e, this]
   rfl
  rw [← this]
  exact hK w4 m4.1
 ·have : isCh a b c = true := by
   have : decide (c ∈ clauses b) = false := by simpa using h
   rw [e, this]
   simp
  rw [← this]
  exact hK w4 m4.1
 have h1 : c ∈ clauses a := by simpa using h1
 have h2 : c ∈ clauses b := by simpa using h2
 have e : isCh a b c = !eqc a b c := by rw [e, decide_eq_true h1, decide_eq_true h2]; rfl
 rw [e] at hK
 rw [show decide (ofL c = str [102, 111, 114, 109, 117, 108, 97]) = decide (c = wForm) from ofL_dec c wForm]
 refine cnd_prop.2 ⟨fun h => ?_, fun h => ?_⟩
 ·subst h
  have rx := m4.row 1 rfl
  have ry := m4.row 0 rfl
  refine ⟨_, rx.at (i := 6) rfl, _, rx.at (i := 7) rfl, _, rx.at (i := 8) rfl, _, rx.at (i := 9) rfl, x.f10, rx.at (i := 10) rfl, _, ry.at (i := 6) rfl, _, ry.at (i := 7) rfl, _, ry.at (i := 8) rfl, _, ry.at (i := 9) rfl, y.f10, ry.at (i := 10) rfl, ?_⟩
  exact rSame_spec a.fm (c := ⟨x.f6, x.f7, x.f8, x.f9, x.f10⟩) (d := ⟨y.f6, y.f7, y.f8, y.f9, y.f10⟩) (hx.fr m4.1).fm (hy.fr m4.1).fm fun w' f => hK w' (m4.1.t f)
 ·intro w25
  have f25 : Fr F0 w4 w25 := Fr.drew
  clear_value w25
  have m5 := m4.fr f25
  refine ⟨fun u => Fr F0 w25 u, Fr.refl, T43.lds_row (fun u hu => (m5.fr hu).row 1 rfl) (T43.lds_row (fun u hu => (m5.fr hu).row 0 rfl) ?_)⟩
  refine rContent_spec (hx.fr m5.1) hA fun w29 f29 => ⟨f29, rContent_spec (hy.fr (m5.1.t f29)) hB fun w31 f31 => ⟨f29.t f31, ?_⟩⟩
  rw [ofL_dec, cont_eq hA hB h1 h2 h]
  exact hK w31 (m5.1.t (f29.t f31))
theorem rChanged_spec {K : Sl -> World -> Prop} (hx : TP w x a) (hy : TP w y b) (hA : Fit a) (hB : Fit b) (hK : ∀ w' r, Mk w 1 encB w' r (changed a b) -> K r w') : z0h_sh x y K w := by
 have hbl := hA.both hB
 refine ⟨?_⟩
 unfold z0h_sd
 intro w1
 have m : Mem w w1 [(w.heap.size, x.cs)] := Mem.nil.allocL
 clear_value w1
 intro w2
 have m : Mem w w2 [(w1.heap.size, y.cs), (w.heap.size, x.cs)] := m.allocL
 clear_value w2
 refine T43.ld_row (m.row 1 rfl) (T43.ld_row (m.row 0 rfl) (rBoth_spec (hx.fr m.1) (hy.fr m.1) hA hB fun v all hall => ?_))
 have m3 := m.fr hall.fr0
 have el := hall.len
 refine ⟨⟨fun out i u => ∃ i' : Nat, i = i' /\ i' <= (both a b).length /\ Mk v 1 encB u out (((both a b).take i').filter (isCh a b)), fun _ i _ => (both a b).length - i.toNat, ⟨0, rfl, by omega, Mk.nil Fr.refl⟩, ?_⟩⟩
 rintro out i u ⟨i, rfl, hi, hu⟩
 unfold z0h_b0
 have hlen := hu.len
 have hlen2 : out.l <= i := by rw [hlen]; exact Nat.le_trans (List.length_filter_le _ _) (by simp; omega)
 refine cnd_prop.2 ⟨fun hlt => ?_, fun hge => ?_⟩
 ·have hil : i < (both a b).length := by omega
  have et : (both a b).take (i + 1) = (both a b).take i ++ [(both a b)[i]] := by rw [List.take_add_one, List.getElem?_eq_getElem hil]; rfl
  intro w7
  have f7 : Fr F0 u w7 := Fr.drew
  clear_value w7
  have hu7 := hu.fr f7
  have m7 := m3.fr hu7.fr0
  refine ⟨fun e => Fr F0 w7 e, Fr.refl, T43.lds_row (fun e he => (m7.fr he).row 1 rfl) (T43.lds_row (fun e he => (m7.fr he).row 0 rfl) (Vw.goS encB_length (by decide) Fr.refl (fun e he => hall.vw.fr (hu7.fr0.t he)) i rfl hil fun _ hc => ⟨_, hc 0 _ rfl, ?_⟩))⟩
  refine rdiffers_spec (hx.fr m7.1) (hy.fr m7.1) hA hB fun w13 f13 => cnd_iff.2 ⟨fun h => ?_, fun h => ?_⟩
  ·have hu13 := hu7.fr f13
   refine ldB (hall.vw.fr hu13.fr0) i rfl hil ?_
   refine hu13.push (a := (both a b)[i]) rfl rfl encB_ok rfl (by omega) (by omega) fun s6 w7 h7 _ => ⟨inR64 (by omega) (by omega), ⟨⟨rfl, rfl, rfl, trivial⟩, i + 1, by omega, by omega, ?_⟩, by dsimp only; omega⟩
   rw [et, List.filter_append, List.filter_cons, if_pos h]
   exact h7
  ·refine ⟨inR64 (by omega) (by omega), ⟨⟨rfl, rfl, rfl, trivial⟩, i + 1, by omega, by omega, ?_⟩, by dsimp only; omega⟩
   rw [et, List.filter_append, List.filter_cons, if_neg (by rw [h]; decide), List.filter_nil, List.append_nil]
   exact hu7.fr f13
 ·have : i = (both a b).length := by omega
  subst this
  rw [List.take_length] at hu
  exact hK u out ⟨m3.1.t hu.fr0, hu.ow, fun b hb => Nat.le_trans m3.1.1 (hu.nw b hb)⟩
theorem rAff_l2 {o n : Addr} {there more : Bool} {k : Nat} {N1 : Addr -> Addr -> Sl -> Sl -> Bool -> Int -> World -> Prop} {N0 : Addr -> Addr -> Sl -> Sl -> Bool -> World -> Prop} {K : Sl -> World -> Prop}
  (hal : Vw 1 encB v all A) (hm : Mk v 1 encB w s S) (hus : Vw 1 encB w us U) (hk : k < A.length) (hc : there = decide (A[k] ∈ S)) (hU : U.length <= 2 ^ 40) (hS : S.length <= 2 ^ 40)
  (hN : ∀ s' u' more', Mk v 1 encB u' s' (if U.any (fun d => decide (d ∈ S)) then addB S A[k] else S) -> (more' = (more || decide (s'.l ≠ S.length))) -> inR .i64 ((k : Int) + 1) /\ N1 o n all s' more' ((k : Int) + 1) u') : z0b_l2 o n all s more k there us 0 N1 N0 K w := by
 have el := hus.len
 refine ⟨⟨fun s' more' there' j u => ∃ j' : Nat, j = j' /\ j' <= U.length /\ ((there' = false /\ more' = more /\ s' = s /\ A[k] ∉ S /\ Fr F0 w u /\ ∀ d ∈ U.take j', d ∉ S) \/ (there' = true /\ Mk v 1 encB u s' (if U.any (fun d => decide (d ∈ S)) then addB S A[k] else S) /\ more' = (more || decide (s'.l ≠ S.length)))), fun _ _ _ j _ => U.length - j.toNat, ⟨0, rfl, by omega, ?_⟩, ?_⟩⟩
 ·cases there with
  | false => exact .inl ⟨rfl, rfl, rfl, of_decide_eq_false hc.symm, Fr.refl, fun d hd => by simp at hd⟩
  | true =>
   have hin : A[k] ∈ S := of_decide_eq_true hc.symm
   have e : (if U.any (fun d => decide (d ∈ S)) then addB S A[k] else S) = S := by rw [addB_in hin]; split <;> rfl
   rw [e]
   exact .inr ⟨rfl, hm, by simp [hm.len]⟩
 rintro s' more' there' j u ⟨j, rfl, hj, hI⟩
 unfold z0b_b2
 refine cnd_prop.2 ⟨fun hlt => ?_, fun hge => ?_⟩
 ·have hjl : j < U.length := by omega
  rcases hI with ⟨rfl, rfl, rfl, hnin, hf, hno⟩ | ⟨rfl, h1, h2⟩
  ·show cnd true _ _
   rw [cnd_true]
   have hmu := hm.fr hf
   refine ldB (hus.fr hf) j rfl hjl (rhas_spec hmu.vw (by omega) (cnd_iff.2 ⟨fun h => ?_, fun h => ?_⟩))
   ·have h : U[j] ∈ S := by simpa using h
    refine ldB (hal.fr hmu.fr0) k rfl hk ?_
    refine hmu.push (a := A[k]) rfl rfl encB_ok rfl (by omega) (by omega) fun s6 w7 h7 _ => ⟨inR64 (by omega) (by omega), ⟨⟨rfl, rfl, rfl, rfl, rfl, trivial⟩, j + 1, by omega, by omega, .inr ⟨rfl, ?_, ?_⟩⟩, by dsimp only; omega⟩
    ·have : U.any (fun d => decide (d ∈ S)) = true := List.any_eq_true.2 ⟨_, List.getElem_mem hjl, decide_eq_true h⟩
     rw [this, if_pos rfl, addB_new hnin]
     exact h7
    ·have := h7.len
     simp only [List.length_append, List.length_cons, List.length_nil] at this
     have : s6.l ≠ S.length := by omega
     simp [this]
   ·have h : U[j] ∉ S := by simpa using h
    refine ⟨inR64 (by omega) (by omega), ⟨⟨rfl, rfl, rfl, rfl, rfl, trivial⟩, j + 1, by omega, by omega, .inl ⟨rfl, rfl, rfl, hnin, hf, fun d hd => ?_⟩⟩, by dsimp only; omega⟩
    rw [List.take_add_one, List.getElem?_eq_getElem hjl, List.mem_append] at hd
    rcases hd with hd | hd
    ·exact hno d hd
    ·have : d = U[j] := by simpa using hd
     rw [this]
     exact h
  ·exact hN s' u more' h1 h2
 ·rcases hI with ⟨rfl, rfl, rfl, hnin, hf, hno⟩ | ⟨rfl, h1, h2⟩
  ·have : j = U.length := by omega
   subst this
   rw [List.take_length] at hno
   have hz : U.any (fun d => decide (d ∈ S)) = false := List.any_eq_false.2 fun d hd => by simpa using hno d hd
   refine hN _ u _ ?_ (by simp [hm.len])
   rw [hz, if_neg (by decide)]
   exact hm.fr hf
  ·exact hN s' u more' h1 h2
theorem rAff_l1 {N0 : Addr -> Addr -> Sl -> Sl -> Bool -> World -> Prop} {K : Sl -> World -> Prop} (hx : TP v x a) (hy : TP v y b) (hA : Fit a) (hB : Fit b) (r1 : Row v b1 x.cs) (r2 : Row v b2 y.cs) (hal : Vw 1 encB v all (both a b)) (hm : Mk v 1 encB w s S) (hn : S.Nodup) (hsub : ∀ c ∈ S, c ∈ both a b)
  (hN : ∀ s' u' more', Mk v 1 encB u' s' (roundA a b S) -> more' = decide (s'.l ≠ S.length) -> N0 ⟨b1, 0, none⟩ ⟨b2, 0, none⟩ all s' more' u') : z0b_l1 ⟨b1, 0, none⟩ ⟨b2, 0, none⟩ all s false 0 N0 K w := by
 have hbl := hA.both hB
 have ha := hA.cl
 have hb := hB.cl
 have el := hal.len
 refine ⟨⟨fun s' more' k u => ∃ k' : Nat, k = k' /\ k' <= (both a b).length /\ Mk v 1 encB u s' (stepsA a b S ((both a b).take k')) /\ more' = decide (s'.l ≠ S.length), fun _ _ k _ => (both a b).length - k.toNat, ⟨0, rfl, by omega, hm, by simp [hm.len]⟩, ?_⟩⟩
 rintro s' more' k u ⟨k, rfl, hk, hu, hmo⟩
 unfold z0b_b1
 refine cnd_prop.2 ⟨fun hlt => ?_, fun hge => ?_⟩
 ·have hkl : k < (both a b).length := by omega
  have et : (both a b).take (k + 1) = (both a b).take k ++ [(both a b)[k]] := by rw [List.take_add_one, List.getElem?_eq_getElem hkl]; rfl
  have hnd : (stepsA a b S ((both a b).take k)).Nodup := nodup_steps hn
  have hsb : ∀ c ∈ stepsA a b S ((both a b).take k), c ∈ both a b := by
   have : ∀ {l S : List B}, (∀ c ∈ S, c ∈ both a b) -> (∀ c ∈ l, c ∈ both a b) -> ∀ c ∈ stepsA a b S l, c ∈ both a b := by
    intro l
    induction l with
    | nil => exact fun h _ => h
    | cons z l ih =>
     intro S h h' c hc
     refine ih (S := stepA a b S z) (fun d hd => ?_) (fun d hd => h' d (List.mem_cons_of_mem _ hd)) c hc
     unfold stepA at hd
     split at hd
     ·rcases mem_addB.1 hd with hd | rfl
      ·exact h d hd
      ·exact h' _ (List.mem_cons_self ..)
     ·exact h d hd
   exact this hsub fun c hc => List.mem_of_mem_take hc
  have hSl := nodup_sub_len hnd hsb
  have hS0 := steps_len (a := a) (b := b) (l := (both a b).take k) (S := S)
  generalize hS1 : stepsA a b S ((both a b).take k) = S1 at *
  have hlu := hu.len
  refine ldB (hal.fr hu.fr0) k rfl hkl (rhas_spec hu.vw (by omega) ?_)
  intro w15
  have f15 : Fr F0 u w15 := Fr.drew
  clear_value w15
  have hu15 := hu.fr f15
  have F15 := hu15.fr0
  have R1 : ∀ e, Fr F0 w15 e -> Row e b1 x.cs := fun e he => (F15.t he).row r1 fun h => h
  have R2 : ∀ e, Fr F0 w15 e -> Row e b2 y.cs := fun e he => (F15.t he).row r2 fun h => h
  refine ⟨fun e => Fr F0 w15 e, Fr.refl, T43.lds_row R1 (Vw.goS encB_length (by decide) Fr.refl (fun e he => hal.fr (F15.t he)) k rfl hkl fun _ hc => ⟨_, hc 0 _ rfl, T43.lds_row R2 (Vw.goS encB_length (by decide) Fr.refl (fun e he => hal.fr (F15.t he)) k rfl hkl fun _ hc => ⟨_, hc 0 _ rfl, ?_⟩)⟩)⟩
  have lu : ∀ (t : Td) c, (uses t c).length <= (clauses t).length := uses_len
  have la := lu a (both a b)[k]
  have lb := lu b (both a b)[k]
  refine rUses_spec (hx.fr F15) hA fun w23 q hq => ⟨hq.fr0, rUses_spec (hy.fr (F15.t hq.fr0)) hB fun w25 r hr => ⟨hq.fr0.t hr.fr0, ?_⟩⟩
  refine (hq.fr hr.fr0).app hr.vw encB_ok rfl (by omega) (by omega) fun s27 w28 h28 _ => ⟨h28.fr0, ?_⟩
  refine rAff_l2 (more := more') (hal) (hu15.fr h28.fr0) h28.vw hkl rfl (by rw [List.length_append]; omega) (by omega) fun s6 u6 more6 h6 hmore => ⟨inR64 (by omega) (by omega), ⟨⟨rfl, rfl, rfl, trivial⟩, k + 1, by omega, by omega, ?_, ?_⟩, by dsimp only; omega⟩
  ·rw [et]
   have e : stepsA a b S ((both a b).take k ++ [(both a b)[k]]) = stepA a b (stepsA a b S ((both a b).take k)) (both a b)[k] := by
    unfold stepsA
    rw [List.foldl_append]
    rfl
   rw [e, hS1]
   unfold stepA hitB
   rw [← List.any_append]
   exact h6
  ·have h6l := h6.len
   have hge : S1.length <= s6.l := by
    rw [h6l]
    split
    ·unfold addB
     split
     ·exact Nat.le_refl _
     ·simp
    ·exact Nat.le_refl _
   rw [hmore, hmo, Bool.eq_iff_iff]
   simp only [Bool.or_eq_true, decide_eq_true_eq]
   omega
 ·have : k = (both a b).length := by omega
  subst this
  rw [List.take_length] at hu
  exact hN s' u more' hu hmo
theorem rUses_l13_like {K : Sl -> World -> Prop} {m : World} (ha : Vw 1 encB v all A) (hm : Mk v 1 encB m s S) (hl : A.length <= 2 ^ 40) (hl' : S.length <= 2 ^ 41) (hK : ∀ w' s', Mk v 1 encB w' s' (A.filter fun o => decide (o ∈ S)) -> K s' w') : z0b_l3 all s ⟨none, 0, 0⟩ 0 K m := by
 have ha := ha.fr hm.fr0
 have hw := hm.vw
 have hK : ∀ w' s', Mk m 1 encB w' s' (A.filter fun o => decide (o ∈ S)) -> K s' w' := fun w' s' h => hK w' s' ⟨hm.fr0.t h.fr0, h.ow, fun b hb => Nat.le_trans hm.fr0.1 (h.nw b hb)⟩
 have el := ha.len
 refine ⟨⟨fun out i u => ∃ i' : Nat, i = i' /\ i' <= A.length /\ Mk m 1 encB u out ((A.take i').filter fun o => decide (o ∈ S)), fun _ i _ => A.length - i.toNat, ⟨0, rfl, by omega, Mk.nil Fr.refl⟩, ?_⟩⟩
 rintro out i u ⟨i, rfl, hi, hu⟩
 unfold z0b_b3
 have hlen := hu.len
 have hlen2 : out.l <= i := by rw [hlen]; exact Nat.le_trans (List.length_filter_le _ _) (by simp; omega)
 have hv := ha.fr hu.fr0
 refine cnd_prop.2 ⟨fun hlt => ?_, fun hge => ?_⟩
 ·have hil : i < A.length := by omega
  have et : A.take (i + 1) = A.take i ++ [A[i]] := by rw [List.take_add_one, List.getElem?_eq_getElem hil]; rfl
  refine ldB hv i rfl hil (rhas_spec (hw.fr hu.fr0) (by omega) (cnd_iff.2 ⟨fun h => ?_, fun h => ?_⟩))
  ·refine ldB hv i rfl hil ?_
   refine hu.push (a := A[i]) rfl rfl encB_ok rfl (by omega) (by omega) fun s6 w7 h7 _ => ⟨inR64 (by omega) (by omega), ⟨⟨rfl, rfl, trivial⟩, i + 1, by omega, by omega, ?_⟩, by dsimp only; omega⟩
   rw [et, List.filter_append, List.filter_cons, if_pos h]
   exact h7
  ·refine ⟨inR64 (by omega) (by omega), ⟨⟨rfl, rfl, trivial⟩, i + 1, by omega, by omega, ?_⟩, by dsimp only; omega⟩
   rw [et, List.filter_append, List.filter_cons, if_neg (by rw [h]; decide), List.filter_nil, List.append_nil]
   exact hu
 ·have : i = A.length := by omega
  subst this
  rw [List.take_length] at hu
  exact hK u out hu
theorem rAffected_spec {K : Sl -> World -> Prop} (hx : TP w x a) (hy : TP w y b) (hA : Fit a) (hB : Fit b) (hK : ∀ w' r, Mk w 1 encB w' r (affected a b) -> K r w') : z0b_sh x y K w := by
 have hbl := hA.both hB
 refine ⟨?_⟩
 unfold z0b_sd
 intro w1
 have m : Mem w w1 [(w.heap.size, x.cs)] := Mem.nil.allocL
 clear_value w1
 intro w2
 have m : Mem w w2 [(w1.heap.size, y.cs), (w.heap.size, x.cs)] := m.allocL
 clear_value w2
 refine T43.ld_row (m.row 1 rfl) (T43.ld_row (m.row 0 rfl) (rBoth_spec (hx.fr m.1) (hy.fr m.1) hA hB fun v all hall => ?_))
 have m3 := m.fr hall.fr0
 have el := hall.len
 refine T43.ld_row (m3.row 1 rfl) (T43.ld_row (m3.row 0 rfl) (rChanged_spec (hx.fr m3.1) (hy.fr m3.1) hA hB fun w9 r hr => ?_))
 refine ⟨⟨fun s' more' u => ∃ S : List B, Mk v 1 encB u s' S /\ S.Nodup /\ (∀ c ∈ changed a b, c ∈ S) /\ (∀ c ∈ S, Aff a b c) /\ (more' = false -> ClosedA a b S), fun s' more' _ => 2 * ((both a b).length + 1 - s'.l) + more'.toNat, ⟨_, hr, (nodup_both a b).filter _, fun c h => h, fun c h => .base h, fun h => by cases h⟩, ?_⟩⟩
 rintro s' more' u ⟨S, hu, hn, h1, h2, h3⟩
 have hsub : ∀ c ∈ S, c ∈ both a b := fun c hc => aff_both (h2 c hc)
 have hSl := nodup_sub_len hn hsub
 have hlu := hu.len
 unfold z0b_b0
 refine cnd_iff.2 ⟨fun hm => ?_, fun hm => ?_⟩
 ·refine rAff_l1 (hx.fr m3.1) (hy.fr m3.1) hA hB (m3.row 1 rfl) (m3.row 0 rfl) hall.vw hu hn hsub fun s6 u6 more6 h6 hmore => ⟨⟨⟨rfl, rfl, rfl, trivial⟩, _, h6, nodup_steps hn, fun c hc => steps_sub (h1 c hc), steps_aff h2 fun c hc => hc, fun hf => ?_⟩, ?_⟩
  ·have h6l := h6.len
   have : s6.l = S.length := by
    rw [hmore] at hf
    have := of_decide_eq_false hf
    omega
   have hcl := round_closed (a := a) (b := b) (S := S) (by omega)
   have e : roundA a b S = S := closed_steps hcl fun c hc => hc
   exact e.symm ▸ hcl
  ·have h6l := h6.len
   have hge : S.length <= s6.l := by rw [h6l]; exact steps_len
   have hle : s6.l <= (both a b).length := by
    rw [h6l]
    exact nodup_sub_len (nodup_steps hn) fun c hc => aff_both (steps_aff h2 (fun c hc => hc) c hc)
   dsimp only
   rw [hm, hmore]
   by_cases h : s6.l = S.length
   ·rw [decide_eq_false (by omega)]
    simp only [Bool.toNat_false, Bool.toNat_true]
    omega
   ·rw [decide_eq_true (by omega)]
    simp only [Bool.toNat_true]
    omega
 ·refine rUses_l13_like hall.vw hu (by omega) (by omega) fun w' s6 h6 => hK w' s6 ?_
  rw [← ref_done h1 h2 (h3 hm)]
  exact ⟨m3.1.t h6.fr0, h6.ow, fun b hb => Nat.le_trans m3.1.1 (h6.nw b hb)⟩
theorem hits_words {lots : List Int} {c : B} (h : c = wName \/ c = wTimes \/ c = wMost \/ c = wCombos \/ c = wBudget) : hitsB lots c = false := by
 have : ∀ w ∈ [wName, wTimes, wMost, wCombos, wBudget], wLot.isPrefixOf w = false := by decide
 have hm : c ∈ [wName, wTimes, wMost, wCombos, wBudget] := by simpa using h
 unfold hitsB
 rw [this c hm, decide_eq_true hm]
 rfl
theorem pre_lot {c : B} (h : ¬ c.length < 4) : wLot.isPrefixOf c = decide (c.take 4 = wLot) := by
 match c, h with
 | [], h => exact absurd (by simp) h
 | [_], h => exact absurd (by simp) h
 | [_, _], h => exact absurd (by simp) h
 | [_, _, _], h => exact absurd (by simp) h
 | a :: b :: d :: e :: r, _ =>
  rw [Bool.eq_iff_iff, List.isPrefixOf_iff_prefix, decide_eq_true_eq]
  constructor
  ·rintro ⟨t, ht⟩
   rw [← ht]
   rfl
  ·intro h
   exact ⟨r, by rw [← h]; rfl⟩
theorem pre_short {c : B} (h : c.length < 4) : wLot.isPrefixOf c = false := by
 rw [Bool.eq_false_iff]
 intro hp
 obtain ⟨t, ht⟩ := List.isPrefixOf_iff_prefix.1 hp
 rw [← ht] at h
 simp [wLot] at h
 omega
theorem rTouches_spec {lots : Sl} {L : List Int} {K : Bool -> World -> Prop} (hx : TP w x a) (hy : TP w y b) (hA : Fit a) (hB : Fit b) (hv : Vw 1 encI w lots L) (hl : L.length < 2 ^ 62) (hi : ∀ i ∈ L, I64 i) (hK : ∀ w', Fr F0 w w' -> K (touches a b L) w') : z0k_sh x y lots K w := by
 have hbl := hA.both hB
 have hal : (affected a b).length <= (both a b).length := List.length_filter_le _ _
 have ev := hv.len
 refine ⟨?_⟩
 unfold z0k_sd
 intro w1
 have m : Mem w w1 [(w.heap.size, x.cs)] := Mem.nil.allocL
 clear_value w1
 intro w2
 have m : Mem w w2 [(w1.heap.size, y.cs), (w.heap.size, x.cs)] := m.allocL
 clear_value w2
 refine T43.ld_row (m.row 1 rfl) (T43.ld_row (m.row 0 rfl) (rAffected_spec (hx.fr m.1) (hy.fr m.1) hA hB fun v r hr => ?_))
 have m3 := m.fr hr.fr0
 have el := hr.len
 have et : touches a b L = (affected a b).any (hitsB L) := rfl
 refine ⟨⟨fun k u => ∃ k' : Nat, k = k' /\ k' <= (affected a b).length /\ Fr F0 v u /\ ((affected a b).take k').any (hitsB L) = false, fun k _ => (affected a b).length - k.toNat, ⟨0, rfl, by omega, Fr.refl, by simp⟩, ?_⟩⟩
 rintro k u ⟨k, rfl, hk, hf, hb⟩
 unfold z0k_b0
 refine cnd_prop.2 ⟨fun hlt => ?_, fun hge => ?_⟩
 ·have hkl : k < (affected a b).length := by omega
  have yes : ∀ {u' : World}, Fr F0 v u' -> hitsB L (affected a b)[k] = true -> K true u' := fun hf' hh => by
   have := hK _ (m3.1.t hf')
   rw [et, List.any_eq_true.2 ⟨_, List.getElem_mem hkl, hh⟩] at this
   exact this
  have no : hitsB L (affected a b)[k] = false -> ((affected a b).take (k + 1)).any (hitsB L) = false := fun hh => by
   rw [List.take_add_one, List.getElem?_eq_getElem hkl, List.any_append, hb]
   simp [hh]
  have rd : ∀ {J : ByteArray -> Prop}, J (ofL (affected a b)[k]) -> nz r.p fun a => (0 <= (k : Int) /\ (k : Int) < (r.l : Nat)) /\ ∃ x : ByteArray, u.cell? (a.add ((k : Int).toNat * 1)) = some (Value.string x) /\ J x := fun hJ => ldB (hr.vw.fr hf) k rfl hkl hJ
  have nx : ∀ {u' : World}, Fr F0 v u' -> hitsB L (affected a b)[k] = false -> inR .i64 ((k : Int) + 1) /\ ((lots = lots /\ r = r /\ True) /\ ∃ k' : Nat, (k : Int) + 1 = k' /\ k' <= (affected a b).length /\ Fr F0 v u' /\ ((affected a b).take k').any (hitsB L) = false) /\ (affected a b).length - ((k : Int) + 1).toNat < (affected a b).length - ((k : Int)).toNat := fun hf' hh =>
   ⟨inR64 (by omega) (by omega), ⟨⟨rfl, rfl, trivial⟩, k + 1, by omega, by omega, hf', no hh⟩, by omega⟩
  generalize hc : (affected a b)[k] = c at *
  refine rd ?_
  rw [show decide (ofL c = str [110, 97, 109, 101]) = decide (c = wName) from ofL_dec c wName]
  refine cnd_prop.2 ⟨fun h => nx hf (hits_words (.inl h)), fun n1 => rd ?_⟩
  rw [show decide (ofL c = str [116, 105, 109, 101, 115]) = decide (c = wTimes) from ofL_dec c wTimes]
  refine cnd_prop.2 ⟨fun h => nx hf (hits_words (.inr (.inl h))), fun n2 => rd ?_⟩
  rw [show decide (ofL c = str [109, 111, 115, 116]) = decide (c = wMost) from ofL_dec c wMost]
  refine cnd_prop.2 ⟨fun h => nx hf (hits_words (.inr (.inr (.inl h)))), fun n3 => rd ?_⟩
  rw [show decide (ofL c = str [99, 111, 109, 98, 111, 115]) = decide (c = wCombos) from ofL_dec c wCombos]
  refine cnd_prop.2 ⟨fun h => nx hf (hits_words (.inr (.inr (.inr (.inl h))))), fun n4 => rd ?_⟩
  rw [show decide (ofL c = str [98, 117, 100, 103, 101, 116]) = decide (c = wBudget) from ofL_dec c wBudget]
  refine cnd_prop.2 ⟨fun h => nx hf (hits_words (.inr (.inr (.inr (.inr h))))), fun n5 => rd ?_⟩
  have nq : decide (c ∈ [wName, wTimes, wMost, wCombos, wBudget]) = false := decide_eq_false (by simp [n1, n2, n3, n4, n5])
  have hit : wLot.isPrefixOf c = false -> hitsB L c = true := fun h => by unfold hitsB; rw [h, nq]; rfl
  rw [ofL_sz]
  refine cnd_prop.2 ⟨fun h => yes hf (hit (pre_short (by omega))), fun h4 => rd ?_⟩
  rw [ofL_sz]
  refine ⟨⟨by omega, by omega, by omega⟩, ?_⟩
  have ex : (ofL c).extract 0 4 = ofL (c.take 4) := bl_inj (by rw [bl_ofL, bl_extract, bl_ofL]; simp)
  rw [ex, show decide (ofL (c.take 4) = str [108, 111, 116, 32]) = decide (c.take 4 = wLot) from ofL_dec _ wLot, ← pre_lot (by omega)]
  refine cnd_iff.2 ⟨fun h => yes hf (hit (by simpa using h)), fun h => ?_⟩
  have hp : wLot.isPrefixOf c = true := by simpa using h
  have eh : hitsB L c = L.any fun i => decide (lotC i = c) := by unfold hitsB; rw [if_pos hp]
  refine ⟨⟨fun j u => ∃ j' : Nat, j = j' /\ j' <= L.length /\ Fr F0 v u /\ (L.take j').any (fun i => decide (lotC i = c)) = false, fun j _ => L.length - j.toNat, ⟨0, rfl, by omega, hf, by simp⟩, ?_⟩⟩
  rintro j u1 ⟨j, rfl, hj, hf1, hb1⟩
  unfold z0k_b1
  refine cnd_prop.2 ⟨fun hlt => ?_, fun hge => ?_⟩
  ·have hjl : j < L.length := by omega
   intro w21
   have f21 : Fr F0 u1 w21 := Fr.drew
   clear_value w21
   have F21 := hf1.t f21
   refine ⟨fun e => Fr F0 w21 e, Fr.refl, Vw.goS encI_length (by decide) Fr.refl (fun e he => hv.fr (m3.1.t (F21.t he))) j rfl hjl fun _ hc' => ⟨_, hc' 0 _ rfl, Vw.goS encB_length (by decide) Fr.refl (fun e he => hr.vw.fr (F21.t he)) k rfl hkl fun _ hc' => ⟨_, hc' 0 _ rfl, ?_⟩⟩⟩
   refine rLot_spec (hi _ (List.getElem_mem hjl)) fun w27 f27 => ⟨f27, ?_⟩
   rw [hc, ofL_dec]
   refine cnd_prop.2 ⟨fun h => yes (F21.t f27) ?_, fun h => ?_⟩
   ·rw [eh]
    exact List.any_eq_true.2 ⟨_, List.getElem_mem hjl, decide_eq_true h⟩
   ·refine ⟨inR64 (by omega) (by omega), ⟨⟨rfl, rfl, rfl, trivial⟩, j + 1, by omega, by omega, F21.t f27, ?_⟩, by dsimp only; omega⟩
    rw [List.take_add_one, List.getElem?_eq_getElem hjl, List.any_append, hb1]
    simp [h]
  ·have : j = L.length := by omega
   subst this
   rw [List.take_length] at hb1
   exact nx hf1 (by rw [eh]; exact hb1)
 ·have : k = (affected a b).length := by omega
  subst this
  rw [List.take_length] at hb
  have := hK u (m3.1.t hf)
  rw [et, hb] at this
  exact this
end
end Go.Proofs.YtfkmpbpkahcogaaGreatDoor
set_option maxRecDepth 20000
set_option maxRecDepth 20000
