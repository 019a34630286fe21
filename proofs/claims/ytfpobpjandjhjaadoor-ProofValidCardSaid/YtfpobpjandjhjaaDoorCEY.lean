/- The reference's numbers, read one after the other; the lots of the problem that they determine. Conditions: none. -/
import Derived.Test.YtfpobpjandjhjaaDoorRM
import Derived.Test.YtfpobpjandjhjaaDoorCG5
import Derived.Test.YtfpobpjandjhjaaDoorCEX
import Derived.Test.YtfpobpjandjhjaaDoorCDZ
import Derived.Test.YtfpobpjandjhjaaDoorPwQ
import Derived.Test.YtfpobpjandjhjaaDoorCDY
namespace Go.Proofs.YtfpobpjandjhjaaDoor
open Go Pw
section
variable {w w' w0 : World} {s t : Sl} {L : List (Nat × List Value)} {l : List Int} {mb : Nat}
def nmC (s : Sl) (l : List Int) (i : Nat) : List Value := [.slice s.p s.l s.c, .int .i64 (min i l.length : Nat)]
theorem next_mem {i : Nat} {n : Int} {K : Int -> World -> Prop} (hv : VI w0 s l) (hl : l.length < 2 ^ 63) (m : Mem w0 w L) (j : Nat) (hj : L[j]? = some (mb, nmC s l i)) (hn0 : 0 < n) (hn : n < 4611686018427387904)
  (hK : ∀ w', Mem w0 w' (L.set j (mb, nmC s l (i + 1))) -> Fr (fun b => b = mb) w w' -> K (nv l i n) w') : z03_sh (some ⟨mb, 0, none⟩) n K w := by
 refine ⟨?_⟩
 unfold z03_sd
 have hlen := hv.len
 have hjl : j < L.length := (List.getElem?_eq_some_iff.1 hj).1
 intro w1
 have m1 : Mem w0 w1 _ := m.drew
 have hf1 : Fr (fun b => b = mb) w w1 := Fr.drew
 clear_value w1
 refine nz_iff.2 ⟨_, rfl, _, m1.ld j hj rfl, ?_⟩
 refine nz_iff.2 ⟨_, rfl, s, m1.ld j hj rfl, ?_⟩
 rw [cnd_prop]
 refine ⟨fun hge => ?_, fun hlt => ?_⟩
 ·have hil : l.length <= i := by omega
  have e : nmC s l (i + 1) = nmC s l i := by unfold nmC; rw [Nat.min_eq_right hil, Nat.min_eq_right (by omega)]
  have := hK w1 (by rw [e, set_self hj]; exact m1) hf1
  rwa [nv_out hil] at this
 ·have hil : i < l.length := by omega
  have hmin : min i l.length = i := by omega
  refine nz_iff.2 ⟨_, rfl, _, m1.ld j hj rfl, inR64 (by omega) (by omega), ?_⟩
  refine nz_iff.2 ⟨_, rfl, m1.wr j hj rfl, ?_⟩
  intro w2
  have m2 : Mem w0 w2 (L.set j (mb, [.slice s.p s.l s.c, .int .i64 ((min i l.length : Nat) + 1)])) := m1.set j hj
  have hf2 : Fr (fun b => b = mb) w1 w2 := Fr.set rfl
  clear_value w2
  have e : nmC s l (i + 1) = [.slice s.p s.l s.c, .int .i64 ((min i l.length : Nat) + 1)] := by
   unfold nmC
   rw [Nat.min_eq_left (by omega : i + 1 <= l.length), hmin]
   rfl
  rw [← e] at m2
  intro w3
  have m3 : Mem w0 w3 _ := m2.drew
  have hf3 : Fr (fun b => b = mb) w2 w3 := Fr.drew
  clear_value w3
  have hj3 : (L.set j (mb, nmC s l (i + 1)))[j]? = some (mb, nmC s l (i + 1)) := by simp [hjl]
  have hmin2 : min (i + 1) l.length = i + 1 := by omega
  refine ⟨fun u => Row u mb (nmC s l (i + 1)) /\ VI u s l, ⟨m3.row j hj3, hv.fr m3.1⟩, ?_⟩
  refine nz_iff.2 ⟨_, rfl, s, fun u hu => hu.1.at rfl, ?_⟩
  refine nz_iff.2 ⟨_, rfl, _, fun u hu => hu.1.at rfl, inR64 (by omega) (by omega), ?_⟩
  obtain ⟨ad, hp, _⟩ := hv.at (fun a => ie_length _ _ a) (List.getElem?_eq_getElem hil) (by decide)
  refine nz_iff.2 ⟨ad, hp, ⟨by omega, by omega⟩, l[i], fun u hu => ?_, ?_⟩
  ·obtain ⟨ad', hp', hc⟩ := hu.2.at (fun a => ie_length _ _ a) (List.getElem?_eq_getElem hil) (by decide)
   rw [hp] at hp'
   cases hp'
   have e2 : ((((min (i + 1) l.length : Nat) : Int)) - 1).toNat = i := by omega
   rw [e2]
   exact hc 0 _ rfl
  ·refine Mod_spec hn0 hn ⟨⟨m3.row j hj3, hv.fr m3.1⟩, ?_⟩
   have := hK w3 m3 ((hf1.trans hf2 fun _ h _ => h).trans hf3 fun _ h _ => h)
   unfold nv at this
   rw [List.getD_eq_getElem?_getD, List.getElem?_eq_getElem hil] at this
   exact this
theorem next_sp {α : Type} {k : Nat} {enc : α -> List Value} {xs : List α} {B : Nat -> Prop} {Q : World -> Prop} {i : Nat} {n : Int} {K : Int -> World -> Prop} (hv : VI w0 s l) (hl : l.length < 2 ^ 63) (h : Sp w0 w L B Q k enc t xs) (j : Nat) (hj : L[j]? = some (mb, nmC s l i)) (hn0 : 0 < n) (hn : n < 4611686018427387904)
  (hK : ∀ w', Sp w0 w' (L.set j (mb, nmC s l (i + 1))) B Q k enc t xs -> K (nv l i n) w') : z03_sh (some ⟨mb, 0, none⟩) n K w :=
 next_mem hv hl h.m j hj hn0 hn fun w' m hf => hK w' (h.setF hj hf m)
theorem range_succ_map {α : Type} (f : Nat -> α) (i : Nat) : (List.range (i + 1)).map f = (List.range i).map f ++ [f i] := by rw [List.range_succ, List.map_append]; rfl
theorem bit_code : ∀ m : Fin 16, ∀ k : Fin 4, ((IntKind.wrap .i64 (((BitVec.ofInt (IntKind.bits .i64) (Int.fdiv (m.val : Int) (2 ^ (min ((k.val : Int)).toNat (IntKind.bits .i64)))) &&& BitVec.ofInt (IntKind.bits .i64) (1 : Int))).toNat : Int)) == (1 : Int)) = bitI (m.val : Int) k.val := by decide +kernel
theorem pow_code : ∀ k : Fin 5, (IntKind.wrap .i64 ((1 : Int) * 2 ^ (min ((k.val : Int)).toNat (IntKind.bits .i64)))) = 2 ^ k.val := by decide +kernel
end
end Go.Proofs.YtfpobpjandjhjaaDoor
namespace Go.Proofs.YtfpobpjandjhjaaDoor
open Go Pw
theorem encD_ok (d : De × Sl) : ∀ v ∈ encD d, okC v = true := by intro v hv; simp [encD] at hv; rcases hv with rfl | rfl | rfl <;> rfl
section
variable {w w' w0 : World} {s s0 s1 s2 : Sl} {L : List (Nat × List Value)} {l : List Int} {mb pb rb db : Nat} {R : List Value}
abbrev mdL (pb mb rb : Nat) (s s0 s1 s2 : Sl) (l : List Int) (j : Nat) (R : List Value) : List (Nat × List Value) :=
 [(pb, prC s0 s1 s2 (nv l 0 4) (nv l 1 30)), (mb, nmC s l j), (rb, R)]
theorem Made_l3 {i j : Nat} {dc : List (De × Sl)} {B : Nat -> Prop} {Q : World -> Prop} {so : Sl} {bid off st lots deals : Int} {N2 : Addr -> Addr -> Addr -> Int -> Int -> Int -> World -> Prop} {K : Sl -> Sl -> Sl -> Int -> Int -> World -> Prop}
  (hlots : lots = (mLots l).toNat) (hst : 0 <= st /\ st < 16)
  (h : Sp w0 w ((db, [.int .i64 bid, .slice none 0 0, .int .i64 off]) :: mdL pb mb rb s s0 s1 so l j R) (fun b => B b \/ inB so b) (fun w => Q w /\ Ow 3 encD w so dc) 1 (ie .i64 (id : Int -> Int)) ⟨none, 0, 0⟩ [])
  (hB : Rests B Q) (hBs : ∀ b, inB so b -> ¬ B b) (hQ : ∀ u, Q u -> VI u s0 (mLotsL l)) (hdc : dc.length <= 3) (hi : 0 <= i /\ i < 10)
  (hN : ∀ w' so' sl, Sp w0 w' (mdL pb mb rb s s0 s1 so' l j R) (fun b => B b \/ inB sl b) (fun w => Q w /\ Ow 1 (ie .i64 (id : Int -> Int)) w sl ((List.range (mLots l).toNat).filterMap (fun k => if bitI st k then some (mLot l k) else none))) 3 encD so' (dc ++ [(⟨bid, (List.range (mLots l).toNat).filterMap (fun k => if bitI st k then some (mLot l k) else none), off⟩, sl)]) ->
   N2 ⟨rb, 0, none⟩ ⟨mb, 0, none⟩ ⟨pb, 0, none⟩ lots deals ((i : Int) + 1) w') :
  z0n_l3 ⟨rb, 0, none⟩ ⟨mb, 0, none⟩ ⟨pb, 0, none⟩ lots deals i ⟨db, 0, none⟩ st 0 N2 K w := by
 subst hlots
 have hL := mLots_range (l := l)
 refine ⟨⟨fun k w' => ∃ (k' : Nat) (sd : Sl), k = k' /\ k' <= (mLots l).toNat /\ Sp w0 w' ((db, [.int .i64 bid, .slice sd.p sd.l sd.c, .int .i64 off]) :: mdL pb mb rb s s0 s1 so l j R) (fun b => B b \/ inB so b) (fun w => Q w /\ Ow 3 encD w so dc) 1 (ie .i64 (id : Int -> Int)) sd ((List.range k').filterMap (fun k => if bitI st k then some (mLot l k) else none)), fun k _ => (mLots l).toNat - k.toNat,
  ⟨0, ⟨none, 0, 0⟩, rfl, by omega, h⟩, ?_⟩⟩
 rintro k w1 ⟨k, sd, rfl, hk, h⟩
 unfold z0n_b3
 rw [cnd_prop]
 refine ⟨fun hlt => ?_, fun hge => ?_⟩
 ·have hlt : k < (mLots l).toNat := by omega
  refine ⟨by omega, ?_⟩
  have hb := bit_code ⟨st.toNat, by omega⟩ ⟨k, by omega⟩
  have est : ((st.toNat : Nat) : Int) = st := by omega
  simp only [est] at hb
  rw [hb]
  have hrs : ∀ g : Nat -> Option Int, (List.range (k + 1)).filterMap g = (List.range k).filterMap g ++ (match g k with | some x => [x] | none => []) := by
   intro g
   rw [List.range_succ, List.filterMap_append, List.filterMap_cons]
   cases g k <;> rfl
  have hlen : ((List.range k).filterMap (fun k => if bitI st k then some (mLot l k) else none)).length <= k := by
   have := List.length_filterMap_le (fun k => if bitI st k then some (mLot l k) else none) (List.range k)
   simpa using this
  rw [cnd_iff]
  refine ⟨fun ht => ?_, fun hf => ⟨inR64 (by omega) (by omega), ⟨⟨rfl, rfl, rfl, rfl, rfl, rfl, rfl, rfl, trivial⟩, k + 1, sd, by omega, by omega, ?_⟩, by dsimp only; omega⟩⟩
  ·intro w2
   have h2 : Sp w0 w2 _ _ _ _ _ _ _ := h.drew
   clear_value w2
   have hS : ∀ {u B' Q' sd'} {ls : List Int}, Sp w0 u ((db, [.int .i64 bid, .slice sd.p sd.l sd.c, .int .i64 off]) :: mdL pb mb rb s s0 s1 so l j R) B' Q' 1 (ie .i64 (id : Int -> Int)) sd' ls -> (Q' u -> Q u) -> Row u db [.int .i64 bid, .slice sd.p sd.l sd.c, .int .i64 off] /\ Row u pb (prC s0 s1 so (nv l 0 4) (nv l 1 30)) /\ VI u s0 (mLotsL l) :=
    fun hu hq => ⟨hu.row 0 rfl, hu.row 1 rfl, hQ _ (hq hu.q)⟩
   refine ⟨fun u => Row u db [.int .i64 bid, .slice sd.p sd.l sd.c, .int .i64 off] /\ Row u pb (prC s0 s1 so (nv l 0 4) (nv l 1 30)) /\ VI u s0 (mLotsL l), hS h2 (fun h => h.1), sd, fun u hu => hu.1.at rfl, s0, fun u hu => hu.2.1.at rfl, ?_⟩
   have hv0 := hQ _ h2.q.1
   have hl0 := hv0.len
   rw [mLotsL_len] at hl0
   have hkl : k < (mLotsL l).length := by rw [mLotsL_len]; exact hlt
   obtain ⟨ad, hp, _⟩ := hv0.at (fun a => ie_length _ _ a) (List.getElem?_eq_getElem hkl) (by decide)
   have hel : (mLotsL l)[k] = mLot l k := by simp [mLotsL]
   refine nz_iff.2 ⟨ad, hp, ⟨by omega, by omega⟩, mLot l k, fun u hu => ?_, ?_⟩
   ·obtain ⟨ad', hp', hc⟩ := hu.2.2.at (fun a => ie_length _ _ a) (List.getElem?_eq_getElem hkl) (by decide)
    rw [hp] at hp'
    cases hp'
    have := hc 0 _ rfl
    rw [hel] at this
    exact this
   ·intro w3
    have h3 := h2.allocL (vs := [.int .i64 (mLot l k)]) (e := 0)
    refine ⟨hS (h2.fr (Fr.alloc : Fr F0 w2 w3)) (fun h => h.1), ?_⟩
    refine h2.push (a := mLot l k) rfl rfl (ie_ok _ _) rfl (by omega) (by omega) fun r w4 h4 => ?_
    refine ⟨hS h4 (fun h => h.1), h4.wr 0 rfl rfl, ?_⟩
    intro w5
    have h5 : Sp w0 w5 _ _ _ _ _ _ _ := h4.set (i := 1) (v := .slice r.p r.l r.c) 0 rfl
    clear_value w5
    simp only [List.set_cons_zero, List.set_cons_succ] at h5
    refine ⟨inR64 (by omega) (by omega), ⟨⟨rfl, rfl, rfl, rfl, rfl, rfl, rfl, rfl, trivial⟩, k + 1, r, by omega, by omega, ?_⟩, by dsimp only; omega⟩
    rw [hrs, if_pos ht]
    exact h5
  ·rw [hrs, if_neg (by rw [hf]; decide), List.append_nil]
   exact h
 ·have : k = (mLots l).toNat := by omega
  subst this
  refine ⟨so, h.ld 1 rfl rfl, _, h.ld 0 rfl rfl, sd, h.ld 0 rfl rfl, _, h.ld 0 rfl rfl, ?_⟩
  have hb := (h.back hB hBs).dr (k := mdL pb mb rb s s0 s1 so l j R) 1 rfl
  refine hb.push (a := (⟨bid, (List.range (mLots l).toNat).filterMap (fun k => if bitI st k then some (mLot l k) else none), off⟩, sd)) rfl rfl encD_ok rfl (by omega) (by omega) fun r w4 h4 => ?_
  refine ⟨h4.wr 0 rfl rfl, ?_⟩
  intro w5
  have h5 : Sp w0 w5 _ _ _ _ _ _ _ := h4.set (i := 2) (v := .slice r.p r.l r.c) 0 rfl
  clear_value w5
  simp only [List.set_cons_zero] at h5
  exact ⟨inR64 (by omega) (by omega), hN w5 r sd h5⟩
theorem Made_l2 {lots deals : Int} {B : Nat -> Prop} {Q : World -> Prop} {K : Sl -> Sl -> Sl -> Int -> Int -> World -> Prop} (hv : VI w0 s l) (hl : l.length < 2 ^ 63)
  (hlots : lots = (mLots l).toNat) (hdeals : deals = mDeals l) {a b c d e : Value} (hR : R = [a, b, c, d, e])
  (h : Sp w0 w (mdL pb mb rb s s0 s1 ⟨none, 0, 0⟩ l (mD0 l) R) B Q 3 encD ⟨none, 0, 0⟩ []) (hB : Rests B Q) (hQ : ∀ u, Q u -> VI u s0 (mLotsL l) /\ VC u s1 (mChL l))
  (hK : ∀ w' s2, Fr F0 w0 w' -> PV w' s0 s1 s2 (madeP l) -> K s0 s1 s2 (nv l 0 4) (nv l 1 30) w') :
  z0n_l2 ⟨rb, 0, none⟩ ⟨mb, 0, none⟩ ⟨pb, 0, none⟩ lots deals 0 K w := by
 subst hlots
 subst hdeals
 have hL := mLots_range (l := l)
 have hDr := nv_range (l := l) (j := mC0 l + 4 * (mChoices l).toNat) (n := 4) (by decide)
 have hD : 0 <= mDeals l /\ mDeals l < 4 := hDr
 refine ⟨⟨fun i w' => ∃ (i' : Nat) (s2 : Sl) (dc : List (De × Sl)) (B : Nat -> Prop) (Q : World -> Prop), i = i' /\ i' <= (mDeals l).toNat /\ Sp w0 w' (mdL pb mb rb s s0 s1 s2 l (mD0 l + 3 * i') R) B Q 3 encD s2 dc /\ Rests B Q /\ (∀ u, Q u -> VI u s0 (mLotsL l) /\ VC u s1 (mChL l) /\ ∀ x ∈ dc, VI u x.2 x.1.lots) /\ dc.map (·.1) = (List.range i').map (mDe l),
  fun i _ => (mDeals l).toNat - i.toNat, ⟨0, ⟨none, 0, 0⟩, [], B, Q, rfl, by omega, h, hB, fun u hu => ⟨(hQ u hu).1, (hQ u hu).2, fun _ h => by cases h⟩, rfl⟩, ?_⟩⟩
 clear h hB hQ
 rintro i w1 ⟨i, s2, dc, B, Q, rfl, hi, h, hB, hQ, hdm⟩
 have hdl : dc.length = i := by have := congrArg List.length hdm; simpa using this
 unfold z0n_b2
 rw [cnd_prop]
 refine ⟨fun hlt => ?_, fun hge => ?_⟩
 ·have hlt : i < (mDeals l).toNat := by omega
  have q1 := nv_range (l := l) (j := mD0 l + 3 * i) (n := 4) (by decide)
  have q2 := nv_range (l := l) (j := mD0 l + 3 * i + 1) (n := 6) (by decide)
  refine next_sp hv hl h 1 rfl (by decide) (by decide) fun w2 h => ?_
  simp only [List.set_cons_zero, List.set_cons_succ] at h
  refine ⟨inR64 (by omega) (by omega), next_sp hv hl h 1 rfl (by decide) (by decide) fun w3 h => ?_⟩
  simp only [List.set_cons_zero, List.set_cons_succ] at h
  intro w4
  have h : Sp w0 w4 _ _ _ _ _ _ _ := h.allocL (vs := [.int .i64 0, .slice none 0 0, .int .i64 0])
  clear_value w4
  refine stN_sp h 0 rfl rfl fun w5 h => ?_
  simp only [List.set_cons_zero] at h
  have hpw := pow_code ⟨(mLots l).toNat, by omega⟩
  simp only at hpw
  have hp1 : (1 : Int) <= 2 ^ (mLots l).toNat - 1 /\ (2 : Int) ^ (mLots l).toNat <= 16 := by
   have : (mLots l).toNat = 1 \/ (mLots l).toNat = 2 \/ (mLots l).toNat = 3 \/ (mLots l).toNat = 4 := by omega
   rcases this with e | e | e | e <;> rw [e] <;> decide
  rw [hpw]
  refine ⟨by omega, inR64 (by omega) (by omega), next_sp hv hl h 2 rfl (by omega) (by omega) fun w6 h => ?_⟩
  simp only [List.set_cons_zero, List.set_cons_succ] at h
  have q3 := nv_range (l := l) (j := mD0 l + 3 * i + 1 + 1) (n := 2 ^ (mLots l).toNat - 1) (by omega)
  refine ⟨inR64 (by omega) (by omega), ?_⟩
  have hst : 1 + nv l (mD0 l + 3 * i + 1 + 1) (2 ^ (mLots l).toNat - 1) = mSet l i := rfl
  rw [hst]
  have hstr : 0 <= mSet l i /\ mSet l i < 16 := by rw [← hst]; omega
  have hs2 := fun b hb => (h.os b hb).2.1
  refine Made_l3 (B := B) (Q := Q) rfl hstr h.next hB hs2 (fun u hu => (hQ u hu).1) (by omega) (by omega) fun w7 so' sl h7 => ⟨⟨⟨rfl, rfl, rfl, rfl, rfl, trivial⟩, i + 1, so', _, _, _, by omega, by omega, h7, ?_, ?_, ?_⟩, by dsimp only; omega⟩
  ·exact hB.and (Rests.ow sl _)
  ·intro u hu
   refine ⟨(hQ u hu.1).1, (hQ u hu.1).2.1, fun x hx => ?_⟩
   rcases List.mem_append.1 hx with hx | hx
   ·exact (hQ u hu.1).2.2 x hx
   ·rw [List.mem_singleton] at hx
    subst hx
    exact hu.2.vw
  ·rw [List.map_append, hdm, range_succ_map]
   rfl
 ·have : i = (mDeals l).toNat := by omega
  subst this
  subst hR
  obtain ⟨hq0, hq1, hq2⟩ := hQ _ h.q
  refine ⟨s0, h.ld 0 rfl rfl, s1, h.ld 0 rfl rfl, s2, h.ld 0 rfl rfl, _, h.ld 0 rfl rfl, _, h.ld 0 rfl rfl, ?_⟩
  refine stN_sp h 2 rfl rfl fun w2 h => ?_
  simp only [List.set_cons_zero, List.set_cons_succ] at h
  obtain ⟨hq0, hq1, hq2⟩ := hQ _ h.q
  refine ⟨s0, h.ld 2 rfl rfl, s1, h.ld 2 rfl rfl, s2, h.ld 2 rfl rfl, _, h.ld 2 rfl rfl, _, h.ld 2 rfl rfl, hK w2 s2 h.m.1 ?_⟩
  have hr := madeP_right l
  refine ⟨hq0, hq1, ⟨dc, h.ow.vw, hdm, fun x hx => ⟨hq2 x hx, ?_⟩⟩, ?_, ?_, ?_⟩
  ·have hm : x.1 ∈ dc.map (·.1) := List.mem_map_of_mem hx
   rw [hdm] at hm
   obtain ⟨k, _, hk⟩ := List.mem_map.1 hm
   rw [← hk]
   have := List.length_filterMap_le (fun k' => if bitI (mSet l k) k' then some (mLot l k') else none) (List.range (mLots l).toNat)
   simp only [List.length_range] at this
   show ((List.range (mLots l).toNat).filterMap (fun k' => if bitI (mSet l k) k' then some (mLot l k') else none)).length < _
   omega
  ·have := hr.few; omega
  ·have := hr.chs; omega
  ·have := hr.des; omega
theorem Made_l1 {lots choices : Int} {B : Nat -> Prop} {Q : World -> Prop} {K : Sl -> Sl -> Sl -> Int -> Int -> World -> Prop} (hv : VI w0 s l) (hl : l.length < 2 ^ 63)
  (hlots : lots = mLots l) (hch : choices = mChoices l) {a b c d e : Value} (hR : R = [a, b, c, d, e])
  (h : Sp w0 w (mdL pb mb rb s s0 ⟨none, 0, 0⟩ ⟨none, 0, 0⟩ l (mC0 l) R) B Q 4 encC ⟨none, 0, 0⟩ []) (hB : Rests B Q) (hQ : ∀ u, Q u -> VI u s0 (mLotsL l))
  (hK : ∀ w' s1 s2, Fr F0 w0 w' -> PV w' s0 s1 s2 (madeP l) -> K s0 s1 s2 (nv l 0 4) (nv l 1 30) w') :
  z0n_l1 ⟨rb, 0, none⟩ ⟨mb, 0, none⟩ ⟨pb, 0, none⟩ lots choices 0 K w := by
 subst hlots
 subst hch
 have hL := mLots_range (l := l)
 have hDr := nv_range (l := l) (j := 3 + (mLots l).toNat) (n := 13) (by decide)
 have hD : 0 <= mChoices l /\ mChoices l < 13 := hDr
 refine ⟨⟨fun i w' => ∃ (i' : Nat) (s1 : Sl), i = i' /\ i' <= (mChoices l).toNat /\ Sp w0 w' (mdL pb mb rb s s0 s1 ⟨none, 0, 0⟩ l (mC0 l + 4 * i') R) B Q 4 encC s1 ((List.range i').map (mCh l)),
  fun i _ => (mChoices l).toNat - i.toNat, ⟨0, ⟨none, 0, 0⟩, rfl, by omega, h⟩, ?_⟩⟩
 clear h
 rintro i w1 ⟨i, s1, rfl, hi, h⟩
 unfold z0n_b1
 rw [cnd_prop]
 refine ⟨fun hlt => ?_, fun hge => ?_⟩
 ·have hlt : i < (mChoices l).toNat := by omega
  intro w2
  replace h : Sp w0 w2 _ _ _ _ _ _ _ := h.drew
  clear_value w2
  have hS : ∀ {u j t} {ls : List Ch}, Sp w0 u (mdL pb mb rb s s0 s1 ⟨none, 0, 0⟩ l j R) B Q 4 encC t ls -> Row u pb (prC s0 s1 ⟨none, 0, 0⟩ (nv l 0 4) (nv l 1 30)) /\ VI u s0 (mLotsL l) :=
   fun hu => ⟨hu.row 0 rfl, hQ _ hu.q⟩
  refine ⟨fun u => Row u pb (prC s0 s1 ⟨none, 0, 0⟩ (nv l 0 4) (nv l 1 30)) /\ VI u s0 (mLotsL l), hS h, s1, fun u hu => hu.1.at rfl, s0, fun u hu => hu.1.at rfl, next_sp hv hl h 1 rfl (by omega) (by omega) fun w3 h => ?_⟩
  simp only [List.set_cons_zero, List.set_cons_succ] at h
  have q0 := nv_range (l := l) (j := mC0 l + 4 * i) (n := mLots l) (by omega)
  have q1 := nv_range (l := l) (j := mC0 l + 4 * i + 1) (n := 4) (by decide)
  have hv0 := hQ _ h.q
  have hl0 := hv0.len
  rw [mLotsL_len] at hl0
  have hil : (nv l (mC0 l + 4 * i) (mLots l)).toNat < (mLotsL l).length := by rw [mLotsL_len]; omega
  have hel : (mLotsL l)[(nv l (mC0 l + 4 * i) (mLots l)).toNat] = (mCh l i).lot := by
   show _ = (mLotsL l).getD _ 0
   rw [List.getD_eq_getElem?_getD, List.getElem?_eq_getElem hil]
   rfl
  obtain ⟨ad, hp, _⟩ := hv0.at (fun a => ie_length _ _ a) (List.getElem?_eq_getElem hil) (by decide)
  refine ⟨hS h, nz_iff.2 ⟨ad, hp, ⟨by omega, by omega⟩, (mCh l i).lot, fun u hu => ?_, next_sp hv hl h 1 rfl (by decide) (by decide) fun w4 h => ?_⟩⟩
  ·obtain ⟨ad', hp', hc⟩ := hu.2.at (fun a => ie_length _ _ a) (List.getElem?_eq_getElem hil) (by decide)
   rw [hp] at hp'
   cases hp'
   have := hc 0 _ rfl
   rw [hel] at this
   exact this
  simp only [List.set_cons_zero, List.set_cons_succ] at h
  refine ⟨hS h, inR64 (by omega) (by omega), next_sp hv hl h 1 rfl (by decide) (by decide) fun w5 h => ?_⟩
  simp only [List.set_cons_zero, List.set_cons_succ] at h
  refine ⟨hS h, next_sp hv hl h 1 rfl (by decide) (by decide) fun w6 h => ?_⟩
  simp only [List.set_cons_zero, List.set_cons_succ] at h
  refine ⟨hS h, ?_⟩
  intro w7
  refine ⟨hS (h.fr (Fr.alloc : Fr F0 w6 w7)), ?_⟩
  refine h.push (a := mCh l i) rfl rfl encC_ok rfl (by simp; omega) (by simp; omega) fun r w8 h => ?_
  refine ⟨hS h, h.wr 0 rfl rfl, ?_⟩
  intro w9
  have h : Sp w0 w9 _ _ _ _ _ _ _ := h.set (i := 1) (v := .slice r.p r.l r.c) 0 rfl
  clear_value w9
  simp only [List.set_cons_zero] at h
  refine ⟨inR64 (by omega) (by omega), ⟨⟨rfl, rfl, rfl, rfl, rfl, trivial⟩, i + 1, r, by omega, by omega, ?_⟩, by dsimp only; omega⟩
  rw [range_succ_map]
  exact h
 ·have : i = (mChoices l).toNat := by omega
  subst this
  refine next_sp hv hl h 1 rfl (by decide) (by decide) fun w2 h => ?_
  simp only [List.set_cons_zero, List.set_cons_succ] at h
  exact Made_l2 hv hl (by omega) rfl hR h.next (hB.and (Rests.ow s1 _)) (fun u hu => ⟨hQ u hu.1, hu.2.vw⟩) fun w' s2 => hK w' s1 s2
theorem Made_l0 {lots : Int} {K : Sl -> Sl -> Sl -> Int -> Int -> World -> Prop} (hv : VI w0 s l) (hl : l.length < 2 ^ 63)
  (hlots : lots = mLots l) {a b c d e : Value} (hR : R = [a, b, c, d, e])
  (h : Sp w0 w (mdL pb mb rb s ⟨none, 0, 0⟩ ⟨none, 0, 0⟩ ⟨none, 0, 0⟩ l 3 R) (fun _ => False) (fun _ => True) 1 (ie .i64 (id : Int -> Int)) ⟨none, 0, 0⟩ [])
  (hK : ∀ w' s0 s1 s2, Fr F0 w0 w' -> PV w' s0 s1 s2 (madeP l) -> K s0 s1 s2 (nv l 0 4) (nv l 1 30) w') :
  z0n_l0 ⟨rb, 0, none⟩ ⟨mb, 0, none⟩ ⟨pb, 0, none⟩ lots 0 K w := by
 subst hlots
 have hL := mLots_range (l := l)
 refine ⟨⟨fun i w' => ∃ (i' : Nat) (s0 : Sl), i = i' /\ i' <= (mLots l).toNat /\ Sp w0 w' (mdL pb mb rb s s0 ⟨none, 0, 0⟩ ⟨none, 0, 0⟩ l (3 + i') R) (fun _ => False) (fun _ => True) 1 (ie .i64 (id : Int -> Int)) s0 ((List.range i').map (mLot l)),
  fun i _ => (mLots l).toNat - i.toNat, ⟨0, ⟨none, 0, 0⟩, rfl, by omega, h⟩, ?_⟩⟩
 clear h
 rintro i w1 ⟨i, s0, rfl, hi, h⟩
 unfold z0n_b0
 rw [cnd_prop]
 refine ⟨fun hlt => ?_, fun hge => ?_⟩
 ·have hlt : i < (mLots l).toNat := by omega
  intro w2
  replace h : Sp w0 w2 _ _ _ _ _ _ _ := h.drew
  clear_value w2
  have q0 := nv_range (l := l) (j := 3 + i) (n := 2) (by decide)
  refine ⟨fun u => Row u pb (prC s0 ⟨none, 0, 0⟩ ⟨none, 0, 0⟩ (nv l 0 4) (nv l 1 30)), h.row 0 rfl, s0, fun u hu => hu.at rfl, inR64 (by omega) (by omega), inR64 (by omega) (by omega), next_sp hv hl h 1 rfl (by omega) (by omega) fun w3 h => ?_⟩
  simp only [List.set_cons_zero, List.set_cons_succ] at h
  refine ⟨h.row 0 rfl, inR64 (by omega) (by omega), inR64 (by omega) (by omega), ?_⟩
  intro w7
  refine ⟨(h.fr (Fr.alloc : Fr F0 w3 w7)).row 0 rfl, ?_⟩
  refine h.push (a := mLot l i) rfl rfl (ie_ok _ _) rfl (by simp; omega) (by simp; omega) fun r w8 h => ?_
  refine ⟨h.wr 0 rfl rfl, ?_⟩
  intro w9
  have h : Sp w0 w9 _ _ _ _ _ _ _ := h.set (i := 0) (v := .slice r.p r.l r.c) 0 rfl
  clear_value w9
  simp only [List.set_cons_zero] at h
  refine ⟨inR64 (by omega) (by omega), ⟨⟨rfl, rfl, rfl, rfl, trivial⟩, i + 1, r, by omega, by omega, ?_⟩, by dsimp only; omega⟩
  rw [range_succ_map]
  exact h
 ·have : i = (mLots l).toNat := by omega
  subst this
  refine next_sp hv hl h 1 rfl (by decide) (by decide) fun w2 h => ?_
  simp only [List.set_cons_zero, List.set_cons_succ] at h
  have e : 3 + (mLots l).toNat + 1 = mC0 l := by unfold mC0; omega
  rw [e] at h
  exact Made_l1 hv hl rfl rfl hR h.next (Rests.top.and (Rests.ow s0 _)) (fun u hu => hu.2.vw) fun w' s1 s2 => hK w' s0 s1 s2
theorem Made_spec {K : Sl -> Sl -> Sl -> Int -> Int -> World -> Prop} (hv : VI w s l) (hl : l.length < 2 ^ 63)
  (hK : ∀ w' s0 s1 s2, Fr F0 w w' -> PV w' s0 s1 s2 (madeP l) -> K s0 s1 s2 (madeP l).most (madeP l).budget w') : z0n_sh s K w := by
 refine ⟨?_⟩
 unfold z0n_sd
 intro w1
 have m1 : Mem w w1 [(w.heap.size, [.slice none 0 0, .slice none 0 0, .slice none 0 0, .int .i64 0, .int .i64 0])] := Mem.nil.allocL
 clear_value w1
 intro w2
 have m2 : Mem w w2 [(w1.heap.size, nmC s l 0), (w.heap.size, [.slice none 0 0, .slice none 0 0, .slice none 0 0, .int .i64 0, .int .i64 0])] := by
  have : nmC s l 0 = [.slice s.p s.l s.c, .int .i64 0] := by simp [nmC]
  rw [this]
  exact m1.allocL
 clear_value w2
 refine next_mem hv hl m2 0 rfl (by decide) (by decide) fun w3 m3 _ => ?_
 simp only [List.set_cons_zero] at m3
 refine next_mem hv hl m3 0 rfl (by decide) (by decide) fun w4 m4 _ => ?_
 simp only [List.set_cons_zero] at m4
 intro w5
 have m5 : Mem w w5 _ := m4.allocL (cs := [.slice none 0 0, .slice none 0 0, .slice none 0 0, .int .i64 0, .int .i64 0])
 clear_value w5
 refine stN_sp (Sp.start m5 (n := 1) (enc := ie .i64 (id : Int -> Int))) 0 rfl rfl fun w6 h => ?_
 simp only [List.set_cons_zero] at h
 refine next_sp hv hl h 1 rfl (by decide) (by decide) fun w7 h => ?_
 simp only [List.set_cons_zero, List.set_cons_succ] at h
 have q0 := nv_range (l := l) (j := 0 + 1 + 1) (n := 4) (by decide)
 refine ⟨inR64 (by omega) (by omega), ?_⟩
 exact Made_l0 hv hl rfl rfl h hK
end
end Go.Proofs.YtfpobpjandjhjaaDoor
namespace Pw
open Go
theorem Row.ow {α : Type} {n : Nat} {enc : α -> List Value} {w : World} {b : Nat} {l : List α} (hn : ∀ a, (enc a).length = n) (h : Row w b (l.flatMap enc)) : Ow n enc w ⟨some ⟨b, 0, none⟩, l.length, l.length⟩ l := by
 refine ⟨rfl, ?_, .inr ⟨b, _, rfl, h, ?_, Nat.le_refl _, ?_⟩⟩
 ·simp [fm_length hn]
 ·rw [fm_length hn]
 ·exact List.take_of_length_le (by rw [fm_length hn]; exact Nat.le_refl _)
end Pw


namespace Pw
open Go
section
variable {α : Type} {n : Nat} {enc : α -> List Value} {w w' : World} {s : Sl} {l : List α}
theorem Sp.empty {w0 : World} {L : List (Nat × List Value)} {e : TypeId} (hn : ∀ a, (enc a).length = n) (h : Mem w0 w L) : Sp w0 (w.alloc (Obj.cells #[] e)) L (fun _ => False) (fun _ => True) n enc ⟨some ⟨w.heap.size, 0, none⟩, 0, 0⟩ ([] : List α) := by
 refine ⟨h.fr Fr.alloc, Rests.top, trivial, fun _ hb => hb.elim, Row.ow hn (l := ([] : List α)) Row.new, fun b ⟨a, ha, hb⟩ => ?_⟩
 cases ha
 subst hb
 exact ⟨h.1.1, fun h => h, fun p hp e => by have := (h.2.1 p hp).lt; simp only at e; omega⟩
end
end Pw
namespace Go.Proofs.YtfpobpjandjhjaaDoor
open Go Pw
section
variable {w wB : World} {s x s0 s1 s2 : Sl} {l dl : List Int} {p : Pr} {pb db : Nat}
theorem contains_spec {n : Int} {K : Bool -> World -> Prop} (hv : VI w s l) (hl : l.length < 2 ^ 62) (hK : K (decide (n ∈ l)) w) : z08_sh s n K w := by
 have hlen := hv.len
 refine ⟨?_⟩
 unfold z08_sd
 refine ⟨⟨fun i w' => ∃ i' : Nat, i = i' /\ i' <= l.length /\ w' = w /\ n ∉ l.take i', fun i _ => l.length - i.toNat, ⟨0, rfl, by omega, rfl, by simp⟩, ?_⟩⟩
 rintro i w1 ⟨i, rfl, hi, rfl, hno⟩
 unfold z08_b0
 rw [cnd_prop]
 refine ⟨fun hlt => ?_, fun hge => ?_⟩
 ·have hlt : i < l.length := by omega
  refine VI.ld hv i rfl hlt ?_
  rw [cnd_beq]
  refine ⟨fun he => ?_, fun hne => ⟨inR64 (by omega) (by omega), ⟨⟨rfl, rfl, trivial⟩, i + 1, by omega, by omega, rfl, ?_⟩, by dsimp only; omega⟩⟩
  ·rwa [decide_eq_true (he ▸ List.getElem_mem hlt)] at hK
  ·rw [take_succ' hlt, List.mem_append, List.mem_singleton]
   rintro (h | h)
   ·exact hno h
   ·exact hne h.symm
 ·have : i = l.length := by omega
  subst this
  rw [List.take_length] at hno
  rwa [decide_eq_false hno] at hK
theorem different_spec {K : Bool -> World -> Prop} (hv : VI w s l) (hl : l.length < 2 ^ 62) (hK : ∀ w', Fr F0 w w' -> K (decide l.Nodup) w') : z06_sh s K w := by
 have hlen := hv.len
 have hcap := hv.cap
 refine ⟨?_⟩
 unfold z06_sd
 refine ⟨⟨fun i w' => ∃ i' : Nat, i = i' /\ i' <= l.length /\ Fr F0 w w' /\ (l.take i').Nodup, fun i _ => l.length - i.toNat, ⟨0, rfl, by omega, Fr.refl, by simp⟩, ?_⟩⟩
 rintro i w1 ⟨i, rfl, hi, hf, hnd⟩
 unfold z06_b0
 rw [cnd_prop]
 refine ⟨fun hlt => ?_, fun hge => ?_⟩
 ·have hlt : i < l.length := by omega
  intro w2
  have hf2 : Fr F0 w w2 := hf.t Fr.drew
  clear_value w2
  have hts := take_succ' hlt
  refine ⟨fun u => VI u s l, hv.fr hf2, ⟨by omega, by omega, by omega⟩, ?_⟩
  obtain ⟨ad, hp, _⟩ := hv.at (fun a => ie_length _ _ a) (List.getElem?_eq_getElem hlt) (by decide)
  refine nz_iff.2 ⟨ad, hp, ⟨by omega, by omega⟩, l[i], fun u hu => ?_, ?_⟩
  ·obtain ⟨ad', hp', hc⟩ := hu.at (fun a => ie_length _ _ a) (List.getElem?_eq_getElem hlt) (by decide)
   rw [hp] at hp'
   cases hp'
   exact hc 0 _ rfl
  ·refine contains_spec (l := l.take (i : Int).toNat) ((hv.fr hf2).take (fun a => ie_length _ _ a) (j := (i : Int).toNat) (by omega)) (by simp; omega) ?_
   rw [Int.toNat_natCast]
   refine cnd_iff.2 ⟨fun h => ?_, fun h => ⟨inR64 (by omega) (by omega), ⟨⟨rfl, trivial⟩, i + 1, by omega, by omega, hf2, ?_⟩, by dsimp only; omega⟩⟩
   ·have hk := hK w2 hf2
    rwa [decide_eq_false] at hk
    intro hn
    have hn' : (l.take (i + 1)).Nodup := hn.sublist (List.take_sublist _ _)
    rw [hts, List.nodup_append] at hn'
    exact hn'.2.2 _ (of_decide_eq_true h) _ (List.mem_singleton.2 rfl) rfl
   ·rw [hts, List.nodup_append]
    refine ⟨hnd, by simp, fun a ha b hb => ?_⟩
    rw [List.mem_singleton] at hb
    subst hb
    rintro rfl
    exact of_decide_eq_false h ha
 ·have : i = l.length := by omega
  subst this
  rw [List.take_length] at hnd
  have hk := hK w1 hf
  rwa [decide_eq_true hnd] at hk
theorem rwithin_spec {n m : Int} {K : Bool -> World -> Prop} (hK : K (wiB n m) w) : z0h_sh n m K w := by
 refine ⟨?_⟩
 unfold z0h_sd
 rw [cnd_prop]
 refine ⟨fun h => ?_, fun h => ?_⟩
 ·have e : wiB n m = decide (n <= m) := by simp [wiB, h]
  rwa [e] at hK
 ·have e : wiB n m = false := by
   cases hb : wiB n m with
   | false => rfl
   | true => exact absurd (wiB_iff.1 hb).1 h
  rwa [e] at hK
theorem Right_l2 {i : Int} {A B : Value} {N1 : Addr -> Int -> World -> Prop} {K : Bool -> World -> Prop} (hP : PV wB s0 s1 s2 p) (hpr : Row w pb (prC s0 s1 s2 p.most p.budget)) (hdr : Row w db [A, .slice x.p x.l x.c, B]) (hv : VI w x dl) (hl : dl.length < 2 ^ 40) (hB : Fr F0 wB w)
  (hF : (∃ y ∈ dl, y ∉ p.lots) -> ∀ w', Fr F0 w w' -> K false w') (hT : (∀ y ∈ dl, y ∈ p.lots) -> ∀ w', Fr F0 w w' -> inR .i64 (i + 1) /\ N1 ⟨pb, 0, none⟩ (i + 1) w') : z0l_l2 ⟨pb, 0, none⟩ i ⟨db, 0, none⟩ 0 N1 K w := by
 have hlen := hv.len
 have hl0 := hP.l0
 refine ⟨⟨fun k w' => ∃ k' : Nat, k = k' /\ k' <= dl.length /\ Fr F0 w w' /\ ∀ y ∈ dl.take k', y ∈ p.lots, fun k _ => dl.length - k.toNat, ⟨0, rfl, by omega, Fr.refl, by simp⟩, ?_⟩⟩
 rintro k w1 ⟨k, rfl, hk, hf, hin⟩
 unfold z0l_b2
 refine ⟨x, (hf.row hdr fun h => h).at rfl, ?_⟩
 rw [cnd_prop]
 refine ⟨fun hlt => ?_, fun hge => ?_⟩
 ·have hlt : k < dl.length := by omega
  intro w2
  have hf2 : Fr F0 w w2 := hf.t Fr.drew
  clear_value w2
  have hS : ∀ {u}, Fr F0 w u -> (Row u pb (prC s0 s1 s2 p.most p.budget) /\ Row u db [A, .slice x.p x.l x.c, B]) /\ VI u x dl := fun hu => ⟨⟨hu.row hpr fun h => h, hu.row hdr fun h => h⟩, hv.fr hu⟩
  refine ⟨fun u => (Row u pb (prC s0 s1 s2 p.most p.budget) /\ Row u db [A, .slice x.p x.l x.c, B]) /\ VI u x dl, hS hf2, s0, fun u hu => hu.1.1.at rfl, x, fun u hu => hu.1.2.at rfl, ?_⟩
  obtain ⟨ad, hp, _⟩ := hv.at (fun a => ie_length _ _ a) (List.getElem?_eq_getElem hlt) (by decide)
  refine nz_iff.2 ⟨ad, hp, ⟨by omega, by omega⟩, dl[k], fun u hu => ?_, ?_⟩
  ·obtain ⟨ad', hp', hc⟩ := hu.2.at (fun a => ie_length _ _ a) (List.getElem?_eq_getElem hlt) (by decide)
   rw [hp] at hp'
   cases hp'
   exact hc 0 _ rfl
  ·refine contains_spec (hP.fr (hB.t hf2)).lots (by omega) ⟨hS hf2, ?_⟩
   refine cnd_iff.2 ⟨fun h => ?_, fun h => ⟨inR64 (by omega) (by omega), ⟨⟨rfl, rfl, rfl, trivial⟩, k + 1, by omega, by omega, hf2, ?_⟩, by dsimp only; omega⟩⟩
   ·exact hF ⟨dl[k], List.getElem_mem hlt, by simpa using h⟩ w2 hf2
   ·rw [take_succ' hlt]
    intro y hy
    rcases List.mem_append.1 hy with hy | hy
    ·exact hin y hy
    ·rw [List.mem_singleton] at hy
     subst hy
     simpa using h
 ·have : k = dl.length := by omega
  subst this
  rw [List.take_length] at hin
  exact hT hin w1 hf
theorem Right_l1 {K : Bool -> World -> Prop} (hP : PV wB s0 s1 s2 p) (hB : Fr F0 wB w) (hpr : Row w pb (prC s0 s1 s2 p.most p.budget)) (hl2 : p.de.length <= 100)
  (hF : (∃ d ∈ p.de, deB p d = false) -> ∀ w', Fr F0 w w' -> K false w') (hT : (∀ d ∈ p.de, deB p d = true) -> ∀ w', Fr F0 w w' -> K true w') : z0l_l1 ⟨pb, 0, none⟩ 0 K w := by
 obtain ⟨dc, hd, hm, hx⟩ := hP.de
 have hdl := hd.len
 have hlm : dc.length = p.de.length := by rw [← hm, List.length_map]
 refine ⟨⟨fun i w' => ∃ i' : Nat, i = i' /\ i' <= dc.length /\ Fr F0 w w' /\ ∀ x ∈ dc.take i', deB p x.1 = true, fun i _ => dc.length - i.toNat, ⟨0, rfl, by omega, Fr.refl, by simp⟩, ?_⟩⟩
 rintro i w1 ⟨i, rfl, hi, hf, hin⟩
 unfold z0l_b1
 have hpr1 := hf.row hpr fun h => h
 refine ⟨s2, hpr1.at rfl, ?_⟩
 rw [cnd_prop]
 refine ⟨fun hlt => ?_, fun hge => ?_⟩
 ·have hlt : i < dc.length := by omega
  refine ⟨s2, hpr1.at rfl, ?_⟩
  have hdv := hd.fr (hB.t hf)
  obtain ⟨ad, hp, hc⟩ := hdv.at (fun a => encD_length a) (List.getElem?_eq_getElem hlt) (by decide)
  refine nz_iff.2 ⟨ad, hp, ⟨by omega, by omega⟩, _, hc 0 _ rfl, dc[i].2, hc 1 _ rfl, _, hc 2 _ rfl, ?_⟩
  have hmem : dc[i] ∈ dc := List.getElem_mem hlt
  have hmemp : dc[i].1 ∈ p.de := hm ▸ List.mem_map_of_mem hmem
  obtain ⟨hxv, hxl⟩ := hx _ hmem
  have hbad : deB p dc[i].1 = false -> ∀ w', Fr F0 w1 w' -> K false w' := fun h w' hw => hF ⟨_, hmemp, h⟩ w' (hf.t hw)
  refine stN_new (w0 := w1) (l := []) rfl Mem.nil fun w41 m => ?_
  refine ⟨dc[i].2, m.ld 0 rfl rfl, ?_⟩
  have hvl := (hxv.fr ((hB.t hf).t m.1)).len
  rw [cnd_beq]
  refine ⟨fun h => hbad ?_ _ m.1, fun h => ⟨dc[i].2, m.ld 0 rfl rfl, different_spec (hxv.fr ((hB.t hf).t m.1)) (by omega) fun w44 hf44 => ?_⟩⟩
  ·have : dc[i].1.lots.length = 0 := by omega
   unfold deB
   rw [this]
   rfl
  have m := m.fr hf44
  have hne : 0 < dc[i].1.lots.length := by omega
  refine cnd_iff.2 ⟨fun h => hbad ?_ _ m.1, fun h => ⟨_, m.ld 0 rfl rfl, rwithin_spec ?_⟩⟩
  ·have h' : decide dc[i].1.lots.Nodup = false := by simpa using h
   unfold deB
   rw [h']
   simp
  have hnd : decide dc[i].1.lots.Nodup = true := by simpa using h
  refine cnd_iff.2 ⟨fun h => hbad ?_ _ m.1, fun h => ?_⟩
  ·have h' : wiB dc[i].1.off 1000000000 = false := by simpa using h
   unfold deB
   rw [h']
   simp
  have hwi : wiB dc[i].1.off 1000000000 = true := by simpa using h
  refine Right_l2 (hP.fr ((hB.t hf).t m.1)) ((hf.t m.1).row hpr fun h => h) (m.row 0 rfl) (hxv.fr ((hB.t hf).t m.1)) hxl Fr.refl (fun ⟨y, hy, hno⟩ w' hw => hbad ?_ _ (m.1.t hw)) fun hall w' hw => ⟨inR64 (by omega) (by omega), ⟨⟨rfl, trivial⟩, i + 1, by omega, by omega, hf.t (m.1.t hw), ?_⟩, by dsimp only; omega⟩
  ·have : dc[i].1.lots.all (fun x => decide (x ∈ p.lots)) = false := by
    rw [List.all_eq_false]
    exact ⟨y, hy, by simpa using hno⟩
   unfold deB
   rw [this]
   simp
  ·rw [take_succ' hlt]
   intro z hz
   rcases List.mem_append.1 hz with hz | hz
   ·exact hin z hz
   ·rw [List.mem_singleton] at hz
    subst hz
    have : dc[i].1.lots.all (fun x => decide (x ∈ p.lots)) = true := by
     rw [List.all_eq_true]
     exact fun y hy => decide_eq_true (hall y hy)
    unfold deB
    rw [this, hnd, hwi]
    simp [hne]
 ·have : i = dc.length := by omega
  subst this
  rw [List.take_length] at hin
  refine hT (fun d hd' => ?_) w1 hf
  rw [← hm] at hd'
  obtain ⟨y, hy, rfl⟩ := List.mem_map.1 hd'
  exact hin y hy
theorem Right_l0 {K : Bool -> World -> Prop} (hP : PV wB s0 s1 s2 p) (hB : Fr F0 wB w) (hpr : Row w pb (prC s0 s1 s2 p.most p.budget)) (hl1 : p.ch.length <= 480) (hl2 : p.de.length <= 100)
  (hF : (∃ c ∈ p.ch, chB p c = false) \/ (∃ d ∈ p.de, deB p d = false) -> ∀ w', Fr F0 w w' -> K false w') (hT : (∀ c ∈ p.ch, chB p c = true) -> (∀ d ∈ p.de, deB p d = true) -> ∀ w', Fr F0 w w' -> K true w') : z0l_l0 ⟨pb, 0, none⟩ 0 K w := by
 have hcl := hP.ch.len
 have hl0 := hP.l0
 refine ⟨⟨fun i w' => ∃ i' : Nat, i = i' /\ i' <= p.ch.length /\ Fr F0 w w' /\ ∀ x ∈ p.ch.take i', chB p x = true, fun i _ => p.ch.length - i.toNat, ⟨0, rfl, by omega, Fr.refl, by simp⟩, ?_⟩⟩
 rintro i w1 ⟨i, rfl, hi, hf, hin⟩
 unfold z0l_b0
 have hpr1 := hf.row hpr fun h => h
 refine ⟨s1, hpr1.at rfl, ?_⟩
 rw [cnd_prop]
 refine ⟨fun hlt => ?_, fun hge => ?_⟩
 ·have hlt : i < p.ch.length := by omega
  refine ⟨s1, hpr1.at rfl, ?_⟩
  refine VC.ld (hP.fr (hB.t hf)).ch i rfl hlt fun a hc => ?_
  obtain ⟨c0, c1, c2, c3⟩ := hc w1 Fr.refl
  refine ⟨_, c0, _, c1, _, c2, _, c3, ?_⟩
  have hmem : p.ch[i] ∈ p.ch := List.getElem_mem hlt
  have hbad : chB p p.ch[i] = false -> ∀ w', Fr F0 w1 w' -> K false w' := fun h w' hw => hF (.inl ⟨_, hmem, h⟩) w' (hf.t hw)
  refine stN_new (w0 := w1) (l := []) rfl Mem.nil fun w23 m => ?_
  refine ⟨s0, (m.1.row hpr1 fun h => h).at rfl, _, m.ld 0 rfl rfl, contains_spec (hP.fr ((hB.t hf).t m.1)).lots (by omega) ?_⟩
  refine cnd_iff.2 ⟨fun h => hbad ?_ _ m.1, fun h => ⟨_, m.ld 0 rfl rfl, rwithin_spec ?_⟩⟩
  ·have h' : decide (p.ch[i].lot ∈ p.lots) = false := by simpa using h
   unfold chB
   rw [h']
   rfl
  have h1 : decide (p.ch[i].lot ∈ p.lots) = true := by simpa using h
  refine cnd_iff.2 ⟨fun h => hbad ?_ _ m.1, fun h => ⟨_, m.ld 0 rfl rfl, rwithin_spec ?_⟩⟩
  ·have h' : wiB p.ch[i].price 1000000000 = false := by simpa using h
   unfold chB
   rw [h']
   simp
  have h2 : wiB p.ch[i].price 1000000000 = true := by simpa using h
  refine cnd_iff.2 ⟨fun h => hbad ?_ _ m.1, fun h => ⟨inR64 (by omega) (by omega), ⟨⟨rfl, trivial⟩, i + 1, by omega, by omega, hf.t m.1, ?_⟩, by dsimp only; omega⟩⟩
  ·have h' : wiB p.ch[i].pts 1000000 = false := by simpa using h
   unfold chB
   rw [h']
   simp
  ·rw [take_succ' hlt]
   intro z hz
   rcases List.mem_append.1 hz with hz | hz
   ·exact hin z hz
   ·rw [List.mem_singleton] at hz
    subst hz
    have h3 : wiB p.ch[i].pts 1000000 = true := by simpa using h
    unfold chB
    rw [h1, h2, h3]
    rfl
 ·have : i = p.ch.length := by omega
  subst this
  rw [List.take_length] at hin
  exact Right_l1 hP (hB.t hf) hpr1 hl2 (fun h w' hw => hF (.inr h) w' (hf.t hw)) fun h w' hw => hT hin h w' (hf.t hw)
theorem refRight_spec {K : Bool -> World -> Prop} (hP : PV w s0 s1 s2 p) (hK : ∀ w', Fr F0 w w' -> K (rightB p) w') : z0l_sh s0 s1 s2 p.most p.budget K w := by
 have e0 := hP.lots.len
 have e1 := hP.ch.len
 obtain ⟨dc, hd, hm, _⟩ := hP.de
 have e2 := hd.len
 have hlm : dc.length = p.de.length := by rw [← hm, List.length_map]
 have hl0 := hP.l0
 have hF : ¬ RightPr p -> ∀ w', Fr F0 w w' -> K false w' := fun h w' hw => by
  have := hK w' hw
  cases hb : rightB p with
  | false => rwa [hb] at this
  | true => exact absurd (rightB_iff.1 hb) h
 refine ⟨?_⟩
 unfold z0l_sd
 intro w1
 have m : Mem w w1 _ := Mem.nil.allocL (cs := prC s0 s1 s2 p.most p.budget)
 clear_value w1
 refine ⟨s0, m.ld 0 rfl rfl, ?_⟩
 rw [cnd_prop]
 refine ⟨fun h => hF (fun r => by have := r.some; omega) _ m.1, fun h1 => ⟨s0, m.ld 0 rfl rfl, ?_⟩⟩
 rw [cnd_prop]
 refine ⟨fun h => hF (fun r => by have := r.few; omega) _ m.1, fun h2 => ⟨s0, m.ld 0 rfl rfl, different_spec (hP.fr m.1).lots (by omega) fun w5 hf => ?_⟩⟩
 have m := m.fr hf
 refine cnd_iff.2 ⟨fun h => hF (fun r => by have := r.diff; simp [this] at h) _ m.1, fun h3 => ⟨s1, m.ld 0 rfl rfl, ?_⟩⟩
 rw [cnd_prop]
 refine ⟨fun h => hF (fun r => by have := r.chs; omega) _ m.1, fun h4 => ⟨s2, m.ld 0 rfl rfl, ?_⟩⟩
 rw [cnd_prop]
 refine ⟨fun h => hF (fun r => by have := r.des; omega) _ m.1, fun h5 => ⟨_, m.ld 0 rfl rfl, rwithin_spec ?_⟩⟩
 refine cnd_iff.2 ⟨fun h => hF (fun r => by have := wiB_iff.2 r.most; simp [this] at h) _ m.1, fun h6 => ⟨_, m.ld 0 rfl rfl, rwithin_spec ?_⟩⟩
 refine cnd_iff.2 ⟨fun h => hF (fun r => by have := wiB_iff.2 r.budget; simp [this] at h) _ m.1, fun h7 => ?_⟩
 refine Right_l0 (hP.fr m.1) Fr.refl (m.row 0 rfl) (by omega) (by omega) (fun h w' hw => hF (fun r => ?_) _ (m.1.t hw)) fun hc hd w' hw => ?_
 ·have hr := rightB_iff.2 r
  unfold rightB at hr
  simp only [Bool.and_eq_true, List.all_eq_true] at hr
  obtain ⟨_, _, _, _, _, _, _, hcs, hds⟩ := hr
  rcases h with ⟨c, hc, h⟩ | ⟨d, hd, h⟩
  ·rw [hcs c hc] at h; cases h
  ·rw [hds d hd] at h; cases h
 ·have : rightB p = true := by
   unfold rightB
   simp only [Bool.and_eq_true, List.all_eq_true, decide_eq_true_eq]
   exact ⟨by omega, by omega, by simpa using h3, by omega, by omega, by simpa using h6, by simpa using h7, hc, hd⟩
  have hk := hK w' (m.1.t hw)
  rwa [this] at hk
end
end Go.Proofs.YtfpobpjandjhjaaDoor
