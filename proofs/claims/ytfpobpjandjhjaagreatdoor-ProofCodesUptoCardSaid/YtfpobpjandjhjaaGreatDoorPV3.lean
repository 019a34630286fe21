/- The reference's Decode. Conditions: none. -/
import Derived.Test.YtfpobpjandjhjaaGreatDoorPV2
namespace Go.Proofs.YtfpobpjandjhjaaGreatDoor
open Go Pw
section
variable {w0 w : World} {B : Nat -> Prop} {Q : World -> Prop} {rb tb ob : Nat} {s : List UInt8} {t : Sl} {T : List Int} {pts bnd : Int}
def muR (s : List UInt8) (rb : Nat) (w : World) : Nat :=
 (match w.cell? ⟨rb, 1, none⟩ with | some (.int _ v) => s.length - v.toNat | _ => 0) * 2 + (match w.cell? ⟨rb, 2, none⟩ with | some (.bool false) => 1 | _ => 0)
theorem muR_eq {st : Bool × List UInt8} (hr : st.2 <:+ s) (h1 : w.cell? ⟨rb, 1, none⟩ = some (.int .i64 ((s.length - st.2.length : Nat) : Int))) (h2 : w.cell? ⟨rb, 2, none⟩ = some (.bool st.1)) : muR s rb w = st.2.length * 2 + (if st.1 = true then 0 else 1) := by
 have := suf_len hr
 unfold muR
 rw [h1, h2]
 have e : s.length - ((s.length - st.2.length : Nat) : Int).toNat = st.2.length := by omega
 simp only [e]
 cases st.1 <;> rfl
theorem numsQ_suf {st : Bool × List UInt8} (hr : st.2 <:+ s) : (numsQ st).2.2 <:+ s := by
 have key : ∀ (k : Nat) (b : Bool) (r : List UInt8), (numsP k b r).2.2 <:+ r := by
  intro k
  induction k with
  | zero => exact fun b r => List.suffix_refl _
  | succ k ih =>
   intro b r
   unfold numsP
   split
   ·exact (ih _ _).trans ((List.drop_suffix _ _).trans (List.drop_suffix _ _))
   ·exact List.suffix_refl _
 exact (key _ _ _).trans hr
theorem nodeQ_suf {st : Bool × List UInt8} (hr : st.2 <:+ s) : (nodeQ st).2.2 <:+ s := needP_suf (numsQ_suf (numP_suf (needP_suf (numP_suf (needP_suf (numP_suf (needP_suf hr)))))))
theorem nodeQ_short {st : Bool × List UInt8} : (nodeQ st).2.2.length <= st.2.length := suf_len (nodeQ_suf (List.suffix_refl _))
theorem nodeQ_less {st : Bool × List UInt8} (h : (nodeQ st).2.1 = false) : (nodeQ st).2.2.length + 1 <= st.2.length := by
 have h2 := congrArg List.length (nodeQ_no h).2
 have hn : 0 < (nodeT (nodeQ st).1).length := by unfold nodeT lineT nodeW; simp
 rw [List.length_append] at h2
 omega
abbrev Rend (w0 : World) (T : List Int) (pts bnd : Int) (z : List Nd × Bool × List UInt8) (K : Sl -> Int -> Int -> Sl -> Int -> World -> Prop) : Prop :=
 (∀ t ns w', z.2.1 = false -> Fr F0 w0 w' -> VI w' t T -> NV w' ns z.1 -> K t pts bnd ns 0 w') /\ (∀ w', z.2.1 = true -> Fr F0 w0 w' -> K ⟨none, 0, 0⟩ 0 0 ⟨none, 0, 0⟩ 11 w')
theorem rDecode_l0 {K : Sl -> Int -> Int -> Sl -> Int -> World -> Prop} {s3 : Bool × List UInt8} (hs : s.length < 2 ^ 40) (h3 : s3.2 <:+ s) (hQ0 : ∀ u, Q u -> VI u t T)
  (h : Sp w0 w [(ob, rsC t pts bnd ⟨none, 0, 0⟩), (rb, rr s s3), (tb, rsC ⟨none, 0, 0⟩ 0 0 ⟨none, 0, 0⟩)] B Q 4 encN ⟨none, 0, 0⟩ ([] : List NdC))
  (hK : Rend w0 T pts bnd (nodesQ (s.length + 1) s3) K) : z1p_l0 (ofL s) ⟨tb, 0, none⟩ ⟨rb, 0, none⟩ ⟨ob, 0, none⟩ K w := by
 have h3l := suf_len h3
 refine ⟨⟨fun u => ∃ (k : Nat) (st : Bool × List UInt8) (N : List Nd) (ns : Sl) (cs : List NdC) (B : Nat -> Prop) (Q : World -> Prop), (st.1 = true \/ st.2.length < k) /\ nodesQ (s.length + 1) s3 = (N ++ (nodesQ k st).1, (nodesQ k st).2) /\ st.2 <:+ s /\ cs.length = N.length /\ N.length + st.2.length <= s.length + (if st.1 = true then 1 else 0) /\
   Sp w0 u [(ob, rsC t pts bnd ns), (rb, rr s st), (tb, rsC ⟨none, 0, 0⟩ 0 0 ⟨none, 0, 0⟩)] B Q 4 encN ns cs /\ (∀ u, Q u -> VI u t T /\ ∀ (i : Nat) c n, cs[i]? = some c -> N[i]? = some n -> NdV u c n), muR s rb,
  ⟨s.length + 1, s3, [], ⟨none, 0, 0⟩, [], B, Q, .inr (by omega), rfl, h3, rfl, by simp only [List.length_nil]; omega, h, fun u hq => ⟨hQ0 u hq, fun i c n hc => by simp at hc⟩⟩, ?_⟩⟩
 clear h
 rintro u ⟨k, st, N, ns, cs, B, Q, hk, hz, hsf, hcl, hNl, h, hQ⟩
 have hsl := suf_len hsf
 have hmu := muR_eq (w := u) (rb := rb) hsf (h.ld 1 rfl rfl) (h.ld 1 rfl rfl)
 have hns : N.length <= s.length + 1 := by split at hNl <;> omega
 have hout : (!st.1 && !st.2.isEmpty) = false -> z1p_k1 ⟨tb, 0, none⟩ ⟨rb, 0, none⟩ ⟨ob, 0, none⟩ K u := fun he => by
  have e : nodesQ k st = ([], st) := by
   cases k with
   | zero => rfl
   | succ k =>
    unfold nodesQ
    rw [if_neg (by rw [he]; decide)]
  rw [e, List.append_nil] at hz
  rw [hz] at hK
  obtain ⟨hY, hN⟩ := hK
  refine ⟨?_⟩
  unfold z1p_k1d
  refine ⟨st.1, h.ld 1 rfl rfl, cnd_iff.2 ⟨fun hb => ?_, fun hb => ?_⟩⟩
  ·refine stN_sp h 2 rfl rfl fun w46 h => ?_
   simp only [List.set_cons_zero, List.set_cons_succ] at h
   exact ⟨⟨none, 0, 0⟩, h.ld 2 rfl rfl, _, h.ld 2 rfl rfl, _, h.ld 2 rfl rfl, ⟨none, 0, 0⟩, h.ld 2 rfl rfl, hN w46 hb h.m.1⟩
  ·refine ⟨t, h.ld 0 rfl rfl, _, h.ld 0 rfl rfl, _, h.ld 0 rfl rfl, ns, h.ld 0 rfl rfl, stN_sp h 2 rfl rfl fun w55 h => ?_⟩
   simp only [List.set_cons_zero, List.set_cons_succ] at h
   exact ⟨t, h.ld 2 rfl rfl, _, h.ld 2 rfl rfl, _, h.ld 2 rfl rfl, ns, h.ld 2 rfl rfl, hY t ns w55 hb h.m.1 (hQ _ h.q).1 ⟨⟨cs, h.ow.vw, hcl, (hQ _ h.q).2⟩, (show N.length < 2 ^ 47 by omega)⟩⟩
 unfold z1p_b0
 refine ⟨st.1, h.ld 1 rfl rfl, cnd_iff.2 ⟨fun hb => ?_, fun hb => hout (by have : st.1 = true := (by simpa using hb); rw [this]; rfl)⟩⟩
 have hb : st.1 = false := by simpa using hb
 refine ⟨((s.length - st.2.length : Nat) : Int), h.ld 1 rfl rfl, ?_⟩
 rw [ofL_sz]
 refine cnd_prop.2 ⟨fun hlt => ?_, fun hge => hout ?_⟩
 ·have hne : st.2.isEmpty = false := by
   cases he : st.2 with
   | nil => rw [he] at hlt; simp at hlt
   | cons c q => rfl
  have hk : st.2.length < k := hk.elim (fun h => by rw [hb] at h; cases h) id
  obtain ⟨k, rfl⟩ : ∃ k', k = k' + 1 := ⟨k - 1, by omega⟩
  have hnq : nodesQ (k + 1) st = ((nodeQ st).1 :: (nodesQ k (nodeQ st).2).1, (nodesQ k (nodeQ st).2).2) := by
   conv => lhs; unfold nodesQ
   rw [if_pos (by rw [hb, hne]; rfl)]
  have hshort := nodeQ_short (st := st)
  have hless := nodeQ_less (st := st)
  have hqs := nodeQ_suf hsf
  rw [hb] at hNl hmu
  simp only [Bool.false_eq_true, if_false] at hNl hmu
  have en' : str [110, 111, 100, 101, 32] = ofL (nodeW ++ [32]) := rfl
  have e32 : str [32] = ofL [32] := rfl
  have e47 : str [47] = ofL [47] := rfl
  have e10 : str [10] = ofL [10] := rfl
  rw [en', e32, e47, e10]
  intro w19
  have h : Sp w0 w19 _ _ _ _ _ _ _ := h.allocL (vs := [.int .i64 0, .int .i64 0, .int .i64 0, .slice none 0 0])
  clear_value w19
  have f1 := needP_suf (x := nodeW ++ [32]) hsf
  refine need_spec (by decide) hs h (j := 2) rfl hsf fun w20 h => ?_
  simp only [List.set_cons_zero, List.set_cons_succ] at h
  refine number_spec hs h (j := 2) rfl f1 fun w21 h => ?_
  simp only [List.set_cons_zero, List.set_cons_succ] at h
  refine ⟨h.wr 0 rfl rfl, ?_⟩
  intro w23
  have h : Sp w0 w23 _ _ _ _ _ _ _ := h.set (i := 0) 0 rfl
  simp only [List.set_cons_zero, List.set_cons_succ] at h
  clear_value w23
  have f2 := numP_suf f1
  refine need_spec (by decide) hs h (j := 2) rfl f2 fun w24 h => ?_
  simp only [List.set_cons_zero, List.set_cons_succ] at h
  have f3 := needP_suf (x := [32]) f2
  refine number_spec hs h (j := 2) rfl f3 fun w25 h => ?_
  simp only [List.set_cons_zero, List.set_cons_succ] at h
  refine ⟨h.wr 0 rfl rfl, ?_⟩
  intro w27
  have h : Sp w0 w27 _ _ _ _ _ _ _ := h.set (i := 1) 0 rfl
  simp only [List.set_cons_zero, List.set_cons_succ] at h
  clear_value w27
  have f4 := numP_suf f3
  refine need_spec (by decide) hs h (j := 2) rfl f4 fun w28 h => ?_
  simp only [List.set_cons_zero, List.set_cons_succ] at h
  have f5 := needP_suf (x := [47]) f4
  refine number_spec hs h (j := 2) rfl f5 fun w29 h => ?_
  simp only [List.set_cons_zero, List.set_cons_succ] at h
  refine ⟨h.wr 0 rfl rfl, ?_⟩
  intro w31
  have h : Sp w0 w31 _ _ _ _ _ _ _ := h.set (i := 2) 0 rfl
  simp only [List.set_cons_zero, List.set_cons_succ] at h
  clear_value w31
  have f6 := numP_suf f5
  have hdis := fun b hb => (h.os b hb).2.1
  have hrs := h.rs
  refine numbersR_spec hs h (j := 2) rfl f6 fun w32 r33 h => ?_
  simp only [List.set_cons_zero, List.set_cons_succ] at h
  refine ⟨h.wr 0 rfl rfl, ?_⟩
  intro w34
  have h : Sp w0 w34 _ _ _ _ _ _ _ := h.set (i := 3) (v := .slice r33.p r33.l r33.c) 0 rfl
  simp only [List.set_cons_zero, List.set_cons_succ] at h
  clear_value w34
  have f7 := numsQ_suf f6
  refine need_spec (by decide) hs h (j := 2) rfl f7 fun w35 h => ?_
  simp only [List.set_cons_zero, List.set_cons_succ] at h
  have h := h.back hrs hdis
  refine ⟨ns, h.ld 1 rfl rfl, _, h.ld 0 rfl rfl, _, h.ld 0 rfl rfl, _, h.ld 0 rfl rfl, r33, h.ld 0 rfl rfl, ?_⟩
  intro w41
  refine h.push (a := ⟨(nodeQ st).1.lot, (nodeQ st).1.num, (nodeQ st).1.den, r33⟩) rfl rfl encN_ok rfl (by omega) (by omega) fun s42 w43 h => ?_
  refine ⟨h.wr 1 rfl rfl, ?_⟩
  intro w44
  have h : Sp w0 w44 _ _ _ _ _ _ _ := h.set (i := 3) (v := .slice s42.p s42.l s42.c) 1 rfl
  simp only [List.set_cons_zero, List.set_cons_succ] at h
  clear_value w44
  have h : Sp w0 w44 [(ob, rsC t pts bnd s42), (rb, rr s (nodeQ st).2), (tb, rsC ⟨none, 0, 0⟩ 0 0 ⟨none, 0, 0⟩)] _ _ 4 encN s42 _ := h.dr 1 rfl
  have hmu2 := muR_eq (w := w44) (rb := rb) hqs (h.ld 1 rfl rfl) (h.ld 1 rfl rfl)
  refine ⟨⟨⟨rfl, rfl, rfl, rfl, trivial⟩, k, (nodeQ st).2, N ++ [(nodeQ st).1], s42, cs ++ [⟨(nodeQ st).1.lot, (nodeQ st).1.num, (nodeQ st).1.den, r33⟩], _, _, ?_, ?_, hqs, by simp [hcl], ?_, h, fun u hq => ⟨(hQ u hq.1).1, fun i c n hc hn => ?_⟩⟩, ?_⟩
  ·cases hb2 : (nodeQ st).2.1 with
   | true => exact .inl rfl
   | false =>
    have := hless hb2
    exact .inr (by omega)
  ·rw [hz, hnq]
   simp
  ·rw [List.length_append, List.length_singleton]
   cases hb2 : (nodeQ st).2.1 with
   | true =>
    rw [if_pos rfl]
    omega
   | false =>
    have := hless hb2
    rw [if_neg (by decide)]
    omega
  ·rcases Nat.lt_or_ge i cs.length with hi | hi
   ·rw [List.getElem?_append_left hi] at hc
    rw [List.getElem?_append_left (by omega)] at hn
    exact (hQ u hq.1).2 i c n hc hn
   ·rw [List.getElem?_append_right hi] at hc
    rw [List.getElem?_append_right (by omega)] at hn
    have : i = cs.length := by
     have := (List.getElem?_eq_some_iff.1 hc).1
     simp at this
     omega
    subst this
    rw [Nat.sub_self] at hc
    rw [hcl, Nat.sub_self] at hn
    simp at hc hn
    subst hc hn
    exact ⟨⟨rfl, rfl, rfl⟩, hq.2.vw, valP_I _ _, valP_I _ _⟩
  ·rw [hmu, hmu2]
   cases hb2 : (nodeQ st).2.1 with
   | true => simp; omega
   | false =>
    have := hless hb2
    simp
    omega
 ·have : st.2 = [] := by
   cases he : st.2 with
   | nil => rfl
   | cons c q =>
    exfalso
    rw [he] at hge hsl
    simp only [List.length_cons] at hge hsl
    omega
  rw [this]
  simp
theorem rDecode_spec {K : Sl -> Int -> Int -> Sl -> Int -> World -> Prop} (hs : s.length < 2 ^ 40)
  (hY : ∀ t ns w', (readQ s).2.1 = false -> Fr F0 w w' -> VI w' t (readQ s).1.T -> NV w' ns (readQ s).1.N -> K t (readQ s).1.pts (readQ s).1.bnd ns 0 w')
  (hN : ∀ w', (readQ s).2.1 = true -> Fr F0 w w' -> K ⟨none, 0, 0⟩ 0 0 ⟨none, 0, 0⟩ 11 w') : z1p_sh (ofL s) K w := by
 refine ⟨?_⟩
 unfold z1p_sd
 have et : str [116, 97, 107, 101] = ofL takeW := rfl
 have ep : str [10, 112, 111, 105, 110, 116, 115, 32] = ofL (10 :: pointsW ++ [32]) := rfl
 have e32 : str [32] = ofL [32] := rfl
 have e10 : str [10] = ofL [10] := rfl
 rw [et, ep, e32, e10]
 intro w1
 have m : Mem w w1 _ := Mem.nil.allocL (cs := rsC ⟨none, 0, 0⟩ 0 0 ⟨none, 0, 0⟩)
 clear_value w1
 intro w2
 have e0 : (#[Value.string (ofL s), Value.int .i64 0, Value.bool false] : Array Value) = (rr s (false, s)).toArray := by
  unfold rr
  simp
 have m : Mem w w2 [(w1.heap.size, rr s (false, s)), (w.heap.size, rsC ⟨none, 0, 0⟩ 0 0 ⟨none, 0, 0⟩)] := by
  have := m.allocL (cs := rr s (false, s)) (e := 119)
  rw [← e0] at this
  exact this
 clear_value w2
 intro w3
 have m : Mem w w3 _ := m.allocL (cs := rsC ⟨none, 0, 0⟩ 0 0 ⟨none, 0, 0⟩)
 have h : Sp w w3 _ _ _ 4 encN ⟨none, 0, 0⟩ ([] : List NdC) := Sp.start m
 clear_value w3
 have f0 : ((false, s) : Bool × List UInt8).2 <:+ s := List.suffix_refl _
 refine need_spec (by decide) hs h (j := 1) rfl f0 fun w4 h => ?_
 simp only [List.set_cons_zero, List.set_cons_succ] at h
 have f1 := needP_suf (x := takeW) f0
 refine numbersR_spec hs h (j := 1) rfl f1 fun w5 r6 h => ?_
 simp only [List.set_cons_zero, List.set_cons_succ] at h
 refine ⟨h.wr 0 rfl rfl, ?_⟩
 intro w7
 have h : Sp w w7 _ _ _ _ _ _ _ := h.set (i := 0) (v := .slice r6.p r6.l r6.c) 0 rfl
 simp only [List.set_cons_zero, List.set_cons_succ] at h
 clear_value w7
 have f2 := numsQ_suf f1
 refine need_spec (by decide) hs h (j := 1) rfl f2 fun w8 h => ?_
 simp only [List.set_cons_zero, List.set_cons_succ] at h
 have f3 := needP_suf (x := 10 :: pointsW ++ [32]) f2
 refine number_spec hs h (j := 1) rfl f3 fun w9 h => ?_
 simp only [List.set_cons_zero, List.set_cons_succ] at h
 refine ⟨h.wr 0 rfl rfl, ?_⟩
 intro w11
 have h : Sp w w11 _ _ _ _ _ _ _ := h.set (i := 1) 0 rfl
 simp only [List.set_cons_zero, List.set_cons_succ] at h
 clear_value w11
 have f4 := numP_suf f3
 refine need_spec (by decide) hs h (j := 1) rfl f4 fun w12 h => ?_
 simp only [List.set_cons_zero, List.set_cons_succ] at h
 have f5 := needP_suf (x := [32]) f4
 refine number_spec hs h (j := 1) rfl f5 fun w13 h => ?_
 simp only [List.set_cons_zero, List.set_cons_succ] at h
 refine ⟨h.wr 0 rfl rfl, ?_⟩
 intro w15
 have h : Sp w w15 _ _ _ _ _ _ _ := h.set (i := 2) 0 rfl
 simp only [List.set_cons_zero, List.set_cons_succ] at h
 clear_value w15
 have f6 := numP_suf f5
 refine need_spec (by decide) hs h (j := 1) rfl f6 fun w16 h => ?_
 simp only [List.set_cons_zero, List.set_cons_succ] at h
 have f7 := needP_suf (x := [10]) f6
 have h : Sp w w16 _ _ _ 4 encN ⟨none, 0, 0⟩ ([] : List NdC) := h.next
 exact rDecode_l0 (T := (readQ s).1.T) (pts := (readQ s).1.pts) (bnd := (readQ s).1.bnd) hs f7 (fun u hq => hq.2.vw) h ⟨hY, hN⟩
end
end Go.Proofs.YtfpobpjandjhjaaGreatDoor
