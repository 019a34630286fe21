/- The reference's reader. Conditions: none. -/
import Derived.Test.YtfpobpjandjhjaaGreatDoorPV1
namespace Go.Proofs.YtfpobpjandjhjaaGreatDoor
open Go Pw
def rr (s : List UInt8) (st : Bool × List UInt8) : List Value := [.string (ofL s), .int .i64 ((s.length - st.2.length : Nat) : Int), .bool st.1]
theorem suf_drop {s r : List UInt8} (_h : r <:+ s) : s.drop (s.length - r.length) = r := (List.suffix_iff_eq_drop.1 _h).symm
theorem suf_len {s r : List UInt8} (h : r <:+ s) : r.length <= s.length := List.IsSuffix.length_le h
theorem ofL_ext (s : List UInt8) (a b : Nat) : (ofL s).extract a b = ofL ((s.drop a).take (b - a)) := bl_inj (by rw [bl_extract, bl_ofL, bl_ofL, List.drop_take])
theorem ofL_inj {a b : List UInt8} : ofL a = ofL b ↔ a = b := ⟨fun h => by have := congrArg bl h; rwa [bl_ofL, bl_ofL] at this, fun h => by rw [h]⟩
theorem pre_take {x r : List UInt8} (h : x.length <= r.length) : x.isPrefixOf r = decide (r.take x.length = x) := by
 rw [Bool.eq_iff_iff, decide_eq_true_eq, List.isPrefixOf_iff_prefix, List.prefix_iff_eq_take]
 exact eq_comm
section
variable {α : Type} {n : Nat} {enc : α -> List Value} {w0 w : World} {sl : Sl} {l : List α} {L : List (Nat × List Value)} {B : Nat -> Prop} {Q : World -> Prop} {rb j : Nat} {s : List UInt8} {st : Bool × List UInt8}
theorem sees_spec {x : List UInt8} {K : Bool -> World -> Prop} (hx : x.length < 2 ^ 40) (hs : s.length < 2 ^ 40) (h : Sp w0 w L B Q n enc sl l) (hj : L[j]? = some (rb, rr s st)) (hr : st.2 <:+ s)
  (hY : ∀ w', st.1 = false -> x.isPrefixOf st.2 = true -> Sp w0 w' (L.set j (rb, rr s (false, st.2.drop x.length))) B Q n enc sl l -> K true w')
  (hN : ∀ w', (!st.1 && x.isPrefixOf st.2) = false -> Sp w0 w' L B Q n enc sl l -> K false w') : z0c_sh (some ⟨rb, 0, none⟩) (ofL x) K w := by
 obtain ⟨b, r⟩ := st
 have hrl := suf_len hr
 have hrd := suf_drop hr
 simp only at hrl hrd hY hN hr
 refine ⟨?_⟩
 unfold z0c_sd
 intro w1
 have h : Sp w0 w1 L B Q n enc sl l := h.drew
 clear_value w1
 rw [ofL_sz]
 refine ⟨b, h.ld j hj rfl, cnd_iff.2 ⟨fun hb => hN w1 (by rw [hb]; rfl) h, fun hb => ?_⟩⟩
 subst hb
 refine ⟨((s.length - r.length : Nat) : Int), h.ld j hj rfl, inR64 (by omega) (by omega), ofL s, h.ld j hj rfl, ?_⟩
 rw [ofL_sz]
 refine cnd_prop.2 ⟨fun hgt => hN w1 ?_ h, fun hle => ?_⟩
 ·simp only [Bool.not_false, Bool.true_and]
  rw [Bool.eq_false_iff]
  intro hp
  have := (List.isPrefixOf_iff_prefix.1 hp).length_le
  omega
 ·have hxl : x.length <= r.length := by omega
  refine ⟨ofL s, h.ld j hj rfl, ((s.length - r.length : Nat) : Int), h.ld j hj rfl, ((s.length - r.length : Nat) : Int), h.ld j hj rfl, inR64 (by omega) (by omega), ⟨by omega, by omega, by rw [ofL_sz]; omega⟩, ?_⟩
  have e1 : (((s.length - r.length : Nat) : Int) + (x.length : Int)).toNat - ((s.length - r.length : Nat) : Int).toNat = x.length := by omega
  rw [ofL_ext, e1, Int.toNat_natCast, hrd]
  have hp := pre_take hxl
  refine cnd_iff.2 ⟨fun he => hN w1 ?_ h, fun he => ?_⟩
  ·simp only [Bool.not_false, Bool.true_and]
   rw [hp, decide_eq_false_iff_not]
   intro hh
   rw [hh] at he
   simp at he
  ·have he2 : r.take x.length = x := by
    simpa [ofL_inj] using he
   refine ⟨((s.length - r.length : Nat) : Int), h.ld j hj rfl, inR64 (by omega) (by omega), h.wr j hj rfl, ?_⟩
   refine hY _ rfl (by rw [hp]; exact decide_eq_true he2) ?_
   have h2 := h.set (i := 1) (v := Value.int .i64 (((s.length - r.length : Nat) : Int) + (x.length : Int))) j hj
   have e : (rr s (false, r)).set 1 (Value.int .i64 (((s.length - r.length : Nat) : Int) + (x.length : Int))) = rr s (false, r.drop x.length) := by
    unfold rr
    have : ((s.length - r.length : Nat) : Int) + (x.length : Int) = ((s.length - (r.drop x.length).length : Nat) : Int) := by
     rw [List.length_drop]; omega
    rw [this]
    rfl
   rw [e] at h2
   exact h2
theorem need_spec {x : List UInt8} {K : World -> Prop} (hx : x.length < 2 ^ 40) (hs : s.length < 2 ^ 40) (h : Sp w0 w L B Q n enc sl l) (hj : L[j]? = some (rb, rr s st)) (hr : st.2 <:+ s)
  (hK : ∀ w', Sp w0 w' (L.set j (rb, rr s (needP x st))) B Q n enc sl l -> K w') : z0b_sh (some ⟨rb, 0, none⟩) (ofL x) K w := by
 refine ⟨?_⟩
 unfold z0b_sd
 refine sees_spec hx hs h hj hr (fun w' hb hp h' => ?_) fun w' hn h' => ?_
 ·refine cnd_iff.2 ⟨fun hh => by simp at hh, fun _ => hK w' ?_⟩
  unfold needP
  rw [if_pos (by rw [hb, hp]; rfl)]
  exact h'
 ·refine cnd_iff.2 ⟨fun _ => ⟨h'.wr j hj rfl, hK _ ?_⟩, fun hh => by simp at hh⟩
  unfold needP
  rw [if_neg (by rw [hn]; decide)]
  exact h'.set (i := 2) (v := Value.bool true) j hj
theorem needP_suf {x : List UInt8} (hr : st.2 <:+ s) : (needP x st).2 <:+ s := by
 unfold needP
 split
 ·exact (List.drop_suffix _ _).trans hr
 ·exact hr
theorem numP_suf (hr : st.2 <:+ s) : (numP st).2 <:+ s := (List.drop_suffix _ _).trans hr
theorem digs_cons {k : Nat} {c : UInt8} {r : List UInt8} (hc : dig c = true) : digs (k + 1) (c :: r) = c :: digs k r := by
 conv => lhs; unfold digs
 rw [if_pos hc]
theorem number_k2 {K : Int -> World -> Prop} {r' : List UInt8} {v : Int} (hs : s.length < 2 ^ 40) (hr : st.2 <:+ s) (hv : v = valP st.1 st.2) (hr' : r' = resP st.1 st.2) (h : Sp w0 w L B Q n enc sl l) (hj : L[j]? = some (rb, rr s (st.1, r')))
  (hK : ∀ w', Sp w0 w' (L.set j (rb, rr s (numP st))) B Q n enc sl l -> K (valP st.1 st.2) w') : z04_k2 (some ⟨rb, 0, none⟩) ((s.length - st.2.length : Nat) : Int) v K w := by
 obtain ⟨b, r⟩ := st
 simp only at hv hr' hr hj hK
 have hrl := suf_len hr
 have hrd := suf_drop hr
 have hcp := con_pre b r
 have hcl := congrArg List.length hcp
 rw [← hr', List.length_append] at hcl
 have hI := valP_I b r
 show z04_k2 _ ((s.length - r.length : Nat) : Int) v K w
 refine ⟨?_⟩
 unfold z04_k2d
 intro w27
 have h : Sp w0 w27 L B Q n enc sl l := h.drew
 clear_value w27
 refine ⟨fun v => v.cell? ⟨rb, 0, none⟩ = some (.string (ofL s)) /\ v.cell? ⟨rb, 1, none⟩ = some (.int .i64 ((s.length - r'.length : Nat) : Int)), ⟨h.ld j hj rfl, h.ld j hj rfl⟩, ofL s, fun _ h => h.1, ((s.length - r'.length : Nat) : Int), fun _ h => h.2, ⟨by omega, by omega, by rw [ofL_sz]; omega⟩, ?_⟩
 rw [hv]
 refine rdec_spec hI fun w33 f33 => ?_
 have h' := h.fr f33
 refine ⟨⟨h'.ld j hj rfl, h'.ld j hj rfl⟩, ?_⟩
 have e1 : (((s.length - r'.length : Nat) : Int)).toNat - ((s.length - r.length : Nat) : Int).toNat = (conP b r).length := by omega
 have e2 : r.take (conP b r).length = conP b r := by
  have h2 := List.take_left (l₁ := conP b r) (l₂ := resP b r)
  rwa [hcp] at h2
 rw [ofL_ext, e1, Int.toNat_natCast, hrd, e2]
 refine cnd_iff.2 ⟨fun he => ⟨h'.wr j hj rfl, hK _ ?_⟩, fun he => hK _ ?_⟩
 ·have ho : okP b r = false := by
   unfold okP
   rw [decide_eq_false_iff_not]
   intro hh
   rw [hh] at he
   simp at he
  have e : numP (b, r) = (true, r') := by
   unfold numP
   simp only
   rw [ho, hr']
   simp
  rw [e]
  exact h'.set (i := 2) (v := Value.bool true) j hj
 ·have ho : okP b r = true := by
   unfold okP
   have : Lib.itoa (valP b r) = conP b r := by simpa [ofL_inj] using he
   exact decide_eq_true this
  have e : numP (b, r) = (b, r') := by
   unfold numP
   simp only
   rw [ho, hr']
   simp
  rw [e]
  have : L.set j (rb, rr s (b, r')) = L := set_self hj
  rw [this]
  exact h'
theorem pre1 (c : UInt8) (r : List UInt8) : [c].isPrefixOf r = (r.head? == some c) := by
 cases r with
 | nil => rfl
 | cons a r =>
  show (c == a && true) = (a == c)
  rw [Bool.and_true, Bool.eq_iff_iff, beq_iff_eq, beq_iff_eq]
  exact eq_comm
theorem byte_at {r : List UInt8} {c : UInt8} (h : c :: r <:+ s) : (ofL s).data.toList.getD ((s.length - (c :: r).length : Nat) : Int).toNat 0 = c := by
 have h1 := suf_drop h
 show (bl (ofL s)).getD _ 0 = c
 rw [bl_ofL, Int.toNat_natCast, List.getD_eq_getElem?_getD]
 have h2 : s[s.length - (c :: r).length]? = (s.drop (s.length - (c :: r).length))[0]? := by rw [List.getElem?_drop, Nat.add_zero]
 rw [h2, h1]
 rfl
theorem wrU8 {n : Int} (h0 : 0 <= n) (h1 : n < 256) : IntKind.wrap .u8 n = n := by
 simp [IntKind.wrap, IntKind.bits, IntKind.signed]; omega
theorem number_l0 {K : Int -> World -> Prop} {m : Bool} {r1 : List UInt8} (hs : s.length < 2 ^ 40) (hr : st.2 <:+ s) (hm : minP st.1 st.2 = m) (hd : dsP st.1 st.2 = digs 19 r1) (hr1 : st.2 = (if m = true then [45] else []) ++ r1) (h : Sp w0 w L B Q n enc sl l) (hj : L[j]? = some (rb, rr s (st.1, r1)))
  (hK : ∀ w', Sp w0 w' (L.set j (rb, rr s (numP st))) B Q n enc sl l -> K (valP st.1 st.2) w') : z04_l0 (some ⟨rb, 0, none⟩) ((s.length - st.2.length : Nat) : Int) m 0 0 K w := by
 obtain ⟨b, r⟩ := st
 simp only at hm hd hr1 hr hj hK
 show z04_l0 _ ((s.length - r.length : Nat) : Int) m 0 0 K w
 have hjl : j < L.length := (List.getElem?_eq_some_iff.1 hj).1
 have hL : ∀ X, (L.set j X)[j]? = some X := fun X => List.getElem?_set_self hjl
 refine ⟨⟨fun v k u => ∃ d r' : List UInt8, v = valW d /\ k = (d.length : Nat) /\ d.length <= 19 /\ r1 = d ++ r' /\ digs 19 r1 = d ++ digs (19 - d.length) r' /\ Sp w0 u (L.set j (rb, rr s (b, r'))) B Q n enc sl l, fun _ k _ => 19 - k.toNat, ⟨[], r1, rfl, rfl, by simp, rfl, rfl, by rw [set_self hj]; exact h⟩, ?_⟩⟩
 clear h
 rintro v k u ⟨d, r', rfl, rfl, hdl, hdr, hdd, h⟩
 have hr' : r' <:+ s := (List.suffix_append ((if m = true then [45] else []) ++ d) r').trans (by rw [List.append_assoc, ← hdr, ← hr1]; exact hr)
 have hrl := suf_len hr'
 unfold z04_b0
 intro w5
 have h : Sp w0 w5 _ B Q n enc sl l := h.drew
 clear_value w5
 have hout : ∀ {K' : Prop}, digs (19 - d.length) r' = [] -> (z04_k1 (some ⟨rb, 0, none⟩) ((s.length - r.length : Nat) : Int) m (valW d) K w5 -> K') -> K' := fun {K'} hz hk => hk <| by
  rw [hz, List.append_nil] at hdd
  have hds : dsP b r = d := by rw [hd, hdd]
  have hcon : conP b r = (if m = true then [45] else []) ++ d := by unfold conP; rw [hm, hds]
  have hres : r' = resP b r := by
   have e : r = conP b r ++ r' := by rw [hcon, List.append_assoc, ← hdr, ← hr1]
   have e2 := con_pre b r
   exact (List.append_cancel_left (e2.trans e)).symm
  refine ⟨?_⟩
  unfold z04_k1d
  have hk2 : ∀ v, v = valP b r -> z04_k2 (some ⟨rb, 0, none⟩) ((s.length - r.length : Nat) : Int) v K w5 := fun v hv => number_k2 (st := (b, r)) hs hr hv hres h (hL _) fun w' h' => hK w' (by rw [List.set_set] at h'; exact h')
  refine cnd_iff.2 ⟨fun hmm => hk2 _ ?_, fun hmm => hk2 _ ?_⟩
  ·have : m = false := by simpa using hmm
   subst this
   unfold valP
   rw [hm, hds, if_neg (by decide), Int.zero_sub]
   rfl
  ·have : m = true := by simpa using hmm
   subst this
   unfold valP
   rw [hm, hds, if_pos rfl]
 refine ⟨((s.length - r'.length : Nat) : Int), h.ld j (hL _) rfl, ofL s, h.ld j (hL _) rfl, ?_⟩
 rw [ofL_sz]
 refine cnd_prop.2 ⟨fun hlt => ?_, fun hge => ?_⟩
 ·obtain ⟨c, q, rfl⟩ : ∃ c q, r' = c :: q := by
   cases r' with
   | nil => simp at hlt
   | cons c q => exact ⟨c, q, rfl⟩
  have hb := byte_at hr'
  refine ⟨ofL s, h.ld j (hL _) rfl, ((s.length - (c :: q).length : Nat) : Int), h.ld j (hL _) rfl, ⟨by omega, by rw [ofL_sz]; omega⟩, ?_⟩
  rw [hb]
  have hno : dig c = false -> digs (19 - d.length) (c :: q) = [] := fun hc => by
   cases 19 - d.length with
   | zero => rfl
   | succ k =>
    unfold digs
    rw [if_neg (by rw [hc]; decide)]
  refine cnd_prop.2 ⟨fun h48 => ?_, fun h48 => hout (hno (by unfold dig; simp; omega)) id⟩
  refine ⟨ofL s, h.ld j (hL _) rfl, ((s.length - (c :: q).length : Nat) : Int), h.ld j (hL _) rfl, ⟨by omega, by rw [ofL_sz]; omega⟩, ?_⟩
  rw [hb]
  refine cnd_prop.2 ⟨fun h57 => ?_, fun h57 => hout (hno (by unfold dig; simp; omega)) id⟩
  refine cnd_prop.2 ⟨fun h19 => ?_, fun h19 => hout (by rw [show 19 - d.length = 0 by omega]; rfl) id⟩
  intro w18
  have h : Sp w0 w18 _ B Q n enc sl l := h.drew
  clear_value w18
  refine ⟨ofL s, h.ld j (hL _) rfl, ((s.length - (c :: q).length : Nat) : Int), h.ld j (hL _) rfl, ⟨by omega, by rw [ofL_sz]; omega⟩, ?_⟩
  rw [hb, wrU8 (by omega) (by omega)]
  refine ⟨inR64 (by omega) (by omega), ((s.length - (c :: q).length : Nat) : Int), h.ld j (hL _) rfl, h.wr j (hL _) rfl, ?_⟩
  have hw1 : IntKind.wrap .i64 (((s.length - (c :: q).length : Nat) : Int) + 1) = ((s.length - q.length : Nat) : Int) := by
   have := wq_in (n := ((s.length - (c :: q).length : Nat) : Int) + 1) (by omega) (by omega)
   unfold wq at this
   rw [this]
   simp only [List.length_cons] at hrl ⊢
   omega
  have hw2 : IntKind.wrap .i64 ((d.length : Int) + 1) = (((d ++ [c]).length : Nat) : Int) := by
   have := wq_in (n := (d.length : Int) + 1) (by omega) (by omega)
   unfold wq at this
   rw [this]
   simp
  rw [hw1, hw2]
  intro w26
  have h : Sp w0 w26 _ B Q n enc sl l := h.set (i := 1) (v := Value.int .i64 ((s.length - q.length : Nat) : Int)) j (hL _)
  clear_value w26
  rw [List.set_set] at h
  have hdc : dig c = true := by unfold dig; simp; omega
  refine ⟨⟨⟨rfl, rfl, rfl, trivial⟩, d ++ [c], q, (valW_snoc d c).symm, rfl, by simp; omega, by rw [hdr]; simp, ?_, h⟩, by simp only [List.length_append, List.length_singleton]; omega⟩
  rw [hdd, show 19 - d.length = (19 - (d ++ [c]).length) + 1 by simp; omega, digs_cons hdc]
  simp
 ·refine hout ?_ id
  have : r' = [] := by
   cases r' with
   | nil => rfl
   | cons c q =>
    exfalso
    simp only [List.length_cons] at hge hrl
    omega
  subst this
  cases 19 - d.length <;> rfl
theorem number_spec {K : Int -> World -> Prop} (hs : s.length < 2 ^ 40) (h : Sp w0 w L B Q n enc sl l) (hj : L[j]? = some (rb, rr s st)) (hr : st.2 <:+ s)
  (hK : ∀ w', Sp w0 w' (L.set j (rb, rr s (numP st))) B Q n enc sl l -> K (valP st.1 st.2) w') : z04_sh (some ⟨rb, 0, none⟩) K w := by
 refine ⟨?_⟩
 unfold z04_sd
 have hjl : j < L.length := (List.getElem?_eq_some_iff.1 hj).1
 have e45 : str [45] = ofL [45] := rfl
 rw [e45]
 refine ⟨((s.length - st.2.length : Nat) : Int), h.ld j hj rfl, sees_spec (by decide) hs h hj hr (fun w' hb hp h' => ?_) fun w' hn h' => ?_⟩
 ·have hm : minP st.1 st.2 = true := by unfold minP; rw [hb, ← pre1, hp]; rfl
  have e : st.2 = [45] ++ st.2.drop 1 := by
   obtain ⟨t, ht⟩ := List.isPrefixOf_iff_prefix.1 hp
   rw [← ht]
   rfl
  refine number_l0 (r1 := st.2.drop 1) hs hr hm (by unfold dsP; rw [hm, if_pos rfl]) (by rw [if_pos rfl]; exact e) h' (by rw [hb]; exact List.getElem?_set_self hjl) fun w' h2 => hK w' (by rw [List.set_set] at h2; exact h2)
 ·have hm : minP st.1 st.2 = false := by unfold minP; rw [← pre1]; exact hn
  exact number_l0 (r1 := st.2) hs hr hm (by unfold dsP; rw [hm, if_neg (by decide)]) (by rw [if_neg (by decide)]; rfl) h' hj hK
theorem numbersR_spec {K : Sl -> World -> Prop} (hs : s.length < 2 ^ 40) (h : Sp w0 w L B Q n enc sl l) (hj : L[j]? = some (rb, rr s st)) (hr : st.2 <:+ s)
  (hK : ∀ w' r, Sp w0 w' (L.set j (rb, rr s (numsQ st).2)) (fun b => B b \/ inB sl b) (fun u => Q u /\ Ow n enc u sl l) 1 (ie .i64 (id : Int -> Int)) r (numsQ st).1 -> K r w') : z01_sh (some ⟨rb, 0, none⟩) K w := by
 have hjl : j < L.length := (List.getElem?_eq_some_iff.1 hj).1
 have hL : ∀ X, (L.set j X)[j]? = some X := fun X => List.getElem?_set_self hjl
 have hrl := suf_len hr
 have h : Sp w0 w L _ _ 1 (ie .i64 (id : Int -> Int)) ⟨none, 0, 0⟩ ([] : List Int) := h.next
 refine ⟨?_⟩
 unfold z01_sd
 refine ⟨⟨fun o u => ∃ (k : Nat) (a : List Int) (z : Bool × List UInt8), z.2.length < k /\ numsQ st = (a ++ (numsP k z.1 z.2).1, (numsP k z.1 z.2).2) /\ a.length + z.2.length <= st.2.length /\ z.2 <:+ s /\ Sp w0 u (L.set j (rb, rr s z)) (fun b => B b \/ inB sl b) (fun u => Q u /\ Ow n enc u sl l) 1 (ie .i64 (id : Int -> Int)) o a, fun o _ => st.2.length - o.l, ⟨st.2.length + 1, [], st, by omega, rfl, by simp, hr, by rw [set_self hj]; exact h⟩, ?_⟩⟩
 clear h
 rintro o u ⟨k, a, ⟨b, r⟩, hk, he, hl, hz, h⟩
 simp only at hk he hl hz
 have hol := h.ow.len
 obtain ⟨k, rfl⟩ : ∃ k', k = k' + 1 := ⟨k - 1, by omega⟩
 unfold z01_b0
 have e32 : str [32] = ofL [32] := rfl
 rw [e32]
 refine sees_spec (by decide) hs h (hL _) hz (fun w1 hb hp h' => ?_) fun w1 hn h' => ?_
 ·simp only at hb hp h'
  subst hb
  rw [List.set_set] at h'
  have hhd : (!false && (r.head? == some 32)) = true := by rw [← pre1, hp]; rfl
  have hrl1 : 1 <= r.length := by
   cases r with
   | nil => simp at hhd
   | cons c q => simp
  have hsuf : r.drop 1 <:+ s := (List.drop_suffix _ _).trans hz
  have hrl2 : r.length <= s.length := suf_len hz
  refine cnd_iff.2 ⟨fun _ => ?_, fun hh => by cases hh⟩
  refine number_spec (st := (false, r.drop 1)) hs h' (hL _) hsuf fun w3 h3 => ?_
  rw [List.set_set] at h3
  intro w5
  have hlen : (resP false (r.drop 1)).length <= r.length - 1 := by
   unfold resP
   rw [List.length_drop, List.length_drop]
   omega
  refine h3.push (a := valP false (r.drop 1)) rfl rfl (ie_ok _ _) rfl (by omega) (by omega) fun s6 w7 h7 => ⟨⟨⟨rfl, trivial⟩, k, a ++ [valP false (r.drop 1)], numP (false, r.drop 1), ?_, ?_, ?_, numP_suf (st := (false, r.drop 1)) hsuf, h7⟩, ?_⟩
  ·show (resP false (r.drop 1)).length < k
   omega
  ·rw [he]
   have e : numsP (k + 1) false r = (valP false (r.drop 1) :: (numsP k (!okP false (r.drop 1)) (resP false (r.drop 1))).1, (numsP k (!okP false (r.drop 1)) (resP false (r.drop 1))).2) := by
    conv => lhs; unfold numsP
    rw [if_pos hhd]
   rw [e]
   have e2 : numP (false, r.drop 1) = (!okP false (r.drop 1), resP false (r.drop 1)) := rfl
   rw [e2]
   simp
  ·show (a ++ [valP false (r.drop 1)]).length + (resP false (r.drop 1)).length <= _
   rw [List.length_append, List.length_singleton]
   omega
  ·have := h7.ow.len
   rw [List.length_append, List.length_singleton] at this
   simp only
   omega
 ·refine cnd_iff.2 ⟨fun hh => (by cases hh), fun _ => hK w1 o ?_⟩
  simp only at hn
  rw [pre1] at hn
  have e : numsP (k + 1) b r = ([], b, r) := by
   unfold numsP
   rw [if_neg (by rw [hn]; decide)]
  rw [he, e]
  simp only [List.append_nil]
  exact h'
end
end Go.Proofs.YtfpobpjandjhjaaGreatDoor
