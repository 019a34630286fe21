/- What an Append leaves on the disk, and what a crash leaves of it: plain laws. Conditions: none. -/
import Derived.Test.YtamkecjpcfnpjaaJP1
namespace Go.Proofs.Ytamkecjpcfnpjaa
open Go Pw

/-- All is safe on the disk: the records rs; the part that counts ends at e. -/
structure Clean (st : DS) (rs : List (List UInt8)) (e : Nat) : Prop where
  pcs : st.pcs = []
  syn : st.syn = st.now
  rec1 : recsOf st.now = some rs
  en : e = endOf st.now

theorem hdr_put {c : List UInt8} {n : Nat} (hn : n < 2 ^ 62) : hdr (putL c 0 (be 8 n)) = n := by
  have h : hdr (putL c 0 (be 8 n)) = valF (be 8 n) 8 := valF_congr 8 fun j hj => by
    have h1 := readL_getD (c := putL c 0 (be 8 n)) (a := 0) (k := 8) hj
    rw [show ((8 : Nat) : Int) = 8 from rfl, show ((0 : Nat) : Int) = 0 from rfl] at h1
    rw [h1, putL_getD, if_pos (by simp; omega)]
    simp
  rw [h]
  exact val_be hn (by simp; omega)

theorem app_now {c r : List UInt8} {rs : List (List UInt8)} (h : recsOf c = some rs) (hfit : endOf c + 4 + r.length ≤ 2 ^ 24) :
    recsOf (putL (putL c (endOf c) (enc r)) 0 (be 8 (endOf c + 4 + r.length - 64))) = some (rs ++ [r]) ∧ endOf (putL (putL c (endOf c) (enc r)) 0 (be 8 (endOf c + 4 + r.length - 64))) = endOf c + 4 + r.length := by
  obtain ⟨h0, h1, h2, h3⟩ := recsOf_some h
  have e64 : endOf c = 64 + (hdr c).toNat := rfl
  have hhd : hdr (putL (putL c (endOf c) (enc r)) 0 (be 8 (endOf c + 4 + r.length - 64))) = ((endOf c + 4 + r.length - 64 : Nat) : Int) := hdr_put (by omega)
  have hlen : endOf c + 4 + r.length ≤ (putL (putL c (endOf c) (enc r)) 0 (be 8 (endOf c + 4 + r.length - 64))).length := by
    rw [putL_length, putL_length, enc_length]; omega
  have hget : ∀ j, 8 ≤ j → (putL (putL c (endOf c) (enc r)) 0 (be 8 (endOf c + 4 + r.length - 64))).getD j 0 = if endOf c ≤ j ∧ j < endOf c + 4 + r.length then (enc r).getD (j - endOf c) 0 else c.getD j 0 := by
    intro j hj
    rw [putL_getD, if_neg (by simp; omega), putL_getD, enc_length, ← Nat.add_assoc]
  generalize putL (putL c (endOf c) (enc r)) 0 (be 8 (endOf c + 4 + r.length - 64)) = c2 at *
  have hen : endOf c2 = endOf c + 4 + r.length := by
    show 64 + (hdr c2).toNat = _
    rw [hhd]; omega
  refine ⟨?_, hen⟩
  have hp : prs (hdr c).toNat c2 64 (endOf c) = some rs := by
    by_cases hz : hdr c = 0
    · have hz' : endOf c = 64 := by rw [e64, hz]; rfl
      have e1 : prs (hdr c).toNat c 64 (endOf c) = some [] := prs_ge (by omega)
      rw [e1] at h3
      rw [prs_ge (by omega)]
      exact h3
    · have := h2 (by omega)
      rw [← prs_congr (c := c) (c' := c2) (fun j hj hj' => by rw [hget j (by omega), if_neg (by omega)]) this (by omega) _ _ (Nat.le_refl _)]
      exact h3
  obtain ⟨g', hg1, hg2⟩ := prs_more (en2 := endOf c + 4 + r.length) (by omega) _ 64 rs (endOf c + 4 + r.length - 64) (by omega) (by omega) hp
  unfold recsOf
  rw [hhd, if_neg (by omega)]
  have e2 : 64 + ((endOf c + 4 + r.length - 64 : Nat) : Int).toNat = endOf c + 4 + r.length := by omega
  rw [e2, Int.toNat_natCast, hg2]
  obtain ⟨g, rfl⟩ : ∃ g, g' = g + 1 := ⟨g' - 1, by omega⟩
  have hsz : valF (readL c2 (endOf c : Int) 4) 4 = (r.length : Int) := by
    have : valF (readL c2 (endOf c : Int) 4) 4 = valF (be 4 r.length) 4 := valF_congr 4 fun j hj => by
      have h1 := readL_getD (c := c2) (a := endOf c) (k := 4) hj
      rw [show ((4 : Nat) : Int) = 4 from rfl] at h1
      rw [h1, hget _ (by omega), if_pos (by omega)]
      unfold enc
      simp only [getD_eq]
      rw [List.getElem?_append_left (by simp; omega)]
      congr 2
      omega
    rw [this]
    exact val_be (by omega) (by omega)
  have hrd : readL c2 ((endOf c + 4 : Nat) : Int) (r.length : Int) = r := by
    apply List.ext_getElem?
    intro j
    by_cases hj : j < r.length
    · have hgj := hget (endOf c + 4 + j) (by omega)
      rw [if_pos (by omega)] at hgj
      unfold readL
      rw [if_neg (by omega)]
      simp only [Int.toNat_natCast, List.getElem?_take, List.getElem?_drop, if_pos hj]
      rw [getD_eq, getD_eq, List.getElem?_eq_getElem (by omega)] at hgj
      rw [List.getElem?_eq_getElem (by omega), List.getElem?_eq_getElem hj]
      have e : endOf c + 4 + j - endOf c = 4 + j := by omega
      rw [e] at hgj
      unfold enc at hgj
      rw [List.getElem?_append_right (by simp)] at hgj
      simp only [be_length, Nat.add_sub_cancel_left] at hgj
      rw [List.getElem?_eq_getElem hj] at hgj
      simpa using hgj
    · rw [List.getElem?_eq_none (by have := readL_length c2 ((endOf c + 4 : Nat) : Int) (r.length : Int); omega), List.getElem?_eq_none (by omega)]
  rw [prs_lt (by omega), hsz, Int.toNat_natCast, if_neg (by omega), prs_ge (by omega), Option.map_some, Option.map_some, hrd]

/-- After a failed Append: what the disk has, and what each crash leaves. -/
structure Either (st : DS) (rs : List (List UInt8)) (r : List UInt8) : Prop where
  now : recsOf st.now = some rs ∨ recsOf st.now = some (rs ++ [r])
  crash : ∀ surv, recsOf (crashTo surv st.syn st.pcs st.pcs.length) = some rs ∨ recsOf (crashTo surv st.syn st.pcs st.pcs.length) = some (rs ++ [r])

theorem splitL_eight {n : Nat} : splitL 0 (be 8 n) = [(0, be 8 n)] := by
  rw [splitL_cons (by simp)]
  have h1 : (be 8 n).take (64 - 0 % 64) = be 8 n := List.take_of_length_le (by simp)
  have h2 : (be 8 n).drop (64 - 0 % 64) = [] := List.drop_of_length_le (by simp)
  rw [h1, h2, splitL_nil]

theorem Clean.either {st : DS} {rs : List (List UInt8)} {e : Nat} (h : Clean st rs e) (r : List UInt8) : Either st rs r :=
  ⟨.inl h.rec1, fun surv => .inl (by rw [h.pcs, h.syn]; exact h.rec1)⟩

theorem Clean.write1 {st : DS} {rs : List (List UInt8)} {e : Nat} (h : Clean st rs e) (r : List UInt8) : Either (writeDS st e (enc r)) rs r := by
  have hr := h.rec1
  have he := h.en
  refine ⟨.inl (recsOf_put hr (by omega)).1, fun surv => .inl ?_⟩
  simp only [writeDS, callDS]
  rw [h.pcs, h.syn, List.nil_append]
  exact (recsOf_crash hr (fun p hp => by have := splitL_in p hp; omega) _ (Nat.le_refl _)).1

theorem Clean.sync1 {st : DS} {rs : List (List UInt8)} {e : Nat} (h : Clean st rs e) (r : List UInt8) : Clean (syncDS (writeDS st e (enc r))) rs e := by
  have hr := h.rec1
  have he := h.en
  have hp := recsOf_put (s := enc r) hr (show endOf st.now ≤ e by omega)
  exact ⟨rfl, rfl, hp.1, by show e = 64 + (hdr (putL st.now e (enc r))).toNat; rw [hp.2]; exact he⟩

theorem Clean.write2 {st : DS} {rs : List (List UInt8)} {e : Nat} (h : Clean st rs e) {r : List UInt8} (hfit : e + 4 + r.length ≤ 2 ^ 24) :
    Either (writeDS (syncDS (writeDS st e (enc r))) 0 (be 8 (e + 4 + r.length - 64))) rs r ∧ Clean (syncDS (writeDS (syncDS (writeDS st e (enc r))) 0 (be 8 (e + 4 + r.length - 64)))) (rs ++ [r]) (e + 4 + r.length) := by
  have he := h.en
  have h1 := h.sync1 r
  have h2 := app_now (r := r) h.rec1 (by omega)
  rw [← he] at h2
  refine ⟨⟨.inr h2.1, fun surv => ?_⟩, rfl, rfl, h2.1, h2.2.symm⟩
  simp only [writeDS, syncDS, splitL_eight, List.nil_append, List.length_singleton]
  unfold crashTo
  split
  · exact .inr h2.1
  · exact .inl h1.rec1

/-- What an Append leaves. -/
theorem ap_law {st : DS} {rs : List (List UInt8)} {e : Nat} (h : Clean st rs e) {r : List UInt8} (hfit : e + 4 + r.length ≤ 2 ^ 24) :
    ((apDS st e r).2 = true → Clean (apDS st e r).1 (rs ++ [r]) (e + 4 + r.length)) ∧ ((apDS st e r).2 = false → Either (apDS st e r).1 rs r ∧ (apDS st e r).1.lim = some 0) := by
  have w2 := h.write2 hfit
  unfold apDS
  split
  · exact ⟨fun h => (by cases h), fun _ => ⟨h.either r, by assumption⟩⟩
  · split
    · exact ⟨fun h => (by cases h), fun _ => ⟨h.write1 r, by assumption⟩⟩
    · split
      · exact ⟨fun h => (by cases h), fun _ => ⟨(h.sync1 r).either r, by assumption⟩⟩
      · split
        · exact ⟨fun h => (by cases h), fun _ => ⟨w2.1, by assumption⟩⟩
        · exact ⟨fun _ => w2.2, fun h => (by cases h)⟩

theorem ap_free {st : DS} {e : Nat} {r : List UInt8} (h : st.lim = none) : (apDS st e r).2 = true ∧ (apDS st e r).1.lim = none := by
  have h1 : (writeDS st e (enc r)).lim = none := by simp [writeDS, callDS, h]
  have h2 : (syncDS (writeDS st e (enc r))).lim = none := by simp [syncDS, callDS, h1]
  have h3 : (writeDS (syncDS (writeDS st e (enc r))) 0 (be 8 (e + 4 + r.length - 64))).lim = none := by
    show Option.map _ (syncDS (writeDS st e (enc r))).lim = none
    rw [h2]; rfl
  unfold apDS
  rw [if_neg (by rw [h]; simp), if_neg (by rw [h1]; simp), if_neg (by rw [h2]; simp), if_neg (by rw [h3]; simp)]
  refine ⟨rfl, ?_⟩
  show Option.map _ (writeDS (syncDS (writeDS st e (enc r))) 0 (be 8 (e + 4 + r.length - 64))).lim = none
  rw [h3]; rfl

theorem ap_fine {st : DS} {n e : Nat} {r : List UInt8} {p : Nat} (hF : Fine st n p) (hfit : e + 4 + r.length ≤ 2 ^ 24) (h64 : 64 ≤ e) : Fine (apDS st e r).1 (n + 4) (p + 4 + r.length + 8) := by
  have l1 := enc_length r
  unfold apDS
  split
  · exact hF.mono (by omega) (by omega)
  · rename_i a1
    have F1 := hF.write (off := e) (s := enc r) a1 (by omega)
    rw [l1] at F1
    split
    · exact F1.mono (by omega) (by omega)
    · rename_i a2
      have F2 := F1.sync a2
      split
      · exact F2.mono (by omega) (by omega)
      · rename_i a3
        have F3 := F2.write (off := 0) (s := be 8 (e + 4 + r.length - 64)) a3 (by simp)
        rw [be_length] at F3
        split
        · exact F3.mono (by omega) (by omega)
        · rename_i a4
          exact (F3.sync a4).mono (by omega) (by omega)

theorem fine_crash {st : DS} {n p : Nat} (hF : Fine st n p) (surv : List Int) : Fine (crashDS st surv) 0 0 :=
  ⟨⟨crashTo_length hF.lens.syn hF.lens.pcs _, crashTo_length hF.lens.syn hF.lens.pcs _, by simp [crashDS]⟩, by simp [crashDS], by simp [crashDS], by simp [crashDS], by simp [crashDS]⟩

theorem fine_fail {st : DS} {n p : Nat} (hF : Fine st n p) {m : Int} (hm : m ≤ 2 ^ 40) : Fine (failDS st m) n p :=
  ⟨⟨hF.lens.now, hF.lens.syn, hF.lens.pcs⟩, hF.pl, hF.c0, hF.c1, fun v hv => by
    unfold failDS at hv
    simp only at hv
    split at hv
    · cases hv; omega
    · cases hv⟩

theorem clean_fail {st : DS} {rs : List (List UInt8)} {e : Nat} (h : Clean st rs e) (m : Int) : Clean (failDS st m) rs e := ⟨h.pcs, h.syn, h.rec1, h.en⟩

theorem clean_crash {st : DS} {surv : List Int} {rs : List (List UInt8)} (h : recsOf (crashTo surv st.syn st.pcs st.pcs.length) = some rs) : Clean (crashDS st surv) rs (endOf (crashDS st surv).now) := ⟨rfl, rfl, h, rfl⟩

theorem clean_crash_of {st : DS} {rs : List (List UInt8)} {e : Nat} (h : Clean st rs e) (surv : List Int) : recsOf (crashTo surv st.syn st.pcs st.pcs.length) = some rs := by
  rw [h.pcs, h.syn]; exact h.rec1

theorem clean_sync {st : DS} {rs : List (List UInt8)} (h : recsOf st.now = some rs) : Clean (syncDS st) rs (endOf st.now) := ⟨rfl, rfl, h, rfl⟩

theorem clean_new : Clean newDS [] 64 := ⟨rfl, rfl, by decide, by decide⟩
end Go.Proofs.Ytamkecjpcfnpjaa
