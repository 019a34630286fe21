/- The law JournalApart returns true. Conditions: none. -/
import Derived.Test.YtamkecjpcfnpjaaJL7
namespace Go.Proofs.Ytamkecjpcfnpjaa
open Go Pw

section
variable {w0 w : World} {b jb e n cb kb e2 n2 : Nat} {st st2 : DS} {rs rs2 : List (List UInt8)} {O O2 : Nat → Prop}

theorem JC.fr' {w' : World} {F : Nat → Prop} (h : JC w0 w b jb st rs e O n) (hf : Fr F w w') (hd : ∀ c, (O c ∨ c = jb) → ¬ F c) (hk : ∀ c, F c → w0.heap.size ≤ c) : JC w0 w' b jb st rs e O n :=
  ⟨h.jj.fr hf hd, h.cl, h.on, h.k1, h.k3, h.fr.trans hf fun c hc hlt => by have := hk c hc; omega⟩

theorem sub_rd {s : Sl} {A B : List (List UInt8)} (h : OwnV 1 w s ((A ++ B).map sv)) : rdC w (subP s.p 0 s.c 1) A.length (A.map sv) ∧ s.l ≤ s.c := by
  obtain ⟨hl, h⟩ := h
  simp at hl
  rcases h with ⟨hp, h0, hc0⟩ | ⟨bb, cs, hp, hr, hcs, hle, ht⟩
  · have : A = [] := List.eq_nil_of_length_eq_zero (by omega)
    subst this
    refine ⟨⟨rfl, ?_⟩, by omega⟩
    rw [hp]
    unfold subP
    split
    · rfl
    · intro i hi; simp at hi
  · have e : subP s.p 0 s.c 1 = some ⟨bb, 0, none⟩ := by
      unfold subP
      rw [hp]
      split
      · rfl
      · simp
    rw [e]
    refine ⟨⟨by simp, fun i hi => ?_⟩, hle⟩
    simp at hi
    rw [add_mk, Nat.zero_add, hr.cell]
    have h1 : (cs.take ((A ++ B).map sv).length)[i]? = ((A ++ B).map sv)[i]? := by rw [ht]
    rw [List.getElem?_take] at h1
    have h2 : i < ((A ++ B).map sv).length := by simp; omega
    rw [if_pos h2] at h1
    rw [h1]
    rw [List.getElem?_eq_getElem h2]
    simp [hi]

theorem Apart_k3 {l m : Sl} {xs : List (List UInt8)} {K : Bool → World → Prop} (h : JC w0 w b jb st rs e O n) (h2 : JC w0 w cb kb st2 (rs ++ xs) e2 O2 n2) (hd : ∀ c, O c → ¬ O2 c) (hn : n ≤ 2 ^ 20) (hn2 : n2 ≤ 2 ^ 20) (hby : byt rs ≤ 2 ^ 20)
    (hl : (rs.length : Int) = min (l.l : Int) 10) (hm : (xs.length : Int) = min (m.l : Int) 10) (hK : ∀ w', Fr F0 w0 w' → K true w') : probitylaw27_JournalApart_k3 l m true (ptr b) (ptr cb) K w := by
  refine ⟨?_⟩
  unfold probitylaw27_JournalApart_k3d
  have z0 := h.fr.1
  refine Open_JJ h.jj.di h.jj.fine (by omega) h.cl.rec1 (by rw [h.on]; simp) fun w1 O1 jb1 s1 hJ1 hC1 hs1 hsB1 hjb1 hf1 hO1 => ?_
  have g1 : Fr F0 w0 w1 := h.fr.trans hf1 fun c hc hlt => by have := h.k1 c hc; omega
  have hd1 := h2.jj.di.fr hf1 fun c hc hO => hd c hO hc
  have hlt2 := h2.jj.di.lt
  refine Open_JJ hd1 h2.jj.fine (by omega) h2.cl.rec1 (by rw [h2.on]; simp) fun w2 O3 jb3 s3 hJ3 hC3 hs3 hsB3 hjb3 hf3 hO3 => ?_
  have g2 : Fr F0 w0 w2 := g1.trans hf3 fun c hc hlt => by have := h2.k1 c hc; omega
  have hs1' := hs1.fr hf3 fun c hc hO => by have := (hsB1 c hc).1; have := hlt2 c hO; omega
  have hl1 := hs1.len
  have hl3 := hs3.len
  simp at hl1 hl3
  simp only [cnd_true, show ((0 : Int) == 0) = true from rfl]
  have e1 : ((s1.l : Int) == min (l.l : Int) 10) = true := by simp; omega
  rw [e1, cnd_true]
  refine ⟨inR64 (by omega) (by omega), ?_⟩
  have e3 : ((s3.l : Int) == (s1.l : Int) + min (m.l : Int) 10) = true := by simp; omega
  rw [e3, cnd_true]
  obtain ⟨hsub, hcap⟩ := sub_rd hs3
  have hmin : (min (s1.l : Int) (s3.l : Int)).toNat - 0 = rs.length := by omega
  refine ⟨⟨by omega, by omega, by omega⟩, ?_⟩
  have h1 := hs1'.rd
  rw [Nat.mul_one] at h1
  have hlen := byt_len rs
  refine Same_spec h1 (b := Sl.mk (subP s3.p 0 s3.c 1) ((min (s1.l : Int) (s3.l : Int)).toNat - 0) (s3.c - 0)) (B := rs) (by rw [hmin]; exact hsub) (by omega) fun w3 hf => ?_
  rw [decide_eq_true rfl]
  exact hK w3 (g2.trans hf fun _ h _ => h)

theorem Apart_loop2 {l m : Sl} {B : List (List UInt8)} {K : Bool → World → Prop} (hB : rdC w0 m.p m.l (B.map sv)) (h : JC w0 w b jb st rs e O n) (h2 : JC w0 w cb kb st2 rs e2 O2 1) (hd : ∀ c, O c → ¬ O2 c) (hkb : ¬ O kb) (hjb : ¬ O2 jb) (hne : jb ≠ kb) (hn : n ≤ 2 ^ 20) (hby : byt rs ≤ 216 * 10)
    (hl : (rs.length : Int) = min (l.l : Int) 10) (hK : ∀ w', Fr F0 w0 w' → K true w') : probitylaw27_JournalApart_l2 l m true (ptr b) (ptr cb) (ptr kb) 0 K w := by
  refine ⟨⟨fun t w' => ∃ (i e2 n2 : Nat) (st2 : DS) (xs : List (List UInt8)) (O2 : Nat → Prop), t = i ∧ i ≤ 10 ∧ i ≤ B.length ∧ xs.length = i ∧ n2 ≤ 10 * i + 10 ∧ byt xs ≤ 216 * i ∧ JC w0 w' b jb st rs e O n ∧ JC w0 w' cb kb st2 (rs ++ xs) e2 O2 n2 ∧ (∀ c, O c → ¬ O2 c) ∧ ¬ O2 jb, fun t _ => 10 - t.toNat,
    ⟨0, e2, 1, st2, [], O2, rfl, by omega, by omega, rfl, by omega, by simp [byt], h, by rw [List.append_nil]; exact h2, hd, hjb⟩, ?_⟩⟩
  rintro t w1 ⟨i, e2, n2, st2, xs, O2, rfl, hi10, hiB, hxl, hn2, hbx, hI, hI2, hd, hjb⟩
  have hBl := hB.1
  simp at hBl
  unfold probitylaw27_JournalApart_b2
  rw [cnd_prop]
  refine ⟨fun hlt => ?_, fun hge => Apart_k3 hI hI2 hd hn (by omega) (by omega) hl (by omega) hK⟩
  rw [cnd_prop]
  refine ⟨fun hlt10 => ?_, fun hge => Apart_k3 hI hI2 hd hn (by omega) (by omega) hl (by omega) hK⟩
  have hiB' : i < B.length := by omega
  obtain ⟨pa, hpa, hc⟩ := strs_at (rdC_fr hB hI.fr fun _ _ h => h) hiB'
  rw [hpa]
  simp only [nz_some, Nat.mul_one, Int.toNat_natCast]
  refine ⟨⟨by omega, by omega⟩, _, hc, short_spec ?_⟩
  rw [bl_ofL]
  have hsz : (ofL (B[i].take 200)).size ≤ 200 := by rw [← bl_length, bl_ofL]; simp; omega
  have hbs := byt_short (rs := xs) (r := B[i])
  have hba := byt_append rs xs
  refine hI2.append (by omega) (by omega) fun w2 st3 e3 O3 hJ3 hf3 hO3 => ?_
  rw [bl_ofL, List.append_assoc] at hJ3
  refine ⟨inR64 (by omega) (by omega), ⟨by simp, i + 1, e3, _, st3, _, O3, by omega, by omega, by omega, by simp [hxl], by omega, by omega, hI.fr' hf3 (fun c hc hF => ?_) (fun c hc => ?_), hJ3, fun c hc hO => ?_, fun hO => ?_⟩, by omega⟩
  · rcases hc with h | h
    · rcases hF with h' | h'
      · exact hd c h h'
      · exact hkb (h' ▸ h)
    · rcases hF with h' | h'
      · exact hjb (h ▸ h')
      · exact hne (h ▸ h')
  · rcases hc with h | h
    · exact hI2.k1 c h
    · have := hI2.k3; omega
  · rcases hO3 c hO with h | h
    · exact hd c hc h
    · have := hI.jj.di.lt c hc; omega
  · rcases hO3 _ hO with h | h
    · exact hjb h
    · have := hI.jj.row.lt; omega

theorem Apart_k1 {l m : Sl} {B : List (List UInt8)} {K : Bool → World → Prop} (hB : rdC w0 m.p m.l (B.map sv)) (h : JC w0 w b jb st rs e O n) (hn : n ≤ 2 ^ 20) (hby : byt rs ≤ 216 * 10) (hl : (rs.length : Int) = min (l.l : Int) 10) (hK : ∀ w', Fr F0 w0 w' → K true w') :
    probitylaw27_JournalApart_k1 l m true (ptr b) K w := by
  refine ⟨?_⟩
  unfold probitylaw27_JournalApart_k1d
  refine Crash_DI (surv := []) h.jj.di h.jj.fine (by omega) rdC_nil fun w1 hd1 hf1 => ?_
  have z0 := h.fr.1
  have z1 := hf1.1
  refine Open_JJ hd1 ((fine_crash h.jj.fine _).mono (n' := 0) (Nat.le_refl _) (by omega)) (by omega) (rs := rs) (clean_crash_of h.cl []) (by simp [crashDS]) fun w2 O2 kb s2 hJ2 hC2 hs2 hsB2 hkb2 hf2 hO2 => ?_
  have f2 : Fr F0 w w2 := hf1.trans hf2 fun c hc hlt => by omega
  have hsl := hs2.len
  simp at hsl
  rw [show ((0 : Int) != 0) = false from rfl, cnd_false, show (ptr kb).isNone = false from rfl, cnd_false, cnd_bne]
  refine ⟨fun hne => absurd (by omega) hne, fun _ => ?_⟩
  have b2 : ∀ c, O2 c → w.heap.size ≤ c := fun c hc => by
    rcases hO2 c hc with h | h <;> omega
  have hlt := h.jj.di.lt
  have hjl := h.jj.row.lt
  exact Apart_loop2 hB (h.fr' f2 (fun _ _ h => h) fun _ h => h.elim) ⟨hJ2, hC2, rfl, fun c hc => by have := b2 c hc; omega, by omega, h.fr.trans f2 fun _ h _ => h⟩ (fun c hc hO => by have := hlt c hc; have := b2 c hO; omega) (fun hO => by have := hlt _ hO; omega) (fun hO => by have := b2 _ hO; omega) (by omega) hn hby hl hK

theorem Apart_loop {l m : Sl} {A B : List (List UInt8)} {K : Bool → World → Prop} (hA : rdC w0 l.p l.l (A.map sv)) (hB : rdC w0 m.p m.l (B.map sv)) (h : JC w0 w b jb st [] e O 1) (hK : ∀ w', Fr F0 w0 w' → K true w') : probitylaw27_JournalApart_l0 l m true (ptr b) (ptr jb) 0 K w := by
  refine ⟨⟨fun t w' => ∃ (i e n : Nat) (st : DS) (rs : List (List UInt8)) (O : Nat → Prop), t = i ∧ i ≤ 10 ∧ i ≤ A.length ∧ rs.length = i ∧ n ≤ 10 * i + 10 ∧ byt rs ≤ 216 * i ∧ JC w0 w' b jb st rs e O n, fun t _ => 10 - t.toNat, ⟨0, _, _, _, _, _, rfl, by omega, by omega, rfl, by omega, by simp [byt], h⟩, ?_⟩⟩
  rintro t w1 ⟨i, e, n, st, rs, O, rfl, hi5, hiA, hrl, hn, hby, hI⟩
  have hAl := hA.1
  simp at hAl
  unfold probitylaw27_JournalApart_b0
  rw [cnd_prop]
  refine ⟨fun hlt => ?_, fun hge => Apart_k1 hB hI (by omega) (by omega) (by omega) hK⟩
  rw [cnd_prop]
  refine ⟨fun hlt5 => ?_, fun hge => Apart_k1 hB hI (by omega) (by omega) (by omega) hK⟩
  have hiA' : i < A.length := by omega
  obtain ⟨pa, hpa, hc⟩ := strs_at (rdC_fr hA hI.fr fun _ _ h => h) hiA'
  rw [hpa]
  simp only [nz_some, Nat.mul_one, Int.toNat_natCast]
  refine ⟨⟨by omega, by omega⟩, _, hc, short_spec ?_⟩
  rw [bl_ofL]
  have hsz : (ofL (A[i].take 200)).size ≤ 200 := by rw [← bl_length, bl_ofL]; simp; omega
  have hbs := byt_short (rs := rs) (r := A[i])
  refine hI.append (by omega) (by omega) fun w2 st2 e2 O2 hJ2 _ _ => ?_
  rw [bl_ofL] at hJ2
  exact ⟨inR64 (by omega) (by omega), ⟨by simp, i + 1, e2, _, st2, _, O2, by omega, by omega, by omega, by simp [hrl], by omega, by omega, hJ2⟩, by omega⟩

theorem Apart_law {l m : Sl} {A B : List (List UInt8)} {K : Bool → World → Prop} (hA : rdC w0 l.p l.l (A.map sv)) (hB : rdC w0 m.p m.l (B.map sv)) (hK : ∀ w', Fr F0 w0 w' → K true w') : probitylaw27_JournalApart_sh l m K w0 := by
  refine ⟨?_⟩
  unfold probitylaw27_JournalApart_sd
  refine sanity_spec fun w1 hf1 => start_JC fun w2 b hd2 hf2 hb => open_JC hf1 hd2 hf2 hb fun w3 jb st e O s hJ3 => ?_
  rw [show ((0 : Int) != 0) = false from rfl, cnd_false, show (ptr jb).isNone = false from rfl, cnd_false]
  exact Apart_loop hA hB hJ3 hK
end
end Go.Proofs.Ytamkecjpcfnpjaa
