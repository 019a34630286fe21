/- The law JournalCrashes returns true. Conditions: none. -/
import Derived.Test.YtamkecjpcfnpjaaJL4
namespace Go.Proofs.Ytamkecjpcfnpjaa
open Go Pw

section
variable {w0 w : World} {b jb mb e n : Nat} {st : DS} {rs : List (List UInt8)} {O OM : Nat → Prop}

theorem KI.keep {w' : World} {Mb : List (List UInt8)} {br : Bool} (h : KI w0 w b jb mb st rs Mb e br O OM n) (hf : Fr F0 w w') : KI w0 w' b jb mb st rs Mb e br O OM n :=
  ⟨h.jj.fr hf fun _ _ h => h, h.mi.fr hf fun _ _ h => h, h.d1, h.d2, h.k1, h.k2, h.k3, h.fr.trans hf fun _ h _ => h⟩

theorem fineR_self (rs Mb : List (List UInt8)) (br : Bool) : fineR rs Mb rs br = true := by simp [fineR]
theorem fineR_more (rs : List (List UInt8)) (r : List UInt8) : fineR rs [r] (rs ++ [r]) true = true := by simp [fineR]

theorem Crashes_k3 {v : Sl} {surv : List Int} {K : Bool → World → Prop} (h : KI w0 w b jb mb st rs [] e false O OM n) (hC : Clean st rs e) (hv : rdC w0 v.p v.l (surv.map iv)) (hby : byt rs ≤ 216 * 20) (hK : ∀ w', Fr F0 w0 w' → K true w') :
    probitylaw27_JournalCrashes_k3 v true (ptr b) (ptr mb) K w := by
  refine ⟨?_⟩
  unfold probitylaw27_JournalCrashes_k3d
  refine Crash_DI (surv := surv) h.jj.di h.jj.fine (by omega) (rdC_fr hv h.fr fun _ _ h => h) fun w1 hd1 hf1 => ?_
  refine Open_JJ hd1 ((fine_crash h.jj.fine _).mono (n' := 0) (Nat.le_refl _) (by omega)) (by omega) (rs := rs) (clean_crash_of hC surv) (by simp [crashDS]) fun w2 O2 jb2 s hJ2 hC2 hs2 hsB2 hjb2 hf2 hO2 => ?_
  rw [cnd_true, show ((0 : Int) == 0) = true from rfl, cnd_true]
  have f12 : Fr F0 w w2 := hf1.trans hf2 fun c hc hlt => by omega
  obtain ⟨l, m, hrow, hl, _⟩ := (h.mi.fr f12 fun _ _ h => h).ex
  have e0 : ∀ X : Addr → Prop, nz (ptr mb) X = X ⟨mb, 0, none⟩ := fun _ => rfl
  rw [e0]
  have h1 := hs2.rd
  have h2 := hl.rd
  rw [Nat.mul_one] at h1 h2
  have hlen := byt_len rs
  refine ⟨l, hrow.at rfl, Same_spec h1 h2 (by omega) fun w3 hf3 => ?_⟩
  rw [decide_eq_true rfl]
  exact hK w3 ((h.fr.trans f12 fun _ h _ => h).trans hf3 fun _ h _ => h)

/-- A round's end of the law. -/
def CrN (w0 : World) (mb i : Nat) (l fails v : Sl) (N0 : Sl → Sl → Sl → Bool → Option Addr → Option Addr → Int → Option Addr → Int → World → Prop) : Prop :=
  ∀ w b jb e n st rs O OM, KI w0 w b jb mb st rs [] e false O OM n → Clean st rs e → st.lim = none → n ≤ 10 * (i + 1) + 10 → byt rs ≤ 216 * (i + 1) → N0 l fails v true (ptr b) (ptr jb) 0 (ptr mb) ((i : Int) + 1) w

theorem Crashes_k2_ok {l fails v : Sl} {A : List (List UInt8)} {i : Nat} {N0 : Sl → Sl → Sl → Bool → Option Addr → Option Addr → Int → Option Addr → Int → World → Prop} {K : Bool → World → Prop} (hA : rdC w0 l.p l.l (A.map sv)) (hi : i < A.length) (hi20 : i < 20)
    (hJ : JJ w b jb st (rs ++ [A[i].take 200]) e false O n) (hC : Clean st (rs ++ [A[i].take 200]) e) (hm : MI w mb rs [] false (byt rs) OM) (d1 : ∀ c, O c → ¬ OM c) (d2 : ¬ OM jb) (k1 : ∀ c, O c → w0.heap.size ≤ c) (k2 : ∀ c, OM c → w0.heap.size ≤ c) (k3 : w0.heap.size ≤ jb) (hf : Fr F0 w0 w)
    (hn : n ≤ 10 * (i + 1) + 10) (hby : byt rs ≤ 216 * i) (hN : CrN w0 mb i l fails v N0) :
    probitylaw27_JournalCrashes_k2 l fails v true (ptr b) (ptr jb) 0 (ptr mb) i 0 N0 K w := by
  refine ⟨?_⟩
  unfold probitylaw27_JournalCrashes_k2d
  obtain ⟨pa, hpa, hc⟩ := strs_at (rdC_fr hA hf fun _ _ h => h) hi
  have hAl := hA.1
  simp at hAl
  rw [hpa]
  simp only [nz_some, Nat.mul_one, Int.toNat_natCast]
  refine ⟨⟨by omega, by omega⟩, _, hc, short_spec ?_⟩
  rw [bl_ofL]
  have hsz : (ofL (A[i].take 200)).size ≤ 200 := by rw [← bl_length, bl_ofL]; simp; omega
  have hbl := byt_len rs
  refine RApp_spec hm (by omega) (by omega) (by omega) (by simp) (fun h => by cases h) (fun _ h => by omega) (fun _ _ h => by cases h) fun _ _ _ w4 OM4 hM4 hf4 hO4 => ?_
  rw [bl_ofL] at hM4
  obtain ⟨x1, x2, x3⟩ := hJ.apart hf4 d1 d2 hO4
  have hbyt : byt rs + ((ofL (A[i].take 200)).size + 16) = byt (rs ++ [A[i].take 200]) := by
    rw [byt_append, ← bl_length, bl_ofL]; simp [byt]
  rw [hbyt] at hM4
  rw [show ((0 : Int) == 0) = true from rfl, cnd_true]
  have hs := hf.1
  have hO4k : ∀ c, OM4 c → w0.heap.size ≤ c := fun c hc => by
    rcases hO4 c hc with h | h
    · exact k2 c h
    · omega
  have g4 : Fr F0 w0 w4 := hf.trans hf4 fun c hc hlt => by have := k2 c hc; omega
  refine Fail_DI x1.di fun w5 hd5 hf5 => ⟨inR64 (by omega) (by omega), hN w5 b jb e n (failDS st (-1)) (rs ++ [A[i].take 200]) O OM4 ⟨⟨hd5, hf5.row x1.row x1.no, x1.no, fine_fail x1.fine (by omega)⟩, hM4.fr hf5 fun c hc h => x2 c h hc, x2, x3, k1, hO4k, k3, g4.trans hf5 fun c hc hlt => by have := k1 c hc; omega⟩ (clean_fail hC _) rfl hn ?_⟩
  have := byt_short (rs := rs) (r := A[i])
  omega

theorem Crashes_k2_fail {l fails v : Sl} {A : List (List UInt8)} {surv : List Int} {i : Nat} {N0 : Sl → Sl → Sl → Bool → Option Addr → Option Addr → Int → Option Addr → Int → World → Prop} {K : Bool → World → Prop} (hA : rdC w0 l.p l.l (A.map sv)) (hv : rdC w0 v.p v.l (surv.map iv)) (hi : i < A.length) (hi20 : i < 20)
    (hJ : JJ w b jb st rs e true O n) (hE : Either st rs (A[i].take 200)) (he1 : 64 ≤ e) (he2 : e ≤ 64 + byt rs) (hm : MI w mb rs [] false (byt rs) OM) (d1 : ∀ c, O c → ¬ OM c) (d2 : ¬ OM jb) (k2 : ∀ c, OM c → w0.heap.size ≤ c) (hf : Fr F0 w0 w)
    (hn : n ≤ 2 ^ 20) (hby : byt rs ≤ 216 * i) (hN : CrN w0 mb i l fails v N0) :
    probitylaw27_JournalCrashes_k2 l fails v true (ptr b) (ptr jb) 0 (ptr mb) i 70 N0 K w := by
  refine ⟨?_⟩
  unfold probitylaw27_JournalCrashes_k2d
  obtain ⟨pa, hpa, hc⟩ := strs_at (rdC_fr hA hf fun _ _ h => h) hi
  have hAl := hA.1
  simp at hAl
  rw [hpa]
  simp only [nz_some, Nat.mul_one, Int.toNat_natCast]
  refine ⟨⟨by omega, by omega⟩, _, hc, short_spec ?_⟩
  rw [bl_ofL]
  have hsz : (ofL (A[i].take 200)).size ≤ 200 := by rw [← bl_length, bl_ofL]; simp; omega
  have hbl := byt_len rs
  refine RApp_spec hm (by omega) (by omega) (by omega) (by simp) (fun h => by cases h) (fun _ h => by omega) (fun _ _ _ w4 OM4 hM4 hf4 hO4 => ?_) fun _ _ h => by cases h
  rw [bl_ofL] at hM4
  obtain ⟨x1, x2, x3⟩ := hJ.apart hf4 d1 d2 hO4
  rw [show ((70 : Int) == 0) = false from rfl, cnd_false]
  have hs := hf.1
  have hO4k : ∀ c, OM4 c → w0.heap.size ≤ c := fun c hc => by
    rcases hO4 c hc with h | h
    · exact k2 c h
    · omega
  have g4 : Fr F0 w0 w4.drew := (hf.trans hf4 fun c hc hlt => by have := k2 c hc; omega).trans Fr.drew fun _ h _ => h
  have hJ5 : JJ w4.drew b jb st rs e true O n := x1.fr (Fr.drew (F := F0)) fun _ _ h => h
  have hM5 : MI w4.drew mb rs ([] ++ [A[i].take 200]) true (byt rs) OM4 := hM4.fr (Fr.drew (F := F0)) fun _ _ h => h
  generalize w4.drew = w5 at *
  obtain ⟨lm, mm, hrow, hlm, _⟩ := hM5.ex
  have hll := hlm.len
  simp at hll
  have hS : ∀ w', Fr F0 w5 w' → w'.cell? ⟨mb, 0, none⟩ = some (.slice lm.p lm.l lm.c) := fun w' hf => (hf.row hrow fun h => h).at rfl
  refine ⟨fun w' => w'.cell? ⟨mb, 0, none⟩ = some (.slice lm.p lm.l lm.c), hS _ Fr.refl, ?_⟩
  refine Append_broken hJ5 (by omega) he1 he2 (by omega) (by decide) fun w6 hf6 => ⟨hS _ hf6, ?_⟩
  rw [show ((70 : Int) != 70) = false from rfl, cnd_false]
  have e0 : ∀ X : Addr → Prop, nz (ptr mb) X = X ⟨mb, 0, none⟩ := fun _ => rfl
  rw [e0]
  have hJ6 := hJ5.fr hf6 fun _ _ h => h
  have hM6 := hM5.fr hf6 fun _ _ h => h
  refine ⟨lm, fun w' h => h, Many_spec hJ6.row ⟨hS _ hf6, ?_⟩⟩
  rw [cnd_bne]
  refine ⟨fun h => absurd (by omega) h, fun _ => ?_⟩
  have g6 : Fr F0 w0 w6 := g4.trans hf6 fun _ h _ => h
  refine Crash_DI (surv := surv) hJ6.di hJ6.fine (by omega) (rdC_fr hv g6 fun _ _ h => h) fun w7 hd7 hf7 => ?_
  have hG : ∃ G, recsOf (crashDS st surv).now = some G ∧ (G = rs ∨ G = rs ++ [A[i].take 200]) := by
    rcases hE.crash surv with h | h
    · exact ⟨_, h, .inl rfl⟩
    · exact ⟨_, h, .inr rfl⟩
  obtain ⟨G, hG, hGr⟩ := hG
  have hbs := byt_short (rs := rs) (r := A[i])
  have hGb : byt G ≤ 216 * (i + 1) := by
    rcases hGr with h | h <;> subst h <;> omega
  have hGf : fineR rs ([] ++ [A[i].take 200]) G true = true := by
    rcases hGr with h | h
    · rw [h]; exact fineR_self _ _ _
    · rw [h]; exact fineR_more _ _
  refine Open_JJ hd7 ((fine_crash hJ6.fine _).mono (n' := 0) (Nat.le_refl _) (by omega)) (by omega) hG (by simp [crashDS]) fun w8 O8 jb8 s8 hJ8 hC8 hs8 hsB8 hjb8 hf8 hO8 => ?_
  rw [show ((0 : Int) != 0) = false from rfl, cnd_false]
  have f68 : Fr F0 w6 w8 := hf7.trans hf8 fun c hc hlt => by omega
  have hlt6 := hM6.lt
  have z6 := g6.1
  have z7 := hf7.1
  refine Opens_KI (w0 := w0) hJ8 (hM6.fr f68 fun _ _ h => h) (fun c hc hM => ?_) (fun hM => ?_) (fun c hc => ?_) hO4k (by omega) (g6.trans f68 fun _ h _ => h) hs8 (fun c hc hM => ?_) (by omega) (by omega) (by simp) fun w9 OM9 hK9 => ?_
  · have := hlt6 c hM
    rcases hO8 c hc with h | h <;> omega
  · have := hlt6 _ hM; omega
  · rcases hO8 c hc with h | h <;> omega
  · have := (hsB8 c hc).1
    have := hlt6 c hM; omega
  · rw [hGf, Bool.not_true, cnd_false]
    refine ⟨inR64 (by omega) (by omega), hN w9 _ jb8 _ _ _ G O8 OM9 hK9 hC8 rfl (by omega) hGb⟩

theorem Crashes_k1 {l fails v : Sl} {A : List (List UInt8)} {surv : List Int} {i : Nat} {N0 : Sl → Sl → Sl → Bool → Option Addr → Option Addr → Int → Option Addr → Int → World → Prop} {K : Bool → World → Prop} (hA : rdC w0 l.p l.l (A.map sv)) (hv : rdC w0 v.p v.l (surv.map iv)) (hi : i < A.length) (hi20 : i < 20)
    (h : KI w0 w b jb mb st rs [] e false O OM n) (hC : Clean st rs e) (hn : n ≤ 10 * i + 11) (hby : byt rs ≤ 216 * i) (hN : CrN w0 mb i l fails v N0) :
    probitylaw27_JournalCrashes_k1 l fails v true (ptr b) (ptr jb) 0 (ptr mb) i N0 K w := by
  refine ⟨?_⟩
  unfold probitylaw27_JournalCrashes_k1d
  obtain ⟨pa, hpa, hc⟩ := strs_at (rdC_fr hA h.fr fun _ _ h => h) hi
  have hAl := hA.1
  simp at hAl
  rw [hpa]
  simp only [nz_some, Nat.mul_one, Int.toNat_natCast]
  refine ⟨⟨by omega, by omega⟩, _, hc, short_spec ?_⟩
  rw [bl_ofL]
  have hsz : (ofL (A[i].take 200)).size ≤ 200 := by rw [← bl_length, bl_ofL]; simp; omega
  have he := endOf_byt hC.rec1
  have hee := hC.en
  refine Append_JJ h.jj hC (by omega) (by omega) (fun _ w3 O3 hJ3 hC3 hf3 hO3 => ?_) fun _ w3 O3 hJ3 hE3 _ hf3 hO3 => ?_
  · rw [bl_ofL] at hJ3 hC3
    obtain ⟨m1, m2, m3, m4, m5, m6⟩ := h.turn hf3 (fun _ h => h) hO3 (.inl rfl)
    rw [show ((0 : Int) != 0) = false from rfl, cnd_false]
    exact Crashes_k2_ok hA hi hi20 hJ3 hC3 m1 m2 m3 m4 h.k2 m5 m6 (by omega) hby hN
  · rw [bl_ofL] at hE3
    obtain ⟨m1, m2, m3, m4, m5, m6⟩ := h.turn hf3 (fun _ h => h) hO3 (.inl rfl)
    rw [show ((70 : Int) != 0) = true from rfl, cnd_true, show ((70 : Int) != 70) = false from rfl, cnd_false]
    exact Crashes_k2_fail hA hv hi hi20 hJ3 hE3 (by omega) (by omega) m1 m2 m3 h.k2 m6 (by omega) hby hN

theorem Crashes_loop {l fails v : Sl} {A : List (List UInt8)} {fl surv : List Int} {K : Bool → World → Prop} (hA : rdC w0 l.p l.l (A.map sv)) (hfl : rdC w0 fails.p fails.l (fl.map fun n => .int .u8 n)) (hu : ∀ n ∈ fl, 0 ≤ n ∧ n < 256) (hv : rdC w0 v.p v.l (surv.map iv))
    (h : KeepI w0 mb (ptr b) (ptr jb) 0 0 w) (hK : ∀ w', Fr F0 w0 w' → K true w') :
    probitylaw27_JournalCrashes_l0 l fails v true (ptr b) (ptr jb) 0 (ptr mb) 0 K w := by
  refine ⟨⟨KeepI w0 mb, fun _ _ _ t _ => 20 - t.toNat, h, ?_⟩⟩
  rintro d j er t w1 ⟨i, b, jb, e, n, st, rs, O, OM, rfl, hi20, rfl, rfl, rfl, hI, hC, hlim, hn, hby⟩
  have hAl := hA.1
  simp at hAl
  unfold probitylaw27_JournalCrashes_b0
  rw [cnd_prop]
  refine ⟨fun hlt => ?_, fun _ => Crashes_k3 hI hC hv (by omega) hK⟩
  rw [cnd_prop]
  refine ⟨fun hlt20 => ?_, fun _ => Crashes_k3 hI hC hv (by omega) hK⟩
  have hiA : i < A.length := by omega
  have hi : i < 20 := by omega
  rw [show ((0 : Int) != 0) = false from rfl, cnd_false, show (ptr jb).isNone = false from rfl, cnd_false, cnd_prop]
  have hN : CrN w0 mb i l fails v (fun l_0' fails_1' survive_2' up_7' d_8' j_9' e_11' m_12' i_13' w' => ((l_0' = l ∧ fails_1' = fails ∧ survive_2' = v ∧ up_7' = true ∧ m_12' = ptr mb ∧ True) ∧ KeepI w0 mb d_8' j_9' e_11' i_13' w') ∧ (20 - i_13'.toNat) < (20 - (i : Int).toNat)) := by
    intro w' b' jb' e' n' st' rs' O' OM' h1 h2 h3 h4 h5
    exact ⟨⟨⟨rfl, rfl, rfl, rfl, rfl, trivial⟩, i + 1, b', jb', e', n', st', rs', O', OM', by omega, by omega, rfl, rfl, rfl, h1, h2, h3, by omega, h5⟩, by omega⟩
  refine ⟨fun hpos => ⟨by omega, ?_⟩, fun _ => Crashes_k1 hA hv hiA hi hI hC (by omega) hby hN⟩
  have hfll := hfl.1
  simp at hfll
  have hmod : Int.tmod (i : Int) (fails.l : Int) = ((i % fails.l : Nat) : Int) := rfl
  have hml : i % fails.l < fails.l := Nat.mod_lt _ (by omega)
  obtain ⟨pf, hpf⟩ : ∃ pf, fails.p = some pf := by
    cases hp : fails.p with
    | none => have := hfl.2; rw [hp] at this; simp at this; omega
    | some x => exact ⟨x, rfl⟩
  have c1 := (rdC_fr hfl hI.fr fun _ _ h => h).2
  rw [hpf] at c1
  have c1 := c1 (i % fails.l) (by simp; omega)
  simp only [List.getElem_map] at c1
  have hx := hu _ (List.getElem_mem (show i % fails.l < fl.length by omega))
  rw [hpf, nz_some, hmod, Int.toNat_natCast, Nat.mul_one]
  have ht : Int.tmod (fl[i % fails.l]'(by omega)) 9 = (fl[i % fails.l]'(by omega)) % 9 := Int.tmod_eq_emod_of_nonneg hx.1
  refine ⟨⟨by omega, by omega⟩, _, c1, by decide, inR64 (by omega) (by omega), ?_⟩
  refine Fail_DI hI.jj.di fun w2 hd2 hf2 => ?_
  refine Crashes_k1 hA hv hiA hi (st := failDS st _) ⟨⟨hd2, hf2.row hI.jj.row hI.jj.no, hI.jj.no, fine_fail hI.jj.fine (by omega)⟩, hI.mi.fr hf2 fun c hc h => hI.d1 c h hc, hI.d1, hI.d2, hI.k1, hI.k2, hI.k3, hI.fr.trans hf2 fun c hc hlt => by have := hI.k1 c hc; omega⟩ (clean_fail hC _) (by omega) hby hN

theorem Crashes_spec {l fails v : Sl} {A : List (List UInt8)} {fl surv : List Int} {K : Bool → World → Prop} (hA : rdC w0 l.p l.l (A.map sv)) (hfl : rdC w0 fails.p fails.l (fl.map fun n => .int .u8 n)) (hu : ∀ n ∈ fl, 0 ≤ n ∧ n < 256) (hv : rdC w0 v.p v.l (surv.map iv))
    (hK : ∀ w', Fr F0 w0 w' → K true w') : probitylaw27_JournalCrashes_sh l fails v K w0 := by
  refine ⟨?_⟩
  unfold probitylaw27_JournalCrashes_sd
  refine sanity_spec fun w1 hf1 => New_JJ fun w2 hd2 hf2 hs2 => ?_
  have hs1 := hf1.1
  refine Open_JJ hd2 (fine_new.mono (n' := 0) (Nat.le_refl _) (by omega)) (by omega) (rs := []) recsOf_nil (by simp [newDS]) fun w3 O3 jb s3 hJ3 hC3 hs3 hsB3 hjb3 hf3 hO3 => ?_
  have g3 : Fr F0 w1 w3 := hf2.trans hf3 fun c hc hlt => by omega
  refine RNew_spec fun w4 hM4 hf4 => ?_
  have hlt3 := hJ3.di.lt
  have hjlt := hJ3.row.lt
  have b3 : ∀ c, O3 c → w0.heap.size ≤ c := fun c hc => by
    rcases hO3 c hc with h | h <;> omega
  have s3 := g3.1
  refine Crashes_loop hA hfl hu hv ⟨0, _, jb, _, _, _, _, _, _, rfl, by omega, rfl, rfl, rfl, ⟨hJ3.fr hf4 fun _ _ h => h, hM4, fun c hc hM => ?_, fun hM => ?_, b3, fun c hc => by omega, by omega, (hf1.trans g3 fun _ h _ => h).trans hf4 fun _ h _ => h⟩, hC3, rfl, by omega, by simp [byt]⟩ hK
  · have := hlt3 c hc; omega
  · omega
end
end Go.Proofs.Ytamkecjpcfnpjaa
