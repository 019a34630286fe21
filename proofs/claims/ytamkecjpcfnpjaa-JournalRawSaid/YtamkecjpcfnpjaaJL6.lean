/- The law JournalSame returns true. Conditions: none. -/
import Derived.Test.YtamkecjpcfnpjaaJL5
namespace Go.Proofs.Ytamkecjpcfnpjaa
open Go Pw

section
variable {w0 w : World} {b jb mb e n : Nat} {st : DS} {rs : List (List UInt8)} {O OM : Nat → Prop}

/-- Opens, with what it leaves alone. -/
theorem Opens_fr {w1 : World} {s : Sl} {K : Bool → World → Prop} {jb' e' n' : Nat} {st' : DS} {G Mb : List (List UInt8)} {br : Bool} {O' : Nat → Prop} (hj : JJ w1 b jb' st' G e' false O' n') (hm : MI w1 mb rs Mb br (byt rs) OM) (d1 : ∀ c, O' c → ¬ OM c) (d2 : ¬ OM jb')
    (hs : OwnV 1 w1 s (G.map sv)) (hsd : ∀ c, inB s c → ¬ OM c) (hG : byt G ≤ 2 ^ 30) (hr : byt rs ≤ 2 ^ 30) (hM : Mb.length ≤ 2 ^ 30)
    (hK : ∀ w2, JJ w2 b jb' st' G e' false O' n' → OwnV 1 w2 s (G.map sv) → Fr OM w1 w2 → K (fineR rs Mb G br) w2) : probityref27_Journal_Opens_sh (ptr mb) s K w1 := by
  have hrd := hs.rd
  rw [Nat.mul_one] at hrd
  have hGl := byt_len G
  have hrl := byt_len rs
  refine Opens_spec hm hrd (fun a ha => hsd _ ⟨a, ha, rfl⟩) (by omega) (fun i => by have := byt_take G i; omega) (fun r hr => by have := len_byt hr; omega) (by omega) (by omega) fun w2 OM' hm2 hf2 hO2 => ?_
  exact hK w2 (hj.apart hf2 d1 d2 hO2).1 (hs.fr hf2 fun c hc h => hsd c hc h) hf2

theorem Same_k2 {v : Sl} {surv : List Int} {Mb : List (List UInt8)} {br : Bool} {K : Bool → World → Prop} {G : List (List UInt8)} (h : KI w0 w b jb mb st rs Mb e br O OM n) (hG : recsOf st.now = some G) (hGf : fineR rs Mb G br = true) (hv : rdC w0 v.p v.l (surv.map iv))
    (hby : byt rs ≤ 2 ^ 20) (hGb : byt G ≤ 2 ^ 20) (hM : Mb.length ≤ 2 ^ 20) (hn : n ≤ 2 ^ 20) (hK : ∀ w', Fr F0 w0 w' → K true w') : probitylaw27_JournalSame_k2 v true (ptr b) (ptr mb) K w := by
  refine ⟨?_⟩
  unfold probitylaw27_JournalSame_k2d
  refine Fail_DI h.jj.di fun w1 hd1 hf1 => ?_
  have hm1 := h.mi.fr hf1 fun c hc hO => h.d1 c hO hc
  have g1 : Fr F0 w0 w1 := h.fr.trans hf1 fun c hc hlt => by have := h.k1 c hc; omega
  have hF1 := fine_fail h.jj.fine (show (-1 : Int) ≤ 2 ^ 40 by omega)
  have hG1 : recsOf (failDS st (-1)).now = some G := hG
  refine Open_JJ hd1 hF1 (by omega) hG1 (by simp [failDS]) fun w2 O2 jb2 s2 hJ2 hC2 hs2 hsB2 hjb2 hf2 hO2 => ?_
  rw [show ((0 : Int) != 0) = false from rfl, cnd_false]
  have hlt := hm1.lt
  have z1 := g1.1
  have hO2M : ∀ c, O2 c → ¬ OM c := fun c hc hM => by
    rcases hO2 c hc with h' | h'
    · exact h.d1 c h' hM
    · have := hlt c hM; omega
  have hO2k : ∀ c, O2 c → w0.heap.size ≤ c := fun c hc => by
    rcases hO2 c hc with h' | h'
    · exact h.k1 c h'
    · omega
  have g2 : Fr F0 w0 w2 := g1.trans hf2 fun c hc hlt => by have := h.k1 c hc; omega
  refine Opens_fr hJ2 (hm1.fr hf2 fun c hc hO => h.d1 c hO hc) hO2M (fun hM => by have := hlt _ hM; omega) hs2 (fun c hc hM => by have := (hsB2 c hc).1; have := hlt c hM; omega) (by omega) (by omega) (by omega) fun w3 hJ3 hs3 hf3 => ?_
  rw [hGf, Bool.not_true, cnd_false]
  have g3 : Fr F0 w0 w3 := g2.trans hf3 fun c hc hlt => by have := h.k2 c hc; omega
  refine Crash_DI (surv := surv) hJ3.di hJ3.fine (by omega) (rdC_fr hv g3 fun _ _ h => h) fun w4 hd4 hf4 => ?_
  refine Open_JJ hd4 ((fine_crash hJ3.fine _).mono (n' := 0) (Nat.le_refl _) (by omega)) (by omega) (rs := G) (clean_crash_of hC2 surv) (by simp [crashDS]) fun w5 O5 jb5 s5 hJ5 hC5 hs5 hsB5 hjb5 hf5 hO5 => ?_
  rw [cnd_true, show ((0 : Int) == 0) = true from rfl, cnd_true]
  have f35 : Fr F0 w3 w5 := hf4.trans hf5 fun c hc hlt => by omega
  have h1 := hs5.rd
  have h2 := (hs3.fr f35 fun _ _ h => h).rd
  rw [Nat.mul_one] at h1 h2
  have hlen := byt_len G
  refine Same_spec h1 h2 (by omega) fun w6 hf6 => ?_
  rw [decide_eq_true rfl]
  exact hK w6 ((g3.trans f35 fun _ h _ => h).trans hf6 fun _ h _ => h)

/-- Where JournalSame's loop stands: all is acknowledged, or the journal is broken. -/
def SameI (w0 : World) (b jb mb : Nat) (t : Int) (w : World) : Prop :=
  ∃ (i e n : Nat) (st : DS) (rs : List (List UInt8)) (O OM : Nat → Prop), t = i ∧ i ≤ 10 ∧ n ≤ 10 * i + 10 ∧ byt rs ≤ 216 * i ∧ 64 ≤ e ∧ e ≤ 64 + byt rs ∧
    ((KI w0 w b jb mb st rs [] e false O OM n ∧ Clean st rs e) ∨ ∃ r, r.length ≤ 200 ∧ KI w0 w b jb mb st rs [r] e true O OM n ∧ Either st rs r)

theorem Same_end {v : Sl} {surv : List Int} {t : Int} {K : Bool → World → Prop} (h : SameI w0 b jb mb t w) (hv : rdC w0 v.p v.l (surv.map iv)) (hK : ∀ w', Fr F0 w0 w' → K true w') : probitylaw27_JournalSame_k2 v true (ptr b) (ptr mb) K w := by
  obtain ⟨i, e, n, st, rs, O, OM, rfl, hi, hn, hby, _, _, h | ⟨r, hr, hI, hE⟩⟩ := h
  · exact Same_k2 h.1 h.2.rec1 (fineR_self _ _ _) hv (by omega) (by omega) (by simp) (by omega) hK
  · have hb : byt (rs ++ [r]) = byt rs + (r.length + 16) := by rw [byt_append]; simp [byt]
    rcases hE.now with h | h
    · exact Same_k2 hI h (fineR_self _ _ _) hv (by omega) (by omega) (by simp) (by omega) hK
    · exact Same_k2 hI h (fineR_more _ _) hv (by omega) (by omega) (by simp) (by omega) hK

theorem Same_k1 {l v : Sl} {A : List (List UInt8)} {fail : Int} {i : Nat} {N0 : Sl → Int → Sl → Bool → Option Addr → Option Addr → Option Addr → Int → World → Prop} {K : Bool → World → Prop} (hA : rdC w0 l.p l.l (A.map sv)) (hi : i < A.length) (hi10 : i < 10)
    (h : SameI w0 b jb mb i w) (hN : ∀ w', SameI w0 b jb mb ((i : Int) + 1) w' → N0 l fail v true (ptr b) (ptr jb) (ptr mb) ((i : Int) + 1) w') :
    probitylaw27_JournalSame_k1 l fail v true (ptr b) (ptr jb) (ptr mb) i N0 K w := by
  obtain ⟨i', e, n, st, rs, O, OM, hii, hi', hn, hby, he1, he2, h⟩ := h
  have hii : i = i' := by omega
  subst hii
  have hAl := hA.1
  simp at hAl
  obtain ⟨pa, hpa, _⟩ := strs_at hA hi
  have hS : ∀ w', Fr F0 w0 w' → w'.cell? (pa.add i) = some (.string (ofL A[i])) := fun w' hf => by
    obtain ⟨pa', hpa', h⟩ := strs_at (rdC_fr hA hf fun _ _ h => h) hi
    rw [hpa] at hpa'
    cases hpa'
    exact h
  have hsz : (ofL (A[i].take 200)).size ≤ 200 := by rw [← bl_length, bl_ofL]; simp; omega
  have hbl := byt_len rs
  have hbs := byt_short (rs := rs) (r := A[i])
  have g0 : Fr F0 w0 w := by
    rcases h with h | ⟨r, _, h, _⟩
    · exact h.1.fr
    · exact h.fr
  refine ⟨?_⟩
  unfold probitylaw27_JournalSame_k1d
  refine ⟨fun w' => w'.cell? (pa.add i) = some (.string (ofL A[i])), hS _ (g0.trans Fr.drew fun _ h _ => h), ?_⟩
  rw [hpa]
  simp only [nz_some, Nat.mul_one, Int.toNat_natCast]
  refine ⟨⟨by omega, by omega⟩, ofL A[i], fun _ h => h, ⟨by omega, by omega⟩, ofL A[i], fun _ h => h, short_spec ⟨hS _ (g0.trans Fr.drew fun _ h _ => h), short_spec ⟨hS _ (g0.trans Fr.drew fun _ h _ => h), ?_⟩⟩⟩
  rw [bl_ofL]
  rcases h with ⟨hI, hC⟩ | ⟨r, hr, hI, hE⟩
  · have hI := hI.keep (Fr.drew (F := F0))
    generalize w.drew = w1 at *
    refine Append_JJ hI.jj hC (by omega) (by omega) (fun _ w3 O3 hJ3 hC3 hf3 hO3 => ?_) fun _ w3 O3 hJ3 hE3 _ hf3 hO3 => ?_
    · rw [bl_ofL] at hJ3 hC3
      obtain ⟨m1, m2, m3, m4, m5, m6⟩ := hI.turn hf3 (fun _ h => h) hO3 (.inl rfl)
      refine ⟨hS _ m6, ?_⟩
      have z6 := m6.1
      refine RApp_spec m1 (by omega) (by omega) (by omega) (by simp) (fun h => by cases h) (fun _ h => by omega) (fun _ _ h => by simp at h) fun _ _ _ w4 OM4 hM4 hf4 hO4 => ?_
      rw [bl_ofL] at hM4
      obtain ⟨x1, x2, x3⟩ := hJ3.apart hf4 m2 m3 hO4
      have g4 : Fr F0 w0 w4 := m6.trans hf4 fun c hc hlt => by have := hI.k2 c hc; omega
      have hbyt : byt rs + ((ofL (A[i].take 200)).size + 16) = byt (rs ++ [A[i].take 200]) := by
        rw [byt_append, ← bl_length, bl_ofL]; simp [byt]
      rw [hbyt] at hM4
      refine ⟨hS _ g4, inR64 (by omega) (by omega), hN w4 ⟨i + 1, _, _, _, _, O3, OM4, by omega, by omega, by omega, by omega, by omega, by omega, .inl ⟨⟨x1, hM4, x2, x3, m4, fun c hc => ?_, m5, g4⟩, hC3⟩⟩⟩
      rcases hO4 c hc with h | h
      · exact hI.k2 c h
      · omega
    · rw [bl_ofL] at hE3
      obtain ⟨m1, m2, m3, m4, m5, m6⟩ := hI.turn hf3 (fun _ h => h) hO3 (.inl rfl)
      refine ⟨hS _ m6, ?_⟩
      have z6 := m6.1
      refine RApp_spec m1 (by omega) (by omega) (by omega) (by simp) (fun h => by cases h) (fun _ h => by omega) (fun _ _ _ w4 OM4 hM4 hf4 hO4 => ?_) fun _ _ h => by simp at h
      rw [bl_ofL] at hM4
      obtain ⟨x1, x2, x3⟩ := hJ3.apart hf4 m2 m3 hO4
      have g4 : Fr F0 w0 w4 := m6.trans hf4 fun c hc hlt => by have := hI.k2 c hc; omega
      refine ⟨hS _ g4, inR64 (by omega) (by omega), hN w4 ⟨i + 1, e, _, _, rs, O3, OM4, by omega, by omega, by omega, by omega, by omega, by omega, .inr ⟨A[i].take 200, by simp; omega, ⟨x1, hM4, x2, x3, m4, fun c hc => ?_, m5, g4⟩, hE3⟩⟩⟩
      rcases hO4 c hc with h | h
      · exact hI.k2 c h
      · omega
  · have hI := hI.keep (Fr.drew (F := F0))
    generalize w.drew = w1 at *
    refine Append_broken hI.jj (by omega) he1 he2 (by omega) (by omega) fun w3 hf3 => ?_
    have hI3 := hI.keep hf3
    refine ⟨hS _ hI3.fr, ?_⟩
    refine RApp_spec hI3.mi (by omega) (by omega) (by omega) (by simp) (fun _ => ?_) (fun h => by cases h) (fun h => by cases h) fun h => by cases h
    exact ⟨hS _ hI3.fr, inR64 (by omega) (by omega), hN w3 ⟨i + 1, e, n, st, rs, O, OM, by omega, by omega, by omega, by omega, he1, he2, .inr ⟨r, hr, hI3, hE⟩⟩⟩

theorem SameI.fail {t : Int} {m : Int} (h : SameI w0 b jb mb t w) (hm : m ≤ 2 ^ 40) {K : World → Prop} (hK : ∀ w', SameI w0 b jb mb t w' → K w') : disk_Disk_Fail_sh (ptr b) m K w := by
  obtain ⟨i, e, n, st, rs, O, OM, hii, hi', hn, hby, he1, he2, h⟩ := h
  have key : ∀ {Mb : List (List UInt8)} {br : Bool}, KI w0 w b jb mb st rs Mb e br O OM n → ∀ w', DI w' b (failDS st m) O → Fr O w w' → KI w0 w' b jb mb (failDS st m) rs Mb e br O OM n := fun hI w' hd hf =>
    ⟨⟨hd, hf.row hI.jj.row hI.jj.no, hI.jj.no, fine_fail hI.jj.fine hm⟩, hI.mi.fr hf fun c hc h => hI.d1 c h hc, hI.d1, hI.d2, hI.k1, hI.k2, hI.k3, hI.fr.trans hf fun c hc hlt => by have := hI.k1 c hc; omega⟩
  rcases h with ⟨hI, hC⟩ | ⟨r, hr, hI, hE⟩
  · exact Fail_DI hI.jj.di fun w' hd hf => hK w' ⟨i, e, n, failDS st m, rs, O, OM, hii, hi', hn, hby, he1, he2, .inl ⟨key hI w' hd hf, clean_fail hC m⟩⟩
  · exact Fail_DI hI.jj.di fun w' hd hf => hK w' ⟨i, e, n, failDS st m, rs, O, OM, hii, hi', hn, hby, he1, he2, .inr ⟨r, hr, key hI w' hd hf, hE.now, hE.crash⟩⟩

theorem Same_loop {l v : Sl} {A : List (List UInt8)} {fail : Int} {surv : List Int} {K : Bool → World → Prop} (hA : rdC w0 l.p l.l (A.map sv)) (hmax : l.l < 2 ^ 63) (hf0 : 0 ≤ fail ∧ fail < 256) (hv : rdC w0 v.p v.l (surv.map iv))
    (h : SameI w0 b jb mb 0 w) (hK : ∀ w', Fr F0 w0 w' → K true w') : probitylaw27_JournalSame_l0 l fail v true (ptr b) (ptr jb) (ptr mb) 0 K w := by
  refine ⟨⟨SameI w0 b jb mb, fun t _ => 10 - t.toNat, h, ?_⟩⟩
  intro t w1 hI
  have hI0 := hI
  obtain ⟨i, _, _, _, _, _, _, rfl, hi10, _⟩ := hI0
  have hAl := hA.1
  simp at hAl
  unfold probitylaw27_JournalSame_b0
  rw [cnd_prop]
  refine ⟨fun hlt => ?_, fun _ => Same_end hI hv hK⟩
  rw [cnd_prop]
  refine ⟨fun hlt10 => ?_, fun _ => Same_end hI hv hK⟩
  have hiA : i < A.length := by omega
  have hi : i < 10 := by omega
  have hd : Int.tdiv (l.l : Int) 2 = ((l.l / 2 : Nat) : Int) := rfl
  refine ⟨by decide, inR64 (by omega) (by omega), ?_⟩
  rw [cnd_iff]
  have hN : ∀ w', SameI w0 b jb mb ((i : Int) + 1) w' → (fun (l_0' : Sl) (fail_1' : Int) (survive_2' : Sl) (up_7' : Bool) (d_8' j_9' m_12' : Option Addr) (i_13' : Int) (w' : World) => ((l_0' = l ∧ fail_1' = fail ∧ survive_2' = v ∧ up_7' = true ∧ d_8' = ptr b ∧ j_9' = ptr jb ∧ m_12' = ptr mb ∧ True) ∧ SameI w0 b jb mb i_13' w') ∧ (10 - i_13'.toNat) < (10 - (i : Int).toNat)) l fail v true (ptr b) (ptr jb) (ptr mb) ((i : Int) + 1) w' :=
    fun w' h => ⟨⟨⟨rfl, rfl, rfl, rfl, rfl, rfl, rfl, trivial⟩, h⟩, by omega⟩
  have ht : Int.tmod fail 9 = fail % 9 := Int.tmod_eq_emod_of_nonneg hf0.1
  exact ⟨fun _ => ⟨by decide, inR64 (by omega) (by omega), hI.fail (by omega) fun w2 hI2 => Same_k1 hA hiA hi hI2 hN⟩, fun _ => Same_k1 hA hiA hi hI hN⟩

theorem Same_law {l v : Sl} {A : List (List UInt8)} {fail : Int} {surv : List Int} {K : Bool → World → Prop} (hA : rdC w0 l.p l.l (A.map sv)) (hmax : l.l < 2 ^ 63) (hf0 : 0 ≤ fail ∧ fail < 256) (hv : rdC w0 v.p v.l (surv.map iv))
    (hK : ∀ w', Fr F0 w0 w' → K true w') : probitylaw27_JournalSame_sh l fail v K w0 := by
  refine ⟨?_⟩
  unfold probitylaw27_JournalSame_sd
  refine sanity_spec fun w1 hf1 => New_JJ fun w2 hd2 hf2 hs2 => ?_
  have hs1 := hf1.1
  refine Open_JJ hd2 (fine_new.mono (n' := 0) (Nat.le_refl _) (by omega)) (by omega) (rs := []) recsOf_nil (by simp [newDS]) fun w3 O3 jb s3 hJ3 hC3 hs3 hsB3 hjb3 hf3 hO3 => ?_
  have g3 : Fr F0 w1 w3 := hf2.trans hf3 fun c hc hlt => by omega
  refine RNew_spec fun w4 hM4 hf4 => ?_
  have hlt3 := hJ3.di.lt
  have hjlt := hJ3.row.lt
  have b3 : ∀ c, O3 c → w0.heap.size ≤ c := fun c hc => by
    rcases hO3 c hc with h | h <;> omega
  have s3 := g3.1
  rw [show ((0 : Int) != 0) = false from rfl, cnd_false, show (ptr jb).isNone = false from rfl, cnd_false]
  refine Same_loop hA hmax hf0 hv ⟨0, _, _, _, _, _, _, rfl, by omega, by omega, by simp [byt], by decide, by decide, .inl ⟨⟨hJ3.fr hf4 fun _ _ h => h, hM4, fun c hc hM => ?_, fun hM => ?_, b3, fun c hc => by omega, by omega, (hf1.trans g3 fun _ h _ => h).trans hf4 fun _ h _ => h⟩, hC3⟩⟩ hK
  · have := hlt3 c hc; omega
  · omega
end
end Go.Proofs.Ytamkecjpcfnpjaa
