/- The law JournalKeeps returns true. Conditions: none. -/
import Derived.Test.YtamkecjpcfnpjaaJL3
namespace Go.Proofs.Ytamkecjpcfnpjaa
open Go Pw

section
variable {w0 w : World} {b jb mb e n : Nat} {st : DS} {rs : List (List UInt8)} {O OM : Nat → Prop}

theorem Keeps_k1 {l : Sl} {again crash : Int} {i : Nat} {N0 : Sl → Int → Int → Bool → Option Addr → Option Addr → Int → Option Addr → Int → World → Prop} {K : Bool → World → Prop}
    (hd : DI w b st O) (hF : Fine st n (2 ^ 26)) (hn : n ≤ 2 ^ 20) (hr : recsOf st.now = some rs) (hl : st.lim = none) (hm : MI w mb rs [] false (byt rs) OM) (d1 : ∀ c, O c → ¬ OM c) (k1 : ∀ c, O c → w0.heap.size ≤ c) (k2 : ∀ c, OM c → w0.heap.size ≤ c) (hf : Fr F0 w0 w)
    (hby : byt rs ≤ 216 * 20) (hi : i < 20)
    (hN : ∀ w' jb' O' OM', KI w0 w' b jb' mb (syncDS st) rs [] (endOf st.now) false O' OM' (n + 1) → Clean (syncDS st) rs (endOf st.now) → N0 l again crash true (ptr b) (ptr jb') 0 (ptr mb) ((i : Int) + 1) w') : probitylaw27_JournalKeeps_k1 l again crash true (ptr b) (ptr mb) i N0 K w := by
  refine ⟨?_⟩
  unfold probitylaw27_JournalKeeps_k1d
  refine Open_JJ hd hF (by omega) hr (by rw [hl]; simp) fun w1 O1 jb1 s hJ hC hs hsB hjb hf1 hO1 => ?_
  rw [show ((0 : Int) != 0) = false from rfl, cnd_false]
  have hlt := hm.lt
  have hs0 := hf.1
  refine Opens_KI (w0 := w0) hJ (hm.fr hf1 fun c hc h => d1 c h hc) (fun c hc hM => ?_) (fun hM => ?_) (fun c hc => ?_) k2 (by omega) (hf.trans hf1 fun c hc hlt => by have := k1 c hc; omega) hs (fun c hc hM => ?_) (by omega) (by omega) (by simp) fun w2 OM2 hK2 => ?_
  · rcases hO1 c hc with h | h
    · exact d1 c h hM
    · have := hlt c hM; omega
  · have := hlt _ hM; omega
  · rcases hO1 c hc with h | h
    · exact k1 c h
    · omega
  · have := (hsB c hc).1
    have := hlt c hM; omega
  · have : fineR rs [] rs false = true := by simp [fineR]
    rw [this, Bool.not_true, cnd_false]
    exact ⟨inR64 (by omega) (by omega), hN w2 jb1 O1 OM2 hK2 hC⟩

theorem Keeps_k2 {K : Bool → World → Prop} (h : KI w0 w b jb mb st rs [] e false O OM n) (hK : ∀ w', Fr F0 w0 w' → K true w') : probitylaw27_JournalKeeps_k2 true (ptr jb) (ptr mb) K w := by
  refine ⟨?_⟩
  unfold probitylaw27_JournalKeeps_k2d
  obtain ⟨l, m, hrow, hl, _⟩ := h.mi.ex
  have hrd : Row w.drew mb _ := hrow
  have hll := hl.len
  simp at hll
  have hj := (h.jj.fr (Fr.drew (F := F0)) fun _ _ h => h)
  refine ⟨fun w' => w' = w.drew, rfl, ?_⟩
  rw [cnd_true, show (ptr jb).isNone = false from rfl, Bool.not_false, cnd_true]
  have e0 : ∀ X : Addr → Prop, nz (ptr mb) X = X ⟨mb, 0, none⟩ := fun _ => rfl
  rw [e0]
  refine ⟨l, fun w' h => by rw [h]; exact hrd.at rfl, Many_spec hj.row ⟨rfl, ?_⟩⟩
  rw [show ((rs.length : Int) == (l.l : Int)) = true by simp; omega]
  exact hK _ (h.fr.trans Fr.drew fun _ h _ => h)

/-- What JournalKeeps' loop leans on. -/
def KeepI (w0 : World) (mb : Nat) (d j : Option Addr) (er t : Int) (w : World) : Prop :=
  ∃ (i b jb e n : Nat) (st : DS) (rs : List (List UInt8)) (O OM : Nat → Prop), t = i ∧ i ≤ 20 ∧ d = ptr b ∧ j = ptr jb ∧ er = 0 ∧ KI w0 w b jb mb st rs [] e false O OM n ∧ Clean st rs e ∧ st.lim = none ∧ n ≤ 10 * i + 10 ∧ byt rs ≤ 216 * i

theorem Keeps_loop {l : Sl} {A : List (List UInt8)} {again crash : Int} {K : Bool → World → Prop} (hA : rdC w0 l.p l.l (A.map sv)) (h : KeepI w0 mb (ptr b) (ptr jb) 0 0 w) (hK : ∀ w', Fr F0 w0 w' → K true w') :
    probitylaw27_JournalKeeps_l0 l again crash true (ptr b) (ptr jb) 0 (ptr mb) 0 K w := by
  refine ⟨⟨KeepI w0 mb, fun _ _ _ t _ => 20 - t.toNat, h, ?_⟩⟩
  rintro d j er t w1 ⟨i, b, jb, e, n, st, rs, O, OM, rfl, hi20, rfl, rfl, rfl, hI, hC, hlim, hn, hby⟩
  have hAl := hA.1
  simp at hAl
  unfold probitylaw27_JournalKeeps_b0
  rw [cnd_prop]
  refine ⟨fun hlt => ?_, fun _ => Keeps_k2 hI hK⟩
  rw [cnd_prop]
  refine ⟨fun hlt20 => ?_, fun _ => Keeps_k2 hI hK⟩
  have hiA : i < A.length := by omega
  have hi : i < 20 := by omega
  obtain ⟨pa, hpa, _⟩ := strs_at hA hiA
  have hS : ∀ w', Fr F0 w0 w' → w'.cell? (pa.add i) = some (.string (ofL A[i])) := fun w' hf => by
    obtain ⟨pa', hpa', h⟩ := strs_at (rdC_fr hA hf fun _ _ h => h) hiA
    rw [hpa] at hpa'
    cases hpa'
    exact h
  refine ⟨fun w' => w'.cell? (pa.add i) = some (.string (ofL A[i])), hS _ (hI.fr.trans Fr.drew fun _ h _ => h), ?_⟩
  have z : ((0 : Int) != 0) = false := rfl
  rw [z, cnd_false, show (ptr jb).isNone = false from rfl, cnd_false, hpa]
  simp only [nz_some, Nat.mul_one, Int.toNat_natCast]
  have hI1 : KI w0 w1.drew b jb mb st rs [] e false O OM n := ⟨hI.jj.fr (Fr.drew (F := F0)) fun _ _ h => h, hI.mi.fr (Fr.drew (F := F0)) fun _ _ h => h, hI.d1, hI.d2, hI.k1, hI.k2, hI.k3, hI.fr.trans Fr.drew fun _ h _ => h⟩
  generalize w1.drew = w2 at *
  refine ⟨⟨by omega, by omega⟩, ofL A[i], fun _ h => h, ⟨by omega, by omega⟩, ofL A[i], fun _ h => h, short_spec ⟨hS _ hI1.fr, ?_⟩⟩
  rw [bl_ofL]
  have hsz : (ofL (A[i].take 200)).size ≤ 200 := by rw [← bl_length, bl_ofL]; simp; omega
  have hap := ap_free (e := e) (r := bl (ofL (A[i].take 200))) hlim
  refine Append_JJ hI1.jj hC (by omega) (by omega) (fun _ w3 O3 hJ3 hC3 hf3 hO3 => ?_) fun hf => by rw [hap.1] at hf; cases hf
  have hl3 := hap.2
  obtain ⟨st3, hst3⟩ : ∃ st3, (apDS st e (bl (ofL (A[i].take 200)))).1 = st3 := ⟨_, rfl⟩
  rw [hst3] at hJ3 hC3 hl3
  rw [bl_ofL] at hJ3 hC3
  obtain ⟨m1, m2, m3, m4, m5, m6⟩ := hI1.turn hf3 (fun _ h => h) hO3 (.inl rfl)
  refine ⟨hS _ m6, short_spec ⟨hS _ m6, ?_⟩⟩
  rw [bl_ofL]
  have hbl := byt_len rs
  refine RApp_spec m1 (by omega) (by omega) (by omega) (by simp) (fun h => by cases h) (fun _ h => by omega) (fun _ _ h => by cases h) fun _ _ _ w4 OM4 hM4 hf4 hO4 => ?_
  rw [bl_ofL] at hM4
  obtain ⟨x1, x2, x3⟩ := hJ3.apart hf4 m2 m3 hO4
  have g4 : Fr F0 w0 w4 := m6.trans hf4 fun c hc hlt => by have := hI1.k2 c hc; omega
  obtain ⟨lm, mm, hrow, hlm, _⟩ := hM4.ex
  have hbyt : byt rs + ((ofL (A[i].take 200)).size + 16) = byt (rs ++ [A[i].take 200]) := by
    rw [byt_append, ← bl_length, bl_ofL]; simp [byt]
  rw [hbyt] at hM4
  have hK4 : KI w0 w4 b jb mb st3 (rs ++ [A[i].take 200]) [] (e + 4 + (ofL (A[i].take 200)).size) false O3 OM4 (n + 4) := ⟨x1, hM4, x2, x3, m4, fun c hc => by
    have := m6.1
    rcases hO4 c hc with h | h
    · exact hI1.k2 c h
    · omega, m5, g4⟩
  refine ⟨fun u => u.cell? (pa.add i) = some (.string (ofL A[i])) ∧ u.cell? ⟨mb, 0, none⟩ = some (.slice lm.p lm.l lm.c), ⟨hS _ g4, hrow.at rfl⟩, fun u h => h.1, ?_⟩
  rw [z, cnd_false]
  have e0 : ∀ X : Addr → Prop, nz (ptr mb) X = X ⟨mb, 0, none⟩ := fun _ => rfl
  rw [e0]
  have hll := hlm.len
  have hrl : (rs ++ [A[i].take 200]).length = lm.l := by simpa using hll
  refine ⟨lm, fun u h => h.2, Many_spec x1.row ⟨⟨hS _ g4, hrow.at rfl⟩, ?_⟩⟩
  rw [cnd_bne]
  refine ⟨fun h => absurd (by omega) h, fun _ => ⟨by omega, ?_⟩⟩
  have hby4 := byt_short (rs := rs) (r := A[i])
  have next : ∀ w' b' jb' e' n' st' O' OM', KI w0 w' b' jb' mb st' (rs ++ [A[i].take 200]) [] e' false O' OM' n' → Clean st' (rs ++ [A[i].take 200]) e' → st'.lim = none → n' ≤ 10 * (i + 1) + 10 → KeepI w0 mb (ptr b') (ptr jb') 0 ((i : Int) + 1) w' :=
    fun w' b' jb' e' n' st' O' OM' h1 h2 h3 h4 => ⟨i + 1, b', jb', e', n', st', _, O', OM', by omega, by omega, rfl, rfl, rfl, h1, h2, h3, h4, by omega⟩
  have hsl : st3.lim = none → (syncDS st3).lim = none := fun h => by simp [syncDS, callDS, h]
  rw [cnd_iff]
  refine ⟨fun _ => ⟨by omega, ?_⟩, fun _ => ⟨inR64 (by omega) (by omega), ⟨by simp, next _ _ _ _ _ _ _ _ hK4 hC3 hl3 (by omega)⟩, by omega⟩⟩
  rw [cnd_iff]
  refine ⟨fun _ => ⟨by decide, inR64 ?_ ?_, ?_⟩, fun _ => ?_⟩
  · rw [show Int.tdiv (i : Int) 2 = ((i / 2 : Nat) : Int) from rfl]; omega
  · rw [show Int.tdiv (i : Int) 2 = ((i / 2 : Nat) : Int) from rfl]; omega
  · have hx : Row (w4.alloc (Obj.cells #[(Value.int .i64 (i : Int)), (Value.int .i64 (Int.tdiv (i : Int) (2 : Int)))] 3)) w4.heap.size ([(i : Int), Int.tdiv (i : Int) 2].map iv) := Row.new
    have hf5 : Fr F0 w4 (w4.alloc (Obj.cells #[(Value.int .i64 (i : Int)), (Value.int .i64 (Int.tdiv (i : Int) (2 : Int)))] 3)) := Fr.alloc
    generalize w4.alloc (Obj.cells #[(Value.int .i64 (i : Int)), (Value.int .i64 (Int.tdiv (i : Int) (2 : Int)))] 3) = w5 at *
    have hd5 := hK4.jj.di.fr hf5 fun _ _ h => h
    refine Crash_DI (surv := [(i : Int), Int.tdiv (i : Int) 2]) hd5 hK4.jj.fine (by omega) ⟨rfl, fun q hq => by rw [add_mk, Nat.zero_add]; exact hx.at (List.getElem?_eq_getElem hq)⟩ fun w6 hd6 hf6 => ?_
    have hf46 : Fr F0 w4 w6 := hf5.trans hf6 fun _ h _ => h
    have hs4 := hK4.fr.1
    have hs45 := hf5.1
    have hc6 := clean_crash_of hC3 [(i : Int), Int.tdiv (i : Int) 2]
    refine Keeps_k1 hd6 ((fine_crash hK4.jj.fine _).mono (n' := 0) (Nat.le_refl _) (by omega)) (by omega) hc6 rfl (hM4.fr hf46 fun _ _ h => h) (fun c hc hM => ?_) (fun c hc => by omega) hK4.k2 (hK4.fr.trans hf46 fun _ h _ => h) (by omega) hi fun w7 jb7 O7 OM7 hK7 hC7 => ⟨⟨by simp, next _ _ _ _ _ _ _ _ hK7 hC7 rfl (by omega)⟩, by omega⟩
    have := hM4.lt c hM; omega
  · refine Keeps_k1 hK4.jj.di hK4.jj.fine (by omega) hC3.rec1 hl3 hM4 hK4.d1 hK4.k1 hK4.k2 hK4.fr (by omega) hi fun w7 jb7 O7 OM7 hK7 hC7 => ⟨⟨by simp, next _ _ _ _ _ _ _ _ hK7 hC7 (hsl hl3) (by omega)⟩, by omega⟩

theorem Keeps_spec {l : Sl} {A : List (List UInt8)} {again crash : Int} {K : Bool → World → Prop} (hA : rdC w0 l.p l.l (A.map sv)) (hK : ∀ w', Fr F0 w0 w' → K true w') : probitylaw27_JournalKeeps_sh l again crash K w0 := by
  refine ⟨?_⟩
  unfold probitylaw27_JournalKeeps_sd
  refine sanity_spec fun w1 hf1 => New_JJ fun w2 hd2 hf2 hs2 => ?_
  have hs1 := hf1.1
  refine Open_JJ hd2 (fine_new.mono (n' := 0) (Nat.le_refl _) (by omega)) (by omega) (rs := []) recsOf_nil (by simp [newDS]) fun w3 O3 jb s3 hJ3 hC3 hs3 hsB3 hjb3 hf3 hO3 => ?_
  have g3 : Fr F0 w1 w3 := hf2.trans hf3 fun c hc hlt => by omega
  refine RNew_spec fun w4 hM4 hf4 => ?_
  have hlt3 := hJ3.di.lt
  have hjlt := hJ3.row.lt
  have b3 : ∀ c, O3 c → w0.heap.size ≤ c := fun c hc => by
    rcases hO3 c hc with h | h <;> omega
  have s3 := g3.1
  refine Keeps_loop hA ⟨0, _, jb, _, _, _, _, _, _, rfl, by omega, rfl, rfl, rfl, ⟨hJ3.fr hf4 fun _ _ h => h, hM4, fun c hc hM => ?_, fun hM => ?_, b3, fun c hc => by omega, by omega, (hf1.trans g3 fun _ h _ => h).trans hf4 fun _ h _ => h⟩, hC3, rfl, by omega, by simp [byt]⟩ hK
  · have := hlt3 c hc; omega
  · omega
end
end Go.Proofs.Ytamkecjpcfnpjaa
