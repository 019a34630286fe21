/- The law JournalPower returns true. Conditions: none. -/
import Derived.Test.YtamkecjpcfnpjaaJL6
namespace Go.Proofs.Ytamkecjpcfnpjaa
open Go Pw

section
variable {w0 w : World} {b jb e n : Nat} {st : DS} {rs : List (List UInt8)} {O : Nat → Prop}

theorem Append_nil {r : ByteArray} {K : Int → World → Prop} (hK : ∀ w', Fr F0 w w' → K 1 w') : journal_Journal_Append_sh none r K w := by
  refine ⟨?_⟩
  unfold journal_Journal_Append_sd
  have a1 : Row (w.alloc (Obj.cells #[Value.pointer none] 27)) w.heap.size [.pointer none] := Row.new
  have f1 : Fr F0 w (w.alloc (Obj.cells #[Value.pointer none] 27)) := Fr.alloc
  generalize w.alloc (Obj.cells #[Value.pointer none] 27) = w1 at *
  have f2 : Fr F0 w1 (w1.alloc (Obj.cells #[Value.string r] 9)) := Fr.alloc
  have a2 := f2.row a1 fun h => h
  exact ⟨none, a2.at rfl, hK _ (f1.trans f2 fun _ h _ => h)⟩

theorem Append_zero {r : ByteArray} {K : Int → World → Prop} {j : Nat} {t : List Value} (hj : Row w j (.pointer none :: t)) (hK : ∀ w', Fr F0 w w' → K 1 w') : journal_Journal_Append_sh (ptr j) r K w := by
  refine ⟨?_⟩
  unfold journal_Journal_Append_sd
  have a1 : Row (w.alloc (Obj.cells #[Value.pointer (ptr j)] 27)) w.heap.size [.pointer (ptr j)] := Row.new
  have f1 : Fr F0 w (w.alloc (Obj.cells #[Value.pointer (ptr j)] 27)) := Fr.alloc
  have j1 := f1.row hj fun h => h
  generalize w.alloc (Obj.cells #[Value.pointer (ptr j)] 27) = w1 at *
  have f2 : Fr F0 w1 (w1.alloc (Obj.cells #[Value.string r] 9)) := Fr.alloc
  have a2 := f2.row a1 fun h => h
  have j2 := f2.row j1 fun h => h
  exact ⟨ptr j, a2.at rfl, ptr j, a2.at rfl, none, j2.at rfl, hK _ (f1.trans f2 fun _ h _ => h)⟩

/-- A disk with a journal on which all is acknowledged, power on. -/
structure JC (w0 w : World) (b jb : Nat) (st : DS) (rs : List (List UInt8)) (e : Nat) (O : Nat → Prop) (n : Nat) : Prop where
  jj : JJ w b jb st rs e false O n
  cl : Clean st rs e
  on : st.lim = none
  k1 : ∀ c, O c → w0.heap.size ≤ c
  k3 : w0.heap.size ≤ jb
  fr : Fr F0 w0 w

theorem JC.append {r : ByteArray} {K : Int → World → Prop} (h : JC w0 w b jb st rs e O n) (hn : n ≤ 2 ^ 29) (hfit : byt rs + r.size + 272 ≤ 2 ^ 24)
    (hK : ∀ w' st' e' O', JC w0 w' b jb st' (rs ++ [bl r]) e' O' (n + 4) → Fr (fun c => O c ∨ c = jb) w w' → (∀ c, O' c → O c ∨ w.heap.size ≤ c) → K 0 w') : journal_Journal_Append_sh (ptr jb) r K w := by
  have hap := ap_free (e := e) (r := bl r) h.on
  refine Append_JJ h.jj h.cl (by omega) hfit (fun _ w3 O3 hJ3 hC3 hf3 hO3 => hK w3 _ _ O3 ⟨hJ3, hC3, hap.2, fun c hc => ?_, h.k3, h.fr.trans hf3 fun c hc hlt => ?_⟩ hf3 hO3) fun hf => by rw [hap.1] at hf; cases hf
  · have := h.fr.1
    rcases hO3 c hc with h' | h'
    · exact h.k1 c h'
    · omega
  · have := h.k3
    rcases hc with h' | h'
    · have := h.k1 c h'; omega
    · omega

theorem start_JC {K : Option Addr → World → Prop} {w1 : World}
    (hK : ∀ w2 b, DI w2 b newDS (fun c => c = b) → Fr F0 w1 w2 → w1.heap.size ≤ b → K (ptr b) w2) : disk_New_sh K w1 :=
  New_JJ fun w2 hd2 hf2 _ => hK w2 _ hd2 hf2 (Nat.le_refl _)

theorem open_JC {K : Option Addr → Sl → Int → World → Prop} {w1 w2 : World} (hf1 : Fr F0 w0 w1) (hd : DI w2 b newDS (fun c => c = b)) (hf2 : Fr F0 w1 w2) (hb : w1.heap.size ≤ b)
    (hK : ∀ w3 jb st e O s, JC w0 w3 b jb st [] e O 1 → K (ptr jb) s 0 w3) : journal_Open_sh (ptr b) K w2 := by
  have hs1 := hf1.1
  have hs2 := hf2.1
  refine Open_JJ hd (fine_new.mono (n' := 0) (Nat.le_refl _) (by omega)) (by omega) (rs := []) recsOf_nil (by simp [newDS]) fun w3 O3 jb s3 hJ3 hC3 hs3 hsB3 hjb3 hf3 hO3 => hK w3 jb _ _ O3 s3 ⟨hJ3, hC3, rfl, fun c hc => ?_, by omega, (hf1.trans hf2 fun _ h _ => h).trans hf3 fun c hc hlt => by omega⟩
  rcases hO3 c hc with h | h <;> omega

theorem Power_k1 {l : Sl} {K : Bool → World → Prop} (h : JC w0 w b jb st rs e O n) (hn : n ≤ 2 ^ 20) (hl : (rs.length : Int) = min (l.l : Int) 5) (hK : ∀ w', Fr F0 w0 w' → K true w') : probitylaw27_JournalPower_k1 l true (ptr b) K w := by
  refine ⟨?_⟩
  unfold probitylaw27_JournalPower_k1d
  refine Fail_DI h.jj.di fun w1 hd1 hf1 => ?_
  have hF1 := fine_fail h.jj.fine (show (0 : Int) ≤ 2 ^ 40 by omega)
  refine Open_spec hd1 hF1 (by omega) (fun _ w2 hf2 => ?_) (fun h => absurd rfl h) fun h => absurd rfl h
  have hd2 := hd1.fr hf2 fun _ _ h => h
  refine Fail_DI hd2 fun w3 hd3 hf3 => ?_
  have hF3 := fine_fail hF1 (show (-1 : Int) ≤ 2 ^ 40 by omega)
  have hr : recsOf (failDS (failDS st 0) (-1)).now = some rs := h.cl.rec1
  refine Open_JJ hd3 hF3 (by omega) hr (by simp [failDS]) fun w4 O4 jb4 s4 hJ4 hC4 hs4 hsB4 hjb4 hf4 hO4 => ?_
  have hsl := hs4.len
  simp at hsl
  simp only [cnd_true, Option.isNone_none, beq_self_eq_true, show (((0 : Nat) : Int) == 0) = true from rfl]
  have e1 : ((s4.l : Int) == min (l.l : Int) 5) = true := by simp; omega
  rw [e1]
  have g1 : Fr F0 w0 w1 := h.fr.trans hf1 fun c hc hlt => by have := h.k1 c hc; omega
  have g3 : Fr F0 w0 w3 := (g1.trans hf2 fun _ h _ => h).trans hf3 fun c hc hlt => by have := h.k1 c hc; omega
  exact hK w4 (g3.trans hf4 fun c hc hlt => by have := h.k1 c hc; omega)

theorem Power_loop {l : Sl} {A : List (List UInt8)} {K : Bool → World → Prop} (hA : rdC w0 l.p l.l (A.map sv)) (h : JC w0 w b jb st [] e O 1) (hK : ∀ w', Fr F0 w0 w' → K true w') : probitylaw27_JournalPower_l0 l true (ptr b) (ptr jb) 0 0 K w := by
  refine ⟨⟨fun t w' => ∃ (i e n : Nat) (st : DS) (rs : List (List UInt8)) (O : Nat → Prop), t = i ∧ i ≤ 5 ∧ i ≤ A.length ∧ rs.length = i ∧ n ≤ 10 * i + 10 ∧ byt rs ≤ 216 * i ∧ JC w0 w' b jb st rs e O n, fun t _ => 5 - t.toNat, ⟨0, _, _, _, _, _, rfl, by omega, by omega, rfl, by omega, by simp [byt], h⟩, ?_⟩⟩
  rintro t w1 ⟨i, e, n, st, rs, O, rfl, hi5, hiA, hrl, hn, hby, hI⟩
  have hAl := hA.1
  simp at hAl
  unfold probitylaw27_JournalPower_b0
  rw [cnd_prop]
  refine ⟨fun hlt => ?_, fun hge => Power_k1 hI (by omega) (by omega) hK⟩
  rw [cnd_prop]
  refine ⟨fun hlt5 => ?_, fun hge => Power_k1 hI (by omega) (by omega) hK⟩
  have hiA' : i < A.length := by omega
  have z : ((0 : Int) != 0) = false := rfl
  rw [z, cnd_false, show (ptr jb).isNone = false from rfl, cnd_false]
  obtain ⟨pa, hpa, hc⟩ := strs_at (rdC_fr hA hI.fr fun _ _ h => h) hiA'
  rw [hpa]
  simp only [nz_some, Nat.mul_one, Int.toNat_natCast]
  refine ⟨⟨by omega, by omega⟩, _, hc, short_spec ?_⟩
  rw [bl_ofL]
  have hsz : (ofL (A[i].take 200)).size ≤ 200 := by rw [← bl_length, bl_ofL]; simp; omega
  have hbs := byt_short (rs := rs) (r := A[i])
  refine hI.append (by omega) (by omega) fun w2 st2 e2 O2 hJ2 _ _ => ?_
  rw [bl_ofL] at hJ2
  rw [z, cnd_false]
  exact ⟨inR64 (by omega) (by omega), ⟨by simp, i + 1, e2, _, st2, _, O2, by omega, by omega, by omega, by simp [hrl], by omega, by omega, hJ2⟩, by omega⟩

theorem Power_law {l : Sl} {A : List (List UInt8)} {K : Bool → World → Prop} (hA : rdC w0 l.p l.l (A.map sv)) (hK : ∀ w', Fr F0 w0 w' → K true w') : probitylaw27_JournalPower_sh l K w0 := by
  refine ⟨?_⟩
  unfold probitylaw27_JournalPower_sd
  refine sanity_spec fun w1 hf1 => Open_nil fun w2 hf2 => ?_
  have hj : Row (w2.alloc (Obj.cells #[(Value.pointer none), (Value.int .i64 (0 : Int)), (Value.int .i64 (0 : Int)), (Value.int .i64 (0 : Int)), (Value.bool false)] 52)) w2.heap.size [(Value.pointer none), (Value.int .i64 (0 : Int)), (Value.int .i64 (0 : Int)), (Value.int .i64 (0 : Int)), (Value.bool false)] := Row.new
  have hf3 : Fr F0 w2 (w2.alloc (Obj.cells #[(Value.pointer none), (Value.int .i64 (0 : Int)), (Value.int .i64 (0 : Int)), (Value.int .i64 (0 : Int)), (Value.bool false)] 52)) := Fr.alloc
  dsimp only
  generalize w2.alloc (Obj.cells #[(Value.pointer none), (Value.int .i64 (0 : Int)), (Value.int .i64 (0 : Int)), (Value.int .i64 (0 : Int)), (Value.bool false)] 52) = w3 at *
  simp only [Option.isNone_none, Bool.not_true, cnd_false, show (((0 : Nat) : Int) != 0) = false from rfl, show ((1 : Int) != 1) = false from rfl]
  have g3 : Fr F0 w0 w3 := (hf1.trans hf2 fun _ h _ => h).trans hf3 fun _ h _ => h
  refine Append_nil fun w4 hf4 => ?_
  simp only [show ((1 : Int) != 1) = false from rfl, cnd_false]
  have hj4 := hf4.row hj fun h => h
  refine Append_zero hj4 fun w5 hf5 => ?_
  simp only [show ((1 : Int) != 1) = false from rfl, cnd_false]
  have hj5 := hf5.row hj4 fun h => h
  have g5 : Fr F0 w0 w5 := (g3.trans hf4 fun _ h _ => h).trans hf5 fun _ h _ => h
  refine ⟨?_⟩
  unfold journal_Journal_Many_sd
  simp only [Option.isNone_none, cnd_true]
  refine ⟨?_⟩
  unfold journal_Journal_Many_sd
  simp only [Option.isNone_some, cnd_false, nz_some, add_mk, Nat.zero_add]
  refine ⟨0, hj5.at rfl, inR64 (by omega) (by omega), ?_⟩
  rw [show ((0 : Int) + 0 != 0) = false from rfl, cnd_false]
  exact start_JC fun w6 b hd6 hf6 hb => open_JC g5 hd6 hf6 hb fun w7 jb st e O s hJ7 => Power_loop hA hJ7 hK
end
end Go.Proofs.Ytamkecjpcfnpjaa
