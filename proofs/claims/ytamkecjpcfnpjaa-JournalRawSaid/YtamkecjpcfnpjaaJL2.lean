/- The examples of the chapter, as the laws' own sanity runs them. Conditions: none. -/
import Derived.Test.YtamkecjpcfnpjaaJL1
namespace Go.Proofs.Ytamkecjpcfnpjaa
open Go Pw

section
variable {w w' : World}

theorem rdC_nil : rdC w none 0 ([] : List Value) := ⟨rfl, rfl⟩

theorem lit_rd {L : List (List UInt8)} {n : Nat} (h : Row w n (L.map sv)) : rdC w (some ⟨n, 0, none⟩) L.length (L.map sv) :=
  ⟨by simp, fun i hi => by rw [add_mk, Nat.zero_add]; exact h.at (List.getElem?_eq_getElem hi)⟩

theorem fr_in {F : Nat → Prop} {w0 w1 w2 : World} (h : Fr F0 w0 w1) (h' : Fr F w1 w2) (hk : ∀ c, F c → w0.heap.size ≤ c) : Fr F0 w0 w2 :=
  h.trans h' fun c hc hlt => by have := hk c hc; omega

theorem sanity_k0 {s : Sl} {K : Bool → World → Prop} (hs : OwnV 1 w s (([[97], []] : List (List UInt8)).map sv)) (hK : ∀ w', Fr F0 w w' → K true w') : probitylaw27_sanity_k0 s 0 70 70 0 true K w := by
  refine ⟨?_⟩
  unfold probitylaw27_sanity_k0d
  have hx : Row (w.alloc (Obj.cells #[(Value.string (str [97])), (Value.string (str []))] 9)) w.heap.size (([[97], []] : List (List UInt8)).map sv) := Row.new
  have hf : Fr F0 w (w.alloc (Obj.cells #[(Value.string (str [97])), (Value.string (str []))] 9)) := Fr.alloc
  dsimp only
  generalize w.alloc (Obj.cells #[(Value.string (str [97])), (Value.string (str []))] 9) = w1 at *
  have hrd := (hs.fr hf fun _ _ h => h).rd
  rw [Nat.mul_one] at hrd
  refine Same_spec hrd (lit_rd hx) (by decide) fun w2 hf2 => ?_
  rw [decide_eq_true rfl]
  simp only [cnd_true, beq_self_eq_true]
  exact hK w2 (hf.trans hf2 fun _ h _ => h)

theorem sanity_spec {K : Bool → World → Prop} (hK : ∀ w', Fr F0 w w' → K true w') : probitylaw27_sanity_sh K w := by
  refine ⟨?_⟩
  unfold probitylaw27_sanity_sd
  refine New_JJ fun w1 hd1 hf1 hs1 => ?_
  refine Open_JJ hd1 (fine_new.mono (n' := 0) (Nat.le_refl _) (by omega)) (by omega) (rs := []) recsOf_nil (by simp [newDS]) fun w3 O3 jb s3 hJ3 hC3 hs3 hsB3 hjb3 hf3 hO3 => ?_
  have g3 : Fr F0 w w3 := hf1.trans hf3 fun c hc hlt => by omega
  have b3 : ∀ c, O3 c → w.heap.size ≤ c := fun c hc => by
    rcases hO3 c hc with h | h <;> omega
  have hl3 := hs3.len
  simp at hl3
  have hjbk : w.heap.size ≤ jb := by omega
  have z : ((0 : Int) != 0) = false := rfl
  rw [z, cnd_false, show (ptr jb).isNone = false from rfl, cnd_false, cnd_bne]
  refine ⟨fun h => absurd (by omega) h, fun _ => ?_⟩
  have e1 : byt [] = 0 := rfl
  have n0 : (syncDS newDS).lim = none := rfl
  refine Append_JJ hJ3 hC3 (by omega) (by rw [e1]; decide) (fun hap w7 O7 hJ7 hC7 hf7 hO7 => ?_) fun hap => by
    have := (ap_free (e := endOf newDS.now) (r := bl (str [97])) n0).1
    rw [hap] at this
    cases this
  have n7 := (ap_free (e := endOf newDS.now) (r := bl (str [97])) n0).2
  have hst7 : ∃ st7, (apDS (syncDS newDS) (endOf newDS.now) (bl (str [97]))).1 = st7 := ⟨_, rfl⟩
  obtain ⟨st7, hst7⟩ := hst7
  rw [hst7] at hJ7 hC7 n7
  have hrs7 : ([] ++ [bl (str [97])] : List (List UInt8)) = [[97]] := by decide
  rw [hrs7] at hJ7 hC7
  have g7 : Fr F0 w w7 := g3.trans hf7 fun c hc hlt => by
    rcases hc with h | h
    · have := b3 c h; omega
    · omega
  have s37 := g3.1
  have b7 : ∀ c, O7 c → w.heap.size ≤ c := fun c hc => by
    rcases hO7 c hc with h | h
    · exact b3 c h
    · omega
  rw [z, cnd_false]
  have e2 : byt [[97]] = 17 := rfl
  refine Append_JJ hJ7 hC7 (by omega) (by rw [e2]; decide) (fun hap w9 O9 hJ9 hC9 hf9 hO9 => ?_) fun hap => by
    have := (ap_free (e := endOf newDS.now + 4 + (str [97]).size) (r := bl (str [])) n7).1
    rw [hap] at this
    cases this
  have n9 := (ap_free (e := endOf newDS.now + 4 + (str [97]).size) (r := bl (str [])) n7).2
  obtain ⟨st9, hst9⟩ : ∃ st9, (apDS st7 (endOf newDS.now + 4 + (str [97]).size) (bl (str []))).1 = st9 := ⟨_, rfl⟩
  rw [hst9] at hJ9 hC9 n9
  have hrs9 : ([[97]] ++ [bl (str [])] : List (List UInt8)) = [[97], []] := by decide
  rw [hrs9] at hJ9 hC9
  have s7 := g7.1
  have g9 : Fr F0 w w9 := g7.trans hf9 fun c hc hlt => by
    rcases hc with h | h
    · have := b7 c h; omega
    · omega
  have b9 : ∀ c, O9 c → w.heap.size ≤ c := fun c hc => by
    rcases hO9 c hc with h | h
    · exact b7 c h
    · omega
  obtain ⟨e9, he9⟩ : ∃ e9, endOf newDS.now + 4 + (str [97]).size + 4 + (str []).size = e9 := ⟨_, rfl⟩
  rw [he9] at hJ9 hC9
  rw [z, cnd_false]
  refine Many_spec hJ9.row ?_
  rw [show (((([[97], []] : List (List UInt8)).length : Nat) : Int) != 2) = false from rfl, cnd_false]
  -- the first crash
  have s9 := g9.1
  refine Crash_DI (surv := []) hJ9.di hJ9.fine (by omega) rdC_nil fun w13 hd13 hf13 => ?_
  have g13 : Fr F0 w w13 := g9.trans hf13 fun _ h _ => h
  have c9 := clean_crash_of hC9 []
  refine Open_JJ hd13 ((fine_crash hJ9.fine []).mono (n' := 0) (Nat.le_refl _) (by omega)) (by omega) (rs := [[97], []]) c9 (by simp [crashDS]) fun w15 O15 jb15 s15 hJ15 hC15 hs15 hsB15 hjb15 hf15 hO15 => ?_
  have s13 := g13.1
  have g15 : Fr F0 w w15 := g13.trans hf15 fun c hc hlt => by omega
  have f915 : Fr F0 w9 w15 := hf13.trans hf15 fun c hc hlt => by omega
  have hJ15' := hJ9.fr f915 fun _ _ h => h
  -- the power fails
  refine Fail_DI hJ15'.di fun w19 hd19 hf19 => ?_
  have g19 : Fr F0 w w19 := g15.trans hf19 fun c hc hlt => by have := b9 c hc; omega
  have hJ19 : JJ w19 w.heap.size jb (failDS st9 0) [[97], []] e9 false O9 _ := ⟨hd19, hf19.row hJ15'.row hJ15'.no, hJ15'.no, fine_fail hJ15'.fine (by omega)⟩
  have hC19 := clean_fail hC9 0
  have l19 : (failDS st9 0).lim = some 0 := rfl
  have z19 := hf13.1
  have o13 : ∀ c, inB s15 c → ¬ (O9 c ∨ c = jb) := fun c hc h => by
    have := (hsB15 c hc).1
    rcases h with h | h
    · have := hJ9.di.lt c h; omega
    · have := hJ9.row.lt; omega
  have hs19 := hs15.fr hf19 fun c hc h => o13 c hc (.inl h)
  have e3 : byt [[97], []] = 33 := rfl
  have ap19 : apDS (failDS st9 0) e9 (bl (str [98])) = (failDS st9 0, false) := ap0 l19
  refine Append_JJ hJ19 hC19 (by omega) (by rw [e3]; decide) (fun hap => by rw [ap19] at hap; cases hap) fun _ w20 O20 hJ20 _ _ hf20 hO20 => ?_
  rw [ap19] at hJ20
  have g20 : Fr F0 w w20 := g19.trans hf20 fun c hc hlt => by
    rcases hc with h | h
    · have := b9 c h; omega
    · omega
  have hs20 := hs19.fr hf20 o13
  have he9b := endOf_byt hC9.rec1
  have he9c := hC9.en
  refine Append_broken hJ20 (by omega) (by omega) (by omega) (by rw [e3]; omega) (by decide) fun w22 hf22 => ?_
  have hJ22 := hJ20.fr hf22 fun _ _ h => h
  have g22 : Fr F0 w w22 := g20.trans hf22 fun _ h _ => h
  have hs22 := hs20.fr hf22 fun _ _ h => h
  -- the second crash
  refine Crash_DI (surv := []) hJ22.di hJ22.fine (by omega) rdC_nil fun w24 hd24 hf24 => ?_
  have c24 := clean_crash_of hC19 []
  refine Open_JJ hd24 ((fine_crash hJ22.fine []).mono (n' := 0) (Nat.le_refl _) (by omega)) (by omega) (rs := [[97], []]) c24 (by simp [crashDS]) fun w26 O26 jb26 s26 hJ26 hC26 hs26 hsB26 hjb26 hf26 hO26 => ?_
  have f2226 : Fr F0 w22 w26 := hf24.trans hf26 fun c hc hlt => by omega
  have g26 : Fr F0 w w26 := g22.trans f2226 fun _ h _ => h
  have hs26' := hs22.fr f2226 fun _ _ h => h
  have hx : Row (w26.alloc (Obj.cells #[(Value.string (str [97])), (Value.string (str []))] 9)) w26.heap.size (([[97], []] : List (List UInt8)).map sv) := Row.new
  have hf30 : Fr F0 w26 (w26.alloc (Obj.cells #[(Value.string (str [97])), (Value.string (str []))] 9)) := Fr.alloc
  dsimp only
  generalize w26.alloc (Obj.cells #[(Value.string (str [97])), (Value.string (str []))] 9) = w30 at *
  have hrd := (hs26.fr hf30 fun _ _ h => h).rd
  rw [Nat.mul_one] at hrd
  refine Same_spec hrd (lit_rd hx) (by decide) fun w31 hf31 => ?_
  rw [decide_eq_true rfl, cnd_true]
  have f31 : Fr F0 w26 w31 := hf30.trans hf31 fun _ h _ => h
  exact sanity_k0 (hs26'.fr f31 fun _ _ h => h) fun w' hf' => hK w' ((g26.trans f31 fun _ h _ => h).trans hf' fun _ h _ => h)
end
end Go.Proofs.Ytamkecjpcfnpjaa
