/- The law RatioTexts: its contract. Conditions: none. -/
import Derived.Test.YtfclokkfnkieoaaGreatDoorRZA
import Derived.Test.YtfclokkfnkieoaaGreatDoorRL1
import Derived.Test.YtfclokkfnkieoaaGreatDoorRG4
namespace Pw
open Go
theorem Mem.tail {w w0 : World} {l : List (Nat × List Value)} {p : Nat × List Value} (h : Mem w0 w (p :: l)) : Mem w0 w l :=
  ⟨h.1, fun q hq => h.2.1 q (List.mem_cons_of_mem _ hq), (List.pairwise_cons.1 (by simpa using h.2.2.1)).2, fun q hq => h.2.2.2 q (List.mem_cons_of_mem _ hq)⟩
end Pw
namespace Go.Proofs.YtfclokkfnkieoaaGreatDoor
open Go Pw

theorem sameB_refl (n d : Int) (ok : Bool) : sameB n d ok n d ok = true := (sameB_iff (r := ⟨n, d, ok⟩) (s := ⟨n, d, ok⟩)).2 rfl

theorem mx {a b : Nat} (ha : a ≤ 80) (hb : b ≤ 80) : ((a + b : Nat) : Int) ≤ maxI := by
  unfold maxI
  omega

theorem ap_big {A B : ByteArray} (ha : A.size ≤ 80) (hb : B.size ≤ 80) : (A ++ B).size ≤ 140737488351232 := by
  rw [ByteArray.size_append]
  omega

theorem t80 {T : ByteArray} (h : T.size ≤ 41) : T.size ≤ 80 := by omega

theorem ex41 {T : ByteArray} {i j : Nat} (h : T.size ≤ 41) : (T.extract i j).size ≤ 41 := by
  rw [ByteArray.size_extract]
  omega

theorem ex80 {T : ByteArray} {i j : Nat} (h : T.size ≤ 41) : (T.extract i j).size ≤ 80 := t80 (ex41 h)

theorem one80 (c : UInt8) : (ofL [c]).size ≤ 80 := by
  rw [ofL_size]
  simp

theorem ap80 {T : ByteArray} {i j : Nat} (h : T.size ≤ 41) (c : UInt8) : (T.extract i j ++ ofL [c]).size ≤ 80 := by
  have := ex41 (i := i) (j := j) h
  rw [ByteArray.size_append, ofL_size]
  simp only [List.length_cons, List.length_nil]
  omega

theorem text_size {n d : Int} {T : ByteArray} (hn : I64 n) (hd : I64 d) (h : bl T = textL n d) : 0 < T.size ∧ T.size ≤ 41 := by
  have hl := bl_length T
  rw [h] at hl
  have h1 := itoa_20 hn
  have h2 := itoa_20 hd
  have h3 : 0 < (Lib.itoa n).length := List.length_pos_iff.2 (itoa_ne n)
  unfold textL at hl
  split at hl
  · omega
  · simp only [List.length_append, List.length_cons] at hl
    omega

section
variable {w w' w0 : World} {l : List (Nat × List Value)}

theorem Parse_text {s : ByteArray} {n d : Int} {K : Int → Int → Bool → World → Prop} (hs : s.size ≤ 41) (hr : rightP n d) (hn : I64 n) (hd : I64 d) (ht : bl s = textL n d) (g : Gl w) (hK : ∀ w', Fr F0 w w' → K n d true w') : ratio_Parse_sh s K w :=
  Parse_spec (by omega) g (fun n' d' _ hn' hd' ht' w' hf => by
    obtain ⟨rfl, rfl⟩ := textL_inj hn' hd' hn hd (ht'.trans ht)
    exact hK w' hf) fun hno => absurd ⟨n, d, hr, hn, hd, ht.symm⟩ hno

/-- Both readings of a text give the same. -/
theorem Parse2 {s : ByteArray} (hs : s.size ≤ 140737488351232) : ∃ n d ok, (∀ w K, Gl w → (∀ w', Fr F0 w w' → K n d ok w') → ratio_Parse_sh s K w) ∧ ∀ w K, (∀ w', Fr F0 w w' → K n d ok w') → probityref01_Parse_sh s K w := by
  by_cases h : IsText (bl s)
  · obtain ⟨n, d, hr, hn, hd, ht⟩ := id h
    refine ⟨n, d, true, fun w K g hK => Parse_spec (by omega) g (fun n' d' _ hn' hd' ht' w' hf => ?_) fun hno => absurd h hno, fun w K hK => rParse_spec (by omega) (fun n' d' _ hn' hd' ht' w' hf => ?_) fun hno => absurd h hno⟩
    all_goals
      obtain ⟨rfl, rfl⟩ := textL_inj hn' hd' hn hd (ht'.trans ht.symm)
      exact hK w' hf
  · exact ⟨0, 1, false, fun w K g hK => Parse_spec (by omega) g (fun n' d' hr' hn' hd' ht' => absurd ⟨n', d', hr', hn', hd', ht'⟩ h) fun _ => hK, fun w K hK => rParse_spec (by omega) (fun n' d' hr' hn' hd' ht' => absurd ⟨n', d', hr', hn', hd', ht'⟩ h) fun _ => hK⟩

theorem bts_one {b : Nat} {e : Int} {K : ByteArray → Prop} (h : w.cell? ⟨b, 0, none⟩ = some (.int .u8 (IntKind.u8.wrap e))) (hK : ∀ c : UInt8, K (ofL [c])) : btsS ⟨some ⟨b, 0, none⟩, 1, 1⟩ w K := by
  have h0 : 0 ≤ IntKind.u8.wrap e ∧ IntKind.u8.wrap e < 256 := by simp [IntKind.wrap, IntKind.bits, IntKind.signed]; omega
  have hv : Value.int .u8 (IntKind.u8.wrap e) = bv (UInt8.ofNat (IntKind.u8.wrap e).toNat) := by
    unfold bv
    rw [UInt8.toNat_ofNat']
    congr 1
    omega
  refine btsS_rd (l := [UInt8.ofNat (IntKind.u8.wrap e).toNat]) ⟨rfl, fun i hi => ?_⟩ (hK _)
  have : i = 0 := by simp at hi; omega
  subst this
  rw [hv] at h
  exact h

theorem Texts_round {i : Int} {j : Nat} {x : ByteArray} {a b : Addr} {tb : Nat} {cells : List Value} {N : Bool → Addr → Addr → Bool → Addr → Int → World → Prop} {K : Bool → World → Prop} (hi : 0 ≤ i ∧ i < ((6 : Nat) : Int)) (hij : i = j) (hx : cells[j]? = some (.string x)) (hs : x.size ≤ 140737488351232) (g : Gl w0)
    (m : Mem w0 w ((tb, cells) :: l)) (hN : ∀ w', Mem w0 w' ((tb, cells) :: l) → N true a b true ⟨tb, 0, none⟩ (i + 1) w') : probitylaw01_RatioTexts_b1 true a b true ⟨tb, 0, none⟩ i N K w := by
  obtain ⟨n1, d1, ok, hp1, hp2⟩ := Parse2 hs
  have ea : (Addr.mk tb 0 none).add (i.toNat * 1) = ⟨tb, j, none⟩ := by
    rw [hij]
    have e : ((j : Nat) : Int).toNat * 1 = j := by omega
    rw [e]
    simp only [Addr.add, Nat.zero_add]
    split
    · rename_i h0
      rw [h0]
    · rfl
  unfold probitylaw01_RatioTexts_b1
  rw [decide_eq_true (show i < 6 from hi.2), cnd_true]
  refine ⟨⟨hi.1, hi.2⟩, ?_⟩
  refine ⟨_, by rw [ea]; exact m.ld (1 - 1) rfl hx, ?_⟩
  refine hp1 _ _ (g.fr m.1) fun w56 hf => ?_; have m := m.fr hf
  intro w59; have m : Mem w0 w59 _ := m.allocL; clear_value w59
  refine ⟨m.wr 0 rfl rfl, ?_⟩
  intro w60; have m : Mem w0 w60 _ := m.set 0 rfl; clear_value w60; simp only [List.set_cons_zero] at m
  refine ⟨m.wr 0 rfl rfl, ?_⟩
  intro w61; have m : Mem w0 w61 _ := m.set 0 rfl; clear_value w61; simp only [List.set_cons_zero, List.set_cons_succ] at m
  refine ⟨⟨hi.1, hi.2⟩, ?_⟩
  refine ⟨_, by rw [ea]; exact m.ld (2 - 1) rfl hx, ?_⟩
  refine hp2 _ _ fun w63 hf => ?_; have m := m.fr hf
  intro w66; have m : Mem w0 w66 _ := m.allocL; clear_value w66
  refine ⟨m.wr 0 rfl rfl, ?_⟩
  intro w67; have m : Mem w0 w67 _ := m.set 0 rfl; clear_value w67; simp only [List.set_cons_zero] at m
  refine ⟨m.wr 0 rfl rfl, ?_⟩
  intro w68; have m : Mem w0 w68 _ := m.set 0 rfl; clear_value w68; simp only [List.set_cons_zero, List.set_cons_succ] at m
  refine ⟨_, m.ld 1 rfl rfl, ?_⟩
  refine ⟨_, m.ld 1 rfl rfl, ?_⟩
  refine ⟨_, m.ld 0 rfl rfl, ?_⟩
  refine ⟨_, m.ld 0 rfl rfl, ?_⟩
  refine same_spec fun w73 hf => ?_; have m := m.fr hf
  rw [sameB_refl, Bool.not_true, cnd_false]
  refine ⟨inR64 (by omega) (by omega), ?_⟩
  exact hN _ m.tail.tail

theorem Texts_k0 {n d : Int} {tb ab bb : Nat} {s0 s1 s2 s3 s4 s5 : ByteArray} {K : Bool → World → Prop} (m : Mem w0 w ((tb, [.string s0, .string s1, .string s2, .string s3, .string s4, .string s5]) :: l)) (ja jb : Nat) (ha : l[ja]? = some (ab, [.int .i64 n, .int .i64 d])) (hb : l[jb]? = some (bb, [.int .i64 n, .int .i64 d]))
    (h0 : s0.size ≤ 140737488351232) (h1 : s1.size ≤ 140737488351232) (h2 : s2.size ≤ 140737488351232) (h3 : s3.size ≤ 140737488351232) (h4 : s4.size ≤ 140737488351232) (h5 : s5.size ≤ 140737488351232) (g : Gl w0) (hK : ∀ w', Fr F0 w0 w' → K true w') :
    probitylaw01_RatioTexts_k0 true ⟨ab, 0, none⟩ ⟨bb, 0, none⟩ true ⟨tb, 0, none⟩ K w := by
  refine ⟨?_⟩
  unfold probitylaw01_RatioTexts_k0d
  refine ⟨⟨fun i w' => ∃ i' : Nat, i = i' ∧ i' ≤ 6 ∧ Mem w0 w' _, fun i _ => 6 - i.toNat, ⟨0, rfl, by omega, m⟩, ?_⟩⟩
  rintro i w1 ⟨i, rfl, hi, m⟩
  have step : ∀ (j : Nat) (x : ByteArray), j < 6 → i = j → [Value.string s0, .string s1, .string s2, .string s3, .string s4, .string s5][j]? = some (.string x) → x.size ≤ 140737488351232 → probitylaw01_RatioTexts_b1 true ⟨ab, 0, none⟩ ⟨bb, 0, none⟩ true ⟨tb, 0, none⟩ i (fun (up_7' : Bool) (a_8' : Addr) (b_10' : Addr) (ok_11' : Bool) (texts_13' : Addr) (i_14' : Int) (w' : World) => ((up_7' = true ∧ a_8' = ⟨ab, 0, none⟩ ∧ b_10' = ⟨bb, 0, none⟩ ∧ ok_11' = true ∧ texts_13' = ⟨tb, 0, none⟩ ∧ True) ∧ ∃ i' : Nat, i_14' = i' ∧ i' ≤ 6 ∧ Mem w0 w' ((tb, [.string s0, .string s1, .string s2, .string s3, .string s4, .string s5]) :: l)) ∧ 6 - i_14'.toNat < 6 - ((i : Int)).toNat) K w1 := by
    intro j x hj hij hx hs
    exact Texts_round ⟨by omega, by omega⟩ rfl (by rw [hij]; exact hx) hs g m fun w2 m2 => ⟨⟨⟨rfl, rfl, rfl, rfl, rfl, trivial⟩, i + 1, by omega, by omega, m2⟩, by omega⟩
  rcases Nat.lt_or_ge i 6 with hlt | hge
  · have hc : i = 0 ∨ i = 1 ∨ i = 2 ∨ i = 3 ∨ i = 4 ∨ i = 5 := by omega
    rcases hc with h | h | h | h | h | h
    · exact step 0 s0 (by decide) h rfl h0
    · exact step 1 s1 (by decide) h rfl h1
    · exact step 2 s2 (by decide) h rfl h2
    · exact step 3 s3 (by decide) h rfl h3
    · exact step 4 s4 (by decide) h rfl h4
    · exact step 5 s5 (by decide) h rfl h5
  · unfold probitylaw01_RatioTexts_b1
    rw [decide_eq_false (by omega), cnd_false, cnd_true, cnd_true]
    refine ⟨_, m.tail.ld jb hb rfl, _, m.tail.ld jb hb rfl, _, m.tail.ld ja ha rfl, _, m.tail.ld ja ha rfl, ?_⟩
    simpa using hK w1 m.1

theorem Texts_law {p0 p1 p2 q0 q1 : Int} {s : ByteArray} {K : Bool → World → Prop} (g : Gl w) (hp : I64 p0 ∧ I64 p1 ∧ I64 p2) (_ : I64 q0 ∧ I64 q1) (hs : s.size ≤ 140737488351232) (hK : ∀ w', Fr F0 w w' → K true w') : probitylaw01_RatioTexts_sh p0 p1 p2 q0 q1 s K w := by
  refine ⟨?_⟩
  unfold probitylaw01_RatioTexts_sd
  obtain ⟨hp0, hp1, hp2⟩ := hp
  have m : Mem w w [] := Mem.nil
  intro w1; have m : Mem w w1 _ := m.allocL; clear_value w1
  intro w2; have m : Mem w w2 _ := m.allocL; clear_value w2
  refine sanity_spec (g.fr m.1) fun w3 hf => ?_; have m := m.fr hf
  refine ⟨_, m.ld 1 rfl rfl, ?_⟩
  refine ⟨_, m.ld 1 rfl rfl, ?_⟩
  refine ⟨_, m.ld 1 rfl rfl, ?_⟩
  refine Made_spec (by assumption) (by assumption) (by assumption) fun a1 b1 w8 hr1 hn1 hd1 hf => ?_; have m := m.fr hf
  intro w10; have m : Mem w w10 _ := m.allocL; clear_value w10
  refine ⟨m.wr 0 rfl rfl, ?_⟩
  intro w11; have m : Mem w w11 _ := m.set 0 rfl; clear_value w11; simp only [List.set_cons_zero] at m
  refine ⟨m.wr 0 rfl rfl, ?_⟩
  intro w12; have m : Mem w w12 _ := m.set 0 rfl; clear_value w12; simp only [List.set_cons_zero, List.set_cons_succ] at m
  refine ⟨_, m.ld 0 rfl rfl, ?_⟩
  refine ⟨_, m.ld 0 rfl rfl, ?_⟩
  refine Text_spec hn1 hd1 (g.fr m.1) fun w15 hf => ?_; have m := m.fr hf; generalize hT : ofL (textQ a1 b1) = T; have hTl : bl T = textL a1 b1 := (by rw [← hT, bl_ofL]; unfold textQ; rw [if_pos hr1]); have hTs := text_size hn1 hd1 hTl
  refine Parse_text hTs.2 hr1 hn1 hd1 hTl (g.fr m.1) fun w17 hf => ?_; have m := m.fr hf
  intro w20; have m : Mem w w20 _ := m.allocL; clear_value w20
  refine ⟨m.wr 0 rfl rfl, ?_⟩
  intro w21; have m : Mem w w21 _ := m.set 0 rfl; clear_value w21; simp only [List.set_cons_zero] at m
  refine ⟨m.wr 0 rfl rfl, ?_⟩
  intro w22; have m : Mem w w22 _ := m.set 0 rfl; clear_value w22; simp only [List.set_cons_zero, List.set_cons_succ] at m
  refine cnd_beq.2 ⟨fun h => absurd h (by omega), fun _ => ?_⟩
  refine ⟨by decide, ?_⟩
  refine ⟨_, m.ld 2 rfl rfl, ?_⟩
  refine Mod_spec (by omega) (by omega) ?_; have hk0 := Int.emod_nonneg q0 (show (T.size : Int) ≠ 0 by omega); have hk1 := Int.emod_lt_of_pos q0 (show (0 : Int) < T.size by omega); generalize q0 % (T.size : Int) = k at hk0 hk1 ⊢
  intro w26; have m : Mem w w26 _ := m.drew; clear_value w26
  refine ⟨fun u => Rs u _, m.sub 0 rfl, ?_⟩
  refine ⟨by omega, ?_⟩
  refine ⟨by decide, ?_⟩
  refine ⟨_, fun _ h => h.ld 2 rfl rfl, ?_⟩
  refine ⟨inR64 (by omega) (by omega), ?_⟩
  refine ⟨by omega, ?_⟩
  refine ⟨by omega, ?_⟩
  refine ⟨inR64 (by omega) (by omega), ?_⟩
  refine ⟨by omega, ?_⟩
  refine ⟨(mx (ex80 hTs.2) (ex80 hTs.2)), ?_⟩
  refine ⟨(mx (by decide) (t80 hTs.2)), ?_⟩
  refine ⟨(mx (t80 hTs.2) (by decide)), ?_⟩
  refine ⟨(mx (by decide) (t80 hTs.2)), ?_⟩
  refine ⟨?_, ?_⟩
  · intro w29; have m : Mem w w29 _ := m.allocL; clear_value w29
    refine ⟨m.sub 1 rfl, ?_⟩
    refine ⟨?_, ?_⟩
    · refine bts_one (m.ld 0 rfl rfl) fun c => ?_
      refine ⟨m.sub 1 rfl, ?_⟩
      refine ⟨(mx (ex80 hTs.2) (one80 _)), ?_⟩
      refine ⟨(mx (ap80 hTs.2 _) (ex80 hTs.2)), ?_⟩
      intro w31; have m : Mem w w31 _ := m.allocL; clear_value w31
      refine ⟨m.sub 2 rfl, ?_⟩
      refine ⟨m.wr 0 rfl rfl, ?_⟩
      intro w32; have m : Mem w w32 _ := m.set 0 rfl; clear_value w32; simp only [List.set_cons_zero] at m
      refine ⟨m.wr 0 rfl rfl, ?_⟩
      intro w33; have m : Mem w w33 _ := m.set 0 rfl; clear_value w33; simp only [List.set_cons_zero, List.set_cons_succ] at m
      refine ⟨m.wr 0 rfl rfl, ?_⟩
      intro w34; have m : Mem w w34 _ := m.set 0 rfl; clear_value w34; simp only [List.set_cons_zero, List.set_cons_succ] at m
      refine ⟨m.wr 0 rfl rfl, ?_⟩
      intro w35; have m : Mem w w35 _ := m.set 0 rfl; clear_value w35; simp only [List.set_cons_zero, List.set_cons_succ] at m
      refine ⟨m.wr 0 rfl rfl, ?_⟩
      intro w36; have m : Mem w w36 _ := m.set 0 rfl; clear_value w36; simp only [List.set_cons_zero, List.set_cons_succ] at m
      refine ⟨m.wr 0 rfl rfl, ?_⟩
      intro w37; have m : Mem w w37 _ := m.set 0 rfl; clear_value w37; simp only [List.set_cons_zero, List.set_cons_succ] at m
      exact Texts_k0 m 2 1 rfl rfl hs (ap_big (ap80 hTs.2 _) (ex80 hTs.2)) (ap_big (ex80 hTs.2) (ex80 hTs.2)) (ap_big (by decide) (t80 hTs.2)) (ap_big (t80 hTs.2) (by decide)) (ap_big (by decide) (t80 hTs.2)) g hK
    · intro w38; have m : Mem w w38 _ := m.allocL; clear_value w38
      refine ⟨m.sub 2 rfl, ?_⟩
      refine bts_one (m.ld 1 rfl rfl) fun c => ?_
      refine ⟨m.sub 2 rfl, ?_⟩
      refine ⟨(mx (ex80 hTs.2) (one80 _)), ?_⟩
      refine ⟨(mx (ap80 hTs.2 _) (ex80 hTs.2)), ?_⟩
      refine ⟨m.wr 0 rfl rfl, ?_⟩
      intro w40; have m : Mem w w40 _ := m.set 0 rfl; clear_value w40; simp only [List.set_cons_zero] at m
      refine ⟨m.wr 0 rfl rfl, ?_⟩
      intro w41; have m : Mem w w41 _ := m.set 0 rfl; clear_value w41; simp only [List.set_cons_zero, List.set_cons_succ] at m
      refine ⟨m.wr 0 rfl rfl, ?_⟩
      intro w42; have m : Mem w w42 _ := m.set 0 rfl; clear_value w42; simp only [List.set_cons_zero, List.set_cons_succ] at m
      refine ⟨m.wr 0 rfl rfl, ?_⟩
      intro w43; have m : Mem w w43 _ := m.set 0 rfl; clear_value w43; simp only [List.set_cons_zero, List.set_cons_succ] at m
      refine ⟨m.wr 0 rfl rfl, ?_⟩
      intro w44; have m : Mem w w44 _ := m.set 0 rfl; clear_value w44; simp only [List.set_cons_zero, List.set_cons_succ] at m
      refine ⟨m.wr 0 rfl rfl, ?_⟩
      intro w45; have m : Mem w w45 _ := m.set 0 rfl; clear_value w45; simp only [List.set_cons_zero, List.set_cons_succ] at m
      exact Texts_k0 m 2 1 rfl rfl hs (ap_big (ap80 hTs.2 _) (ex80 hTs.2)) (ap_big (ex80 hTs.2) (ex80 hTs.2)) (ap_big (by decide) (t80 hTs.2)) (ap_big (t80 hTs.2) (by decide)) (ap_big (by decide) (t80 hTs.2)) g hK
  · intro w46; have m : Mem w w46 _ := m.allocL; clear_value w46
    refine ⟨m.sub 1 rfl, ?_⟩
    intro w47; have m : Mem w w47 _ := m.allocL; clear_value w47
    refine ⟨m.sub 2 rfl, ?_⟩
    refine bts_one (m.ld 0 rfl rfl) fun c => ?_
    refine ⟨m.sub 2 rfl, ?_⟩
    refine ⟨(mx (ex80 hTs.2) (one80 _)), ?_⟩
    refine ⟨(mx (ap80 hTs.2 _) (ex80 hTs.2)), ?_⟩
    refine ⟨m.wr 1 rfl rfl, ?_⟩
    intro w49; have m : Mem w w49 _ := m.set 1 rfl; clear_value w49; simp only [List.set_cons_zero, List.set_cons_succ] at m
    refine ⟨m.wr 1 rfl rfl, ?_⟩
    intro w50; have m : Mem w w50 _ := m.set 1 rfl; clear_value w50; simp only [List.set_cons_zero, List.set_cons_succ] at m
    refine ⟨m.wr 1 rfl rfl, ?_⟩
    intro w51; have m : Mem w w51 _ := m.set 1 rfl; clear_value w51; simp only [List.set_cons_zero, List.set_cons_succ] at m
    refine ⟨m.wr 1 rfl rfl, ?_⟩
    intro w52; have m : Mem w w52 _ := m.set 1 rfl; clear_value w52; simp only [List.set_cons_zero, List.set_cons_succ] at m
    refine ⟨m.wr 1 rfl rfl, ?_⟩
    intro w53; have m : Mem w w53 _ := m.set 1 rfl; clear_value w53; simp only [List.set_cons_zero, List.set_cons_succ] at m
    refine ⟨m.wr 1 rfl rfl, ?_⟩
    intro w54; have m : Mem w w54 _ := m.set 1 rfl; clear_value w54; simp only [List.set_cons_zero, List.set_cons_succ] at m
    exact Texts_k0 m.tail 1 0 rfl rfl hs (ap_big (ap80 hTs.2 _) (ex80 hTs.2)) (ap_big (ex80 hTs.2) (ex80 hTs.2)) (ap_big (by decide) (t80 hTs.2)) (ap_big (t80 hTs.2) (by decide)) (ap_big (by decide) (t80 hTs.2)) g hK
end
end Go.Proofs.YtfclokkfnkieoaaGreatDoor
