/- Text and Parse. Conditions: none. -/
import Derived.Test.YtfclokkfnkieoaaGreatDoorRG
import Derived.Lib.ItoaLen
namespace Go.Proofs.YtfclokkfnkieoaaGreatDoor
open Go Pw

/-- A number's text; none of what is not right. -/
def textQ (n d : Int) : List UInt8 := if rightP n d then textL n d else []

theorem itoa_len {n : Int} (h : I64 n) : (Lib.itoa n).length ≤ 21 := Lib.itoa_length_le n h.1 (by have := h.2; omega)

theorem ofL_size (l : List UInt8) : (ofL l).size = l.length := by rw [← bl_length, bl_ofL]

section
variable {w w' w0 : World}

theorem Text_spec {n d : Int} {K : ByteArray → World → Prop} (hn : I64 n) (hd : I64 d) (g : Gl w) (hK : ∀ w', Fr F0 w w' → K (ofL (textQ n d)) w') : ratio_Text_sh n d K w := by
  unfold textQ textL at hK
  refine ⟨?_⟩
  unfold ratio_Text_sd
  intro w1
  have m : Mem w w1 _ := Mem.nil.alloc
  clear_value w1
  refine ⟨_, m.ld 0 rfl rfl, _, m.ld 0 rfl rfl, Right_spec hn hd fun w2 hf => ?_⟩
  have m := m.fr hf
  by_cases hr : rightP n d
  · rw [if_pos hr] at hK
    rw [decide_eq_true hr, Bool.not_true, cnd_false]
    refine ⟨_, m.ld 0 rfl rfl, ?_⟩
    rw [cnd_beq]
    constructor
    · intro h1
      rw [if_pos h1] at hK
      exact ⟨_, m.ld 0 rfl rfl, strconv_Itoa_spec hn (g.fr m.1) fun w3 hf3 => hK w3 (Fr0.t m.1 hf3)⟩
    · intro h1
      rw [if_neg h1] at hK
      intro w3
      have m : Mem w w3 _ := m.drew
      clear_value w3
      have l1 := itoa_len hn
      have l2 := itoa_len hd
      refine ⟨fun u => Rs u _, m.sub 0 rfl, _, fun _ h => h.ld 0 rfl rfl, _, fun _ h => h.ld 0 rfl rfl, strconv_Itoa_spec hn (g.fr m.1) fun w4 hf4 => ?_⟩
      have m := m.fr hf4
      have e1 : (str [47]).size = 1 := by decide
      refine ⟨m.sub 0 rfl, ?_, strconv_Itoa_spec hd (g.fr m.1) fun w5 hf5 => ?_⟩
      · rw [ofL_size, e1]
        unfold maxI
        omega
      · have m := m.fr hf5
        have e : (ofL (Lib.itoa n) ++ str [47]) ++ ofL (Lib.itoa d) = ofL (Lib.itoa n ++ 47 :: Lib.itoa d) := by
          apply bl_inj
          rw [bl_append, bl_append, bl_ofL, bl_ofL, bl_ofL, List.append_assoc]
          rfl
        have es : (ofL (Lib.itoa n) ++ str [47]).size = (Lib.itoa n).length + 1 := by
          rw [ByteArray.size_append, ofL_size, e1]
        refine ⟨m.sub 0 rfl, ?_, ?_⟩
        · rw [es, ofL_size]
          unfold maxI
          omega
        · rw [e]
          exact hK w5 m.1
  · rw [if_neg hr] at hK
    rw [decide_eq_false hr, Bool.not_false, cnd_true]
    exact hK w2 m.1

/-- What a text is the text of. -/
def IsText (l : List UInt8) : Prop := ∃ n d, rightP n d ∧ I64 n ∧ I64 d ∧ textL n d = l

theorem Parse_k1 {l : List (Nat × List Value)} {t : Nat} {x y : Value} {K : Int → Int → Bool → World → Prop} (m : Mem w0 w l) (j : Nat) (hj : l[j]? = some (t, [x, y])) (hK : ∀ w', Fr F0 w0 w' → K 0 1 false w') : ratio_Parse_k1 ⟨t, 0, none⟩ K w :=
  ⟨zero_spec fun _ hf => put2b (m.fr hf) j hj hK⟩

theorem Parse_k0 {s : ByteArray} {n d : Int} {t a : Nat} {x y e f : Value} {K : Int → Int → Bool → World → Prop} (hn : I64 n) (hd : I64 d) (g : Gl w0) (hs0 : bl s ≠ [])
    (m : Mem w0 w [(a, [.int .i64 n, .int .i64 d]), (t, [x, y])]) (he : e = .nilIface ∨ ∃ t u, e = .iface t u) (hf : f = .nilIface ∨ ∃ t u, f = .iface t u)
    (hgood : e = .nilIface → f = .nilIface → rightP n d → textL n d = bl s → ∀ w', Fr F0 w0 w' → K n d true w')
    (hbad : ¬ (e = .nilIface ∧ f = .nilIface ∧ rightP n d ∧ textL n d = bl s) → ∀ w', Fr F0 w0 w' → K 0 1 false w') : ratio_Parse_k0 s ⟨t, 0, none⟩ ⟨a, 0, none⟩ e f K w := by
  refine ⟨?_⟩
  unfold ratio_Parse_k0d
  rcases he with rfl | ⟨t1, u1, rfl⟩
  · rw [nif_nil, Bool.not_true, cnd_false]
    rcases hf with rfl | ⟨t1, u1, rfl⟩
    · rw [nif_nil, Bool.not_true, cnd_false]
      refine ⟨_, m.ld 0 rfl rfl, _, m.ld 0 rfl rfl, Text_spec hn hd (g.fr m.1) fun w2 hf2 => ?_⟩
      have m := m.fr hf2
      have hq : (ofL (textQ n d) = s) ↔ (rightP n d ∧ textL n d = bl s) := by
        rw [show (ofL (textQ n d) = s) ↔ (textQ n d = bl s) from ⟨fun h => by rw [← h, bl_ofL], fun h => by rw [h, ofL_bl]⟩]
        unfold textQ
        constructor
        · intro h
          by_cases hr : rightP n d
          · rw [if_pos hr] at h
            exact ⟨hr, h⟩
          · rw [if_neg hr] at h
            exact absurd h.symm hs0
        · rintro ⟨hr, h⟩
          rw [if_pos hr]
          exact h
      by_cases hs : rightP n d ∧ textL n d = bl s
      · rw [decide_eq_true (hq.2 hs), Bool.not_true, cnd_false]
        refine ⟨_, m.ld 0 rfl rfl, _, m.ld 0 rfl rfl, put2b m 1 rfl fun w3 hf3 => hgood rfl rfl hs.1 hs.2 w3 hf3⟩
      · rw [decide_eq_false (fun h => hs (hq.1 h)), Bool.not_false, cnd_true]
        exact Parse_k1 m 1 rfl (hbad fun h => hs h.2.2)
    · rw [nif_if, Bool.not_false, cnd_true]
      exact Parse_k1 m 1 rfl (hbad fun h => by cases h.2.1)
  · rw [nif_if, Bool.not_false, cnd_true]
    exact Parse_k1 m 1 rfl (hbad fun h => by cases h.1)
end

theorem atoi_I64 {l : List UInt8} {v : Int} (h : Lib.atoiAll l = .ok v) : I64 v := by
  obtain ⟨h1, h2⟩ := Lib.atoiAll_bounds h
  exact ⟨by omega, by omega⟩

theorem str_slash : bl (str [47]) = [47] := by rw [bl_str]; rfl

section
variable {w w' w0 : World}

theorem Parse_spec {s : ByteArray} {K : Int → Int → Bool → World → Prop} (hs : s.size ≤ 281474976710656) (g : Gl w)
    (hgood : ∀ n d, rightP n d → I64 n → I64 d → textL n d = bl s → ∀ w', Fr F0 w w' → K n d true w')
    (hbad : ¬ IsText (bl s) → ∀ w', Fr F0 w w' → K 0 1 false w') : ratio_Parse_sh s K w := by
  have hsl := bl_length s
  refine ⟨?_⟩
  unfold ratio_Parse_sd
  intro w1
  have m : Mem w w1 _ := Mem.nil.alloc
  clear_value w1
  refine strings_Cut_spec hs fun w2 hf2 => ?_
  have m := m.fr hf2
  rw [show [UInt8.ofNat 47] = ([47] : List UInt8) from rfl]
  intro w3
  have m : Mem w w3 _ := m.alloc
  clear_value w3
  refine ⟨m.wr 0 rfl rfl, ?_⟩
  intro w4
  have m : Mem w w4 _ := m.set 0 rfl
  clear_value w4
  refine ⟨m.wr 0 rfl rfl, ?_⟩
  intro w5
  have m : Mem w w5 _ := m.set 0 rfl
  clear_value w5
  -- how the text is cut
  have hcut : (∃ a b, bl s = a ++ 47 :: b ∧ (47 : UInt8) ∉ a ∧ Lib.cut (bl s) [47] = (a, b, true)) ∨ ((47 : UInt8) ∉ bl s ∧ Lib.cut (bl s) [47] = (bl s, [], false)) := by
    by_cases h : (47 : UInt8) ∈ bl s
    · obtain ⟨a, b, hab, hna⟩ := mem_first h
      exact .inl ⟨a, b, hab, hna, by rw [hab]; exact cut_hit hna⟩
    · exact .inr ⟨h, cut_miss h⟩
  rcases hcut with ⟨a, b, hab, hna, hc⟩ | ⟨hns, hc⟩
  · rw [hc]
    dsimp -zeta only
    have hne : bl s ≠ [] := by rw [hab]; simp
    have hal : (ofL a).size ≤ 281474976710656 := by rw [ofL_size]; rw [hab] at hsl; simp at hsl; omega
    have hbl : (ofL b).size ≤ 281474976710656 := by rw [ofL_size]; rw [hab] at hsl; simp at hsl; omega
    have key : ∀ n d e f (u : World), Mem w u [(w2.heap.size, [.int .i64 n, .int .i64 d]), (w.heap.size, [.int .i64 0, .int .i64 0])] → I64 n → I64 d → (e = .nilIface ∧ Lib.atoiAll a = .ok n ∨ (∃ t u, e = .iface t u) ∧ ∀ x, Lib.atoiAll a ≠ .ok x) →
        (f = .nilIface ∧ Lib.atoiAll b = .ok d ∨ (∃ t u, f = .iface t u) ∧ ∀ x, Lib.atoiAll b ≠ .ok x) → ratio_Parse_k0 s ⟨w.heap.size, 0, none⟩ ⟨w2.heap.size, 0, none⟩ e f K u := by
      intro n d e f u m hn hd he hf
      refine Parse_k0 hn hd g hne m (he.imp (·.1) (·.1)) (hf.imp (·.1) (·.1)) (fun _ _ hr ht => hgood n d hr hn hd ht) fun hno => hbad ?_
      rintro ⟨n', d', hr, hn', hd', ht⟩
      unfold textL at ht
      split at ht
      · rw [hab] at ht
        exact itoa_noslash n' (by rw [ht]; simp)
      · rename_i hd1
        have hc2 : Lib.cut (bl s) [47] = (Lib.itoa n', Lib.itoa d', true) := by rw [← ht]; exact cut_hit (itoa_noslash n')
        rw [hc] at hc2
        simp only [Prod.mk.injEq, and_true] at hc2
        obtain ⟨rfl, rfl⟩ := hc2
        rw [atoi_itoa hn'.1 hn'.2] at he
        rw [atoi_itoa hd'.1 hd'.2] at hf
        rcases he with ⟨he, h1⟩ | ⟨_, h1⟩
        · rcases hf with ⟨hf, h2⟩ | ⟨_, h2⟩
          · injection h1 with h1
            injection h2 with h2
            subst h1 h2
            exact hno ⟨he, hf, hr, by unfold textL; rw [if_neg hd1]; exact ht⟩
          · exact h2 _ rfl
        · exact h1 _ rfl
    have step2 : ∀ n e (u : World), Mem w u [(w2.heap.size, [.int .i64 n, .int .i64 1]), (w.heap.size, [.int .i64 0, .int .i64 0])] → I64 n → (e = .nilIface ∧ Lib.atoiAll a = .ok n ∨ (∃ t u, e = .iface t u) ∧ ∀ x, Lib.atoiAll a ≠ .ok x) →
        strconv_Atoi_sh (ofL b) (fun (r14 : Int) (r15 : Value) (w13 : World) => wrOk w13 (Addr.mk w2.heap.size 1 none) ∧ 
          (let w16 : World := w13.setCell (Addr.mk w2.heap.size 1 none) (Value.int .i64 r14)
          ratio_Parse_k0 s (Addr.mk w.heap.size 0 none) (Addr.mk w2.heap.size 0 none) e r15 K w16)) u := by
      intro n e u m hn he
      refine strconv_Atoi_spec hbl (g.fr m.1) (fun v w7 hv hf7 => ?_) (fun v t p w7 hI hv hf7 => ?_)
      · have m := m.fr hf7
        rw [bl_ofL] at hv
        refine ⟨m.wr 0 rfl rfl, ?_⟩
        intro w8
        exact key n v e .nilIface w8 (m.set 0 rfl) hn (atoi_I64 hv) he (.inl ⟨rfl, hv⟩)
      · have m := m.fr hf7
        rw [bl_ofL] at hv
        refine ⟨m.wr 0 rfl rfl, ?_⟩
        intro w8
        exact key n v e _ w8 (m.set 0 rfl) hn hI he (.inr ⟨⟨_, _, rfl⟩, hv⟩)
    refine strconv_Atoi_spec hal (g.fr m.1) (fun v w6 hv hf6 => ?_) (fun v t p w6 hI hv hf6 => ?_)
    · have m := m.fr hf6
      rw [bl_ofL] at hv
      refine ⟨m.wr 0 rfl rfl, ?_⟩
      intro w7
      rw [cnd_true]
      exact step2 v _ w7 (m.set 0 rfl) (atoi_I64 hv) (.inl ⟨rfl, hv⟩)
    · have m := m.fr hf6
      rw [bl_ofL] at hv
      refine ⟨m.wr 0 rfl rfl, ?_⟩
      intro w7
      rw [cnd_true]
      exact step2 v _ w7 (m.set 0 rfl) hI (.inr ⟨⟨_, _, rfl⟩, hv⟩)
  · rw [hc]
    dsimp -zeta only
    have hal : (ofL (bl s)).size ≤ 281474976710656 := by rw [ofL_size]; omega
    have hempty : bl s = [] → ∀ x, Lib.atoiAll (bl s) ≠ .ok x := fun h x hx => by rw [h] at hx; cases hx
    have key : ∀ n e (u : World), Mem w u [(w2.heap.size, [.int .i64 n, .int .i64 1]), (w.heap.size, [.int .i64 0, .int .i64 0])] → I64 n → (e = .nilIface ∧ Lib.atoiAll (bl s) = .ok n ∨ (∃ t u, e = .iface t u) ∧ ∀ x, Lib.atoiAll (bl s) ≠ .ok x) →
        ratio_Parse_k0 s ⟨w.heap.size, 0, none⟩ ⟨w2.heap.size, 0, none⟩ e .nilIface K u := by
      intro n e u m hn he
      have hnot : (∀ x, Lib.atoiAll (bl s) ≠ .ok x) → ¬ IsText (bl s) := by
        rintro h ⟨n', d', hr, hn', hd', ht⟩
        unfold textL at ht
        split at ht
        · exact h n' (by rw [← ht]; exact atoi_itoa hn'.1 hn'.2)
        · exact hns (by rw [← ht]; simp)
      by_cases hne : bl s = []
      · rcases he with ⟨_, h1⟩ | ⟨⟨t, p, rfl⟩, h1⟩
        · exact absurd h1 (hempty hne n)
        · refine ⟨?_⟩
          unfold ratio_Parse_k0d
          rw [nif_if, Bool.not_false, cnd_true]
          exact Parse_k1 m 1 rfl (hbad (hnot h1))
      · refine Parse_k0 hn ⟨by decide, by decide⟩ g hne m (he.imp (·.1) (·.1)) (.inl rfl) (fun _ _ hr ht => hgood n 1 hr hn ⟨by decide, by decide⟩ ht) fun hno => hbad ?_
        rcases he with ⟨he, h1⟩ | ⟨_, h1⟩
        · rintro ⟨n', d', hr, hn', hd', ht⟩
          unfold textL at ht
          split at ht
          · rename_i hd1
            subst hd1
            rw [← ht, atoi_itoa hn'.1 hn'.2] at h1
            injection h1 with h1
            subst h1
            exact hno ⟨he, rfl, hr, by unfold textL; rw [if_pos rfl]; exact ht⟩
          · exact hns (by rw [← ht]; simp)
        · exact hnot h1
    refine strconv_Atoi_spec hal (g.fr m.1) (fun v w6 hv hf6 => ?_) (fun v t p w6 hI hv hf6 => ?_)
    · have m := m.fr hf6
      rw [bl_ofL] at hv
      refine ⟨m.wr 0 rfl rfl, ?_⟩
      intro w7
      rw [cnd_false]
      exact key v _ w7 (m.set 0 rfl) (atoi_I64 hv) (.inl ⟨rfl, hv⟩)
    · have m := m.fr hf6
      rw [bl_ofL] at hv
      refine ⟨m.wr 0 rfl rfl, ?_⟩
      intro w7
      rw [cnd_false]
      exact key v _ w7 (m.set 0 rfl) hI (.inr ⟨⟨_, _, rfl⟩, hv⟩)
end
end Go.Proofs.YtfclokkfnkieoaaGreatDoor
