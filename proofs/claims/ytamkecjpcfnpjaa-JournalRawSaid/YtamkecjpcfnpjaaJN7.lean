/- The program's Open: the records' walk. Conditions: none. -/
import Derived.Test.YtamkecjpcfnpjaaJN6
namespace Go.Proofs.Ytamkecjpcfnpjaa
open Go Pw

theorem callV_yield {l : Nat} {vs : List Value} {w : World} {K : VW} (h : Yl Try.prog l vs.toArray w K) : CallV Try.prog (.func (.yield l) #[] #[]) vs w K := by
  unfold CallV
  simpa using h

/-- A round has said that the form is not right. -/
structure BAD (wB w : World) (jb lb l fn d t2 t3 t4 : Nat) (tmps : Array Value) : Prop where
  fr : Fr (fun c => c = jb ∨ c = lb ∨ c = l ∨ c = t2 ∨ c = t3 ∨ c = t4) wB w
  r2 : Row w t2 [.pointer none]
  r3 : Row w t3 [.slice none 0 0]
  r4 : Row w t4 [.int .i64 11]
  lp : w.heap[l]? = some (lrec fn tmps journal_Open_ps2 journal_Open_as2 journal_Open_bd2 d .done (some .ret))

/-- The cells that Open's loop works on: they are different, and lay there when it began. -/
structure Lay (wB : World) (b jb lb l jx t2 t3 t4 : Nat) : Prop where
  hjx : Row wB jx [.pointer (ptr jb)]
  h2 : Row wB t2 [.pointer none]
  h3 : Row wB t3 [.slice none 0 0]
  h4 : Row wB t4 [.int .i64 0]
  ljb : jb < wB.heap.size
  llb : lb < wB.heap.size
  ll : l < wB.heap.size
  o1 : t2 < t3
  o2 : t3 < t4
  o3 : t4 < jb
  o4 : jb < jx
  o5 : jx < lb
  o6 : lb < l

section
variable {wB w w' : World} {b jb lb l fn d jx en t2 t3 t4 : Nat} {tmps : Array Value} {pre : List (List UInt8)} {g : Value}

theorem INV.keep (h : INV wB w b jb lb l fn d tmps en pre) (hf : Fr F0 w w') : INV wB w' b jb lb l fn d tmps en pre := by
  obtain ⟨s, h1, h2, h3⟩ := h.lst
  refine ⟨h.fr.trans hf fun _ h _ => h.elim, hf.row h.row fun h => h, ⟨s, hf.row h1 fun h => h, h2.fr hf fun _ _ h => h, h3⟩, ?_⟩
  have := h.lp
  rw [hf.2.1 l (Array.getElem?_eq_some_iff.1 this).1 fun h => h]
  exact this

theorem round_bad {K' : VW} (h : INV wB w b jb lb l fn d tmps en pre) (hL : Lay wB b jb lb l jx t2 t3 t4) (hag : agrT 77 [(2, (Value.pointer (some ⟨t2, 0, none⟩))), (3, (Value.pointer (some ⟨t3, 0, none⟩))), (4, (Value.pointer (some ⟨t4, 0, none⟩))), (7, (Value.pointer (some ⟨jx, 0, none⟩))), (8, (Value.pointer (some ⟨lb, 0, none⟩))), (48, g)] tmps)
    {r : ByteArray} (hK : ∀ w', BAD wB w' jb lb l fn d t2 t3 t4 tmps → K' (.bool false) w') : Yl Try.prog l #[.string r, .bool false] w K' := by
  refine journal_Open_y2 (fun _ _ => True) ⟨t2, 0, none⟩ ⟨t3, 0, none⟩ ⟨t4, 0, none⟩ ⟨jx, 0, none⟩ ⟨lb, 0, none⟩ g r false hag h.lp ⟨?_⟩
  unfold journal_Open_r2d
  refine ⟨h.lp, ?_⟩
  simp only [Bool.not_false, cnd_true]
  have o1 := hL.o1; have o2 := hL.o2; have o3 := hL.o3; have o4 := hL.o4; have o5 := hL.o5; have o6 := hL.o6
  have ll : l < w.heap.size := Nat.lt_of_lt_of_le hL.ll h.fr.1
  have hp0 : Fr (fun c => c = l) w (w.putObj l (lrec fn tmps journal_Open_ps2 journal_Open_as2 journal_Open_bd2 d .busy none)) := Fr.put rfl
  have hl0 : (w.putObj l (lrec fn tmps journal_Open_ps2 journal_Open_as2 journal_Open_bd2 d .busy none)).heap[l]? = some (lrec fn tmps journal_Open_ps2 journal_Open_as2 journal_Open_bd2 d .busy none) := World.putObj_heap_same ll
  generalize w.putObj l (lrec fn tmps journal_Open_ps2 journal_Open_as2 journal_Open_bd2 d .busy none) = w0 at *
  have hf0 : Fr (fun c => c = jb ∨ c = lb ∨ c = l) wB w0 := h.fr.trans (hp0.mono (G := fun c => c = jb ∨ c = lb ∨ c = l) fun _ h => .inr (.inr h)) fun _ h _ => h
  have a2 := hf0.row hL.h2 (by omega)
  have a3 := hf0.row hL.h3 (by omega)
  have a4 := hf0.row hL.h4 (by omega)
  have f1 : Fr (fun c => c = t2) w0 (w0.setCell ⟨t2, 0, none⟩ (.pointer none)) := Fr.set rfl
  have b2 := a2.set 0 (.pointer none)
  have b3 := f1.row a3 (by omega)
  have b4 := f1.row a4 (by omega)
  refine ⟨a2.wr (by simp), b3.wr (by simp), ?_⟩
  generalize w0.setCell ⟨t2, 0, none⟩ (.pointer none) = w1 at *
  have f2 : Fr (fun c => c = t3) w1 (w1.setCell ⟨t3, 0, none⟩ (.slice none 0 0)) := Fr.set rfl
  have c3 := b3.set 0 (.slice none 0 0)
  have c4 := f2.row b4 (by omega)
  have c2 := f2.row b2 (by omega)
  refine ⟨c4.wr (by simp), ?_⟩
  generalize w1.setCell ⟨t3, 0, none⟩ (.slice none 0 0) = w2 at *
  have f3 : Fr (fun c => c = t4) w2 (w2.setCell ⟨t4, 0, none⟩ (.int .i64 11)) := Fr.set rfl
  have d4 := c4.set 0 (.int .i64 11)
  have d3 := f3.row c3 (by omega)
  have d2 := f3.row c2 (by omega)
  have fall : Fr (fun c => c = t2 ∨ c = t3 ∨ c = t4) w0 (w2.setCell ⟨t4, 0, none⟩ (.int .i64 11)) :=
    ((f1.mono (G := fun c => c = t2 ∨ c = t3 ∨ c = t4) fun _ h => .inl h).trans f2 fun _ h _ => .inr (.inl h)).trans f3 fun _ h _ => .inr (.inr h)
  generalize w2.setCell ⟨t4, 0, none⟩ (.int .i64 11) = w3 at *
  have hl3 : w3.heap[l]? = some (lrec fn tmps journal_Open_ps2 journal_Open_as2 journal_Open_bd2 d .busy none) := by
    rw [fall.2.1 l (Array.getElem?_eq_some_iff.1 hl0).1 (by omega)]; exact hl0
  refine ⟨hl3, hK _ ?_⟩
  have hp3 : Fr (fun c => c = l) w3 (w3.putObj l (lrec fn tmps journal_Open_ps2 journal_Open_as2 journal_Open_bd2 d .done (some .ret))) := Fr.put rfl
  refine ⟨?_, hp3.row d2 (by omega), hp3.row d3 (by omega), hp3.row d4 (by omega), World.putObj_heap_same (Array.getElem?_eq_some_iff.1 hl3).1⟩
  exact ((hf0.mono (G := fun c => c = jb ∨ c = lb ∨ c = l ∨ c = t2 ∨ c = t3 ∨ c = t4) fun c h => by rcases h with h | h | h <;> simp [h]).trans fall fun c h _ => by rcases h with h | h | h <;> simp [h]).trans hp3 fun c h _ => by simp [h]

theorem prs_lt {f : Nat} {c : List UInt8} {a : Nat} (h : a < en) : prs (f + 1) c a en = if en < a + 4 + (valF (readL c a 4) 4).toNat then none
      else (prs f c (a + 4 + (valF (readL c a 4) 4).toNat) en).map (readL c ((a + 4 : Nat) : Int) (valF (readL c a 4) 4) :: ·) := by
  rw [prs, if_pos h]

theorem prs_ge {f : Nat} {c : List UInt8} {a : Nat} (h : ¬ a < en) : prs f c a en = some [] := by
  cases f <;> simp [prs, h]

theorem readL_length (c : List UInt8) (off n : Int) : (readL c off n).length ≤ n.toNat := by
  unfold readL
  split
  · simp
  · simp; omega

theorem records_walk {st : DS} {O : Nat → Prop} {n p re rd : Nat} {K : World → Prop} (hL : Lay wB b jb lb l jx t2 t3 t4)
    (hag : agrT 77 [(2, (Value.pointer (some ⟨t2, 0, none⟩))), (3, (Value.pointer (some ⟨t3, 0, none⟩))), (4, (Value.pointer (some ⟨t4, 0, none⟩))), (7, (Value.pointer (some ⟨jx, 0, none⟩))), (8, (Value.pointer (some ⟨lb, 0, none⟩))), (48, g)] tmps)
    (h : INV wB wB b jb lb l fn d tmps en []) (hd : DI wB b st O) (hF : Fine st n p) (n1 : ¬ O jb) (n2 : ¬ O lb) (n3 : ¬ O l)
    (hre : Row wB re [.int .i64 en]) (hrd : Row wB rd [.pointer (ptr b)]) (e1 : re ≠ jb ∧ re ≠ lb ∧ re ≠ l) (e2 : rd ≠ jb ∧ rd ≠ lb ∧ rd ≠ l) (h64 : 64 ≤ en) (hen : en ≤ 2 ^ 24 + 64)
    (hgood : ∀ rs w', prs (en - 64) st.now 64 en = some rs → INV wB w' b jb lb l fn d tmps en rs → K w')
    (hbad : ∀ w', prs (en - 64) st.now 64 en = none → BAD wB w' jb lb l fn d t2 t3 t4 tmps → K w') :
    journal_records_1_sh (.func (.yield l) #[] #[]) ⟨re, 0, none⟩ ⟨rd, 0, none⟩ K wB := by
  have o1 := hL.o1; have o2 := hL.o2; have o3 := hL.o3; have o4 := hL.o4; have o5 := hL.o5; have o6 := hL.o6
  refine ⟨⟨?_⟩⟩
  refine ⟨fun t w' => ∃ (a f : Nat) (pre : List (List UInt8)), t = a ∧ 64 ≤ a ∧ a ≤ en ∧ en ≤ a + f ∧ prs (en - 64) st.now 64 en = (prs f st.now a en).map (pre ++ ·) ∧ INV wB w' b jb lb l fn d tmps en pre ∧ pre.length ≤ a ∧ byt pre ≤ 4 * (a - 64),
    fun t _ => en - t.toNat, ⟨64, en - 64, [], rfl, Nat.le_refl _, h64, by omega, by simp, h, by simp, by simp [byt]⟩, ?_⟩
  rintro t w1 ⟨a, f, pre, rfl, ha, hae, hfu, hpr, hI, hpl, hby⟩
  unfold journal_records_1_b0
  have hre1 := hI.fr.row hre (by rintro (h | h | h); exact e1.1 h; exact e1.2.1 h; exact e1.2.2 h)
  have hrd1 := hI.fr.row hrd (by rintro (h | h | h); exact e2.1 h; exact e2.2.1 h; exact e2.2.2 h)
  refine ⟨en, hre1.at rfl, ?_⟩
  rw [cnd_prop]
  constructor
  · intro hlt
    have hlt : a < en := by omega
    obtain ⟨f', rfl⟩ : ∃ f', f = f' + 1 := ⟨f - 1, by omega⟩
    rw [prs_lt hlt] at hpr
    have hd1 : DI w1 b st O := hd.fr hI.fr fun c hc h => by
      rcases h with h | h | h
      · exact n1 (h ▸ hc)
      · exact n2 (h ▸ hc)
      · exact n3 (h ▸ hc)
    refine ⟨ptr b, hrd1.at rfl, Read_DI hd1 hF fun w2 hf2 => value_spec (wd := 4) (by omega) ?_⟩
    rw [bl_ofL]
    have hv := valF_four (readL st.now (a : Int) 4)
    generalize hm : valF (readL st.now (a : Int) 4) 4 = m at *
    refine ⟨inR64 (by omega) (by omega), inR64 (by omega) (by omega), en, (hf2.row hre1 fun h => h).at rfl, ?_⟩
    have hI2 := hI.keep hf2
    rw [cnd_prop]
    constructor
    · intro hgt
      rw [if_pos (by omega)] at hpr
      exact callV_yield (round_bad hI2 hL hag fun w3 hB => ⟨false, rfl, hbad w3 hpr hB⟩)
    · intro hle
      rw [if_neg (by omega)] at hpr
      refine ⟨ptr b, (hf2.row hrd1 fun h => h).at rfl, inR64 (by omega) (by omega), Read_DI (hd1.fr hf2 fun _ _ h => h) hF fun w3 hf3 => ?_⟩
      have hI3 := hI2.keep hf3
      have hrl := readL_length st.now ((a : Int) + 4) m
      have hrs : (ofL (readL st.now ((a : Int) + 4) m)).size = (readL st.now ((a : Int) + 4) m).length := by rw [← bl_length, bl_ofL]
      refine callV_yield (round_ok hI3 hag hL.hjx hL.ljb hL.llb hL.ll (by omega) (by omega) (by omega) (by omega) (by omega) (by omega) (by omega) (by omega) (by omega) fun w4 hI4 => ⟨true, rfl, ?_⟩)
      rw [bl_ofL] at hI4
      simp only [Bool.not_true, cnd_false]
      refine ⟨inR64 (by omega) (by omega), inR64 (by omega) (by omega), ⟨by simp, a + 4 + m.toNat, f', pre ++ [readL st.now ((a : Int) + 4) m], by omega, by omega, by omega, by omega, ?_, hI4, by simp; omega, ?_⟩, by omega⟩
      · rw [hpr, show ((a + 4 : Nat) : Int) = (a : Int) + 4 by omega]
        cases prs f' st.now (a + 4 + m.toNat) en <;> simp
      · rw [byt_append]
        simp only [byt]
        omega
  · intro hge
    have hge : ¬ a < en := by omega
    rw [prs_ge hge] at hpr
    simp only [Option.map_some, List.append_nil] at hpr
    exact hgood pre w1 hpr hI
end
end Go.Proofs.Ytamkecjpcfnpjaa
