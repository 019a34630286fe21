/- The program's Open, whole. Conditions: none. -/
import Derived.Test.YtamkecjpcfnpjaaJN8
namespace Go.Proofs.Ytamkecjpcfnpjaa
open Go Pw

section
variable {w w' : World} {b n p t2 t3 t4 : Nat} {st : DS} {O : Nat → Prop} {K : Option Addr → Sl → Int → World → Prop}

theorem open_k1 {m : Nat} (h : DI w b st O) (hF : Fine st n p) (h2 : Row w t2 [.pointer none]) (h3 : Row w t3 [.slice none 0 0]) (h4 : Row w t4 [.int .i64 0]) (o1 : t2 < t3) (o2 : t3 < t4) (hm : m ≤ 2 ^ 24)
    (hbad : prs m st.now 64 (64 + m) = none → ∀ w', Fr (fun c => c = t2 ∨ c = t3 ∨ c = t4) w w' → K none ⟨none, 0, 0⟩ 11 w')
    (hgood : ∀ rs, prs m st.now 64 (64 + m) = some rs → ∀ w' jb s, Row w' jb (jRow b rs.length (byt rs) (64 + m) false) → OwnV 1 w' s (rs.map sv) → (∀ c, inB s c → w.heap.size ≤ c ∧ c ≠ jb) → w.heap.size ≤ jb → Fr (fun c => c = t2 ∨ c = t3 ∨ c = t4) w w' → K (ptr jb) s 0 w') :
    journal_Open_k1 (ptr b) ⟨t2, 0, none⟩ ⟨t3, 0, none⟩ ⟨t4, 0, none⟩ (m : Int) K w := by
  refine ⟨?_⟩
  unfold journal_Open_k1d
  refine ⟨inR64 (by omega) (by omega), ?_⟩
  have q4 := h4.lt
  have a1 : Row (w.alloc (Obj.cells #[(Value.pointer (ptr b)), (Value.int .i64 (0 : Int)), (Value.int .i64 (0 : Int)), (Value.int .i64 ((64 : Int) + m)), (Value.bool false)] 52)) w.heap.size (jRow b 0 0 (64 + m) false) := by
    have e : jRow b 0 0 (64 + m) false = [(Value.pointer (ptr b)), (Value.int .i64 (0 : Int)), (Value.int .i64 (0 : Int)), (Value.int .i64 ((64 : Int) + m)), (Value.bool false)] := by simp [jRow]
    rw [e]; exact Row.new
  have f1 : Fr F0 w (w.alloc (Obj.cells #[(Value.pointer (ptr b)), (Value.int .i64 (0 : Int)), (Value.int .i64 (0 : Int)), (Value.int .i64 ((64 : Int) + m)), (Value.bool false)] 52)) := Fr.alloc
  have s1 : (w.alloc (Obj.cells #[(Value.pointer (ptr b)), (Value.int .i64 (0 : Int)), (Value.int .i64 (0 : Int)), (Value.int .i64 ((64 : Int) + m)), (Value.bool false)] 52)).heap.size = w.heap.size + 1 := by simp
  dsimp only
  generalize w.alloc (Obj.cells #[(Value.pointer (ptr b)), (Value.int .i64 (0 : Int)), (Value.int .i64 (0 : Int)), (Value.int .i64 ((64 : Int) + m)), (Value.bool false)] 52) = w1 at *
  have a2 : Row (w1.alloc (Obj.cells #[Value.pointer none] 27)) w1.heap.size [.pointer none] := Row.new
  have f2 : Fr F0 w1 (w1.alloc (Obj.cells #[Value.pointer none] 27)) := Fr.alloc
  have s2 : (w1.alloc (Obj.cells #[Value.pointer none] 27)).heap.size = w1.heap.size + 1 := by simp
  refine ⟨a2.wr (by simp), ?_⟩
  have b2 := a2.set 0 (.pointer (some ⟨w.heap.size, 0, none⟩))
  have f3 : Fr F0 w1 ((w1.alloc (Obj.cells #[Value.pointer none] 27)).setCell ⟨w1.heap.size, 0, none⟩ (.pointer (some ⟨w.heap.size, 0, none⟩))) := f2.trans (Fr.set (F := fun c => c = w1.heap.size) rfl) fun c hc hlt => by omega
  have s3 : ((w1.alloc (Obj.cells #[Value.pointer none] 27)).setCell ⟨w1.heap.size, 0, none⟩ (.pointer (some ⟨w.heap.size, 0, none⟩))).heap.size = w1.heap.size + 1 := by simp
  generalize (w1.alloc (Obj.cells #[Value.pointer none] 27)).setCell ⟨w1.heap.size, 0, none⟩ (.pointer (some ⟨w.heap.size, 0, none⟩)) = w3 at *
  have b1 := f3.row a1 fun h => h
  have a4 : Row (w3.alloc (Obj.cells #[Value.slice none 0 0] 22)) w3.heap.size [.slice none 0 0] := Row.new
  have f4 : Fr F0 w3 (w3.alloc (Obj.cells #[Value.slice none 0 0] 22)) := Fr.alloc
  have s4 : (w3.alloc (Obj.cells #[Value.slice none 0 0] 22)).heap.size = w3.heap.size + 1 := by simp
  generalize w3.alloc (Obj.cells #[Value.slice none 0 0] 22) = w4 at *
  have c1 := f4.row b1 fun h => h
  have c2 : Row w4 w1.heap.size [.pointer (ptr w.heap.size)] := f4.row b2 fun h => h
  have e0 : ∀ X : Addr → Prop, nz (ptr w.heap.size) X = X ⟨w.heap.size, 0, none⟩ := fun _ => rfl
  refine ⟨ptr w.heap.size, c2.at rfl, ?_⟩
  rw [e0, add_mk, Nat.zero_add]
  refine ⟨(64 : Int) + m, c1.at (by simp [jRow]), ⟨?_⟩⟩
  unfold journal_records_sd
  have a5 : Row (w4.alloc (Obj.cells #[Value.pointer (ptr b)] 25)) w4.heap.size [.pointer (ptr b)] := Row.new
  have f5 : Fr F0 w4 (w4.alloc (Obj.cells #[Value.pointer (ptr b)] 25)) := Fr.alloc
  have s5 : (w4.alloc (Obj.cells #[Value.pointer (ptr b)] 25)).heap.size = w4.heap.size + 1 := by simp
  dsimp only
  generalize w4.alloc (Obj.cells #[Value.pointer (ptr b)] 25) = w5 at *
  have a6 : Row (w5.alloc (Obj.cells #[Value.int .i64 ((64 : Int) + m)] 3)) w5.heap.size [.int .i64 ((64 + m : Nat) : Int)] := by
    have e : ((64 + m : Nat) : Int) = (64 : Int) + m := by omega
    rw [e]; exact Row.new
  have f6 : Fr F0 w5 (w5.alloc (Obj.cells #[Value.int .i64 ((64 : Int) + m)] 3)) := Fr.alloc
  have s6 : (w5.alloc (Obj.cells #[Value.int .i64 ((64 : Int) + m)] 3)).heap.size = w5.heap.size + 1 := by simp
  generalize w5.alloc (Obj.cells #[Value.int .i64 ((64 : Int) + m)] 3) = w6 at *
  have d5 := f6.row a5 fun h => h
  have f46 : Fr F0 w4 w6 := f5.trans f6 fun _ h _ => h
  have f36 : Fr F0 w3 w6 := f4.trans f46 fun _ h _ => h
  have f06 : Fr F0 w w6 := (f1.trans f3 fun _ h _ => h).trans f36 fun _ h _ => h
  have d1 := f46.row c1 fun h => h
  have d2 := f46.row c2 fun h => h
  have d4 := f46.row a4 fun h => h
  refine ⟨⟨⟨38, #[], _, rfl⟩, fun fn tmps hag => ?_⟩⟩
  -- the loop's record
  have f7 : Fr F0 w6 (w6.alloc (.deferred (some []))) := Fr.alloc
  have s7 : (w6.alloc (.deferred (some []))).heap.size = w6.heap.size + 1 := by simp
  have hD : (w6.alloc (.deferred (some []))).heap[w6.heap.size]? = some (.deferred (some [])) := World.alloc_heap_new _ _
  generalize w6.alloc (.deferred (some [])) = w7 at *
  have f8 : Fr F0 w7 (w7.alloc (lrec fn tmps journal_Open_ps2 journal_Open_as2 journal_Open_bd2 w6.heap.size .ready none)) := Fr.alloc
  have s8 : (w7.alloc (lrec fn tmps journal_Open_ps2 journal_Open_as2 journal_Open_bd2 w6.heap.size .ready none)).heap.size = w7.heap.size + 1 := by simp
  have hR : (w7.alloc (lrec fn tmps journal_Open_ps2 journal_Open_as2 journal_Open_bd2 w6.heap.size .ready none)).heap[w6.heap.size + 1]? = some (lrec fn tmps journal_Open_ps2 journal_Open_as2 journal_Open_bd2 w6.heap.size .ready none) := by
    rw [← s7]; exact World.alloc_heap_new _ _
  have hD8 : (w7.alloc (lrec fn tmps journal_Open_ps2 journal_Open_as2 journal_Open_bd2 w6.heap.size .ready none)).heap[w6.heap.size]? = some (.deferred (some [])) := by
    rw [f8.2.1 _ (by omega) fun h => h]; exact hD
  generalize w7.alloc (lrec fn tmps journal_Open_ps2 journal_Open_as2 journal_Open_bd2 w6.heap.size .ready none) = wB at *
  have f6B : Fr F0 w6 wB := f7.trans f8 fun _ h _ => h
  have f0B : Fr F0 w wB := f06.trans f6B fun _ h _ => h
  have hL : Lay wB b w.heap.size w3.heap.size (w6.heap.size + 1) w1.heap.size t2 t3 t4 :=
    ⟨f6B.row d2 fun h => h, f0B.row h2 fun h => h, f0B.row h3 fun h => h, f0B.row h4 fun h => h, by omega, by omega, by omega, o1, o2, by omega, by omega, by omega, by omega⟩
  have hI : INV wB wB b w.heap.size w3.heap.size (w6.heap.size + 1) fn w6.heap.size tmps (64 + m) [] :=
    ⟨Fr.refl, f6B.row d1 fun h => h, ⟨⟨none, 0, 0⟩, f6B.row d4 fun h => h, OwnV.nil, fun c hc => (not_inB hc).elim⟩, hR⟩
  have hlt := h.lt
  have nO : ∀ c, w.heap.size ≤ c → ¬ O c := fun c hc h => by have := hlt c h; omega
  have hm64 : 64 + m - 64 = m := by omega
  refine callV_of journal_records_1_ok (show journal_records_1_sh (.func (.yield (w6.heap.size + 1)) #[] #[]) ⟨w5.heap.size, 0, none⟩ ⟨w4.heap.size, 0, none⟩ _ wB from ?_)
  refine records_walk hL hag hI (h.fr f0B fun _ _ h => h) hF (nO _ (Nat.le_refl _)) (nO _ (by omega)) (nO _ (by omega)) (f6B.row a6 fun h => h) (f6B.row d5 fun h => h) ⟨by omega, by omega, by omega⟩ ⟨by omega, by omega, by omega⟩ (by omega) (by omega)
    (fun rs w' hpr hI' => .inl ⟨hI'.lp, ?_⟩) fun w' hpr hB => .inr ⟨hB.lp, ?_⟩
  · rw [hm64] at hpr
    refine open_out hI' hL hD8 (by omega) (by omega) fun w'' s hr hs hsB hf hk => hgood rs hpr w'' _ s hr hs (fun c hc => ?_) (Nat.le_refl _) ⟨?_, fun c hc hn => ?_, ?_, ?_, ?_⟩
    · have := hsB c hc; omega
    · have := f0B.1; have := hf.1; omega
    · rw [hk c (by omega) (by omega) (by omega) (by omega) (by omega) (fun h => hn (.inl h)) (fun h => hn (.inr (.inl h))) (fun h => hn (.inr (.inr h))), f0B.2.1 c hc fun h => h]
    · rw [hf.2.2.1, f0B.2.2.1]
    · rw [hf.2.2.2.1, f0B.2.2.2.1]
    · rw [hf.2.2.2.2, f0B.2.2.2.2]
  · rw [hm64] at hpr
    have hp0 : Fr (fun c => c = w6.heap.size + 1) w' (w'.putObj (w6.heap.size + 1) (lrec fn tmps journal_Open_ps2 journal_Open_as2 journal_Open_bd2 w6.heap.size .exhausted (some .ret))) := Fr.put rfl
    have g2 := hp0.row hB.r2 (by omega)
    have g3 := hp0.row hB.r3 (by omega)
    have g4 := hp0.row hB.r4 (by omega)
    have hd' : (w'.putObj (w6.heap.size + 1) (lrec fn tmps journal_Open_ps2 journal_Open_as2 journal_Open_bd2 w6.heap.size .exhausted (some .ret))).heap[w6.heap.size]? = some (.deferred (some [])) := by
      have := hB.fr.1
      rw [hp0.2.1 _ (by omega) (by omega), hB.fr.2.1 _ (by omega) (by omega)]; exact hD8
    have hfa := hB.fr.trans (hp0.mono (G := fun c => c = w.heap.size ∨ c = w3.heap.size ∨ c = w6.heap.size + 1 ∨ c = t2 ∨ c = t3 ∨ c = t4) fun c h => by simp [h]) fun _ h _ => h
    dsimp only
    generalize w'.putObj (w6.heap.size + 1) (lrec fn tmps journal_Open_ps2 journal_Open_as2 journal_Open_bd2 w6.heap.size .exhausted (some .ret)) = w9 at *
    have hp1 : Fr (fun c => c = w6.heap.size) w9 (w9.putObj w6.heap.size (.deferred none)) := Fr.put rfl
    refine ⟨hd', none, (hp1.row g2 (by omega)).at rfl, ⟨none, 0, 0⟩, (hp1.row g3 (by omega)).at rfl, 11, (hp1.row g4 (by omega)).at rfl, hbad hpr _ ?_⟩
    refine ((f0B.mono fun _ h => h.elim).trans hfa fun c hc hlt => ?_).trans hp1 fun c hc hlt => by omega
    rcases hc with h | h | h | h | h | h
    · omega
    · omega
    · omega
    · exact .inl h
    · exact .inr (.inl h)
    · exact .inr (.inr h)
end
end Go.Proofs.Ytamkecjpcfnpjaa
