/- The program's Open. Conditions: none. -/
import Derived.Test.YtamkecjpcfnpjaaJN7
namespace Go.Proofs.Ytamkecjpcfnpjaa
open Go Pw

section
variable {w w' : World} {b n p t2 t3 t4 : Nat} {st : DS} {O : Nat → Prop} {K : Option Addr → Sl → Int → World → Prop}

/-- Three results are laid down and read back. -/
theorem three (h2 : ∃ v, Row w t2 [v]) (h3 : ∃ v, Row w t3 [v]) (h4 : ∃ v, Row w t4 [v]) (o1 : t2 < t3) (o2 : t3 < t4) {e : Int}
    (hK : ∀ w', Fr (fun c => c = t2 ∨ c = t3 ∨ c = t4) w w' → K none ⟨none, 0, 0⟩ e w') :
    wrOk w ⟨t2, 0, none⟩ ∧ (let w4 : World := w.setCell ⟨t2, 0, none⟩ (Value.pointer none)
      wrOk w4 ⟨t3, 0, none⟩ ∧ (let w5 : World := w4.setCell ⟨t3, 0, none⟩ (Value.slice none 0 0)
      wrOk w5 ⟨t4, 0, none⟩ ∧ (let w6 : World := w5.setCell ⟨t4, 0, none⟩ (Value.int .i64 e)
      ∃ x7 : Option Addr, w6.cell? ⟨t2, 0, none⟩ = some (Value.pointer x7) ∧ ∃ x8 : Sl, w6.cell? ⟨t3, 0, none⟩ = some (Value.slice x8.p x8.l x8.c) ∧ ∃ x9 : Int, w6.cell? ⟨t4, 0, none⟩ = some (Value.int .i64 x9) ∧ K x7 x8 x9 w6))) := by
  obtain ⟨v2, a2⟩ := h2
  obtain ⟨v3, a3⟩ := h3
  obtain ⟨v4, a4⟩ := h4
  have f1 : Fr (fun c => c = t2) w (w.setCell ⟨t2, 0, none⟩ (.pointer none)) := Fr.set rfl
  have b2 := a2.set 0 (.pointer none)
  have b3 := f1.row a3 (by omega)
  have b4 := f1.row a4 (by omega)
  refine ⟨a2.wr (by simp), b3.wr (by simp), ?_⟩
  generalize w.setCell ⟨t2, 0, none⟩ (.pointer none) = w1 at *
  have f2 : Fr (fun c => c = t3) w1 (w1.setCell ⟨t3, 0, none⟩ (.slice none 0 0)) := Fr.set rfl
  have c3 := b3.set 0 (.slice none 0 0)
  have c4 := f2.row b4 (by omega)
  have c2 := f2.row b2 (by omega)
  refine ⟨c4.wr (by simp), ?_⟩
  generalize w1.setCell ⟨t3, 0, none⟩ (.slice none 0 0) = w2 at *
  have f3 : Fr (fun c => c = t4) w2 (w2.setCell ⟨t4, 0, none⟩ (.int .i64 e)) := Fr.set rfl
  have d4 := c4.set 0 (.int .i64 e)
  have d3 := f3.row c3 (by omega)
  have d2 := f3.row c2 (by omega)
  exact ⟨none, d2.at rfl, ⟨none, 0, 0⟩, d3.at rfl, e, d4.at rfl, hK _ (((f1.mono (G := fun c => c = t2 ∨ c = t3 ∨ c = t4) fun _ h => .inl h).trans f2 fun _ h _ => .inr (.inl h)).trans f3 fun _ h _ => .inr (.inr h))⟩

theorem Open_nil (hK : ∀ w', Fr F0 w w' → K none ⟨none, 0, 0⟩ 1 w') : journal_Open_sh none K w := by
  refine ⟨?_⟩
  unfold journal_Open_sd
  have a1 : Row (w.alloc (Obj.cells #[Value.pointer none] 27)) w.heap.size [.pointer none] := Row.new
  have f1 : Fr F0 w (w.alloc (Obj.cells #[Value.pointer none] 27)) := Fr.alloc
  have s1 : (w.alloc (Obj.cells #[Value.pointer none] 27)).heap.size = w.heap.size + 1 := by simp
  generalize w.alloc (Obj.cells #[Value.pointer none] 27) = w1 at *
  have a2 : Row (w1.alloc (Obj.cells #[Value.slice none 0 0] 22)) w1.heap.size [.slice none 0 0] := Row.new
  have f2 : Fr F0 w1 (w1.alloc (Obj.cells #[Value.slice none 0 0] 22)) := Fr.alloc
  have s2 : (w1.alloc (Obj.cells #[Value.slice none 0 0] 22)).heap.size = w1.heap.size + 1 := by simp
  dsimp only
  generalize w1.alloc (Obj.cells #[Value.slice none 0 0] 22) = w2 at *
  have a3 : Row (w2.alloc (Obj.cells #[Value.int .i64 (0 : Int)] 28)) w2.heap.size [.int .i64 0] := Row.new
  have f3 : Fr F0 w2 (w2.alloc (Obj.cells #[Value.int .i64 (0 : Int)] 28)) := Fr.alloc
  generalize w2.alloc (Obj.cells #[Value.int .i64 (0 : Int)] 28) = w3 at *
  rw [show (none : Option Addr).isNone = true from rfl, cnd_true]
  have g1 := f3.row (f2.row a1 fun h => h) fun h => h
  have g2 := f3.row a2 fun h => h
  refine three ⟨_, g1⟩ ⟨_, g2⟩ ⟨_, a3⟩ (by omega) (by omega) fun w' hf => hK w' ?_
  exact ((f1.trans f2 fun _ h _ => h).trans f3 fun _ h _ => h).trans hf fun c h hlt => by omega

/-- The way out of Open's loop where all records are there. -/
theorem open_out {wB : World} {jb lb l jx fn d en : Nat} {tmps : Array Value} {rs : List (List UInt8)} (hI : INV wB w b jb lb l fn d tmps en rs) (hL : Lay wB b jb lb l jx t2 t3 t4)
    (hd : wB.heap[d]? = some (.deferred (some []))) (hdl : d < l) (hdb : lb < d)
    (hK : ∀ w' s, Row w' jb (jRow b rs.length (byt rs) en false) → OwnV 1 w' s (rs.map sv) → (∀ c, inB s c → wB.heap.size ≤ c) → Fr (fun c => t2 ≤ c) wB w' → (∀ c, c < wB.heap.size → c ≠ jb → c ≠ lb → c ≠ l → c ≠ d → c ≠ t2 → c ≠ t3 → c ≠ t4 → w'.heap[c]? = wB.heap[c]?) → K (ptr jb) s 0 w') :
    (fun (w' : World) => let w65 : World := w'.drew
      ∃ S66 : World → Prop, S66 w65 ∧ ∃ x67 : Option Addr, (∀ w' : World, S66 w' → w'.cell? ⟨jx, 0, none⟩ = some (Value.pointer x67)) ∧ ∃ x68 : Sl, (∀ w' : World, S66 w' → w'.cell? ⟨lb, 0, none⟩ = some (Value.slice x68.p x68.l x68.c)) ∧ wrOk w65 ⟨t2, 0, none⟩ ∧
      (let w69 : World := w65.setCell ⟨t2, 0, none⟩ (Value.pointer x67)
      S66 w69 ∧ wrOk w69 ⟨t3, 0, none⟩ ∧
      (let w70 : World := w69.setCell ⟨t3, 0, none⟩ (Value.slice x68.p x68.l x68.c)
      wrOk w70 ⟨t4, 0, none⟩ ∧
      (let w71 : World := w70.setCell ⟨t4, 0, none⟩ (Value.int .i64 (0 : Int))
      w71.heap[d]? = some (Obj.deferred (some [])) ∧ (let w72 : World := w71.putObj d (Obj.deferred none)
      ∃ x73 : Option Addr, w72.cell? ⟨t2, 0, none⟩ = some (Value.pointer x73) ∧ ∃ x74 : Sl, w72.cell? ⟨t3, 0, none⟩ = some (Value.slice x74.p x74.l x74.c) ∧ ∃ x75 : Int, w72.cell? ⟨t4, 0, none⟩ = some (Value.int .i64 x75) ∧ K x73 x74 x75 w72)))))
    (w.putObj l (lrec fn tmps journal_Open_ps2 journal_Open_as2 journal_Open_bd2 d .exhausted none)) := by
  have o1 := hL.o1; have o2 := hL.o2; have o3 := hL.o3; have o4 := hL.o4; have o5 := hL.o5; have o6 := hL.o6
  have q1 := hL.ljb; have q2 := hL.llb; have q3 := hL.ll
  obtain ⟨s, hs, hso, hsB⟩ := hI.lst
  have hp0 : Fr (fun c => c = l) w (w.putObj l (lrec fn tmps journal_Open_ps2 journal_Open_as2 journal_Open_bd2 d .exhausted none)) := Fr.put rfl
  have hf0 : Fr (fun c => c = jb ∨ c = lb ∨ c = l) wB (w.putObj l (lrec fn tmps journal_Open_ps2 journal_Open_as2 journal_Open_bd2 d .exhausted none)).drew :=
    (hI.fr.trans (hp0.mono (G := fun c => c = jb ∨ c = lb ∨ c = l) fun _ h => .inr (.inr h)) fun _ h _ => h).trans Fr.drew fun _ h _ => h
  have hs0 : Row (w.putObj l (lrec fn tmps journal_Open_ps2 journal_Open_as2 journal_Open_bd2 d .exhausted none)).drew lb _ := hp0.row hs (by omega)
  have hj0 : Row (w.putObj l (lrec fn tmps journal_Open_ps2 journal_Open_as2 journal_Open_bd2 d .exhausted none)).drew jb _ := hp0.row hI.row (by omega)
  have hso0 : OwnV 1 (w.putObj l (lrec fn tmps journal_Open_ps2 journal_Open_as2 journal_Open_bd2 d .exhausted none)).drew s (rs.map sv) := hso.fr hp0 fun c hc he => by have := hsB c hc; omega
  dsimp only
  generalize (w.putObj l (lrec fn tmps journal_Open_ps2 journal_Open_as2 journal_Open_bd2 d .exhausted none)).drew = w1 at *
  have a2 := hf0.row hL.h2 (by omega)
  have a3 := hf0.row hL.h3 (by omega)
  have a4 := hf0.row hL.h4 (by omega)
  have ax := hf0.row hL.hjx (by omega)
  have f1 : Fr (fun c => c = t2) w1 (w1.setCell ⟨t2, 0, none⟩ (.pointer (ptr jb))) := Fr.set rfl
  have b2 := a2.set 0 (.pointer (ptr jb))
  have b3 := f1.row a3 (by omega)
  have b4 := f1.row a4 (by omega)
  have bx := f1.row ax (by omega)
  have bs := f1.row hs0 (by omega)
  refine ⟨fun w' => w'.cell? ⟨jx, 0, none⟩ = some (.pointer (ptr jb)) ∧ w'.cell? ⟨lb, 0, none⟩ = some (.slice s.p s.l s.c), ⟨ax.at rfl, hs0.at rfl⟩, ptr jb, fun w' h => h.1, s, fun w' h => h.2, a2.wr (by simp), ⟨bx.at rfl, bs.at rfl⟩, b3.wr (by simp), ?_⟩
  generalize w1.setCell ⟨t2, 0, none⟩ (.pointer (ptr jb)) = w2 at *
  have f2 : Fr (fun c => c = t3) w2 (w2.setCell ⟨t3, 0, none⟩ (.slice s.p s.l s.c)) := Fr.set rfl
  have c3 := b3.set 0 (.slice s.p s.l s.c)
  have c4 := f2.row b4 (by omega)
  have c2 := f2.row b2 (by omega)
  refine ⟨c4.wr (by simp), ?_⟩
  generalize w2.setCell ⟨t3, 0, none⟩ (.slice s.p s.l s.c) = w3 at *
  have f3 : Fr (fun c => c = t4) w3 (w3.setCell ⟨t4, 0, none⟩ (.int .i64 0)) := Fr.set rfl
  have d4 := c4.set 0 (.int .i64 0)
  have d3 := f3.row c3 (by omega)
  have d2 := f3.row c2 (by omega)
  have fall : Fr (fun c => c = t2 ∨ c = t3 ∨ c = t4) w1 (w3.setCell ⟨t4, 0, none⟩ (.int .i64 0)) :=
    ((f1.mono (G := fun c => c = t2 ∨ c = t3 ∨ c = t4) fun _ h => .inl h).trans f2 fun _ h _ => .inr (.inl h)).trans f3 fun _ h _ => .inr (.inr h)
  generalize w3.setCell ⟨t4, 0, none⟩ (.int .i64 0) = w4 at *
  have hd1 : w1.heap[d]? = some (.deferred (some [])) := by rw [hf0.2.1 d (by omega) (by omega)]; exact hd
  have hb1 := hf0.1
  have hd4 : w4.heap[d]? = some (.deferred (some [])) := by rw [fall.2.1 d (by omega) (by omega)]; exact hd1
  have f5 : Fr (fun c => c = d) w4 (w4.putObj d (.deferred none)) := Fr.put rfl
  have e4 := f5.row d4 (by omega)
  have e3 := f5.row d3 (by omega)
  have e2 := f5.row d2 (by omega)
  refine ⟨hd4, ptr jb, e2.at rfl, s, e3.at rfl, 0, e4.at rfl, hK _ s (f5.row (fall.row hj0 (by omega)) (by omega)) ((hso0.fr fall fun c hc h => ?_).fr f5 fun c hc h => ?_) hsB ?_ fun c hc n1 n2 n3 n4 n5 n6 n7 => ?_⟩
  · have := hsB c hc; omega
  · have := hsB c hc; omega
  · exact ((hf0.mono (G := fun c => t2 ≤ c) fun c h => by omega).trans fall fun c h _ => by omega).trans f5 fun c h _ => by omega
  · have z1 := fall.1
    rw [f5.2.1 c (by omega) (by omega), fall.2.1 c (by omega) (by omega), hf0.2.1 c hc (by omega)]
end
end Go.Proofs.Ytamkecjpcfnpjaa
