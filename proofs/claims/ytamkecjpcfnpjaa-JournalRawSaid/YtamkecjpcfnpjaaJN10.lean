/- What Open does: its law. Conditions: none. -/
import Derived.Test.YtamkecjpcfnpjaaJN9
namespace Go.Proofs.Ytamkecjpcfnpjaa
open Go Pw

section
variable {w w' : World} {b n p : Nat} {st : DS} {O : Nat → Prop} {K : Option Addr → Sl → Int → World → Prop}

theorem Open_spec (h : DI w b st O) (hF : Fine st n p) (hn : n ≤ 2 ^ 38)
    (hoff : st.lim = some 0 → ∀ w', Fr F0 w w' → K none ⟨none, 0, 0⟩ 70 w')
    (hbad : st.lim ≠ some 0 → recsOf st.now = none → ∀ w' O', DI w' b (syncDS st) O' → Fr O w w' → (∀ c, O' c → O c ∨ w.heap.size ≤ c) → K none ⟨none, 0, 0⟩ 11 w')
    (hgood : st.lim ≠ some 0 → ∀ rs, recsOf st.now = some rs → ∀ w' O' jb s, DI w' b (syncDS st) O' → Row w' jb (jRow b rs.length (byt rs) (64 + (hdr st.now).toNat) false) → OwnV 1 w' s (rs.map sv) → (∀ c, inB s c → w.heap.size ≤ c ∧ c ≠ jb ∧ ¬ O' c) →
      w.heap.size ≤ jb → ¬ O' jb → Fr O w w' → (∀ c, O' c → O c ∨ w.heap.size ≤ c) → K (ptr jb) s 0 w') :
    journal_Open_sh (ptr b) K w := by
  refine ⟨?_⟩
  unfold journal_Open_sd
  have a1 : Row (w.alloc (Obj.cells #[Value.pointer none] 27)) w.heap.size [.pointer none] := Row.new
  have f1 : Fr F0 w (w.alloc (Obj.cells #[Value.pointer none] 27)) := Fr.alloc
  have s1 : (w.alloc (Obj.cells #[Value.pointer none] 27)).heap.size = w.heap.size + 1 := by simp
  generalize w.alloc (Obj.cells #[Value.pointer none] 27) = w1 at *
  have a2 : Row (w1.alloc (Obj.cells #[Value.slice none 0 0] 22)) w1.heap.size [.slice none 0 0] := Row.new
  have f2 : Fr F0 w1 (w1.alloc (Obj.cells #[Value.slice none 0 0] 22)) := Fr.alloc
  have s2 : (w1.alloc (Obj.cells #[Value.slice none 0 0] 22)).heap.size = w1.heap.size + 1 := by simp
  dsimp only
  generalize w1.alloc (Obj.cells #[Value.slice none 0 0] 22) = w2 at *
  have a3 : Row (w2.alloc (Obj.cells #[Value.int .i64 (0 : Int)] 28)) w2.heap.size [.int .i64 0] := Row.new
  have f3 : Fr F0 w2 (w2.alloc (Obj.cells #[Value.int .i64 (0 : Int)] 28)) := Fr.alloc
  have s3 : (w2.alloc (Obj.cells #[Value.int .i64 (0 : Int)] 28)).heap.size = w2.heap.size + 1 := by simp
  generalize w2.alloc (Obj.cells #[Value.int .i64 (0 : Int)] 28) = w3 at *
  rw [show (ptr b).isNone = false from rfl, cnd_false]
  have g1 := f3.row (f2.row a1 fun h => h) fun h => h
  have g2 := f3.row a2 fun h => h
  have f03 : Fr F0 w w3 := (f1.trans f2 fun _ h _ => h).trans f3 fun _ h _ => h
  have hlt := h.lt
  have nO : ∀ c, w.heap.size ≤ c → ¬ O c := fun c hc h => by have := hlt c h; omega
  refine Sync_DI (h.fr f03 fun _ _ h => h) hF (by omega) (fun h0 => ?_) fun h0 w4 hd4 hf4 => ?_
  · rw [show ((70 : Int) != 0) = true from rfl, cnd_true]
    refine three ⟨_, g1⟩ ⟨_, g2⟩ ⟨_, a3⟩ (by omega) (by omega) fun w' hf => hoff h0 w' (f03.trans hf fun c h hlt => by omega)
  · rw [show ((0 : Int) != 0) = false from rfl, cnd_false]
    have hF4 := hF.sync h0
    have hf04 : Fr O w w4 := (f03.mono fun _ h => h.elim).trans hf4 fun _ h _ => h
    have hO4 : ∀ c, nw O w3 w4 c → O c ∨ w3.heap.size ≤ c := fun c hc => by
      rcases hc with h | h
      · exact .inl h
      · exact .inr h.1
    have nO4 : ∀ c, w.heap.size ≤ c → c < w3.heap.size → ¬ nw O w3 w4 c := fun c h1 h2 h => by
      rcases hO4 c h with h | h
      · exact nO c h1 h
      · omega
    refine Read_DI hd4 hF4 fun w5 hf5 => value_spec (wd := 8) (by omega) ?_
    rw [bl_ofL]
    have hh : valF (readL (syncDS st).now 0 8) 8 = hdr st.now := rfl
    rw [hh]
    have hd5 := hd4.fr hf5 fun _ _ h => h
    have k1 := hf5.row (hf4.row g1 (nO _ (by omega))) fun h => h
    have k2 := hf5.row (hf4.row g2 (nO _ (by omega))) fun h => h
    have k3 := hf5.row (hf4.row a3 (nO _ (by omega))) fun h => h
    have hf05 : Fr O w w5 := hf04.trans hf5 fun _ h _ => h.elim
    have back : ∀ w', Fr (fun c => c = w.heap.size ∨ c = w1.heap.size ∨ c = w2.heap.size) w5 w' → DI w' b (syncDS st) (nw O w3 w4) ∧ Fr O w w' ∧ ∀ c, nw O w3 w4 c → O c ∨ w.heap.size ≤ c := by
      intro w' hf
      refine ⟨hd5.fr hf fun c hc h => ?_, hf05.trans hf fun c h hlt => by omega, fun c hc => ?_⟩
      · rcases h with h | h | h
        · exact nO4 c (by omega) (by omega) hc
        · exact nO4 c (by omega) (by omega) hc
        · exact nO4 c (by omega) (by omega) hc
      · rcases hO4 c hc with h | h
        · exact .inl h
        · exact .inr (by omega)
    have bad : recsOf st.now = none → journal_Open_k0 ⟨w.heap.size, 0, none⟩ ⟨w1.heap.size, 0, none⟩ ⟨w2.heap.size, 0, none⟩ K w5 := fun hr => ⟨three ⟨_, k1⟩ ⟨_, k2⟩ ⟨_, k3⟩ (by omega) (by omega) fun w' hf => by
      obtain ⟨x1, x2, x3⟩ := back w' hf
      exact hbad h0 hr w' _ x1 x2 x3⟩
    have good : ¬ (hdr st.now < 0 ∨ hdr st.now > 16777216 ∨ (hdr st.now > 0 ∧ 64 + hdr st.now > st.now.length)) → journal_Open_k1 (ptr b) ⟨w.heap.size, 0, none⟩ ⟨w1.heap.size, 0, none⟩ ⟨w2.heap.size, 0, none⟩ (hdr st.now) K w5 := by
      intro hc
      have hrec : recsOf st.now = prs (hdr st.now).toNat st.now 64 (64 + (hdr st.now).toNat) := by
        unfold recsOf; rw [if_neg hc]
      have e : hdr st.now = (((hdr st.now).toNat : Nat) : Int) := by omega
      rw [e]
      refine open_k1 hd5 hF4 k1 k2 k3 (by omega) (by omega) (by omega) (fun hp w' hf => ?_) fun rs hp w' jb s hr hs hsB hjb hf => ?_
      · obtain ⟨x1, x2, x3⟩ := back w' hf
        exact hbad h0 (by rw [hrec]; exact hp) w' _ x1 x2 x3
      · obtain ⟨x1, x2, x3⟩ := back w' hf
        have z4 := hf5.1
        have z5 := hf4.1
        have z6 := f03.1
        have nn : ∀ c, w5.heap.size ≤ c → ¬ nw O w3 w4 c := fun c hc h => by
          have := hd4.lt c h
          omega
        refine hgood h0 rs (by rw [hrec]; exact hp) w' _ jb s x1 ?_ hs (fun c hc => ⟨by have := hsB c hc; omega, (hsB c hc).2, nn c (hsB c hc).1⟩) (by omega) (nn jb hjb) x2 x3
        exact hr
    rw [cnd_prop]
    refine ⟨fun hneg => bad (by unfold recsOf; rw [if_pos (.inl hneg)]), fun h1 => ?_⟩
    rw [cnd_prop]
    refine ⟨fun hbig => bad (by unfold recsOf; rw [if_pos (.inr (.inl hbig))]), fun h2 => ?_⟩
    rw [cnd_prop]
    refine ⟨fun hpos => ⟨inR64 (by omega) (by omega), Size_spec hd5.rep ?_⟩, fun h3 => good (by omega)⟩
    rw [cnd_prop]
    have hl : (syncDS st).now.length = st.now.length := rfl
    exact ⟨fun hgt => bad (by unfold recsOf; rw [if_pos (.inr (.inr ⟨hpos, by omega⟩))]), fun hle => good (by omega)⟩
end
end Go.Proofs.Ytamkecjpcfnpjaa
