/- The records that contents carry; the program's Open: a round of its loop. Conditions: none. -/
import Derived.Test.YtamkecjpcfnpjaaJN5
namespace Go.Proofs.Ytamkecjpcfnpjaa
open Go Pw

/-- The records from a place on. -/
def prs : Nat → List UInt8 → Nat → Nat → Option (List (List UInt8))
  | 0, _, at', en => if at' < en then none else some []
  | f + 1, c, at', en => if at' < en then
      if en < at' + 4 + (valF (readL c at' 4) 4).toNat then none
      else (prs f c (at' + 4 + (valF (readL c at' 4) 4).toNat) en).map (readL c ((at' + 4 : Nat) : Int) (valF (readL c at' 4) 4) :: ·)
    else some []

def hdr (c : List UInt8) : Int := valF (readL c 0 8) 8

/-- The records that contents carry, if they have the right form. -/
def recsOf (c : List UInt8) : Option (List (List UInt8)) :=
  if hdr c < 0 ∨ hdr c > 16777216 ∨ (hdr c > 0 ∧ 64 + hdr c > c.length) then none
  else prs (hdr c).toNat c 64 (64 + (hdr c).toNat)

def byt : List (List UInt8) → Nat
  | [] => 0
  | r :: l => r.length + 16 + byt l

theorem byt_append (a b : List (List UInt8)) : byt (a ++ b) = byt a + byt b := by
  induction a with
  | nil => simp [byt]
  | cons x a ih => simp [byt, ih]; omega

def sv (l : List UInt8) : Value := .string (ofL l)

/-- What a round of Open's loop leans on: B: where the blocks end that the loop found; s: the list so far. -/
structure INV (wB w : World) (b jb lb l fn d : Nat) (tmps : Array Value) (en : Nat) (pre : List (List UInt8)) : Prop where
  fr : Fr (fun c => c = jb ∨ c = lb ∨ c = l) wB w
  row : Row w jb (jRow b pre.length (byt pre) en false)
  lst : ∃ s : Sl, Row w lb [.slice s.p s.l s.c] ∧ OwnV 1 w s (pre.map sv) ∧ ∀ c, inB s c → wB.heap.size ≤ c
  lp : w.heap[l]? = some (lrec fn tmps journal_Open_ps2 journal_Open_as2 journal_Open_bd2 d .ready none)

theorem Fr.put {F : Nat → Prop} {w : World} {l : Nat} {o : Obj} (h : F l) : Fr F w (w.putObj l o) :=
  ⟨by simp, fun c _ hn => World.putObj_heap_other fun he => hn (he ▸ h), rfl, rfl, rfl⟩

section
variable {wB w : World} {b jb lb l fn d jx en t2 t3 t4 : Nat} {tmps : Array Value} {pre : List (List UInt8)} {g : Value}

theorem round_ok {r : ByteArray} {K' : VW} (h : INV wB w b jb lb l fn d tmps en pre) (hag : agrT 77 [(2, (Value.pointer (some ⟨t2, 0, none⟩))), (3, (Value.pointer (some ⟨t3, 0, none⟩))), (4, (Value.pointer (some ⟨t4, 0, none⟩))), (7, (Value.pointer (some ⟨jx, 0, none⟩))), (8, (Value.pointer (some ⟨lb, 0, none⟩))), (48, g)] tmps)
    (hjx : Row wB jx [.pointer (ptr jb)]) (ljb : jb < wB.heap.size) (llb : lb < wB.heap.size) (ll : l < wB.heap.size) (d1 : jx ≠ jb) (d2 : jx ≠ lb) (d3 : jx ≠ l) (d4 : jb ≠ lb) (d5 : jb ≠ l) (d6 : lb ≠ l)
    (hr : r.size ≤ 2 ^ 24) (hp : pre.length ≤ 2 ^ 30) (hby : byt pre ≤ 2 ^ 40)
    (hK : ∀ w', INV wB w' b jb lb l fn d tmps en (pre ++ [bl r]) → K' (.bool true) w') : Yl Try.prog l #[.string r, .bool true] w K' := by
  refine journal_Open_y2 (fun _ _ => True) ⟨t2, 0, none⟩ ⟨t3, 0, none⟩ ⟨t4, 0, none⟩ ⟨jx, 0, none⟩ ⟨lb, 0, none⟩ g r true hag h.lp ⟨?_⟩
  unfold journal_Open_r2d
  refine ⟨h.lp, ?_⟩
  simp only [Bool.not_true, cnd_false]
  have hp0 : Fr (fun c => c = l) w (w.putObj l (lrec fn tmps journal_Open_ps2 journal_Open_as2 journal_Open_bd2 d .busy none)) := Fr.put rfl
  have hl0 : (w.putObj l (lrec fn tmps journal_Open_ps2 journal_Open_as2 journal_Open_bd2 d .busy none)).heap[l]? = some (lrec fn tmps journal_Open_ps2 journal_Open_as2 journal_Open_bd2 d .busy none) :=
    World.putObj_heap_same (Nat.lt_of_lt_of_le ll h.fr.1)
  generalize w.putObj l (lrec fn tmps journal_Open_ps2 journal_Open_as2 journal_Open_bd2 d .busy none) = w0 at *
  obtain ⟨s, hs, hso, hsB⟩ := h.lst
  have hs0 : Row w0.drew lb _ := hp0.row hs d6
  have hrow0 : Row w0.drew jb _ := hp0.row h.row d5
  have hso0 : OwnV 1 w0.drew s (pre.map sv) := hso.fr hp0 fun c hc he => by have := hsB c hc; omega
  have hjx0 : Row w0.drew jx _ := hp0.row (h.fr.row hjx (by rintro (h | h | h); exact d1 h; exact d2 h; exact d3 h)) d3
  have hl0 : w0.drew.heap[l]? = _ := hl0
  have hf0 : Fr (fun c => c = jb ∨ c = lb ∨ c = l) wB w0.drew := h.fr.trans (hp0.mono (G := fun c => c = jb ∨ c = lb ∨ c = l) fun _ h => .inr (.inr h)) fun _ h _ => h
  generalize w0.drew = w1 at *
  have hb1 := hf0.1
  refine ⟨fun w' => w'.cell? ⟨lb, 0, none⟩ = some (.slice s.p s.l s.c), hs0.at rfl, s, fun w' h => h, ?_⟩
  refine Clone_spec (by omega) fun w2 hf2 => ⟨(hf2.row hs0 fun h => h).at rfl, ?_⟩
  have hf3 : Fr F0 w1 (w2.alloc (Obj.cells #[Value.string r] 9)) := hf2.trans Fr.alloc fun _ h _ => h
  have hx : Row (w2.alloc (Obj.cells #[Value.string r] 9)) w2.heap.size [.string r] := Row.new
  have hb2 := hf2.1
  dsimp only
  generalize w2.alloc (Obj.cells #[Value.string r] 9) = w3 at *
  refine ⟨(hf3.row hs0 fun h => h).at rfl, ?_⟩
  have hsl := hso.len
  simp at hsl
  refine apS_own (us := [.string r]) (hso0.fr hf3 fun _ _ h => h) ⟨rfl, fun i hi => by
    have : i = 0 := by simpa using hi
    subst this
    exact hx.at rfl⟩ (by simp [okC]) rfl (by simp; omega) (by simp; omega) fun s' w4 hs4 hs4l hf4 hB4 => ?_
  have nB : ∀ c, c < wB.heap.size → ¬ inB s c := fun c hc hin => by have := hsB c hin; omega
  have hb3 := hf3.1
  have nB' : ∀ c, inB s' c → wB.heap.size ≤ c := fun c hc => by
    rcases hB4 c hc with h | h
    · exact hsB c h
    · omega
  have hf14 : Fr (inB s) w1 w4 := (hf3.mono fun _ h => h.elim).trans hf4 fun _ h _ => h
  have hlb4 := hf14.row hs0 (nB _ llb)
  have hjb4 := hf14.row hrow0 (nB _ ljb)
  have hjx4 := hf14.row hjx0 (nB _ hjx.lt)
  have hl4 : w4.heap[l]? = some (lrec fn tmps journal_Open_ps2 journal_Open_as2 journal_Open_bd2 d .busy none) := by rw [hf14.2.1 l (by omega) (nB _ ll)]; exact hl0
  refine ⟨hlb4.wr (by simp), ?_⟩
  have g1 := hlb4.set 0 (.slice s'.p s'.l s'.c)
  have hg1 : Fr (fun c => c = lb) w4 (w4.setCell ⟨lb, 0, none⟩ (.slice s'.p s'.l s'.c)) := Fr.set rfl
  have e0 : ∀ X : Addr → Prop, nz (ptr jb) X = X ⟨jb, 0, none⟩ := fun _ => rfl
  refine ⟨ptr jb, (hg1.row hjx4 d2).at rfl, ?_⟩
  simp only [e0, add_mk, Nat.zero_add]
  have g2r := hg1.row hjb4 d4
  refine ⟨pre.length, g2r.at rfl, inR64 (by omega) (by omega), g2r.wr (by simp [jRow]), ?_⟩
  have g2 := g2r.set 1 (.int .i64 ((pre.length : Int) + 1))
  have hg2 : Fr (fun c => c = jb) (w4.setCell ⟨lb, 0, none⟩ (.slice s'.p s'.l s'.c)) ((w4.setCell ⟨lb, 0, none⟩ (.slice s'.p s'.l s'.c)).setCell ⟨jb, 1, none⟩ (.int .i64 ((pre.length : Int) + 1))) := Fr.set rfl
  refine ⟨ptr jb, (hg2.row (hg1.row hjx4 d2) d1).at rfl, ?_⟩
  simp only [e0, add_mk, Nat.zero_add]
  refine ⟨byt pre, g2.at rfl, inR64 (by omega) (by omega), inR64 (by omega) (by omega), g2.wr (by simp [jRow]), ?_⟩
  have g3 := g2.set 2 (.int .i64 ((byt pre : Int) + ((r.size : Int) + 16)))
  have hg3 : Fr (fun c => c = jb) (w4.setCell ⟨lb, 0, none⟩ (.slice s'.p s'.l s'.c)) (((w4.setCell ⟨lb, 0, none⟩ (.slice s'.p s'.l s'.c)).setCell ⟨jb, 1, none⟩ (.int .i64 ((pre.length : Int) + 1))).setCell ⟨jb, 2, none⟩ (.int .i64 ((byt pre : Int) + ((r.size : Int) + 16)))) :=
    hg2.trans (Fr.set (F := fun c => c = jb) rfl) fun _ h _ => h
  have hg4 : Fr (fun c => c = jb ∨ c = lb) w4 (((w4.setCell ⟨lb, 0, none⟩ (.slice s'.p s'.l s'.c)).setCell ⟨jb, 1, none⟩ (.int .i64 ((pre.length : Int) + 1))).setCell ⟨jb, 2, none⟩ (.int .i64 ((byt pre : Int) + ((r.size : Int) + 16)))) :=
    (hg1.mono fun _ h => .inr h).trans hg3 fun _ h _ => .inl h
  have g1' := hg3.row g1 (Ne.symm d4)
  generalize ((w4.setCell ⟨lb, 0, none⟩ (.slice s'.p s'.l s'.c)).setCell ⟨jb, 1, none⟩ (.int .i64 ((pre.length : Int) + 1))).setCell ⟨jb, 2, none⟩ (.int .i64 ((byt pre : Int) + ((r.size : Int) + 16))) = w5 at *
  have hl4lt : l < w4.heap.size := (Array.getElem?_eq_some_iff.1 hl4).1
  have hl5 : w5.heap[l]? = some (lrec fn tmps journal_Open_ps2 journal_Open_as2 journal_Open_bd2 d .busy none) := by rw [hg4.2.1 l hl4lt (by rintro (h | h); exact d5 h.symm; exact d6 h.symm)]; exact hl4
  refine ⟨hl5, hK _ ?_⟩
  have hp5 : Fr (fun c => c = l) w5 (w5.putObj l (lrec fn tmps journal_Open_ps2 journal_Open_as2 journal_Open_bd2 d .ready none)) := Fr.put rfl
  have hb5 := hg4.1
  have hb4 := hf4.1
  have hlen : ((pre ++ [bl r]).length : Int) = (pre.length : Int) + 1 := by simp
  have hbyt : ((byt (pre ++ [bl r]) : Nat) : Int) = (byt pre : Int) + ((r.size : Int) + 16) := by
    rw [byt_append]; simp [byt, bl_length]
  refine ⟨?_, ?_, ⟨s', hp5.row g1' d6, ?_, nB'⟩, World.putObj_heap_same (by omega)⟩
  · refine (hf0.trans hf14 fun c hc hlt => absurd hc (nB _ hlt)).trans ((hg4.mono (G := fun c => c = jb ∨ c = lb ∨ c = l) fun c hc => ?_).trans (hp5.mono (G := fun c => c = jb ∨ c = lb ∨ c = l) fun c hc => .inr (.inr hc)) fun _ h _ => h) fun _ h _ => h
    rcases hc with h | h
    · exact .inl h
    · exact .inr (.inl h)
  · have := hp5.row g3 d5
    unfold jRow
    rw [hlen, hbyt]
    exact this
  · have e : (pre ++ [bl r]).map sv = pre.map sv ++ [.string r] := by simp [sv]
    rw [e]
    refine (hs4.fr hg4 fun c hc h => ?_).fr hp5 fun c hc h => ?_
    · have := nB' c hc
      rcases h with h | h <;> omega
    · have := nB' c hc; omega
end
end Go.Proofs.Ytamkecjpcfnpjaa
