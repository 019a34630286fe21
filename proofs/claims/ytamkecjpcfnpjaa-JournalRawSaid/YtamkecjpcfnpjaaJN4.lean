/- The program's journal: its steps. Conditions: none. -/
import Derived.Test.YtamkecjpcfnpjaaJN3
namespace Go.Proofs.Ytamkecjpcfnpjaa
open Go Pw

/-- What follows a write: its error, or a Sync and that one's. -/
def stepTail (je ee : Nat) (N Nd : World → Prop) (x8 : Int) (w7 : World) : Prop :=
  wrOk w7 ⟨ee, 0, none⟩ ∧
  (let w9 : World := w7.setCell ⟨ee, 0, none⟩ (Value.int .i64 x8)
  ∃ x10 : Int, w9.cell? ⟨ee, 0, none⟩ = some (Value.int .i64 x10) ∧ cnd (x10 != (0 : Int))
    (∃ x11 : Int, w9.cell? ⟨ee, 0, none⟩ = some (Value.int .i64 x11) ∧ wrOk w9 ⟨ee, 0, none⟩ ∧
  (let w12 : World := w9.setCell ⟨ee, 0, none⟩ (Value.int .i64 x11)
  Nd w12))
    (∃ x13 : Option Addr, w9.cell? ⟨je, 0, none⟩ = some (Value.pointer x13) ∧ nz x13 fun a14 => ∃ x15 : Option Addr, w9.cell? a14 = some (Value.pointer x15) ∧ disk_Disk_Sync_sh x15 (fun (r17 : Int) (w16 : World) => wrOk w16 ⟨ee, 0, none⟩ ∧
  (let w18 : World := w16.setCell ⟨ee, 0, none⟩ (Value.int .i64 r17)
  ∃ x19 : Int, w18.cell? ⟨ee, 0, none⟩ = some (Value.int .i64 x19) ∧ cnd (x19 != (0 : Int))
    (∃ x20 : Int, w18.cell? ⟨ee, 0, none⟩ = some (Value.int .i64 x20) ∧ wrOk w18 ⟨ee, 0, none⟩ ∧
  (let w21 : World := w18.setCell ⟨ee, 0, none⟩ (Value.int .i64 x20)
  Nd w21))
    (N w18))) w9))

section
variable {w : World} {b jb je ee many e n p : Nat} {bytes : Int} {br : Bool} {st : DS} {O : Nat → Prop}

theorem tail_fail {N Nd : World → Prop} {x : Int} (he : Row w ee [.int .i64 x]) (hNd : ∀ w', Row w' ee [.int .i64 70] → Fr (fun c => c = ee) w w' → Nd w') : stepTail je ee N Nd 70 w := by
  have h1 := he.set 0 (.int .i64 70)
  refine ⟨he.wr (by simp), 70, h1.at rfl, ?_⟩
  rw [show ((70 : Int) != 0) = true from rfl, cnd_true]
  refine ⟨70, h1.at rfl, h1.wr (by simp), hNd _ (h1.set 0 (.int .i64 70)) ((Fr.set (F := fun c => c = ee) rfl).trans (Fr.set (F := fun c => c = ee) rfl) fun _ h _ => h)⟩

theorem tail_ok {N Nd : World → Prop} {x : Int} (h : DI w b st O) (hF : Fine st n p) (hn : n ≤ 2 ^ 39) (he : Row w ee [.int .i64 x]) (hj : Row w je [.pointer (ptr jb)]) (hr : Row w jb (jRow b many bytes e br))
    (n3 : ¬ O ee) (d1 : je ≠ ee) (d2 : jb ≠ ee)
    (hNd : st.lim = some 0 → ∀ w' O', DI w' b st O' → Row w' ee [.int .i64 70] → Fr (fun c => O c ∨ c = ee) w w' → (∀ c, O' c → O c ∨ w.heap.size ≤ c) → Nd w')
    (hN : st.lim ≠ some 0 → ∀ w' O', DI w' b (syncDS st) O' → Row w' ee [.int .i64 0] → Fr (fun c => O c ∨ c = ee) w w' → (∀ c, O' c → O c ∨ w.heap.size ≤ c) → N w') : stepTail je ee N Nd 0 w := by
  have h1 := he.set 0 (.int .i64 0)
  have hf1 : Fr (fun c => c = ee) w (w.setCell ⟨ee, 0, none⟩ (.int .i64 0)) := Fr.set rfl
  refine ⟨he.wr (by simp), 0, h1.at rfl, ?_⟩
  rw [show ((0 : Int) != 0) = false from rfl, cnd_false]
  have hj1 := hf1.row hj d1
  have hr1 := hf1.row hr d2
  refine ⟨ptr jb, hj1.at rfl, ?_⟩
  simp only [ptr, nz_some]
  refine ⟨ptr b, hr1.at rfl, ?_⟩
  have hd1 := h.fr hf1 fun c hc he => n3 (he ▸ hc)
  refine Sync_DI hd1 hF hn (fun h0 => ?_) fun h0 w2 hd2 hf2 => ?_
  · have h2 := h1.set 0 (.int .i64 70)
    have hf2 : Fr (fun c => c = ee) w ((w.setCell ⟨ee, 0, none⟩ (.int .i64 0)).setCell ⟨ee, 0, none⟩ (.int .i64 70)) := hf1.trans (Fr.set (F := fun c => c = ee) rfl) fun _ h _ => h
    refine ⟨h1.wr (by simp), 70, h2.at rfl, ?_⟩
    rw [show ((70 : Int) != 0) = true from rfl, cnd_true]
    have hf3 := hf2.trans (Fr.set (F := fun c => c = ee) (a := ⟨ee, 0, none⟩) (v := .int .i64 70) rfl) fun _ h _ => h
    exact ⟨70, h2.at rfl, h2.wr (by simp), hNd h0 _ O (h.fr hf3 fun c hc he => n3 (he ▸ hc)) (h2.set 0 (.int .i64 70)) (hf3.mono fun _ h => .inr h) fun c hc => .inl hc⟩
  · have he2 := hf2.row h1 n3
    have h2 := he2.set 0 (.int .i64 0)
    refine ⟨he2.wr (by simp), 0, h2.at rfl, ?_⟩
    rw [show ((0 : Int) != 0) = false from rfl, cnd_false]
    have hf3 : Fr (fun c => c = ee) w2 (w2.setCell ⟨ee, 0, none⟩ (.int .i64 0)) := Fr.set rfl
    have hs1 := hf1.1
    refine hN h0 _ (nw O (w.setCell ⟨ee, 0, none⟩ (.int .i64 0)) w2) (hd2.fr hf3 fun c hc hce => ?_) h2 ?_ fun c hc => ?_
    · subst hce
      rcases hc with hc | hc
      · exact n3 hc
      · have := he.lt
        omega
    · exact ((hf1.mono fun _ h => .inr h).trans (hf2.mono fun _ h => .inl h) fun _ h _ => h).trans (hf3.mono (G := fun c => O c ∨ c = ee) fun _ h => .inr h) fun _ h _ => h
    · rcases hc with hc | hc
      · exact .inl hc
      · exact .inr (Nat.le_trans hs1 hc.1)
end

theorem step_b1 {w : World} {je ee sb i : Nat} {x5 : Value} {N1 : Addr → Addr → Sl → Int → Int → World → Prop} {Nd : Addr → World → Prop} {K : Int → World → Prop} (hi : i < 2) (hx : w.cell? ⟨sb, i, none⟩ = some x5)
    (h : CallV Try.prog x5 [] w fun u w7 => ∃ x8 : Int, u = .int .i64 x8 ∧ stepTail je ee (fun w18 => inR .i64 ((i : Int) + 1) ∧ N1 ⟨je, 0, none⟩ ⟨ee, 0, none⟩ ⟨some ⟨sb, 0, none⟩, 2, 2⟩ 2 ((i : Int) + 1) w18) (Nd ⟨ee, 0, none⟩) x8 w7) :
    journal_Journal_steps_b1 ⟨je, 0, none⟩ ⟨ee, 0, none⟩ ⟨some ⟨sb, 0, none⟩, 2, 2⟩ 2 (i : Int) N1 Nd K w := by
  unfold journal_Journal_steps_b1
  rw [cnd_prop]
  refine ⟨fun _ => ?_, fun h => absurd (by omega) h⟩
  rw [nz_some]
  refine ⟨⟨by omega, show (i : Int) < ((2 : Nat) : Int) by omega⟩, x5, ?_, h⟩
  rw [add_mk, Nat.zero_add, Nat.mul_one, Int.toNat_natCast]
  exact hx

/-- The disk's state ahead of each step. -/
def stg (st : DS) (e : Nat) (r : List UInt8) : Nat → DS
  | 0 => st
  | 1 => syncDS (writeDS st e (enc r))
  | _ => syncDS (writeDS (syncDS (writeDS st e (enc r))) 0 (be 8 (e + 4 + r.length - 64)))

def stgOk (st : DS) (e : Nat) (r : List UInt8) : Nat → Prop
  | 0 => True
  | 1 => st.lim ≠ some 0 ∧ (writeDS st e (enc r)).lim ≠ some 0
  | _ => (st.lim ≠ some 0 ∧ (writeDS st e (enc r)).lim ≠ some 0) ∧ (syncDS (writeDS st e (enc r))).lim ≠ some 0 ∧ (writeDS (syncDS (writeDS st e (enc r))) 0 (be 8 (e + 4 + r.length - 64))).lim ≠ some 0

theorem ap0 {st : DS} {e : Nat} {r : List UInt8} (h : st.lim = some 0) : apDS st e r = (st, false) := by
  unfold apDS; rw [if_pos h]
theorem ap1 {st : DS} {e : Nat} {r : List UInt8} (h : st.lim ≠ some 0) (h1 : (writeDS st e (enc r)).lim = some 0) : apDS st e r = (writeDS st e (enc r), false) := by
  unfold apDS; rw [if_neg h, if_pos h1]
theorem ap2 {st : DS} {e : Nat} {r : List UInt8} (h : stgOk st e r 1) (h1 : (stg st e r 1).lim = some 0) : apDS st e r = (stg st e r 1, false) := by
  have h1 : (syncDS (writeDS st e (enc r))).lim = some 0 := h1
  unfold apDS; rw [if_neg h.1, if_neg h.2, if_pos h1]; rfl
theorem ap3 {st : DS} {e : Nat} {r : List UInt8} (h : stgOk st e r 1) (h1 : (stg st e r 1).lim ≠ some 0) (h2 : (writeDS (stg st e r 1) 0 (be 8 (e + 4 + r.length - 64))).lim = some 0) :
    apDS st e r = (writeDS (stg st e r 1) 0 (be 8 (e + 4 + r.length - 64)), false) := by
  have h1 : (syncDS (writeDS st e (enc r))).lim ≠ some 0 := h1
  have h2 : (writeDS (syncDS (writeDS st e (enc r))) 0 (be 8 (e + 4 + r.length - 64))).lim = some 0 := h2
  unfold apDS; rw [if_neg h.1, if_neg h.2, if_neg h1, if_pos h2]; rfl
theorem ap4 {st : DS} {e : Nat} {r : List UInt8} (h : stgOk st e r 2) : apDS st e r = (stg st e r 2, true) := by
  unfold apDS; rw [if_neg h.1.1, if_neg h.1.2, if_neg h.2.1, if_neg h.2.2]; rfl

section
variable {w : World} {b jb cj cr cx sb many e n p : Nat} {bytes : Int} {st : DS} {O : Nat → Prop}

theorem steps_spec {r : ByteArray} {K : Int → World → Prop} (h : DI w b st O) (hF : Fine st n p) (hn : n ≤ 2 ^ 38) (hp : p ≤ 2 ^ 28) (hr : Row w jb (jRow b many bytes e false))
    (hj : Row w cj [.pointer (ptr jb)]) (hs : Row w cr [.string r]) (hx : Row w cx [.int .i64 ((e + 4 + r.size : Nat) : Int)])
    (hw : Row w sb [.func (.func 30) #[] #[.pointer (some ⟨cj, 0, none⟩), .pointer (some ⟨cr, 0, none⟩)], .func (.func 32) #[] #[.pointer (some ⟨cj, 0, none⟩), .pointer (some ⟨cx, 0, none⟩)]])
    (n1 : ¬ O jb) (n2 : ¬ O cj) (n3 : ¬ O cr) (n4 : ¬ O cx) (n5 : ¬ O sb) (h64 : 64 ≤ e) (hfit : e + 4 + r.size ≤ 2 ^ 24)
    (hK : ∀ w' O', DI w' b (apDS st e (bl r)).1 O' → Row w' jb (jRow b many bytes e (!(apDS st e (bl r)).2)) → Fr (fun c => O c ∨ c = jb) w w' → (∀ c, O' c → O c ∨ w.heap.size ≤ c) → K (if (apDS st e (bl r)).2 then 0 else 70) w') :
    journal_Journal_steps_sh (ptr jb) ⟨some ⟨sb, 0, none⟩, 2, 2⟩ K w := by
  have hrl : (bl r).length = r.size := bl_length r
  refine ⟨?_⟩
  unfold journal_Journal_steps_sd
  have hje : Row (w.alloc (Obj.cells #[Value.pointer (ptr jb)] 27)) w.heap.size [.pointer (ptr jb)] := Row.new
  have hf1 : Fr F0 w (w.alloc (Obj.cells #[Value.pointer (ptr jb)] 27)) := Fr.alloc
  have hs1 : (w.alloc (Obj.cells #[Value.pointer (ptr jb)] 27)).heap.size = w.heap.size + 1 := by simp
  generalize w.alloc (Obj.cells #[Value.pointer (ptr jb)] 27) = w1 at *
  have hee : Row (w1.alloc (Obj.cells #[Value.int .i64 (0 : Int)] 28)) w1.heap.size [.int .i64 0] := Row.new
  have hf2 : Fr F0 w1 (w1.alloc (Obj.cells #[Value.int .i64 (0 : Int)] 28)) := Fr.alloc
  have hs2 : (w1.alloc (Obj.cells #[Value.int .i64 (0 : Int)] 28)).heap.size = w1.heap.size + 1 := by simp
  show journal_Journal_steps_k0 _ ⟨w.heap.size, 0, none⟩ ⟨w1.heap.size, 0, none⟩ _ K (w1.alloc (Obj.cells #[Value.int .i64 (0 : Int)] 28))
  generalize w1.alloc (Obj.cells #[Value.int .i64 (0 : Int)] 28) = w2 at *
  have hje2 := hf2.row hje fun h => h
  have hf02 : Fr F0 w w2 := hf1.trans hf2 fun _ h _ => h
  have hlt := h.lt
  have o1 : ¬ O w.heap.size := fun h => by have := hlt _ h; omega
  have o2 : ¬ O w1.heap.size := fun h => by have := hlt _ h; omega
  have l1 := hr.lt; have l2 := hj.lt; have l3 := hs.lt; have l4 := hx.lt; have l5 := hw.lt
  have hF1 := fun h0 => hF.write (off := e) (s := enc (bl r)) h0 (by rw [enc_length]; omega)
  rw [enc_length] at hF1
  -- behind the steps
  have fin : ∀ w' O' st' x, DI w' b st' O' → Fr (fun c => O c ∨ c = w1.heap.size) w2 w' → (∀ c, O' c → O c ∨ w2.heap.size ≤ c) → Row w' w1.heap.size [.int .i64 x] → (apDS st e (bl r)).1 = st' → x = (if (apDS st e (bl r)).2 then 0 else 70) →
      journal_Journal_steps_1_sh ⟨w.heap.size, 0, none⟩ ⟨w1.heap.size, 0, none⟩ (fun (w'' : World) => ∃ x3 : Int, w''.cell? ⟨w1.heap.size, 0, none⟩ = some (Value.int .i64 x3) ∧ K x3 w'') w' := by
    intro w' O' st' x hd hf hO he hst hxx
    have hr' := hf.row (hf02.row hr fun h => h) (by rintro (h | h); exact n1 h; omega)
    have hj' := hf.row hje2 (by rintro (h | h); exact o1 h; omega)
    refine steps1_call hr' hj' he fun w'' hr'' hf'' => ?_
    have he'' := hf''.row he (by omega)
    refine ⟨x, he''.at rfl, ?_⟩
    have hbr : (false || x != 0) = !(apDS st e (bl r)).2 := by
      rw [hxx]; cases (apDS st e (bl r)).2 <;> rfl
    rw [hbr] at hr''
    rw [hxx]
    refine hK _ O' ?_ hr'' ?_ fun c hc => ?_
    · rw [hst]
      refine hd.fr hf'' fun c hc hcj => ?_
      subst hcj
      rcases hO _ hc with h | h
      · exact n1 h
      · omega
    · have a1 : Fr (fun c => O c ∨ c = jb) w w' := (hf02.mono fun _ h => h.elim).trans hf fun c hc hlt => by
        rcases hc with h | h
        · exact .inl h
        · omega
      exact a1.trans (hf''.mono (G := fun c => O c ∨ c = jb) fun _ h => .inr h) fun _ h _ => h
    · rcases hO c hc with h | h
      · exact .inl h
      · exact .inr (by omega)
  refine ⟨⟨?_⟩⟩
  refine ⟨fun t w' => ∃ (i : Nat) (O' : Nat → Prop) (x : Int), t = i ∧ i ≤ 2 ∧ DI w' b (stg st e (bl r) i) O' ∧ stgOk st e (bl r) i ∧ Fr (fun c => O c ∨ c = w1.heap.size) w2 w' ∧ (∀ c, O' c → O c ∨ w2.heap.size ≤ c) ∧ Row w' w1.heap.size [.int .i64 x] ∧ (i = 2 → x = 0),
    fun t _ => 2 - t.toNat, ⟨0, O, 0, rfl, by omega, h.fr hf02 fun _ _ h => h, trivial, Fr.refl, fun c hc => .inl hc, hee, fun h => by omega⟩, ?_⟩
  rintro t w3 ⟨i, O', x, rfl, hi, hd, hok, hf, hO, he, hx0⟩
  have hf03 : Fr (fun c => O c ∨ c = w1.heap.size) w w3 := (hf02.mono fun _ h => h.elim).trans hf fun _ h _ => h
  have hj3 := hf03.row hj (by rintro (h | h); exact n2 h; omega)
  have hs3 := hf03.row hs (by rintro (h | h); exact n3 h; omega)
  have hx3 := hf03.row hx (by rintro (h | h); exact n4 h; omega)
  have hw3 := hf03.row hw (by rintro (h | h); exact n5 h; omega)
  have hr3 := hf03.row hr (by rintro (h | h); exact n1 h; omega)
  have hje3 := hf.row hje2 (by rintro (h | h); exact o1 h; omega)
  have nO : ∀ c, ¬ O c → c < w2.heap.size → ¬ O' c := fun c hc hl h => by
    rcases hO c h with h | h
    · exact hc h
    · omega
  by_cases hi2 : i < 2
  · refine step_b1 hi2 (x5 := if i = 0 then .func (.func 30) #[] #[.pointer (some ⟨cj, 0, none⟩), .pointer (some ⟨cr, 0, none⟩)] else .func (.func 32) #[] #[.pointer (some ⟨cj, 0, none⟩), .pointer (some ⟨cx, 0, none⟩)]) ?_ ?_
    · have : i = 0 ∨ i = 1 := by omega
      rcases this with rfl | rfl
      · exact hw3.at rfl
      · exact hw3.at rfl
    -- what a step's end is shown by
    have glue : ∀ (w7 : World) (O7 : Nat → Prop), Fr O' w3 w7 → (∀ c, O7 c → O' c ∨ w3.heap.size ≤ c) → Fr (fun c => O c ∨ c = w1.heap.size) w2 w7 ∧ (∀ c, O7 c → O c ∨ w2.heap.size ≤ c) ∧ (∀ c, ¬ O c → c < w2.heap.size → ¬ O7 c) := by
      intro w7 O7 hf7 hO7
      have h3 := hf.1
      have hO7' : ∀ c, O7 c → O c ∨ w2.heap.size ≤ c := fun c hc => by
        rcases hO7 c hc with h | h
        · exact hO c h
        · exact .inr (by omega)
      refine ⟨hf.trans hf7 fun c hc hlt => ?_, hO7', fun c hc hl h => ?_⟩
      · rcases hO c hc with h | h
        · exact .inl h
        · omega
      · rcases hO7' c h with h | h
        · exact hc h
        · omega
    have hFi : ∃ n' p', Fine (stg st e (bl r) i) n' p' ∧ n' ≤ 2 ^ 38 + 2 ∧ p' ≤ 2 ^ 28 := by
      have : i = 0 ∨ i = 1 := by omega
      rcases this with rfl | rfl
      · exact ⟨n, p, hF, by omega, hp⟩
      · exact ⟨_, 0, (hF1 hok.1).sync hok.2, by omega, by omega⟩
    obtain ⟨n', p', hF', hn', hp'⟩ := hFi
    have hi2 : i = 0 ∨ i = 1 := by omega
    rcases hi2 with rfl | rfl
    · refine callV_of journal_Journal_Append_1_ok (show journal_Journal_Append_1_sh ⟨cj, 0, none⟩ ⟨cr, 0, none⟩ _ w3 from ?_)
      refine Append1_call hd hF' (by omega) (by omega) hr3 hj3 hs3 (nO _ n1 (by omega)) (nO _ n2 (by omega)) (nO _ n3 (by omega)) hfit (fun h0 w7 hf7 => ⟨70, rfl, ?_⟩) fun h0 w7 O7 hd7 hf7 hO7 => ⟨0, rfl, ?_⟩
      · refine tail_fail (je := w.heap.size) (hf7.row he fun h => h) fun w8 he8 hf8 => ?_
        obtain ⟨g1, g2, g3⟩ := glue w7 O' (hf7.mono fun _ h => h.elim) fun c hc => .inl hc
        refine fin w8 O' st 70 ((hd.fr hf7 fun _ _ h => h).fr hf8 fun c hc hce => g3 _ o2 (by omega) (hce ▸ hc)) (g1.trans (hf8.mono (G := fun c => O c ∨ c = w1.heap.size) fun _ h => .inr h) fun _ h _ => h) g2 he8 ?_ ?_
        · exact congrArg Prod.fst (ap0 (st := st) h0)
        · rw [ap0 (st := st) h0]; rfl
      · obtain ⟨g1, g2, g3⟩ := glue w7 O7 hf7 hO7
        have hFw : Fine (writeDS st e (enc (bl r))) (n + 1) (p + (4 + (bl r).length)) := hF1 h0
        refine tail_ok (je := w.heap.size) hd7 hFw (by omega) (hf7.row he (nO _ o2 (by omega))) (hf7.row hje3 (nO _ o1 (by omega))) (hf7.row hr3 (nO _ n1 (by omega))) (g3 _ o2 (by omega)) (by omega) (by omega) (fun hl w8 O8 hd8 he8 hf8 hO8 => ?_) fun hl w8 O8 hd8 he8 hf8 hO8 => ?_
        · have h7 := g1.1
          refine fin w8 O8 _ 70 hd8 (g1.trans hf8 fun c hc hlt => ?_) (fun c hc => ?_) he8 ?_ ?_
          · rcases hc with h | h
            · rcases g2 c h with h | h
              · exact .inl h
              · omega
            · exact .inr h
          · rcases hO8 c hc with h | h
            · exact g2 c h
            · exact .inr (by omega)
          · exact congrArg Prod.fst (ap1 (st := st) h0 hl)
          · rw [ap1 (st := st) h0 hl]; rfl
        · have h7 := g1.1
          refine ⟨inR64 (by omega) (by omega), ⟨by simp, 1, O8, 0, by omega, by omega, hd8, ⟨h0, hl⟩, g1.trans hf8 fun c hc hlt => ?_, fun c hc => ?_, he8, fun h => by omega⟩, by dsimp only; omega⟩
          · rcases hc with h | h
            · rcases g2 c h with h | h
              · exact .inl h
              · omega
            · exact .inr h
          · rcases hO8 c hc with h | h
            · exact g2 c h
            · exact .inr (by omega)
    · refine callV_of journal_Journal_Append_2_ok (show journal_Journal_Append_2_sh ⟨cj, 0, none⟩ ⟨cx, 0, none⟩ _ w3 from ?_)
      have hbe : be 8 (e + 4 + r.size - 64) = be 8 (e + 4 + (bl r).length - 64) := by rw [hrl]
      refine Append2_call hd hF' (by omega) (by omega) hr3 hj3 hx3 (nO _ n1 (by omega)) (nO _ n2 (by omega)) (nO _ n4 (by omega)) (by omega) hfit (fun h0 w7 hf7 => ⟨70, rfl, ?_⟩) fun h0 w7 O7 hd7 hf7 hO7 => ⟨0, rfl, ?_⟩
      · refine tail_fail (je := w.heap.size) (hf7.row he fun h => h) fun w8 he8 hf8 => ?_
        obtain ⟨g1, g2, g3⟩ := glue w7 O' (hf7.mono fun _ h => h.elim) fun c hc => .inl hc
        refine fin w8 O' _ 70 ((hd.fr hf7 fun _ _ h => h).fr hf8 fun c hc hce => g3 _ o2 (by omega) (hce ▸ hc)) (g1.trans (hf8.mono (G := fun c => O c ∨ c = w1.heap.size) fun _ h => .inr h) fun _ h _ => h) g2 he8 ?_ ?_
        · exact congrArg Prod.fst (ap2 hok h0)
        · rw [ap2 hok h0]; rfl
      · rw [hbe] at hd7
        obtain ⟨g1, g2, g3⟩ := glue w7 O7 hf7 hO7
        have hFw : Fine (writeDS (stg st e (bl r) 1) 0 (be 8 (e + 4 + (bl r).length - 64))) (n' + 1) (p' + (be 8 (e + 4 + (bl r).length - 64)).length) := hF'.write h0 (by simp)
        refine tail_ok (je := w.heap.size) hd7 hFw (by omega) (hf7.row he (nO _ o2 (by omega))) (hf7.row hje3 (nO _ o1 (by omega))) (hf7.row hr3 (nO _ n1 (by omega))) (g3 _ o2 (by omega)) (by omega) (by omega) (fun hl w8 O8 hd8 he8 hf8 hO8 => ?_) fun hl w8 O8 hd8 he8 hf8 hO8 => ?_
        · have h7 := g1.1
          refine fin w8 O8 _ 70 hd8 (g1.trans hf8 fun c hc hlt => ?_) (fun c hc => ?_) he8 ?_ ?_
          · rcases hc with h | h
            · rcases g2 c h with h | h
              · exact .inl h
              · omega
            · exact .inr h
          · rcases hO8 c hc with h | h
            · exact g2 c h
            · exact .inr (by omega)
          · exact congrArg Prod.fst (ap3 hok h0 hl)
          · rw [ap3 hok h0 hl]; rfl
        · have h7 := g1.1
          refine ⟨inR64 (by omega) (by omega), ⟨by simp, 2, O8, 0, by omega, by omega, hd8, ⟨hok, h0, hl⟩, g1.trans hf8 fun c hc hlt => ?_, fun c hc => ?_, he8, fun h => rfl⟩, by dsimp only; omega⟩
          · rcases hc with h | h
            · rcases g2 c h with h | h
              · exact .inl h
              · omega
            · exact .inr h
          · rcases hO8 c hc with h | h
            · exact g2 c h
            · exact .inr (by omega)
  · have : i = 2 := by omega
    subst this
    unfold journal_Journal_steps_b1
    rw [cnd_prop]
    refine ⟨fun h => absurd (show ((2 : Nat) : Int) < ((2 : Nat) : Int) from h) (by omega), fun _ => ?_⟩
    have hx0 := hx0 rfl
    subst hx0
    have h2 := he.set 0 (.int .i64 0)
    have hf2' : Fr (fun c => c = w1.heap.size) w3 (w3.setCell ⟨w1.heap.size, 0, none⟩ (.int .i64 0)) := Fr.set rfl
    refine ⟨he.wr (by simp), ?_⟩
    have ap : apDS st e (bl r) = (stg st e (bl r) 2, true) := ap4 hok
    exact fin _ O' _ 0 (hd.fr hf2' fun c hc hce => nO _ o2 (by omega) (hce ▸ hc)) (hf.trans (hf2'.mono (G := fun c => O c ∨ c = w1.heap.size) fun _ h => .inr h) fun _ h _ => h) hO h2 (by rw [ap]) (by rw [ap]; rfl)
end
end Go.Proofs.Ytamkecjpcfnpjaa
