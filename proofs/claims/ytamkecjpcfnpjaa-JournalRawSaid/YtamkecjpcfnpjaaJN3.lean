/- The program's journal: the two writes of an Append, and the steps. Conditions: none. -/
import Derived.Test.YtamkecjpcfnpjaaJN2
namespace Go.Proofs.Ytamkecjpcfnpjaa
open Go Pw

theorem bl_ofL_append (l : List UInt8) (s : ByteArray) : bl (ofL l ++ s) = l ++ bl s := by simp

section
variable {w : World} {b jb cj cr many e n p : Nat} {bytes : Int} {br : Bool} {st : DS} {O : Nat → Prop}

theorem Append1_call {r : ByteArray} {K : Int → World → Prop} (h : DI w b st O) (hF : Fine st n p) (hn : n ≤ 2 ^ 39) (hp : p ≤ 2 ^ 29) (hr : Row w jb (jRow b many bytes e br)) (hj : Row w cj [.pointer (ptr jb)]) (hs : Row w cr [.string r])
    (n1 : ¬ O jb) (n2 : ¬ O cj) (n3 : ¬ O cr) (hfit : e + 4 + r.size ≤ 2 ^ 24)
    (hoff : st.lim = some 0 → ∀ w', Fr F0 w w' → K 70 w')
    (hon : st.lim ≠ some 0 → ∀ w' O', DI w' b (writeDS st e (enc (bl r))) O' → Fr O w w' → (∀ c, O' c → O c ∨ w.heap.size ≤ c) → K 0 w') :
    journal_Journal_Append_1_sh ⟨cj, 0, none⟩ ⟨cr, 0, none⟩ K w := by
  refine ⟨?_⟩
  unfold journal_Journal_Append_1_sd
  have hS : ∀ w', Fr O w w' → w'.cell? ⟨cj, 0, none⟩ = some (.pointer (ptr jb)) ∧ w'.cell? ⟨jb, 0, none⟩ = some (.pointer (ptr b)) ∧ w'.cell? ⟨jb, 3, none⟩ = some (.int .i64 e) ∧ w'.cell? ⟨cr, 0, none⟩ = some (.string r) :=
    fun w' hf => ⟨(hf.row hj n2).at rfl, (hf.row hr n1).at rfl, (hf.row hr n1).at rfl, (hf.row hs n3).at rfl⟩
  refine ⟨fun w' => w'.cell? ⟨cj, 0, none⟩ = some (.pointer (ptr jb)) ∧ w'.cell? ⟨jb, 0, none⟩ = some (.pointer (ptr b)) ∧ w'.cell? ⟨jb, 3, none⟩ = some (.int .i64 e) ∧ w'.cell? ⟨cr, 0, none⟩ = some (.string r), hS _ Fr.drew, ptr jb, fun w' h => h.1, ?_⟩
  simp only [ptr, nz_some]
  refine ⟨ptr b, fun w' h => h.2.1, ptr jb, fun w' h => h.1, ?_⟩
  simp only [ptr, nz_some, add_mk, Nat.zero_add]
  refine ⟨e, fun w' h => h.2.2.1, r, fun w' h => h.2.2.2, r, fun w' h => h.2.2.2, ?_⟩
  refine number_spec (wd := 4) (.inl rfl) fun w1 hf1 => ?_
  have hf01 : Fr F0 w w1 := Fr.drew.trans hf1 fun _ h _ => h
  have hf01' : Fr O w w1 := hf01.mono fun _ h => h.elim
  have hsz : (ofL (be 4 r.size) ++ r).size = 4 + r.size := by
    rw [← bl_length, bl_ofL_append]; simp [bl_length]
  refine ⟨hS _ hf01', ?_, ?_⟩
  · have : (ofL (be 4 r.size)).size = 4 := by rw [← bl_length]; simp
    rw [this]; unfold maxI; omega
  · refine Write_DI (h.fr hf01 fun _ _ h => h) hF hn hp (by omega) (by rw [hsz]; omega) (fun h0 => ⟨hS _ hf01', hoff h0 _ hf01⟩) fun h0 w2 hd hf2 => ?_
    have hf02 : Fr O w w2 := hf01'.trans hf2 fun _ h _ => h
    refine ⟨hS _ hf02, hon h0 _ (nw O w1 w2) ?_ hf02 fun c hc => ?_⟩
    · have e1 : bl (ofL (be 4 r.size) ++ r) = enc (bl r) := by rw [bl_ofL_append]; simp [enc, bl_length]
      rw [e1] at hd
      simpa using hd
    · rcases hc with hc | hc
      · exact .inl hc
      · exact .inr (Nat.le_trans hf01.1 hc.1)

theorem Append2_call {nx : Nat} {K : Int → World → Prop} (h : DI w b st O) (hF : Fine st n p) (hn : n ≤ 2 ^ 39) (hp : p ≤ 2 ^ 29) (hr : Row w jb (jRow b many bytes e br)) (hj : Row w cj [.pointer (ptr jb)]) (hs : Row w cr [.int .i64 nx])
    (n1 : ¬ O jb) (n2 : ¬ O cj) (n3 : ¬ O cr) (h64 : 64 ≤ nx) (hnx : nx ≤ 2 ^ 24)
    (hoff : st.lim = some 0 → ∀ w', Fr F0 w w' → K 70 w')
    (hon : st.lim ≠ some 0 → ∀ w' O', DI w' b (writeDS st 0 (be 8 (nx - 64))) O' → Fr O w w' → (∀ c, O' c → O c ∨ w.heap.size ≤ c) → K 0 w') :
    journal_Journal_Append_2_sh ⟨cj, 0, none⟩ ⟨cr, 0, none⟩ K w := by
  refine ⟨?_⟩
  unfold journal_Journal_Append_2_sd
  have hS : ∀ w', Fr O w w' → w'.cell? ⟨cj, 0, none⟩ = some (.pointer (ptr jb)) ∧ w'.cell? ⟨jb, 0, none⟩ = some (.pointer (ptr b)) ∧ w'.cell? ⟨cr, 0, none⟩ = some (.int .i64 nx) :=
    fun w' hf => ⟨(hf.row hj n2).at rfl, (hf.row hr n1).at rfl, (hf.row hs n3).at rfl⟩
  refine ⟨fun w' => w'.cell? ⟨cj, 0, none⟩ = some (.pointer (ptr jb)) ∧ w'.cell? ⟨jb, 0, none⟩ = some (.pointer (ptr b)) ∧ w'.cell? ⟨cr, 0, none⟩ = some (.int .i64 nx), hS _ Fr.drew, ptr jb, fun w' h => h.1, ?_⟩
  simp only [ptr, nz_some]
  refine ⟨ptr b, fun w' h => h.2.1, nx, fun w' h => h.2.2, inR64 (by omega) (by omega), ?_⟩
  rw [show (nx : Int) - 64 = ((nx - 64 : Nat) : Int) by omega]
  refine number_spec (wd := 8) (.inr rfl) fun w1 hf1 => ?_
  have hf01 : Fr F0 w w1 := Fr.drew.trans hf1 fun _ h _ => h
  have hf01' : Fr O w w1 := hf01.mono fun _ h => h.elim
  refine ⟨hS _ hf01', ?_⟩
  have hsz : (ofL (be 8 (nx - 64))).size = 8 := by rw [← bl_length]; simp
  refine Write_DI (h.fr hf01 fun _ _ h => h) hF hn hp (by omega) (by rw [hsz]; omega) (fun h0 => ⟨hS _ hf01', hoff h0 _ hf01⟩) fun h0 w2 hd hf2 => ?_
  have hf02 : Fr O w w2 := hf01'.trans hf2 fun _ h _ => h
  refine ⟨hS _ hf02, hon h0 _ (nw O w1 w2) (by simpa using hd) hf02 fun c hc => ?_⟩
  rcases hc with hc | hc
  · exact .inl hc
  · exact .inr (Nat.le_trans hf01.1 hc.1)

/-- What is deferred: the journal is broken if the steps have failed. -/
theorem steps1_call {je ee : Nat} {x : Int} {K : World → Prop} (hr : Row w jb (jRow b many bytes e br)) (hj : Row w je [.pointer (ptr jb)]) (he : Row w ee [.int .i64 x])
    (hK : ∀ w', Row w' jb (jRow b many bytes e (br || x != 0)) → Fr (fun c => c = jb) w w' → K w') : journal_Journal_steps_1_sh ⟨je, 0, none⟩ ⟨ee, 0, none⟩ K w := by
  refine ⟨?_⟩
  unfold journal_Journal_steps_1_sd
  refine ⟨fun w' => w' = w.drew, rfl, ptr jb, fun w' h => by rw [h]; exact hj.at rfl, ptr jb, fun w' h => by rw [h]; exact hj.at rfl, ?_⟩
  simp only [ptr, nz_some, add_mk, Nat.zero_add]
  refine ⟨br, fun w' h => by rw [h]; exact hr.at rfl, ?_⟩
  have hrd : Row w.drew jb (jRow b many bytes e br) := hr
  cases br with
  | true =>
    simp only [cnd_true]
    refine ⟨hrd.wr (by simp [jRow]), hK _ ?_ (Fr.drew.trans (Fr.set (F := fun c => c = jb) rfl) fun _ h _ => h)⟩
    exact hrd.set 4 (.bool true)
  | false =>
    simp only [cnd_false]
    refine ⟨x, fun w' h => by rw [h]; exact he.at rfl, hrd.wr (by simp [jRow]), hK _ ?_ (Fr.drew.trans (Fr.set (F := fun c => c = jb) rfl) fun _ h _ => h)⟩
    exact hrd.set 4 (.bool (x != 0))
end
end Go.Proofs.Ytamkecjpcfnpjaa
