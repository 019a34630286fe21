/- The program's journal: Append and Many. Conditions: none. -/
import Derived.Test.YtamkecjpcfnpjaaJN4
namespace Go.Proofs.Ytamkecjpcfnpjaa
open Go Pw

section
variable {w : World} {b jb many e n p : Nat} {bytes : Int} {br : Bool} {st : DS} {O : Nat → Prop}

theorem Many_spec {K : Int → World → Prop} (hr : Row w jb (jRow b many bytes e br)) (hK : K many w) : journal_Journal_Many_sh (ptr jb) K w := by
  refine ⟨?_⟩
  unfold journal_Journal_Many_sd
  rw [show (ptr jb).isNone = false from rfl, cnd_false]
  simp only [ptr, nz_some, add_mk, Nat.zero_add]
  exact ⟨many, hr.at rfl, hK⟩

theorem Append_spec {r : ByteArray} {K : Int → World → Prop} (h : DI w b st O) (hF : Fine st n p) (hn : n ≤ 2 ^ 38) (hp : p ≤ 2 ^ 28) (hr : Row w jb (jRow b many bytes e br)) (n1 : ¬ O jb) (h64 : 64 ≤ e)
    (hb0 : 0 ≤ bytes) (hb1 : bytes ≤ 2 ^ 30) (he : (e : Int) ≤ bytes + 64) (hm : many ≤ 2 ^ 40) (hrs : r.size ≤ 2 ^ 30)
    (hbr : br = true → ∀ w', Fr F0 w w' → K 70 w')
    (hmany : br = false → bytes + r.size + 272 > 2 ^ 24 → ∀ w', Fr F0 w w' → K 2 w')
    (hok : br = false → bytes + r.size + 272 ≤ 2 ^ 24 → (apDS st e (bl r)).2 = true → ∀ w' O', DI w' b (apDS st e (bl r)).1 O' → Row w' jb (jRow b (many + 1) (bytes + (r.size + 16)) (e + 4 + r.size) false) → Fr (fun c => O c ∨ c = jb) w w' →
      (∀ c, O' c → O c ∨ w.heap.size ≤ c) → ¬ O' jb → K 0 w')
    (hfail : br = false → bytes + r.size + 272 ≤ 2 ^ 24 → (apDS st e (bl r)).2 = false → ∀ w' O', DI w' b (apDS st e (bl r)).1 O' → Row w' jb (jRow b many bytes e true) → Fr (fun c => O c ∨ c = jb) w w' →
      (∀ c, O' c → O c ∨ w.heap.size ≤ c) → ¬ O' jb → K 70 w') :
    journal_Journal_Append_sh (ptr jb) r K w := by
  refine ⟨?_⟩
  unfold journal_Journal_Append_sd
  have hc0 : Row (w.alloc (Obj.cells #[Value.pointer (ptr jb)] 27)) w.heap.size [.pointer (ptr jb)] := Row.new
  have hf1 : Fr F0 w (w.alloc (Obj.cells #[Value.pointer (ptr jb)] 27)) := Fr.alloc
  have hs1 : (w.alloc (Obj.cells #[Value.pointer (ptr jb)] 27)).heap.size = w.heap.size + 1 := by simp
  generalize w.alloc (Obj.cells #[Value.pointer (ptr jb)] 27) = w1 at *
  have hc1 : Row (w1.alloc (Obj.cells #[Value.string r] 9)) w1.heap.size [.string r] := Row.new
  have hf2 : Fr F0 w1 (w1.alloc (Obj.cells #[Value.string r] 9)) := Fr.alloc
  have hs2 : (w1.alloc (Obj.cells #[Value.string r] 9)).heap.size = w1.heap.size + 1 := by simp
  have hc0 := hf2.row hc0 fun h => h
  have hf02 : Fr F0 w (w1.alloc (Obj.cells #[Value.string r] 9)) := hf1.trans hf2 fun _ h _ => h
  have hr2 := hf02.row hr fun h => h
  dsimp only
  generalize w1.alloc (Obj.cells #[Value.string r] 9) = w2 at *
  refine ⟨ptr jb, hc0.at rfl, ?_⟩
  rw [show (ptr jb).isNone = false from rfl, cnd_false]
  refine ⟨ptr jb, hc0.at rfl, ?_⟩
  have e0 : ∀ X : Addr → Prop, nz (ptr jb) X = X ⟨jb, 0, none⟩ := fun _ => rfl
  rw [e0]
  refine ⟨ptr b, hr2.at rfl, ?_⟩
  rw [show (ptr b).isNone = false from rfl, cnd_false]
  refine ⟨ptr jb, hc0.at rfl, ?_⟩
  rw [e0]
  refine ⟨br, hr2.at rfl, ?_⟩
  cases br with
  | true => rw [cnd_true]; exact hbr rfl w2 hf02
  | false =>
  rw [cnd_false]
  have hf2d : Fr F0 w w2.drew := hf02.trans Fr.drew fun _ h _ => h
  refine ⟨ptr jb, hc0.at rfl, ?_⟩
  rw [e0]
  refine ⟨bytes, hr2.at rfl, r, hc1.at rfl, inR64 (by omega) (by omega), inR64 (by omega) (by omega), inR64 (by omega) (by omega), ?_⟩
  rw [cnd_prop]
  refine ⟨fun hgt => hmany rfl (by omega) _ hf2d, fun hle => ?_⟩
  have hfit : bytes + r.size + 272 ≤ 2 ^ 24 := by omega
  have hc0d : Row w2.drew.drew w.heap.size [.pointer (ptr jb)] := hc0
  have hc1d : Row w2.drew.drew w1.heap.size [.string r] := hc1
  have hr2d : Row w2.drew.drew jb (jRow b many bytes e false) := hr2
  have hf2dd : Fr F0 w w2.drew.drew := hf2d.trans Fr.drew fun _ h _ => h
  have hs2d : w2.drew.drew.heap.size = w1.heap.size + 1 := hs2
  generalize w2.drew.drew = w3 at *
  have ljb := hr.lt
  have hne : ∀ c, c < w3.heap.size → c ≠ w3.heap.size := fun c hc => by omega
  have hS : ∀ w', Fr F0 w3 w' → (w'.cell? ⟨w.heap.size, 0, none⟩ = some (.pointer (ptr jb)) ∧ w'.cell? ⟨jb, 3, none⟩ = some (.int .i64 e) ∧ w'.cell? ⟨w1.heap.size, 0, none⟩ = some (.string r)) :=
    fun w' hf => ⟨(hf.row hc0d fun h => h).at rfl, (hf.row hr2d fun h => h).at rfl, (hf.row hc1d fun h => h).at rfl⟩
  refine ⟨fun w' => w'.cell? ⟨w.heap.size, 0, none⟩ = some (.pointer (ptr jb)) ∧ w'.cell? ⟨jb, 3, none⟩ = some (.int .i64 e) ∧ w'.cell? ⟨w1.heap.size, 0, none⟩ = some (.string r), hS _ Fr.refl, ptr jb, fun w' h => h.1, ?_⟩
  rw [e0, add_mk, Nat.zero_add]
  refine ⟨e, fun w' h => h.2.1, inR64 (by omega) (by omega), r, fun w' h => h.2.2, inR64 (by omega) (by omega), ?_⟩
  have hcx : Row (w3.alloc (Obj.cells #[Value.int .i64 (0 : Int)] 3)) w3.heap.size [.int .i64 0] := Row.new
  have hf4 : Fr F0 w3 (w3.alloc (Obj.cells #[Value.int .i64 (0 : Int)] 3)) := Fr.alloc
  have hs4 : (w3.alloc (Obj.cells #[Value.int .i64 (0 : Int)] 3)).heap.size = w3.heap.size + 1 := by simp
  refine ⟨hS _ hf4, hcx.wr (by simp), ?_⟩
  have hcx' := hcx.set 0 (.int .i64 ((e : Int) + 4 + r.size))
  have hf5 : Fr F0 w3 ((w3.alloc (Obj.cells #[Value.int .i64 (0 : Int)] 3)).setCell ⟨w3.heap.size, 0, none⟩ (.int .i64 ((e : Int) + 4 + r.size))) :=
    hf4.trans (Fr.set (F := fun c => c = w3.heap.size) rfl) fun c hc hlt => by omega
  have hs5 : ((w3.alloc (Obj.cells #[Value.int .i64 (0 : Int)] 3)).setCell ⟨w3.heap.size, 0, none⟩ (.int .i64 ((e : Int) + 4 + r.size))).heap.size = w3.heap.size + 1 := by simp
  generalize (w3.alloc (Obj.cells #[Value.int .i64 (0 : Int)] 3)).setCell ⟨w3.heap.size, 0, none⟩ (.int .i64 ((e : Int) + 4 + r.size)) = w5 at *
  refine ⟨ptr jb, (hf5.row hc0d fun h => h).at rfl, ?_⟩
  have hcw : Row (w5.alloc (Obj.cells #[(Value.func (.func 30) #[] #[(Value.pointer (some (Addr.mk w.heap.size 0 none))), (Value.pointer (some (Addr.mk w1.heap.size 0 none)))]), (Value.func (.func 32) #[] #[(Value.pointer (some (Addr.mk w.heap.size 0 none))), (Value.pointer (some (Addr.mk w3.heap.size 0 none)))])] 49)) w5.heap.size [(Value.func (.func 30) #[] #[(Value.pointer (some (Addr.mk w.heap.size 0 none))), (Value.pointer (some (Addr.mk w1.heap.size 0 none)))]), (Value.func (.func 32) #[] #[(Value.pointer (some (Addr.mk w.heap.size 0 none))), (Value.pointer (some (Addr.mk w3.heap.size 0 none)))])] := Row.new
  have hf6 : Fr F0 w5 (w5.alloc (Obj.cells #[(Value.func (.func 30) #[] #[(Value.pointer (some (Addr.mk w.heap.size 0 none))), (Value.pointer (some (Addr.mk w1.heap.size 0 none)))]), (Value.func (.func 32) #[] #[(Value.pointer (some (Addr.mk w.heap.size 0 none))), (Value.pointer (some (Addr.mk w3.heap.size 0 none)))])] 49)) := Fr.alloc
  generalize w5.alloc (Obj.cells #[(Value.func (.func 30) #[] #[(Value.pointer (some (Addr.mk w.heap.size 0 none))), (Value.pointer (some (Addr.mk w1.heap.size 0 none)))]), (Value.func (.func 32) #[] #[(Value.pointer (some (Addr.mk w.heap.size 0 none))), (Value.pointer (some (Addr.mk w3.heap.size 0 none)))])] 49) = w6 at *
  have hf36 : Fr F0 w3 w6 := hf5.trans hf6 fun _ h _ => h
  have hf06 : Fr F0 w w6 := hf2dd.trans hf36 fun _ h _ => h
  have hlt := h.lt
  have nO : ∀ c, w.heap.size ≤ c → ¬ O c := fun c hc h => by have := hlt _ h; omega
  have hs6 := hf6.1
  have hsz3 : w1.heap.size + 1 ≤ w3.heap.size := by omega
  have hcx6 := hf6.row hcx' fun h => h
  refine steps_spec (cj := w.heap.size) (cr := w1.heap.size) (cx := w3.heap.size) (sb := w5.heap.size) (h.fr hf06 fun _ _ h => h) hF hn hp (hf36.row hr2d fun h => h) (hf36.row hc0d fun h => h) (hf36.row hc1d fun h => h) (by simpa using hcx6) hcw n1 (nO _ (by omega)) (nO _ (by omega)) (nO _ (by omega)) (nO _ (by omega)) h64 (by omega) fun w7 O' hd7 hr7 hf7 hO7 => ?_
  have hf07 : Fr (fun c => O c ∨ c = jb) w w7 := (hf06.mono fun _ h => h.elim).trans hf7 fun _ h _ => h
  have hO7' : ∀ c, O' c → O c ∨ w.heap.size ≤ c := fun c hc => by
    have := hf06.1
    rcases hO7 c hc with h | h
    · exact .inl h
    · exact .inr (by omega)
  have n7 : ¬ O' jb := fun hc => by
    rcases hO7' _ hc with h | h
    · exact n1 h
    · omega
  cases hap : (apDS st e (bl r)).2 with
  | false =>
    rw [hap] at hr7
    rw [if_neg (by simp), show ((70 : Int) != 0) = true from rfl, cnd_true]
    exact hfail rfl hfit hap w7 O' hd7 hr7 hf07 hO7' n7
  | true =>
    rw [hap] at hr7
    rw [if_pos rfl, show ((0 : Int) != 0) = false from rfl, cnd_false]
    have hc07 := hf7.row (hf36.row hc0d fun h => h) (by rintro (h | h); exact nO _ (Nat.le_refl _) h; omega)
    have hc17 := hf7.row (hf36.row hc1d fun h => h) (by rintro (h | h); exact nO _ (by omega) h; omega)
    have hcx7 := hf7.row hcx6 (by rintro (h | h); exact nO _ (by omega) h; omega)
    refine ⟨ptr jb, hc07.at rfl, ?_⟩
    simp only [e0, add_mk, Nat.zero_add]
    have g1 := hr7.set 1 (.int .i64 ((many : Int) + 1))
    have hg1 : Fr (fun c => c = jb) w7 (w7.setCell ⟨jb, 1, none⟩ (.int .i64 ((many : Int) + 1))) := Fr.set rfl
    refine ⟨many, hr7.at rfl, inR64 (by omega) (by omega), hr7.wr (by simp [jRow]), ?_⟩
    have g1c : Row (w7.setCell ⟨jb, 1, none⟩ (.int .i64 ((many : Int) + 1))).drew jb _ := g1
    have c0c : Row (w7.setCell ⟨jb, 1, none⟩ (.int .i64 ((many : Int) + 1))).drew w.heap.size _ := hg1.row hc07 (by omega)
    have c1c : Row (w7.setCell ⟨jb, 1, none⟩ (.int .i64 ((many : Int) + 1))).drew w1.heap.size _ := hg1.row hc17 (by omega)
    have cxc : Row (w7.setCell ⟨jb, 1, none⟩ (.int .i64 ((many : Int) + 1))).drew w3.heap.size _ := hg1.row hcx7 (by omega)
    have hg1' : Fr (fun c => c = jb) w7 (w7.setCell ⟨jb, 1, none⟩ (.int .i64 ((many : Int) + 1))).drew := hg1.trans Fr.drew fun _ h _ => h
    generalize (w7.setCell ⟨jb, 1, none⟩ (.int .i64 ((many : Int) + 1))).drew = w8 at *
    refine ⟨fun w' => w' = w8, rfl, ptr jb, fun w' h => by rw [h]; exact c0c.at rfl, ?_⟩
    simp only [e0, add_mk, Nat.zero_add]
    refine ⟨bytes, fun w' h => by rw [h]; exact g1c.at rfl, r, fun w' h => by rw [h]; exact c1c.at rfl, inR64 (by omega) (by omega), inR64 (by omega) (by omega), g1c.wr (by simp [jRow]), ?_⟩
    have g2 := g1c.set 2 (.int .i64 (bytes + ((r.size : Int) + 16)))
    have hg2 : Fr (fun c => c = jb) w8 (w8.setCell ⟨jb, 2, none⟩ (.int .i64 (bytes + ((r.size : Int) + 16)))) := Fr.set rfl
    refine ⟨ptr jb, (hg2.row c0c (by omega)).at rfl, (e : Int) + 4 + r.size, (hg2.row cxc (by omega)).at rfl, ?_⟩
    simp only [e0, add_mk, Nat.zero_add]
    refine ⟨g2.wr (by simp [jRow]), ?_⟩
    have g3 := g2.set 3 (.int .i64 ((e : Int) + 4 + r.size))
    have hg3 : Fr (fun c => c = jb) w7 ((w8.setCell ⟨jb, 2, none⟩ (.int .i64 (bytes + ((r.size : Int) + 16)))).setCell ⟨jb, 3, none⟩ (.int .i64 ((e : Int) + 4 + r.size))) :=
      (hg1'.trans hg2 fun _ h _ => h).trans (Fr.set (F := fun c => c = jb) rfl) fun _ h _ => h
    refine hok rfl hfit hap _ O' (hd7.fr hg3 fun c hc hcj => n7 (hcj ▸ hc)) ?_ (hf07.trans (hg3.mono (G := fun c => O c ∨ c = jb) fun _ h => .inr h) fun _ h _ => h) hO7' n7
    simpa [jRow] using g3
end
end Go.Proofs.Ytamkecjpcfnpjaa
