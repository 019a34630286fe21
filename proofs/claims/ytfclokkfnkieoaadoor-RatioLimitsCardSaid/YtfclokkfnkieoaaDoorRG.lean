/- The library's part: what the variables hold, and the contracts of Cut, Atoi, Itoa. Conditions: none. -/
import Derived.Test.YtfclokkfnkieoaaDoorRSH
import Derived.Test.YtfclokkfnkieoaaDoorRG2
import Derived.Test.YtfclokkfnkieoaaDoorRF8
import Derived.Test.YtfclokkfnkieoaaDoorPwU
import Derived.Shelf.Strconv.Itoa4
import Derived.Shelf.Strconv.AtoiAll
import Derived.Shelf.Strings.Cut
namespace Go.Proofs.YtfclokkfnkieoaaDoor
open Go Pw

/-- What the library's variables hold. -/
structure Gl (w : World) : Prop where
  tab : Lib.TabIs Tryd.prog w "internal/strconv.uint64pow10" .u64 Lib.pow10Tab
  ml : ∃ m, w.cell? ⟨Tryd.laysM145_ren.g 1, 0, none⟩ = some (.int .i64 m)
  es : ∃ t p, w.cell? ⟨Tryd.laysC172_ren.g 15, 0, none⟩ = some (.iface t p)
  er : ∃ t p, w.cell? ⟨Tryd.laysC172_ren.g 16, 0, none⟩ = some (.iface t p)

section
variable {w w' w0 : World}

theorem cell_fr {w w' : World} (hf : Fr F0 w w') {a : Addr} {v : Value} (h : w.cell? a = some v) : w'.cell? a = some v := by
  have hlt := World.block_lt_of_cell? _ _ h
  have h2 := hf.2.1 a.block hlt fun hh => hh
  unfold World.cell? at h ⊢
  rw [h2]
  exact h

theorem Gl.fr (h : Gl w) (hf : Fr F0 w w') : Gl w' := by
  obtain ⟨h1, ⟨m, h2⟩, ⟨t, p, h3⟩, ⟨t', p', h4⟩⟩ := h
  refine ⟨?_, ⟨m, cell_fr hf h2⟩, ⟨t, p, cell_fr hf h3⟩, ⟨t', p', cell_fr hf h4⟩⟩
  unfold Lib.TabIs World.var? at h1 ⊢
  cases hg : Program.globalNamed Tryd.prog "internal/strconv.uint64pow10" with
  | none => rw [hg] at h1; cases h1
  | some g =>
    rw [hg] at h1
    simp only [Option.bind_some] at h1 ⊢
    have hlt : g < w.heap.size := by
      rcases Nat.lt_or_ge g w.heap.size with hl | hl
      · exact hl
      · rw [Array.getElem?_eq_none hl] at h1
        cases h1
    rw [hf.2.1 g hlt fun hh => hh]
    exact h1

theorem drewN_fr (w : World) : ∀ k, Fr F0 w (w.drewN k) := fun _ => ⟨Nat.le_refl _, fun _ _ _ => rfl, rfl, rfl, rfl⟩
theorem grow_fr (w : World) (os : Array Obj) : Fr F0 w (Go.Sort.grow w os) := by
  refine ⟨by simp [Go.Sort.grow], fun b hb _ => ?_, rfl, rfl, rfl⟩
  show (w.heap ++ os)[b]? = _
  rw [Array.getElem?_append_left hb]

theorem below_fr {w w' : World} (h : RowKit.Below w.heap.size w w') : Fr F0 w w' := ⟨h.size, fun b hb _ => h.block b hb, h.os, h.output, h.tape⟩

theorem bytes_fr (w : World) (e : TypeId) (t : ByteArray) : Fr F0 w (Lib.bytesWorld w e t) := by
  unfold Lib.bytesWorld
  refine ⟨by simp [World.freeze], fun b hb _ => ?_, rfl, rfl, rfl⟩
  have hne : b ≠ w.heap.size := by omega
  simp only [World.freeze]
  rw [if_neg (by decide)]
  simp only
  rw [Array.getElem?_modify, if_neg (Ne.symm hne)]
  show (w.heap.push _)[b]? = _
  rw [Array.getElem?_push, if_neg hne]

theorem strconv_Itoa_spec {n : Int} {K : ByteArray → World → Prop} (h : I64 n) (g : Gl w) (hK : ∀ w', Fr F0 w w' → K (ofL (Lib.itoa n)) w') : strconv_Itoa_sh n K w :=
  ⟨(Any.strconv_Itoa Tryd.laysM171 n h.1 (by have := h.2; omega) w g.tab).mono fun e w' he => by
    obtain ⟨rfl, k, os, rfl⟩ := he
    exact ⟨_, rfl, hK _ (Fr0.t (drewN_fr w k) (grow_fr _ os))⟩⟩

theorem strings_Cut_spec {s sep : ByteArray} {K : ByteArray → ByteArray → Bool → World → Prop} (h : s.size < 4294967281) (g : Gl w)
    (hK : ∀ w', Fr F0 w w' → K (ofL (Lib.cut (bl s) (bl sep)).1) (ofL (Lib.cut (bl s) (bl sep)).2.1) (Lib.cut (bl s) (bl sep)).2.2 w') : strings_Cut_sh s sep K w := by
  obtain ⟨m, hm⟩ := g.ml
  exact ⟨(Any.strings_Cut { Tryd.laysM145 with } s sep m w h hm).mono fun e w' he => by
    obtain ⟨rfl, n, rfl⟩ := he
    exact ⟨_, _, _, rfl, hK _ (drewN_fr w n)⟩⟩

theorem strconv_Atoi_spec {s : ByteArray} {K : Int → Value → World → Prop} (h : s.size ≤ 281474976710656) (g : Gl w)
    (h1 : ∀ v w', Lib.atoiAll (bl s) = .ok v → Fr F0 w w' → K v .nilIface w') (h2 : ∀ v t u w', I64 v → (∀ x, Lib.atoiAll (bl s) ≠ .ok x) → Fr F0 w w' → K v (.iface t u) w') : strconv_Atoi_sh s K w := by
  cases ha : Lib.atoiAll (bl s) with
  | ok v =>
    exact ⟨(Any.strconv_Atoi_ok Tryd.laysC172 s (by omega) v ha w).mono fun e w' he => by
      obtain ⟨rfl, rfl | ⟨t, rfl⟩⟩ := he
      · exact ⟨_, _, rfl, h1 v _ ha Fr.refl⟩
      · exact ⟨_, _, rfl, h1 v _ ha (bytes_fr _ _ _)⟩⟩
  | range =>
    obtain ⟨t, p, hp⟩ := g.er
    exact ⟨(Any.strconv_Atoi_range Tryd.laysC172 s h ha _ w hp (.inr ⟨_, _, rfl⟩)).mono fun e w' he => by
      obtain ⟨N, rfl, _, _, hb⟩ := he
      exact ⟨_, _, rfl, h2 _ _ _ _ (by have := Lib.atoiSat_bounds (bl s); exact ⟨by show _ ≤ Lib.atoiSat (bl s); omega, by show Lib.atoiSat (bl s) < _; omega⟩) (fun x hx => by rw [ha] at hx; cases hx) (below_fr hb)⟩⟩
  | _ =>
    obtain ⟨t, p, hp⟩ := g.es
    exact ⟨(Any.strconv_Atoi_syntax Tryd.laysC172 s h ha _ w hp (.inr ⟨_, _, rfl⟩)).mono fun e w' he => by
      obtain ⟨N, rfl, _, _, hb⟩ := he
      exact ⟨_, _, rfl, h2 _ _ _ _ ⟨by decide, by decide⟩ (fun x hx => by rw [ha] at hx; cases hx) (below_fr hb)⟩⟩
end
end Go.Proofs.YtfclokkfnkieoaaDoor
