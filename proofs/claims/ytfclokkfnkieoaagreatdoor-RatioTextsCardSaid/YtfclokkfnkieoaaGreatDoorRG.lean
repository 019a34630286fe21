/- The library's part: what the variables hold, and the contracts of Cut, Atoi, Itoa. Conditions: none. -/
import Derived.Test.YtfclokkfnkieoaaGreatDoorRSH
import Derived.Test.YtfclokkfnkieoaaGreatDoorRG2
import Derived.Test.YtfclokkfnkieoaaGreatDoorRFA
import Derived.Test.YtfclokkfnkieoaaGreatDoorPwU
import Derived.Shelf.Strconv.Itoa4
import Derived.Shelf.Strconv.AtoiAll
import Derived.Shelf.Strings.Cut
namespace Go.Proofs.YtfclokkfnkieoaaGreatDoor
open Go Pw

/-- What the library's variables hold. -/
structure Gl (w : World) : Prop where
  tab : Lib.TabIs Tryz.prog w "internal/strconv.uint64pow10" .u64 Lib.pow10Tab
  ml : ∃ m, w.cell? ⟨Tryz.laysM145_ren.g 1, 0, none⟩ = some (.int .i64 m)
  es : ∃ t p, w.cell? ⟨Tryz.laysC172_ren.g 15, 0, none⟩ = some (.iface t p)
  er : ∃ t p, w.cell? ⟨Tryz.laysC172_ren.g 16, 0, none⟩ = some (.iface t p)

section
variable {w w' w0 : World}

theorem cell_fr {w w' : World} (hf : Fr F0 w w') {a : Addr} {v : Value} (h : w.cell? a = some v) : w'.cell? a = some v := by
  have hlt := World.block_lt_of_cell? _ _ h
  have h2 := hf.2.1 a.block hlt fun hh => hh
  unfold World.cell? at h ⊢
  rw [h2]
  exact h

theorem Gl.fr (h : Gl w) (hf : Fr F0 w w') : Gl w' := by
  obtain ⟨h1, ⟨m, h2⟩, ⟨t, p, h3⟩, ⟨t', p', h4⟩⟩ := h
  refine ⟨?_, ⟨m, cell_fr hf h2⟩, ⟨t, p, cell_fr hf h3⟩, ⟨t', p', cell_fr hf h4⟩⟩
  unfold Lib.TabIs World.var? at h1 ⊢
  cases hg : Program.globalNamed Tryz.prog "internal/strconv.uint64pow10" with
  | none => rw [hg] at h1; cases h1
  | some g =>
    rw [hg] at h1
    simp only [Option.bind_some] at h1 ⊢
    have hlt : g < w.heap.size := by
      rcases Nat.lt_or_ge g w.heap.size with hl | hl
      · exact hl
      · rw [Array.getElem?_eq_none hl] at h1
        cases h1
    rw [hf.2.1 g hlt fun hh => hh]
    exact h1

theorem drewN_fr (w : World) : ∀ k, Fr F0 w (w.drewN k) := fun _ => ⟨Nat.le_refl _, fun _ _ _ => rfl, rfl, rfl, rfl⟩
theorem grow_fr (w : World) (os : Array Obj) : Fr F0 w (Go.Sort.grow w os) := by
  refine ⟨by simp [Go.Sort.grow], fun b hb _ => ?_, rfl, rfl, rfl⟩
  show (w.heap ++ os)[b]? = _
  rw [Array.getElem?_append_left hb]

theorem below_fr {w w' : World} (h : RowKit.Below w.heap.size w w') : Fr F0 w w' := ⟨h.size, fun b hb _ => h.block b hb, h.os, h.output, h.tape⟩

theorem bytes_fr (w : World) (e : TypeId) (t : ByteArray) : Fr F0 w (Lib.bytesWorld w e t) := by
  unfold Lib.bytesWorld
  refine ⟨by simp [World.freeze], fun b hb _ => ?_, rfl, rfl, rfl⟩
  have hne : b ≠ w.heap.size := by omega
  simp only [World.freeze]
  rw [if_neg (by decide)]
  simp only
  rw [Array.getElem?_modify, if_neg (Ne.symm hne)]
  show (w.heap.push _)[b]? = _
  rw [Array.getElem?_push, if_neg hne]

theorem strconv_Itoa_spec {n : Int} {K : ByteArray → World → Prop} (h : I64 n) (g : Gl w) (hK : ∀ w', Fr F0 w w' → K (ofL (Lib.itoa n)) w') : strconv_Itoa_sh n K w :=
  ⟨(Any.strconv_Itoa Tryz.laysM171 n h.1 (by have := h.2; omega) w g.tab).mono fun e w' he => by
    obtain ⟨rfl, k, os, rfl⟩ := he
    exact ⟨_, rfl, hK _ (Fr0.t (drewN_fr w k) (grow_fr _ os))⟩⟩

/-- A text cut at a byte. -/
theorem strings_Cut_spec {s : ByteArray} {c : Nat} {K : ByteArray → ByteArray → Bool → World → Prop} (hs : s.size ≤ 281474976710656)
    (hK : ∀ w', Fr F0 w w' → K (ofL (Lib.cut (bl s) [UInt8.ofNat c]).1) (ofL (Lib.cut (bl s) [UInt8.ofNat c]).2.1) (Lib.cut (bl s) [UInt8.ofNat c]).2.2 w') : strings_Cut_sh s (str [c]) K w := by
  have hz : (str [c]).size = 1 := rfl
  have hi : Lib.indexB s (str [c]) = Lib.indexByte s.data.toList (UInt8.ofNat c) := Lib.index_one s.data.toList (UInt8.ofNat c)
  have hK : ∀ w', Fr F0 w w' → K (⟨(Lib.cut s.data.toList (str [c]).data.toList).1.toArray⟩ : ByteArray) (⟨(Lib.cut s.data.toList (str [c]).data.toList).2.1.toArray⟩ : ByteArray) (Lib.cut s.data.toList (str [c]).data.toList).2.2 w' := hK
  refine ⟨?_⟩
  unfold strings_Cut_sd
  refine ⟨?_⟩
  unfold stringslite_Cut_sd
  refine ⟨(Any.stringslite_Index_one { Tryz.laysM145 with } s (UInt8.ofNat c) w).mono fun e w' he => ?_⟩
  obtain ⟨rfl, rfl⟩ := he
  refine ⟨_, rfl, ?_⟩
  rcases Lib.indexB_cases s (str [c]) with hix | ⟨i, hix, hroom⟩
  · obtain ⟨e1, e2, e3⟩ := Lib.cutB_miss s (str [c]) hix
    rw [e1, e2, e3] at hK
    rw [← hi, hix, decide_eq_false (by omega), cnd_false]
    exact hK _ Fr.refl
  · obtain ⟨e1, e2, e3⟩ := Lib.cutB_hit s (str [c]) i hix
    rw [e1, e2, e3, hz] at hK
    rw [← hi, hix, decide_eq_true (by omega), cnd_true]
    refine ⟨⟨by omega, by omega, by omega⟩, inR64 (by omega) (by omega), ⟨by omega, by omega⟩, ?_⟩
    have a1 : ((i : Int)).toNat = i := by omega
    have a2 : ((i : Int) + ((str [c]).size : Int)).toNat = i + 1 := by omega
    rw [a1, a2]
    exact hK _ Fr.drew

theorem strconv_Atoi_spec {s : ByteArray} {K : Int → Value → World → Prop} (h : s.size ≤ 281474976710656) (g : Gl w)
    (h1 : ∀ v w', Lib.atoiAll (bl s) = .ok v → Fr F0 w w' → K v .nilIface w') (h2 : ∀ v t u w', I64 v → (∀ x, Lib.atoiAll (bl s) ≠ .ok x) → Fr F0 w w' → K v (.iface t u) w') : strconv_Atoi_sh s K w := by
  cases ha : Lib.atoiAll (bl s) with
  | ok v =>
    exact ⟨(Any.strconv_Atoi_ok Tryz.laysC172 s (by omega) v ha w).mono fun e w' he => by
      obtain ⟨rfl, rfl | ⟨t, rfl⟩⟩ := he
      · exact ⟨_, _, rfl, h1 v _ ha Fr.refl⟩
      · exact ⟨_, _, rfl, h1 v _ ha (bytes_fr _ _ _)⟩⟩
  | range =>
    obtain ⟨t, p, hp⟩ := g.er
    exact ⟨(Any.strconv_Atoi_range Tryz.laysC172 s h ha _ w hp (.inr ⟨_, _, rfl⟩)).mono fun e w' he => by
      obtain ⟨N, rfl, _, _, hb⟩ := he
      exact ⟨_, _, rfl, h2 _ _ _ _ (by have := Lib.atoiSat_bounds (bl s); exact ⟨by show _ ≤ Lib.atoiSat (bl s); omega, by show Lib.atoiSat (bl s) < _; omega⟩) (fun x hx => by rw [ha] at hx; cases hx) (below_fr hb)⟩⟩
  | _ =>
    obtain ⟨t, p, hp⟩ := g.es
    exact ⟨(Any.strconv_Atoi_syntax Tryz.laysC172 s h ha _ w hp (.inr ⟨_, _, rfl⟩)).mono fun e w' he => by
      obtain ⟨N, rfl, _, _, hb⟩ := he
      exact ⟨_, _, rfl, h2 _ _ _ _ ⟨by decide, by decide⟩ (fun x hx => by rw [ha] at hx; cases hx) (below_fr hb)⟩⟩
end
end Go.Proofs.YtfclokkfnkieoaaGreatDoor
