/- Memory: reading, writing, making rows of cells, as plain conditions on the world; each sound for the model's own run. Conditions: none. -/
import Derived.Test.YtfclokkfnkieoaaGreatDoorPwA
namespace Pw
open Go

abbrev VW := Value → World → Prop

/-- A value that one cell holds. -/
def okC : Value → Bool
  | .agg _ | .tuple _ => false
  | _ => true

/-- Loading cells of given kinds, one after the other. -/
def ldC (ld : Addr → Value → Prop) (a : Addr) : Nat → List Value → (List Value → Prop) → Prop
  | _, [], K => K []
  | i, z :: zs, K => match z with
    | .int k _ => ∃ n : Int, ld (a.add i) (.int k n) ∧ ldC ld a (i + 1) zs fun vs => K (.int k n :: vs)
    | .bool _ => ∃ b : Bool, ld (a.add i) (.bool b) ∧ ldC ld a (i + 1) zs fun vs => K (.bool b :: vs)
    | .string _ => ∃ s : ByteArray, ld (a.add i) (.string s) ∧ ldC ld a (i + 1) zs fun vs => K (.string s :: vs)
    | .pointer _ => ∃ p : Option Addr, ld (a.add i) (.pointer p) ∧ ldC ld a (i + 1) zs fun vs => K (.pointer p :: vs)
    | .slice _ _ _ => ∃ s : Sl, ld (a.add i) (.slice s.p s.l s.c) ∧ ldC ld a (i + 1) zs fun vs => K (.slice s.p s.l s.c :: vs)
    | .map _ => ∃ m : Option Nat, ld (a.add i) (.map m) ∧ ldC ld a (i + 1) zs fun vs => K (.map m :: vs)
    | _ => ∃ v : Value, ld (a.add i) v ∧ ldC ld a (i + 1) zs fun vs => K (v :: vs)

theorem ldC_sound {ld : Addr → Value → Prop} {a : Addr} : ∀ {zs : List Value} {i : Nat} {K : List Value → Prop}, ldC ld a i zs K →
    ∃ vs, K vs ∧ vs.length = zs.length ∧ ∀ j (h : j < vs.length), ld (a.add (i + j)) vs[j]
  | [], i, K, h => ⟨[], h, rfl, fun j h => by simp at h⟩
  | z :: zs, i, K, h => by
    have key : ∃ v, ld (a.add i) v ∧ ldC ld a (i + 1) zs (fun vs => K (v :: vs)) := by
      unfold ldC at h
      split at h
      all_goals (obtain ⟨n, h1, h2⟩ := h; exact ⟨_, h1, h2⟩)
    obtain ⟨v, h1, h2⟩ := key
    obtain ⟨vs, hK, hlen, hat⟩ := ldC_sound h2
    refine ⟨v :: vs, hK, by simp [hlen], fun j hj => ?_⟩
    cases j with
    | zero => exact h1
    | succ j =>
      have := hat j (by simpa using hj)
      rw [show i + (j + 1) = i + 1 + j by omega]
      exact this

def aggT (P : Program) (t : TypeId) : Bool := match P.underlying t with
  | some (.struct _) | some (.array _ _) => true
  | _ => false

/-- Loading a variable of type t. -/
def ldW (P : Program) (ld : Addr → Value → Prop) (t : TypeId) (a : Addr) (K : Value → Prop) : Prop :=
  match P.info? t with
  | none => False
  | some ti => match ti.zero with
    | none => False
    | some z => match P.underlying t with
      | none => False
      | some _ => match aggT P t with
        | true => match Nat.beq z.cells.size ti.size with
          | true => ldC ld a 0 z.cells.toList fun vs => K (.agg vs.toArray)
          | false => False
        | false => ldC ld a 0 [z] fun vs => match vs with
          | [v] => K v
          | _ => False

section
variable {P : Program}

theorem isAgg_run {t : TypeId} {d : TypeDesc} (h : P.underlying t = some d) (w : World) : (isAgg t).run P w = .ok (aggT P t) w := by
  unfold isAgg aggT
  rw [h]
  simp only [Sem.run_bind, run_underlying h, Result.andThen_ok]
  cases d <;> rfl

theorem load_run {a : Addr} {v : Value} {w : World} (h : w.cell? a = some v) : (load a).run P w = .ok v w := by
  simp [run_load, h]

theorem loadCells_run {a : Addr} {w : World} : ∀ (vs : List Value) (i : Nat) (acc : Array Value), (∀ j (h : j < vs.length), w.cell? (a.add (i + j)) = some vs[j]) →
    (loadCellsFrom a i vs.length acc).run P w = .ok (acc ++ vs.toArray) w
  | [], i, acc, _ => by simp [loadCellsFrom]
  | v :: vs, i, acc, h => by
    have h0 := h 0 (by simp)
    simp only [Nat.add_zero, List.getElem_cons_zero] at h0
    have ih := loadCells_run vs (i + 1) (acc.push v) (fun j hj => by
      have := h (j + 1) (by simpa using hj)
      rw [show i + 1 + j = i + (j + 1) by omega]
      simpa using this)
    simp only [List.length_cons, loadCellsFrom, Sem.run_bind, load_run h0, Result.andThen_ok, ih]
    simp

theorem Addr.add_zero' (a : Addr) : a.add 0 = a := rfl

theorem ldW_sound {t : TypeId} {a : Addr} {ld : Addr → Value → Prop} {K : Value → Prop} {S : World → Prop} (hld : ∀ b v, ld b v → ∀ w, S w → w.cell? b = some v) (h : ldW P ld t a K) :
    ∃ v, K v ∧ ∀ w, S w → (loadVar t a).run P w = .ok v w := by
  unfold ldW at h
  split at h
  · exact h.elim
  rename_i ti hti
  split at h
  · exact h.elim
  rename_i z hz
  split at h
  · exact h.elim
  rename_i d hd
  split at h
  · rename_i hagg
    split at h
    · rename_i hsz
      have hsz : z.cells.size = ti.size := Nat.eq_of_beq_eq_true hsz
      obtain ⟨vs, hK, hlen, hat⟩ := ldC_sound h
      refine ⟨_, hK, fun w hS => ?_⟩
      have := loadCells_run (P := P) (a := a) (w := w) vs 0 #[] (fun j hj => hld _ _ (hat j hj) w hS)
      unfold loadVar
      simp only [Sem.run_bind, isAgg_run hd, Result.andThen_ok, hagg, if_true, sizeOf_run hti, loadCells]
      rw [← hsz, ← Array.length_toList, ← hlen, this]
      simp
    · exact h.elim
  · rename_i hagg
    obtain ⟨vs, hK, hlen, hat⟩ := ldC_sound h
    match vs, hlen, hK, hat with
    | [v], _, hK, hat =>
      refine ⟨v, hK, fun w hS => ?_⟩
      have := hld _ _ (hat 0 (by simp)) w hS
      simp only [Nat.add_zero, Addr.add_zero', List.getElem_cons_zero] at this
      unfold loadVar
      simp [isAgg_run hd, hagg, this]
end

/-- A cell that may be written. -/
def wrOk (w : World) (a : Addr) : Prop := (∃ v, w.cell? a = some v) ∧ w.frozen? a = false

/-- Storing cells, one after the other. -/
def stC (a : Addr) : Nat → List Value → World → (World → Prop) → Prop
  | _, [], w, K => K w
  | i, v :: vs, w, K => match okC v with
    | true => wrOk w (a.add i) ∧ stC a (i + 1) vs (w.setCell (a.add i) v) K
    | false => False

def stW (P : Program) (t : TypeId) (a : Addr) (v : Value) (w : World) (K : World → Prop) : Prop :=
  match P.info? t with
  | none => False
  | some ti => match Nat.beq v.cells.size ti.size with
    | true => stC a 0 v.cells.toList w K
    | false => False

section
variable {P : Program}

theorem okC_one {v : Value} (h : okC v = true) : v.oneCell' = true := by cases v <;> simp_all [okC, Value.oneCell']

theorem store_run {a : Addr} {v : Value} {w : World} (hv : okC v = true) (h : wrOk w a) : (store a v).run P w = .ok () (w.setCell a v) := by
  obtain ⟨⟨u, hu⟩, hf⟩ := h
  cases v <;> simp_all [okC, store, Sem.run]

theorem stC_sound {a : Addr} : ∀ {vs : List Value} {i : Nat} {w : World} {K : World → Prop}, stC a i vs w K → ∃ w', K w' ∧ (storeCells a vs i).run P w = .ok () w'
  | [], i, w, K, h => ⟨w, h, rfl⟩
  | v :: vs, i, w, K, h => by
    unfold stC at h
    split at h
    · rename_i hv
      obtain ⟨hw, h⟩ := h
      obtain ⟨w', hK, hr⟩ := stC_sound h
      refine ⟨w', hK, ?_⟩
      simp only [storeCells, Sem.run_bind, store_run hv hw, Result.andThen_ok, hr]
    · exact h.elim

theorem stW_sound {t : TypeId} {a : Addr} {v : Value} {w : World} {K : World → Prop} (h : stW P t a v w K) :
    ∃ w', K w' ∧ (storeVar t a v).run P w = .ok () w' := by
  unfold stW at h
  split at h
  · exact h.elim
  rename_i ti hti
  split at h
  · rename_i hsz
    have hsz : v.cells.size = ti.size := Nat.eq_of_beq_eq_true hsz
    obtain ⟨w', hK, hr⟩ := stC_sound (P := P) h
    refine ⟨w', hK, ?_⟩
    simp [storeVar, sizeOf_run hti, hsz, hr]
  · exact h.elim
end

/-- The cells that a slice's head shows. -/
def rdC (w : World) (p : Option Addr) (n : Nat) (vs : List Value) : Prop :=
  vs.length = n ∧ match p with
    | none => n = 0
    | some a => ∀ i (h : i < vs.length), w.cell? (a.add i) = some vs[i]

/-- The world after cells have been written in a row. -/
def wrC (w : World) (a : Addr) : Nat → List Value → World
  | _, [] => w
  | i, v :: vs => wrC (w.setCell (a.add i) v) a (i + 1) vs

/-- A row of cells that may be written. -/
def wrAll (w : World) (a : Addr) (n : Nat) : Prop := ∀ i, i < n → wrOk w (a.add i)

def rowZ (zero : List Value) (n : Nat) : List Value := (List.range n).map fun i => zero.getD (i % zero.length) undef

theorem setCell_isSome {w : World} {a b : Addr} {v u : Value} (h : w.cell? b = some u) : ∃ u', (w.setCell a v).cell? b = some u' := by
  by_cases hab : a = b
  · subst hab; exact ⟨_, World.cell?_setCell_same _ _ _ h⟩
  · exact ⟨u, by rw [World.cell?_setCell_other _ _ _ _ hab]; exact h⟩

theorem wrOk_set {w : World} {a b : Addr} {v : Value} (h : wrOk w b) : wrOk (w.setCell a v) b := by
  obtain ⟨⟨u, hu⟩, hf⟩ := h
  exact ⟨setCell_isSome hu, by simpa using hf⟩

theorem wrC_run {P : Program} {a : Addr} : ∀ (vs : List Value) (i : Nat) (w : World), (∀ v ∈ vs, okC v = true) → (∀ j, j < vs.length → wrOk w (a.add (i + j))) →
    (storeCells a vs i).run P w = .ok () (wrC w a i vs)
  | [], _, _, _, _ => rfl
  | v :: vs, i, w, hv, hw => by
    have h0 := hw 0 (by simp)
    simp only [Nat.add_zero] at h0
    simp only [storeCells, Sem.run_bind, store_run (hv v (by simp)) h0, Result.andThen_ok, wrC]
    refine wrC_run vs (i + 1) _ (fun u hu => hv u (by simp [hu])) fun j hj => wrOk_set ?_
    rw [show i + 1 + j = i + (j + 1) by omega]
    exact hw (j + 1) (by simpa using hj)

end Pw
