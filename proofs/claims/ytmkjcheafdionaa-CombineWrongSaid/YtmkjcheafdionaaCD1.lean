/- Searching in slices, with functions that answer true or false; a problem's parts in memory. Conditions: none. -/
import Derived.Test.YtmkjcheafdionaaCG2
import Derived.Test.YtmkjcheafdionaaRS
import Derived.Test.YtmkjcheafdionaaPwV
import Derived.Test.YtmkjcheafdionaaCB
namespace Pw
open Go
theorem Fr.t {w0 w w' : World} (h : Fr F0 w0 w) (h' : Fr F0 w w') : Fr F0 w0 w' := Fr0.t h h'
end Pw
namespace Go.Proofs.Ytmkjcheafdionaa
open Go Pw

/-- The number of a function whose contract is given. -/
abbrev idOf {f : Nat} {S : Pw.Spec} (_ : Sound Try.prog f S) : Nat := f
/-- A closure's value. -/
abbrev fnv (f : Nat) (l : List Nat) : Value := .func (.func f) #[] (l.map fun b => Value.pointer (some ⟨b, 0, none⟩)).toArray

/-- A function's value answers t on the elements of a list, and changes nothing that was there. -/
def FnB {α : Type} (f : Value) (w0 : World) (arg : α -> List Value) (l : List α) (t : α -> Bool) : Prop :=
  ∀ a ∈ l, ∀ w, Fr F0 w0 w -> ∀ K : VW, (∀ w', Fr F0 w w' -> K (.bool (t a)) w') -> CallV Try.prog f (arg a) w K

theorem FnB.fr {α : Type} {f : Value} {w0 w1 : World} {arg : α -> List Value} {l : List α} {t : α -> Bool} (h : FnB f w0 arg l t) (hf : Fr F0 w0 w1) : FnB f w1 arg l t :=
  fun a ha w hw K hK => h a ha w (hf.t hw) K hK

def argI : Int -> List Value := fun n => [.int .i64 n]

/-- A choice's cells. -/
def encC (c : Ch) : List Value := [.int .i64 c.lot, .int .i64 c.bid, .int .i64 c.price, .int .i64 c.pts]
def argC (c : Ch) : List Value := [.agg #[.int .i64 c.lot, .int .i64 c.bid, .int .i64 c.price, .int .i64 c.pts]]
/-- A deal's cells, with the slice in which its lots lie. -/
def encD (d : De × Sl) : List Value := [.int .i64 d.1.bid, .slice d.2.p d.2.l d.2.c, .int .i64 d.1.off]
def argD (d : De × Sl) : List Value := [.agg #[.int .i64 d.1.bid, .slice d.2.p d.2.l d.2.c, .int .i64 d.1.off]]

@[simp] theorem encC_length (c : Ch) : (encC c).length = 4 := rfl
@[simp] theorem encD_length (d : De × Sl) : (encD d).length = 3 := rfl

abbrev VI (w : World) (s : Sl) (l : List Int) : Prop := Vw 1 (ie .i64 id) w s l
abbrev VC (w : World) (s : Sl) (l : List Ch) : Prop := Vw 4 encC w s l
abbrev VD (w : World) (s : Sl) (l : List (De × Sl)) : Prop := Vw 3 encD w s l

section
variable {w w' w0 : World} {s : Sl}

theorem VI.ld {l : List Int} {i : Int} {K : Int -> Prop} (h : VI w s l) (i' : Nat) (hi : i = (i' : Int)) (h1 : i' < l.length) (hK : K l[i']) :
    nz s.p fun a => (0 <= i /\ i < (s.l : Nat)) /\ ∃ x : Int, w.cell? (a.add (i.toNat * 1)) = some (Value.int .i64 x) /\ K x :=
  Vw.ld 0 h i' hi h1 (by simpa [h1] using hK)

theorem VC.ld {l : List Ch} {i : Int} {K : Addr -> Prop} (h : VC w s l) (i' : Nat) (hi : i = (i' : Int)) (h1 : i' < l.length)
    (hK : ∀ a : Addr, (∀ w', Fr F0 w w' -> w'.cell? (a.add (i.toNat * 4)) = some (.int .i64 l[i'].lot) /\ w'.cell? ((a.add (i.toNat * 4)).add 1) = some (.int .i64 l[i'].bid) /\ w'.cell? ((a.add (i.toNat * 4)).add 2) = some (.int .i64 l[i'].price) /\ w'.cell? ((a.add (i.toNat * 4)).add 3) = some (.int .i64 l[i'].pts)) -> K a) :
    nz s.p fun a => (0 <= i /\ i < (s.l : Nat)) /\ K a := by
  subst hi
  have hl := h.len
  obtain ⟨ad, hp, _⟩ := h.at (fun a => encC_length a) (List.getElem?_eq_getElem h1) (by decide)
  rw [hp]
  refine ⟨⟨by omega, by omega⟩, hK _ fun w' hf => ?_⟩
  obtain ⟨ad', hp', hc⟩ := (h.fr hf).at (fun a => encC_length a) (List.getElem?_eq_getElem h1) (by decide)
  rw [hp] at hp'
  cases hp'
  exact ⟨hc 0 _ rfl, hc 1 _ rfl, hc 2 _ rfl, hc 3 _ rfl⟩

theorem VD.ld {l : List (De × Sl)} {i : Int} {K : Addr -> Prop} (h : VD w s l) (i' : Nat) (hi : i = (i' : Int)) (h1 : i' < l.length)
    (hK : ∀ a : Addr, (∀ w', Fr F0 w w' -> w'.cell? (a.add (i.toNat * 3)) = some (.int .i64 l[i'].1.bid) /\ w'.cell? ((a.add (i.toNat * 3)).add 1) = some (.slice l[i'].2.p l[i'].2.l l[i'].2.c) /\ w'.cell? ((a.add (i.toNat * 3)).add 2) = some (.int .i64 l[i'].1.off)) -> K a) :
    nz s.p fun a => (0 <= i /\ i < (s.l : Nat)) /\ K a := by
  subst hi
  have hl := h.len
  obtain ⟨ad, hp, _⟩ := h.at (fun a => encD_length a) (List.getElem?_eq_getElem h1) (by decide)
  rw [hp]
  refine ⟨⟨by omega, by omega⟩, hK _ fun w' hf => ?_⟩
  obtain ⟨ad', hp', hc⟩ := (h.fr hf).at (fun a => encD_length a) (List.getElem?_eq_getElem h1) (by decide)
  rw [hp] at hp'
  cases hp'
  exact ⟨hc 0 _ rfl, hc 1 _ rfl, hc 2 _ rfl⟩

/-- Where a number stands in a list; -1 if it doesn't. -/
def idxI (v : Int) (l : List Int) : Int := if v ∈ l then (l.idxOf v : Int) else -1

theorem idxI_not {v : Int} {l : List Int} (h : v ∉ l) : idxI v l = -1 := if_neg h
theorem idxI_at {v : Int} {l : List Int} {i : Nat} (h : i < l.length) (h1 : l[i] = v) (h2 : v ∉ l.take i) : idxI v l = (i : Int) := by
  have hm : v ∈ l := h1 ▸ List.getElem_mem h
  rw [idxI, if_pos hm]
  have e : l = l.take i ++ v :: l.drop (i + 1) := by
    rw [← h1, List.getElem_cons_drop, List.take_append_drop]
  rw [e, List.idxOf_append, if_neg h2, List.idxOf_cons_self]
  simp; omega

theorem take_succ' {α : Type} {l : List α} {i : Nat} (h : i < l.length) : l.take (i + 1) = l.take i ++ [l[i]] := by
  rw [List.take_add_one, List.getElem?_eq_getElem h]; rfl

theorem Index_spec {v : Int} {l : List Int} {K : Int -> World -> Prop} (h : VI w s l) (hl : l.length < 2 ^ 62) (hK : K (idxI v l) w) : slices_Index_sh s v K w := by
  have hlen := h.len
  refine ⟨⟨⟨fun i w' => ∃ i' : Nat, i = i' /\ i' <= l.length /\ v ∉ l.take i' /\ w' = w, fun i _ => l.length - i.toNat, ⟨0, rfl, by omega, by simp, rfl⟩, ?_⟩⟩⟩
  rintro i _ ⟨i, rfl, hi, hn, rfl⟩
  unfold slices_Index_b0
  rw [cnd_prop]
  refine ⟨fun hlt => ?_, fun hge => ?_⟩
  · have hlt : i < l.length := by omega
    refine VI.ld h i rfl hlt ?_
    rw [cnd_beq]
    refine ⟨fun he => ?_, fun hne => ⟨inR64 (by omega) (by omega), ⟨⟨rfl, rfl, rfl, trivial⟩, i + 1, by omega, by omega, ?_, rfl⟩, by dsimp only; omega⟩⟩
    · rwa [idxI_at hlt he.symm hn] at hK
    · rw [take_succ' hlt, List.mem_append, List.mem_singleton]
      rintro (h | h)
      · exact hn h
      · exact hne h
  · have : i = l.length := by omega
    subst this
    rw [List.take_length] at hn
    rwa [idxI_not hn] at hK

theorem Contains_spec {v : Int} {l : List Int} {K : Bool -> World -> Prop} (h : VI w s l) (hl : l.length < 2 ^ 62) (hK : K (decide (v ∈ l)) w) : slices_Contains_sh s v K w := by
  refine ⟨Index_spec h hl ?_⟩
  by_cases hm : v ∈ l
  · rw [decide_eq_true hm] at hK
    rw [idxI, if_pos hm, decide_eq_true (by omega)]
    exact hK
  · rw [decide_eq_false hm] at hK
    rw [idxI, if_neg hm, decide_eq_false (by omega)]
    exact hK

/-- What the search for an element with a property answers. -/
def findI {α : Type} (t : α -> Bool) (l : List α) : Int := match l.findIdx? t with
  | some i => i
  | none => -1

theorem findI_any {α : Type} (t : α -> Bool) (l : List α) : decide (findI t l >= 0) = l.any t := by
  unfold findI
  cases h : l.findIdx? t with
  | none =>
    rw [List.findIdx?_eq_none_iff] at h
    rw [Bool.eq_iff_iff]
    simp only [decide_eq_true_eq, List.any_eq_true]
    constructor
    · intro h; omega
    · rintro ⟨x, hx, ht⟩
      rw [h x hx] at ht
      cases ht
  | some i =>
    obtain ⟨h1, h2, _⟩ := List.findIdx?_eq_some_iff_getElem.1 h
    rw [Bool.eq_iff_iff]
    simp only [decide_eq_true_eq, List.any_eq_true]
    exact ⟨fun _ => ⟨_, List.getElem_mem h1, h2⟩, fun _ => by omega⟩

theorem findI_at {α : Type} {t : α -> Bool} {l : List α} {i : Nat} (h : i < l.length) (h1 : t l[i] = true) (h2 : ∀ a ∈ l.take i, t a = false) : findI t l = (i : Int) := by
  have : l.findIdx? t = some i := by
    rw [List.findIdx?_eq_some_iff_getElem]
    refine ⟨h, h1, fun j hj => ?_⟩
    have := h2 l[j] (List.mem_iff_getElem.2 ⟨j, by simp; omega, by simp⟩)
    simp [this]
  unfold findI
  rw [this]

theorem findI_none {α : Type} {t : α -> Bool} {l : List α} (h : ∀ a ∈ l, t a = false) : findI t l = -1 := by
  have : l.findIdx? t = none := List.findIdx?_eq_none_iff.2 h
  unfold findI
  rw [this]

theorem IndexFunc_spec {f : Value} {t : Int -> Bool} {l : List Int} {K : Int -> World -> Prop} (h : VI w s l) (hl : l.length < 2 ^ 62) (hf : FnB f w argI l t) (hK : ∀ w', Fr F0 w w' -> K (findI t l) w') : slices_IndexFunc_sh s f K w := by
  have hlen := h.len
  refine ⟨⟨⟨fun i w' => ∃ i' : Nat, i = i' /\ i' <= l.length /\ (∀ a ∈ l.take i', t a = false) /\ Fr F0 w w', fun i _ => l.length - i.toNat, ⟨0, rfl, by omega, by simp, Fr.refl⟩, ?_⟩⟩⟩
  rintro i w1 ⟨i, rfl, hi, hn, hw⟩
  unfold slices_IndexFunc_b0
  rw [cnd_prop]
  refine ⟨fun hlt => ?_, fun hge => ?_⟩
  · have hlt : i < l.length := by omega
    refine VI.ld (h.fr hw) i rfl hlt ?_
    refine hf _ (List.getElem_mem hlt) w1 hw _ fun w2 hw2 => ⟨_, rfl, ?_⟩
    rw [cnd_iff]
    refine ⟨fun he => ?_, fun hne => ⟨inR64 (by omega) (by omega), ⟨⟨rfl, rfl, rfl, trivial⟩, i + 1, by omega, by omega, ?_, hw.t hw2⟩, by dsimp only; omega⟩⟩
    · have := hK w2 (hw.t hw2)
      rwa [findI_at hlt he hn] at this
    · rw [take_succ' hlt]
      intro a ha
      rcases List.mem_append.1 ha with ha | ha
      · exact hn a ha
      · rw [List.mem_singleton] at ha
        subst ha
        exact hne
  · have : i = l.length := by omega
    subst this
    rw [List.take_length] at hn
    have := hK w1 hw
    rwa [findI_none hn] at this

theorem IndexFuncC_spec {f : Value} {t : Ch -> Bool} {l : List Ch} {K : Int -> World -> Prop} (h : VC w s l) (hl : l.length < 2 ^ 62) (hf : FnB f w argC l t) (hK : ∀ w', Fr F0 w w' -> K (findI t l) w') : slices_IndexFunc_apiChoice_sh s f K w := by
  have hlen := h.len
  refine ⟨⟨⟨fun i w' => ∃ i' : Nat, i = i' /\ i' <= l.length /\ (∀ a ∈ l.take i', t a = false) /\ Fr F0 w w', fun i _ => l.length - i.toNat, ⟨0, rfl, by omega, by simp, Fr.refl⟩, ?_⟩⟩⟩
  rintro i w1 ⟨i, rfl, hi, hn, hw⟩
  unfold slices_IndexFunc_apiChoice_b0
  rw [cnd_prop]
  refine ⟨fun hlt => ?_, fun hge => ?_⟩
  · have hlt : i < l.length := by omega
    refine VC.ld (h.fr hw) i rfl hlt fun a hc => ?_
    obtain ⟨c0, c1, c2, c3⟩ := hc w1 Fr.refl
    refine ⟨_, c0, _, c1, _, c2, _, c3, ?_⟩
    refine hf _ (List.getElem_mem hlt) w1 hw _ fun w2 hw2 => ⟨_, rfl, ?_⟩
    rw [cnd_iff]
    refine ⟨fun he => ?_, fun hne => ⟨inR64 (by omega) (by omega), ⟨⟨rfl, rfl, rfl, trivial⟩, i + 1, by omega, by omega, ?_, hw.t hw2⟩, by dsimp only; omega⟩⟩
    · have := hK w2 (hw.t hw2)
      rwa [findI_at hlt he hn] at this
    · rw [take_succ' hlt]
      intro a ha
      rcases List.mem_append.1 ha with ha | ha
      · exact hn a ha
      · rw [List.mem_singleton] at ha
        subst ha
        exact hne
  · have : i = l.length := by omega
    subst this
    rw [List.take_length] at hn
    have := hK w1 hw
    rwa [findI_none hn] at this

theorem IndexFuncD_spec {f : Value} {t : De × Sl -> Bool} {l : List (De × Sl)} {K : Int -> World -> Prop} (h : VD w s l) (hl : l.length < 2 ^ 62) (hf : FnB f w argD l t) (hK : ∀ w', Fr F0 w w' -> K (findI t l) w') : slices_IndexFunc_apiDeal_sh s f K w := by
  have hlen := h.len
  refine ⟨⟨⟨fun i w' => ∃ i' : Nat, i = i' /\ i' <= l.length /\ (∀ a ∈ l.take i', t a = false) /\ Fr F0 w w', fun i _ => l.length - i.toNat, ⟨0, rfl, by omega, by simp, Fr.refl⟩, ?_⟩⟩⟩
  rintro i w1 ⟨i, rfl, hi, hn, hw⟩
  unfold slices_IndexFunc_apiDeal_b0
  rw [cnd_prop]
  refine ⟨fun hlt => ?_, fun hge => ?_⟩
  · have hlt : i < l.length := by omega
    refine VD.ld (h.fr hw) i rfl hlt fun a hc => ?_
    obtain ⟨c0, c1, c2⟩ := hc w1 Fr.refl
    refine ⟨_, c0, _, c1, _, c2, ?_⟩
    refine hf _ (List.getElem_mem hlt) w1 hw _ fun w2 hw2 => ⟨_, rfl, ?_⟩
    rw [cnd_iff]
    refine ⟨fun he => ?_, fun hne => ⟨inR64 (by omega) (by omega), ⟨⟨rfl, rfl, rfl, trivial⟩, i + 1, by omega, by omega, ?_, hw.t hw2⟩, by dsimp only; omega⟩⟩
    · have := hK w2 (hw.t hw2)
      rwa [findI_at hlt he hn] at this
    · rw [take_succ' hlt]
      intro a ha
      rcases List.mem_append.1 ha with ha | ha
      · exact hn a ha
      · rw [List.mem_singleton] at ha
        subst ha
        exact hne
  · have : i = l.length := by omega
    subst this
    rw [List.take_length] at hn
    have := hK w1 hw
    rwa [findI_none hn] at this

theorem ContainsFunc_spec {f : Value} {t : Int -> Bool} {l : List Int} {K : Bool -> World -> Prop} (h : VI w s l) (hl : l.length < 2 ^ 62) (hf : FnB f w argI l t) (hK : ∀ w', Fr F0 w w' -> K (l.any t) w') : slices_ContainsFunc_sh s f K w :=
  ⟨IndexFunc_spec h hl hf fun w' hw => by rw [findI_any]; exact hK w' hw⟩
theorem ContainsFuncC_spec {f : Value} {t : Ch -> Bool} {l : List Ch} {K : Bool -> World -> Prop} (h : VC w s l) (hl : l.length < 2 ^ 62) (hf : FnB f w argC l t) (hK : ∀ w', Fr F0 w w' -> K (l.any t) w') : slices_ContainsFunc_apiChoice_sh s f K w :=
  ⟨IndexFuncC_spec h hl hf fun w' hw => by rw [findI_any]; exact hK w' hw⟩
theorem ContainsFuncD_spec {f : Value} {t : De × Sl -> Bool} {l : List (De × Sl)} {K : Bool -> World -> Prop} (h : VD w s l) (hl : l.length < 2 ^ 62) (hf : FnB f w argD l t) (hK : ∀ w', Fr F0 w w' -> K (l.any t) w') : slices_ContainsFunc_apiDeal_sh s f K w :=
  ⟨IndexFuncD_spec h hl hf fun w' hw => by rw [findI_any]; exact hK w' hw⟩

theorem not_any_not {α : Type} (t : α -> Bool) : ∀ l : List α, (!l.any fun a => !t a) = l.all t
  | [] => rfl
  | a :: l => by simp [not_any_not]

/-- A function's value is no aggregate. -/
def FnV (f : Value) : Prop := Value.cells f = #[f]

theorem all_spec {f : Value} {t : Int -> Bool} {l : List Int} {K : Bool -> World -> Prop} (h : VI w s l) (hl : l.length < 2 ^ 62) (hv : FnV f) (hf : FnB f w argI l t) (hK : ∀ w', Fr F0 w w' -> K (l.all t) w') : Cb_all_sh s f K w := by
  refine ⟨?_⟩
  unfold Cb_all_sd
  intro w1
  have hw1 : Fr F0 w w1 := Fr.alloc
  have hr : Row w1 w.heap.size [f] := by
    have : Value.cells f = ([f] : List Value).toArray := hv
    show Row (w.alloc (Obj.cells (Value.cells f) _)) _ _
    rw [this]
    exact Row.new
  clear_value w1
  refine ContainsFunc_spec (h.fr hw1) hl (t := fun a => !t a) (fun a ha w2 hw2 K' hK' => callV_of Cb_all_1_ok ⟨⟨f, (hw2.row hr fun h => h).at rfl, hf a ha w2 (hw1.t hw2) _ fun w3 hw3 => ⟨_, rfl, hK' w3 hw3⟩⟩⟩) fun w' hw' => ?_
  rw [not_any_not]
  exact hK w' (hw1.t hw')

theorem allC_spec {f : Value} {t : Ch -> Bool} {l : List Ch} {K : Bool -> World -> Prop} (h : VC w s l) (hl : l.length < 2 ^ 62) (hv : FnV f) (hf : FnB f w argC l t) (hK : ∀ w', Fr F0 w w' -> K (l.all t) w') : Cb_all_apiChoice_sh s f K w := by
  refine ⟨?_⟩
  unfold Cb_all_apiChoice_sd
  intro w1
  have hw1 : Fr F0 w w1 := Fr.alloc
  have hr : Row w1 w.heap.size [f] := by
    have : Value.cells f = ([f] : List Value).toArray := hv
    show Row (w.alloc (Obj.cells (Value.cells f) _)) _ _
    rw [this]
    exact Row.new
  clear_value w1
  refine ContainsFuncC_spec (h.fr hw1) hl (t := fun a => !t a) (fun a ha w2 hw2 K' hK' => by
    refine callV_of Cb_all_1_apiChoice_ok ⟨?_⟩
    unfold Cb_all_1_apiChoice_sd
    intro w3
    have hf3 : Fr F0 w2 w3 := Fr.alloc
    have hm : Row w3 w2.heap.size (encC a) := Row.new
    clear_value w3
    exact ⟨f, (hf3.row (hw2.row hr fun h => h) fun h => h).at rfl, ⟨_, hm.at rfl, ⟨_, hm.at rfl, ⟨_, hm.at rfl, ⟨_, hm.at rfl, hf a ha w3 (hw1.t (hw2.t hf3)) _ fun w4 hw4 => ⟨_, rfl, hK' w4 (hf3.t hw4)⟩⟩⟩⟩⟩⟩) fun w' hw' => ?_
  rw [not_any_not]
  exact hK w' (hw1.t hw')

theorem allD_spec {f : Value} {t : De × Sl -> Bool} {l : List (De × Sl)} {K : Bool -> World -> Prop} (h : VD w s l) (hl : l.length < 2 ^ 62) (hv : FnV f) (hf : FnB f w argD l t) (hK : ∀ w', Fr F0 w w' -> K (l.all t) w') : Cb_all_apiDeal_sh s f K w := by
  refine ⟨?_⟩
  unfold Cb_all_apiDeal_sd
  intro w1
  have hw1 : Fr F0 w w1 := Fr.alloc
  have hr : Row w1 w.heap.size [f] := by
    have : Value.cells f = ([f] : List Value).toArray := hv
    show Row (w.alloc (Obj.cells (Value.cells f) _)) _ _
    rw [this]
    exact Row.new
  clear_value w1
  refine ContainsFuncD_spec (h.fr hw1) hl (t := fun a => !t a) (fun a ha w2 hw2 K' hK' => by
    refine callV_of Cb_all_1_apiDeal_ok ⟨?_⟩
    unfold Cb_all_1_apiDeal_sd
    intro w3
    have hf3 : Fr F0 w2 w3 := Fr.alloc
    have hm : Row w3 w2.heap.size (encD a) := Row.new
    clear_value w3
    exact ⟨f, (hf3.row (hw2.row hr fun h => h) fun h => h).at rfl, ⟨_, hm.at rfl, ⟨_, hm.at rfl, ⟨_, hm.at rfl, hf a ha w3 (hw1.t (hw2.t hf3)) _ fun w4 hw4 => ⟨_, rfl, hK' w4 (hf3.t hw4)⟩⟩⟩⟩⟩) fun w' hw' => ?_
  rw [not_any_not]
  exact hK w' (hw1.t hw')
end
end Go.Proofs.Ytmkjcheafdionaa
