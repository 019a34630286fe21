/- DependSame. Conditions: none. -/
import Derived.Test.YtfkmpbpkahcogaaGreatDoorDRTY
import Derived.Test.YtfkmpbpkahcogaaGreatDoorDLX
import Derived.Test.YtfkmpbpkahcogaaGreatDoorDR1
import Derived.Test.YtfkmpbpkahcogaaGreatDoorRXY
import Derived.Test.YtfkmpbpkahcogaaGreatDoorRXX
import Derived.Test.YtfkmpbpkahcogaaGreatDoorCG1
namespace Go.Proofs.YtfkmpbpkahcogaaGreatDoor
open Go Pw Dp
section
variable {w w' u w0 : World} {x : T29} {p : Pn} {K : Bool -> World -> Prop} {l m : List B} {s s' : Sl}
variable {y z : T43} {ta tb : Td}
theorem FitK.mono {k k' : Nat} {t : Td} (h : FitK k t) (hk : k' <= k) : FitK k' t :=
 { h with fp := by have := h.fp; omega, lots := by have := h.lots; omega, ties := by have := h.ties; omega, combos := by have := h.combos; omega }
end
end Go.Proofs.YtfkmpbpkahcogaaGreatDoor
namespace Go.Proofs.YtfkmpbpkahcogaaGreatDoor
open Go Pw Dp
theorem itoa_inj {a b : Int} (ha : I64 a) (hb : I64 b) (h : Lib.itoa a = Lib.itoa b) : a = b := by
 have h1 := atoi_itoa ha.1 ha.2
 have h2 := atoi_itoa hb.1 hb.2
 rw [h, h2] at h1
 injection h1 with h1
 exact h1.symm
theorem itoa_no {n : Int} {c : UInt8} (h : c.toNat < 48 \/ 57 < c.toNat) (h' : c ≠ 45) : c ∉ Lib.itoa n := by
 unfold Lib.itoa
 split
 ·intro hm
  rcases List.mem_cons.1 hm with hm | hm
  ·exact h' hm
  ·have := dec_digit _ _ hm; omega
 ·intro hm
  have := dec_digit _ _ hm; omega
theorem itoa_blank (n : Int) : (32 : UInt8) ∉ Lib.itoa n := itoa_no (by decide) (by decide)
theorem itoa_bar (n : Int) : (124 : UInt8) ∉ Lib.itoa n := itoa_no (by decide) (by decide)
theorem cut_at {s : UInt8} : ∀ {a b x y : B}, s ∉ a -> s ∉ b -> a ++ s :: x = b ++ s :: y -> a = b /\ x = y
 | [], [], _, _, _, _, h => by simpa using h
 | [], c :: b, _, _, _, hb, h => by
  simp only [List.nil_append, List.cons_append, List.cons.injEq] at h
  exact absurd (h.1 ▸ List.mem_cons_self) hb
 | c :: a, [], _, _, ha, _, h => by
  simp only [List.nil_append, List.cons_append, List.cons.injEq] at h
  exact absurd (h.1 ▸ List.mem_cons_self) ha
 | c :: a, d :: b, _, _, ha, hb, h => by
  simp only [List.cons_append, List.cons.injEq] at h
  obtain ⟨e1, e2⟩ := cut_at (fun hm => ha (List.mem_cons_of_mem _ hm)) (fun hm => hb (List.mem_cons_of_mem _ hm)) h.2
  exact ⟨by rw [h.1, e1], e2⟩
theorem num_at {a b : Int} {x y : B} (ha : I64 a) (hb : I64 b) (h : Lib.itoa a ++ 32 :: x = Lib.itoa b ++ 32 :: y) : a = b /\ x = y := by
 obtain ⟨h1, h2⟩ := cut_at (itoa_blank a) (itoa_blank b) h
 exact ⟨itoa_inj ha hb h1, h2⟩
theorem len64 {l : B} (h : l.length <= 2 ^ 20) : I64 (l.length : Int) := ⟨by omega, by omega⟩
theorem net_at {a b x y : B} (ha : a.length <= 2 ^ 20) (hb : b.length <= 2 ^ 20) (h : Lib.itoa (a.length : Int) ++ 32 :: (a ++ x) = Lib.itoa (b.length : Int) ++ 32 :: (b ++ y)) : a = b /\ x = y := by
 obtain ⟨h1, h2⟩ := num_at (len64 ha) (len64 hb) h
 exact List.append_inj h2 (by omega)
def critT (c : Cr) : B := Lib.itoa c.kind ++ [32] ++ Lib.itoa c.low ++ [32] ++ Lib.itoa c.high ++ (if c.less then [32, 108, 101, 115, 115] else [])
def reqT (r : Rq) : B := Lib.itoa (r.name.length : Int) ++ [32] ++ r.name ++ Lib.itoa (r.rel.length : Int) ++ [32] ++ r.rel ++ Lib.itoa r.val
def tieT (s : B) : B := Lib.itoa (s.length : Int) ++ [32] ++ s
def tiesT (l : List B) : B := l.flatMap tieT
def idsT (l : List Int) : B := l.flatMap fun i => Lib.itoa i ++ [32]
def combosT (l : List (List Int)) : B := l.flatMap fun c => 124 :: idsT c
def timesT (t : Td) : B := Lib.itoa t.t1 ++ [32] ++ Lib.itoa t.t2 ++ [32] ++ Lib.itoa t.t3 ++ [32] ++ Lib.itoa t.t4 ++ [32] ++ Lib.itoa t.t5
def restT (t : Td) (c : B) : B :=
 if c = wName then t.name else if c = wRange then Lib.itoa t.low ++ [32] ++ Lib.itoa t.high else if c = wTies then tiesT t.ties
 else if c = wMost then Lib.itoa t.most else if c = wCombos then combosT t.combos else if c = wBudget then Lib.itoa t.budget else if c = wTimes then timesT t else []
def contT (t : Td) (c : B) : B :=
 match t.lots.find? (fun l => decide (lotC l.1 = c)) with
 | some l => Lib.itoa l.2
 | none => match t.crit.find? (fun x => decide (critC x.name = c)) with
  | some x => critT x
  | none => match reqF t c with
   | some r => reqT r
   | none => restT t c
theorem crit_inj {a b : Cr} (hn : a.name = b.name) (ha : I64 a.kind /\ I64 a.low /\ I64 a.high) (hb : I64 b.kind /\ I64 b.low /\ I64 b.high) (h : critT a = critT b) : a = b := by
 unfold critT at h
 simp only [List.append_assoc, List.cons_append, List.nil_append] at h
 obtain ⟨e1, h⟩ := num_at ha.1 hb.1 h
 obtain ⟨e2, h⟩ := num_at ha.2.1 hb.2.1 h
 obtain ⟨an, ak, al, ah, a5⟩ := a
 obtain ⟨bn, bk, bl, bh, b5⟩ := b
 simp only at *
 subst hn e1 e2
 have key : ∀ {u v : Int}, Lib.itoa u ≠ Lib.itoa v ++ [32, 108, 101, 115, 115] := fun {u v} e => by
  have : (32 : UInt8) ∈ Lib.itoa u := by rw [e]; simp
  exact itoa_blank u this
 cases a5 <;> cases b5 <;> simp only [Bool.false_eq_true, if_false, if_true, List.append_nil] at h
 ·rw [itoa_inj ha.2.2 hb.2.2 h]
 ·exact absurd h key
 ·exact absurd h.symm key
 ·rw [itoa_inj ha.2.2 hb.2.2 (List.append_cancel_right h)]
theorem req_inj {a b : Rq} (ha : a.name.length <= 2 ^ 20 /\ a.rel.length <= 2 ^ 20 /\ I64 a.val) (hb : b.name.length <= 2 ^ 20 /\ b.rel.length <= 2 ^ 20 /\ I64 b.val) (h : reqT a = reqT b) : a = b := by
 unfold reqT at h
 simp only [List.append_assoc, List.cons_append, List.nil_append] at h
 obtain ⟨e1, h⟩ := net_at ha.1 hb.1 h
 obtain ⟨e2, h⟩ := net_at ha.2.1 hb.2.1 h
 have e3 := itoa_inj ha.2.2 hb.2.2 h
 obtain ⟨_, _, _⟩ := a
 obtain ⟨_, _, _⟩ := b
 simp only at *
 subst e1 e2 e3
 rfl
theorem ties_inj : ∀ {a b : List B}, (∀ s ∈ a, s.length <= 2 ^ 20) -> (∀ s ∈ b, s.length <= 2 ^ 20) -> tiesT a = tiesT b -> a = b
 | [], [], _, _, _ => rfl
 | [], s :: b, _, _, h => by
  have := congrArg List.length h
  simp [tiesT, tieT] at this
 | s :: a, [], _, _, h => by
  have := congrArg List.length h
  simp [tiesT, tieT] at this
 | s :: a, r :: b, ha, hb, h => by
  have h : tieT s ++ tiesT a = tieT r ++ tiesT b := h
  simp only [tieT, List.append_assoc, List.cons_append, List.nil_append] at h
  obtain ⟨e1, h⟩ := net_at (ha s (by simp)) (hb r (by simp)) h
  rw [e1, ties_inj (a := a) (b := b) (fun x hx => ha x (by simp [hx])) (fun x hx => hb x (by simp [hx])) h]
theorem ids_inj : ∀ {a b : List Int} {x y : B}, (∀ i ∈ a, I64 i) -> (∀ i ∈ b, I64 i) -> (x = [] \/ ∃ r, x = 124 :: r) -> (y = [] \/ ∃ r, y = 124 :: r) -> idsT a ++ x = idsT b ++ y -> a = b /\ x = y
 | [], [], _, _, _, _, _, _, h => ⟨rfl, by simpa [idsT] using h⟩
 | [], i :: b, x, y, _, hb, hx, _, h => by
  have h : x = (Lib.itoa i ++ [32]) ++ idsT b ++ y := h
  simp only [List.append_assoc, List.nil_append, List.cons_append] at h
  rcases hx with rfl | ⟨r, rfl⟩
  ·have := congrArg List.length h
   simp at this
  ·have hne := itoa_ne i
   cases e : Lib.itoa i with
   | nil => exact absurd e hne
   | cons d l =>
    rw [e] at h
    simp only [List.cons_append, List.cons.injEq] at h
    have : (124 : UInt8) ∈ Lib.itoa i := by rw [e, h.1]; simp
    exact absurd this (itoa_bar i)
 | i :: a, [], x, y, ha, _, _, hy, h => by
  have h : (Lib.itoa i ++ [32]) ++ idsT a ++ x = y := h
  simp only [List.append_assoc, List.nil_append, List.cons_append] at h
  rcases hy with rfl | ⟨r, rfl⟩
  ·have := congrArg List.length h
   simp at this
  ·have hne := itoa_ne i
   cases e : Lib.itoa i with
   | nil => exact absurd e hne
   | cons d l =>
    rw [e] at h
    simp only [List.cons_append, List.cons.injEq] at h
    have : (124 : UInt8) ∈ Lib.itoa i := by rw [e, ← h.1]; simp
    exact absurd this (itoa_bar i)
 | i :: a, j :: b, x, y, ha, hb, hx, hy, h => by
  have h : (Lib.itoa i ++ [32]) ++ idsT a ++ x = (Lib.itoa j ++ [32]) ++ idsT b ++ y := h
  simp only [List.append_assoc, List.cons_append, List.nil_append] at h
  obtain ⟨e1, h⟩ := num_at (ha i (by simp)) (hb j (by simp)) h
  obtain ⟨e2, e3⟩ := ids_inj (a := a) (b := b) (fun x hx => ha x (by simp [hx])) (fun x hx => hb x (by simp [hx])) hx hy h
  exact ⟨by rw [e1, e2], e3⟩
theorem combos_head (l : List (List Int)) : combosT l = [] \/ ∃ r, combosT l = 124 :: r := by
 cases l with
 | nil => exact .inl rfl
 | cons c l => exact .inr ⟨_, rfl⟩
theorem combos_inj : ∀ {a b : List (List Int)}, (∀ l ∈ a, ∀ i ∈ l, I64 i) -> (∀ l ∈ b, ∀ i ∈ l, I64 i) -> combosT a = combosT b -> a = b
 | [], [], _, _, _ => rfl
 | [], s :: b, _, _, h => by simp [combosT] at h
 | s :: a, [], _, _, h => by simp [combosT] at h
 | s :: a, r :: b, ha, hb, h => by
  have h : 124 :: (idsT s ++ combosT a) = 124 :: (idsT r ++ combosT b) := h
  injection h with _ h
  obtain ⟨e1, h⟩ := ids_inj (ha s (by simp)) (hb r (by simp)) (combos_head a) (combos_head b) h
  rw [e1, combos_inj (a := a) (b := b) (fun x hx => ha x (by simp [hx])) (fun x hx => hb x (by simp [hx])) h]
section
variable {a b t : Td} {c : B}
theorem lots_none (h : wLot.isPrefixOf c = false) : t.lots.find? (fun l => decide (lotC l.1 = c)) = none := by
 rw [List.find?_eq_none]
 intro l _ e
 have e := of_decide_eq_true e
 subst e
 have : wLot.isPrefixOf (lotC l.1) = true := List.isPrefixOf_iff_prefix.2 ⟨_, rfl⟩
 rw [this] at h
 cases h
theorem crit_none (h : wCrit.isPrefixOf c = false) : t.crit.find? (fun x => decide (critC x.name = c)) = none := by
 rw [List.find?_eq_none]
 intro l _ e
 have e := of_decide_eq_true e
 subst e
 have : wCrit.isPrefixOf (critC l.name) = true := List.isPrefixOf_iff_prefix.2 ⟨_, rfl⟩
 rw [this] at h
 cases h
theorem req_none (h : wReq.isPrefixOf c = false) : reqF t c = none := by
 unfold reqF
 have : (List.range t.reqs.length).find? (fun k => decide (c = reqC k)) = none := by
  rw [List.find?_eq_none]
  intro k _ e
  exact noreq h k (of_decide_eq_true e)
 rw [this]
 rfl
theorem contT_rest (h1 : wLot.isPrefixOf c = false) (h2 : wCrit.isPrefixOf c = false) (h3 : wReq.isPrefixOf c = false) : contT t c = restT t c := by
 unfold contT
 rw [lots_none h1, crit_none h2, req_none h3]
theorem dec_of {α : Prop} [Decidable α] {p : Bool} (h : α ↔ p = true) : decide α = p := by
 rw [Bool.eq_iff_iff, decide_eq_true_eq]; exact h
theorem words_free : ∀ w ∈ wName :: fixed, wLot.isPrefixOf w = false /\ wCrit.isPrefixOf w = false /\ wReq.isPrefixOf w = false := by decide
theorem times_inj (hA : Fit a) (hB : Fit b) (h : timesT a = timesT b) : a.t1 = b.t1 /\ a.t2 = b.t2 /\ a.t3 = b.t3 /\ a.t4 = b.t4 /\ a.t5 = b.t5 := by
 unfold timesT at h
 simp only [List.append_assoc, List.cons_append, List.nil_append] at h
 obtain ⟨e1, h⟩ := num_at hA.t1 hB.t1 h
 obtain ⟨e2, h⟩ := num_at hA.t2 hB.t2 h
 obtain ⟨e3, h⟩ := num_at hA.t3 hB.t3 h
 obtain ⟨e4, h⟩ := num_at hA.t4 hB.t4 h
 exact ⟨e1, e2, e3, e4, itoa_inj hA.t5 hB.t5 h⟩
theorem cont_eq (hA : Fit a) (hB : Fit b) (ha : c ∈ clauses a) (hb : c ∈ clauses b) (hf : c ≠ wForm) : decide (contT a c = contT b c) = eqc a b c := by
 have hra := hA.reqs
 have hrb := hB.reqs
 have hword : c ∈ wName :: fixed -> decide (contT a c = contT b c) = eqc a b c := fun hw => by
  obtain ⟨p1, p2, p3⟩ := words_free c hw
  rw [contT_rest p1 p2 p3, contT_rest p1 p2 p3]
  simp only [fixed, List.mem_cons, List.not_mem_nil, or_false] at hw
  rcases hw with rfl | rfl | rfl | rfl | rfl | rfl | rfl | rfl
  ·rfl
  ·refine dec_of ?_
   show Lib.itoa a.low ++ [32] ++ Lib.itoa a.high = Lib.itoa b.low ++ [32] ++ Lib.itoa b.high ↔ (decide (a.low = b.low) && decide (a.high = b.high)) = true
   rw [Bool.and_eq_true, decide_eq_true_eq, decide_eq_true_eq]
   refine ⟨fun h => ?_, fun ⟨h1, h2⟩ => by rw [h1, h2]⟩
   simp only [List.append_assoc, List.cons_append, List.nil_append] at h
   obtain ⟨e1, h⟩ := num_at hA.low hB.low h
   exact ⟨e1, itoa_inj hA.high hB.high h⟩
  ·exact absurd rfl hf
  ·exact decide_eq_decide.2 ⟨ties_inj hA.tie hB.tie, fun h => congrArg tiesT h⟩
  ·exact decide_eq_decide.2 ⟨itoa_inj hA.most hB.most, fun h => congrArg Lib.itoa h⟩
  ·exact decide_eq_decide.2 ⟨combos_inj (fun l hl => (hA.combo l hl).2) (fun l hl => (hB.combo l hl).2), fun h => congrArg combosT h⟩
  ·exact decide_eq_decide.2 ⟨itoa_inj hA.budget hB.budget, fun h => congrArg Lib.itoa h⟩
  ·refine dec_of ?_
   show timesT a = timesT b ↔ (decide (a.t1 = b.t1) && (decide (a.t2 = b.t2) && (decide (a.t3 = b.t3) && (decide (a.t4 = b.t4) && decide (a.t5 = b.t5))))) = true
   simp only [Bool.and_eq_true, decide_eq_true_eq]
   refine ⟨times_inj hA hB, fun ⟨h1, h2, h3, h4, h5⟩ => by unfold timesT; rw [h1, h2, h3, h4, h5]⟩
 have hns : ∀ p : B, (32 : UInt8) ∈ p -> ∀ r w, w ∈ wName :: fixed -> p ++ r ≠ w := fun p hp r w hw e => by
  have h1 : ∀ w ∈ wName :: fixed, (32 : UInt8) ∉ w := by decide
  exact h1 w hw (e ▸ List.mem_append.2 (.inl hp))
 have heq : ∀ p : B, (32 : UInt8) ∈ p -> ∀ r, c = p ++ r -> eqc a b c = if wLot.isPrefixOf c then decide (lotM a c = lotM b c) else if wCrit.isPrefixOf c then decide (critF a c = critF b c) else decide (reqF a c = reqF b c) := fun p hp r e => by
  have h := fun w hw => hns p hp r w hw
  rw [← e] at h
  unfold eqc
  rw [if_neg (h _ (by decide)), if_neg (h _ (by decide)), if_neg (h _ (by decide)), if_neg (h _ (by decide)), if_neg (h _ (by decide)), if_neg (h _ (by decide)), if_neg (h _ (by decide)), if_neg (h _ (by decide))]
 rcases cl_cases ha with h | ⟨l, hl, e⟩ | ⟨x, hx, e⟩ | ⟨k, hk, e⟩ | h
 ·exact hword (by rw [h]; simp)
 ·have hp : wLot.isPrefixOf c = true := by rw [e]; exact List.isPrefixOf_iff_prefix.2 ⟨_, rfl⟩
  rw [heq wLot (by decide) _ e, hp, if_pos rfl]
  have hs : ∀ {t : Td}, Fit t -> c ∈ clauses t -> ∃ l ∈ t.lots, t.lots.find? (fun l => decide (lotC l.1 = c)) = some l := fun {t} hT ht => by
   obtain ⟨l, hl, he⟩ := List.mem_map.1 ((lot_iff ht).1 hp)
   cases hfd : t.lots.find? (fun l => decide (lotC l.1 = c)) with
   | none => exact absurd (decide_eq_true he) (by simpa using List.find?_eq_none.1 hfd l hl)
   | some y => exact ⟨y, List.mem_of_find?_eq_some hfd, rfl⟩
  obtain ⟨la, hla, fa⟩ := hs hA ha
  obtain ⟨lb, hlb, fb⟩ := hs hB hb
  unfold contT lotM
  rw [fa, fb]
  exact decide_eq_decide.2 ⟨itoa_inj (hA.lot _ hla).2 (hB.lot _ hlb).2, fun h => congrArg Lib.itoa h⟩
 ·have hp : wCrit.isPrefixOf c = true := by rw [e]; exact List.isPrefixOf_iff_prefix.2 ⟨_, rfl⟩
  have hnl : wLot.isPrefixOf c = false := by rw [e]; rfl
  rw [heq wCrit (by decide) _ e, hp, hnl]
  simp only [Bool.false_eq_true, if_false, if_true]
  have hs : ∀ {t : Td}, c ∈ clauses t -> ∃ y ∈ t.crit, critC y.name = c /\ t.crit.find? (fun x => decide (critC x.name = c)) = some y := fun {t} ht => by
   have : ∃ y ∈ t.crit, c = critC y.name := by
    rcases cl_cases ht with h | ⟨l, hl, e'⟩ | ⟨y, hy, e'⟩ | ⟨k, hk, e'⟩ | h
    ·rw [h] at hp; exact absurd hp (by decide)
    ·rw [e'] at hp; exact absurd hp (by simp [lotC, wLot, wCrit, List.isPrefixOf])
    ·exact ⟨y, hy, e'⟩
    ·rw [e'] at hp; exact absurd hp (by simp [reqC, wReq, wCrit, List.isPrefixOf])
    ·have : ∀ o ∈ fixed, wCrit.isPrefixOf o = false := by decide
     rw [this c h] at hp; cases hp
   obtain ⟨y, hy, he⟩ := this
   cases hfd : t.crit.find? (fun x => decide (critC x.name = c)) with
   | none => exact absurd (decide_eq_true he.symm) (by simpa using List.find?_eq_none.1 hfd y hy)
   | some z => exact ⟨z, List.mem_of_find?_eq_some hfd, by simpa using List.find?_some hfd, rfl⟩
  obtain ⟨ya, hya, ea, fa⟩ := hs ha
  obtain ⟨yb, hyb, eb, fb⟩ := hs hb
  unfold contT critF
  rw [lots_none hnl, lots_none hnl, fa, fb]
  exact decide_eq_decide.2 ⟨crit_inj (critC_inj (ea.trans eb.symm)) (hA.cr _ hya).2 (hB.cr _ hyb).2, fun h => congrArg critT h⟩
 ·have hp : wReq.isPrefixOf c = true := by rw [e]; exact List.isPrefixOf_iff_prefix.2 ⟨_, rfl⟩
  have hnl : wLot.isPrefixOf c = false := by rw [e]; rfl
  have hnc : wCrit.isPrefixOf c = false := by rw [e]; rfl
  have hkb : k < b.reqs.length := by
   rcases cl_cases hb with h | ⟨l, hl, e'⟩ | ⟨y, hy, e'⟩ | ⟨j, hj, e'⟩ | h
   ·rw [h] at hp; exact absurd hp (by decide)
   ·rw [e'] at hp; exact absurd hp (by simp [lotC, wLot, wReq, List.isPrefixOf])
   ·rw [e'] at hp; exact absurd hp (by simp [critC, wCrit, wReq, List.isPrefixOf])
   ·have := reqC_inj (by omega) (by omega) (e.symm.trans e')
    omega
   ·have : ∀ o ∈ fixed, wReq.isPrefixOf o = false := by decide
    rw [this c h] at hp; cases hp
  rw [heq wReq (by decide) _ e, hnl, hnc]
  simp only [Bool.false_eq_true, if_false]
  unfold contT
  rw [lots_none hnl, lots_none hnl, crit_none hnc, crit_none hnc, e, reqF_at hk (by omega), reqF_at hkb (by omega)]
  refine decide_eq_decide.2 ⟨fun h => congrArg some (req_inj (hA.rq _ (List.getElem_mem hk)) (hB.rq _ (List.getElem_mem hkb)) h), fun h => by injection h with h; rw [h]⟩
 ·exact hword (List.mem_cons_of_mem _ h)
end
end Go.Proofs.YtfkmpbpkahcogaaGreatDoor
namespace Dp
open Go Pw
def wantsR (t : Td) (c : B) (N : List B) : List B :=
 ((List.range t.reqs.length).filter (fun k => decide (c = reqC k))).map (fun k => critC ((t.reqs[k]?.map (·.name)).getD [])) ++
 ((if c = wTies \/ c = wForm then (if c = wTies then t.ties else N).flatMap (fun n => critC n :: if n = wPrice \/ (n = wLow /\ c = wForm) then [wRange] else []) else []) ++
 ((if c = wMost \/ c = wBudget then t.lots.map (fun l => lotC l.1) else []) ++
 ((if c = wBudget then [wCombos] else []) ++ (if c = wCombos then t.combos.flatMap (fun l => l.map lotC) else []))))
theorem mem_wantsR {t : Td} {c o : B} {N : List B} (hN : ∀ s, s ∈ N ↔ s ∈ t.fm.namesR) : o ∈ wantsR t c N ↔ o ∈ wants t c := by
 unfold wantsR wants
 refine Iff.trans List.mem_append (Iff.trans (or_congr Iff.rfl ?_) List.mem_append.symm)
 by_cases h1 : c = wForm
 ·subst h1
  have e1 : ¬ wForm = wTies := by decide
  have e2 : ¬ (wForm = wMost \/ wForm = wBudget) := by decide
  have e3 : ¬ wForm = wBudget := by decide
  have e4 : ¬ wForm = wCombos := by decide
  rw [if_pos (Or.inr rfl), if_neg e1, if_neg e2, if_neg e3, if_neg e4, if_pos rfl]
  simp only [List.append_nil, List.mem_flatMap, and_true, hN]
 rw [if_neg h1]
 by_cases h2 : c = wTies
 ·subst h2
  have e2 : ¬ (wTies = wMost \/ wTies = wBudget) := by decide
  have e3 : ¬ wTies = wBudget := by decide
  have e4 : ¬ wTies = wCombos := by decide
  rw [if_pos (Or.inl rfl), if_pos rfl, if_neg e2, if_neg e3, if_neg e4, if_pos rfl]
  simp only [List.append_nil, List.mem_flatMap, h1, and_false, or_false]
 rw [if_neg h2, if_neg (show ¬ (c = wTies \/ c = wForm) by simp [h1, h2]), List.nil_append, if_neg h2]
 by_cases h3 : c = wMost
 ·subst h3
  have e3 : ¬ wMost = wBudget := by decide
  have e4 : ¬ wMost = wCombos := by decide
  rw [if_pos (Or.inl rfl), if_neg e3, if_neg e4, if_pos rfl]
  simp
 rw [if_neg h3]
 by_cases h4 : c = wBudget
 ·subst h4
  have e4 : ¬ wBudget = wCombos := by decide
  rw [if_pos (Or.inr rfl), if_pos rfl, if_neg e4, if_pos rfl]
  simp
 rw [if_neg h4, if_neg (by simp [h3, h4]), if_neg h4]
 simp
theorem uses_ref {t : Td} {c : B} {N : List B} (hN : ∀ s, s ∈ N ↔ s ∈ t.fm.namesR) (hc : c ∈ clauses t) : (clauses t).filter (fun o => decide (o ∈ wantsR t c N)) = uses t c := by
 unfold uses
 rw [if_pos hc]
 exact List.filter_congr fun o _ => decide_eq_decide.2 (mem_wantsR hN)
section
variable {a b : Td}
theorem steps_len {a b : Td} : ∀ {l S : List B}, S.length <= (stepsA a b S l).length
 | [], _ => Nat.le_refl _
 | c :: l, S => by
  have h1 := steps_len (a := a) (b := b) (l := l) (S := stepA a b S c)
  have h2 : S.length <= (stepA a b S c).length := by
   unfold stepA addB
   split
   ·split
    ·exact Nat.le_refl _
    ·simp
   ·exact Nat.le_refl _
  exact Nat.le_trans h2 h1
theorem round_closed {S : List B} (h : (roundA a b S).length = S.length) : ClosedA a b S := by
 have key : ∀ {l S : List B}, (stepsA a b S l).length = S.length -> ∀ c ∈ l, hitB a b S c = true -> c ∈ S := by
  intro l
  induction l with
  | nil => intro _ _ c hc; cases hc
  | cons x l ih =>
   intro S hl c hc hh
   have e : (stepsA a b (stepA a b S x) l).length = S.length := hl
   have h1 := steps_len (a := a) (b := b) (l := l) (S := stepA a b S x)
   have e2 : stepA a b S x = S := by
    unfold stepA addB at h1 ⊢
    split
    ·rename_i h2
     rw [if_pos h2] at h1
     split
     ·rfl
     ·rename_i h3
      rw [if_neg h3] at h1
      simp only [List.length_append, List.length_cons, List.length_nil] at h1
      have : (stepsA a b (stepA a b S x) l) = (stepsA a b (if hitB a b S x = true then if x ∈ S then S else S ++ [x] else S) l) := rfl
      rw [this, if_pos h2, if_neg h3] at e
      omega
    ·rfl
   rw [e2] at e
   rcases List.mem_cons.1 hc with rfl | hc
   ·have : stepA a b S c = addB S c := by unfold stepA; rw [if_pos hh]
    rw [this] at e2
    rw [← e2]
    exact mem_addB.2 (.inr rfl)
   ·exact ih e c hc hh
 intro c hc hh
 exact key h c hc hh
theorem nodup_step {S : List B} {c : B} (h : S.Nodup) : (stepA a b S c).Nodup := by
 unfold stepA
 split
 ·exact nodup_addB h
 ·exact h
theorem nodup_steps : ∀ {l S : List B}, S.Nodup -> (stepsA a b S l).Nodup
 | [], _, h => h
 | _ :: l, _, h => nodup_steps (l := l) (nodup_step h)
theorem nodup_sub_len : ∀ {l m : List B}, l.Nodup -> (∀ c ∈ l, c ∈ m) -> l.length <= m.length
 | [], _, _, _ => Nat.zero_le _
 | c :: l, m, hn, hs => by
  rw [List.nodup_cons] at hn
  have hm := hs c (by simp)
  have := nodup_sub_len (l := l) (m := m.erase c) hn.2 fun x hx => by
   have hne : x ≠ c := fun e => hn.1 (e ▸ hx)
   exact (List.mem_erase_of_ne hne).2 (hs x (by simp [hx]))
  rw [List.length_erase_of_mem hm] at this
  have := List.length_pos_of_mem hm
  simp only [List.length_cons]
  omega
theorem ref_done {S : List B} (h1 : ∀ c ∈ changed a b, c ∈ S) (h2 : ∀ c ∈ S, Aff a b c) (h3 : ClosedA a b S) : (both a b).filter (fun c => decide (c ∈ S)) = affected a b :=
 affected_eq fun _ _ => ⟨h2 _, closed_aff h3 h1⟩
end
end Dp
namespace Go.Proofs.YtfkmpbpkahcogaaGreatDoor
open Go Pw Dp
section
variable {w0 w w' : World} {L L' : List (Nat × List Value)} {s s' : Sl} {l : List B} {x : T43} {t : Td}
theorem rhas_spec {v : B} {K : Bool -> World -> Prop} (hv : Vw 1 encB w s l) (hl : l.length < 2 ^ 62) (hK : K (decide (v ∈ l)) w) : z20_sh s (ofL v) K w := by
 have el := hv.len
 refine ⟨?_⟩
 unfold z20_sd
 refine ⟨⟨fun i u => ∃ i' : Nat, i = i' /\ i' <= l.length /\ u = w /\ ∀ j (h : j < l.length), j < i' -> l[j] ≠ v, fun i _ => l.length - i.toNat, ⟨0, rfl, by omega, rfl, fun j _ h => by omega⟩, ?_⟩⟩
 rintro i u ⟨i, rfl, hi, rfl, hb⟩
 unfold z20_b0
 refine cnd_prop.2 ⟨fun hlt => ?_, fun hge => ?_⟩
 ·have hil : i < l.length := by omega
  refine ldB hv i rfl hil ?_
  rw [ofL_dec]
  refine cnd_prop.2 ⟨fun h => ?_, fun h => ⟨inR64 (by omega) (by omega), ⟨⟨rfl, rfl, trivial⟩, i + 1, by omega, by omega, rfl, fun j hjl hj => ?_⟩, by dsimp only; omega⟩⟩
  ·rw [decide_eq_true (h ▸ List.getElem_mem hil)] at hK
   exact hK
  ·rcases Nat.lt_or_ge j i with h' | h'
   ·exact hb j hjl h'
   ·have : j = i := by omega
    subst this
    exact h
 ·have : v ∉ l := fun hm => by
   obtain ⟨j, hj, e⟩ := List.mem_iff_getElem.1 hm
   exact hb j hj (by omega) e
  rw [decide_eq_false this] at hK
  exact hK
theorem rhas3_spec {v : B} {K : Bool -> World -> Prop} (hv : Vw 1 encB w s l) (hl : l.length < 2 ^ 62) (hK : K (decide (v ∈ l)) w) : z1x_sh s (ofL v) K w := by
 have el := hv.len
 refine ⟨?_⟩
 unfold z1x_sd
 refine ⟨⟨fun i u => ∃ i' : Nat, i = i' /\ i' <= l.length /\ u = w /\ ∀ j (h : j < l.length), j < i' -> l[j] ≠ v, fun i _ => l.length - i.toNat, ⟨0, rfl, by omega, rfl, fun j _ h => by omega⟩, ?_⟩⟩
 rintro i u ⟨i, rfl, hi, rfl, hb⟩
 unfold z1x_b0
 refine cnd_prop.2 ⟨fun hlt => ?_, fun hge => ?_⟩
 ·have hil : i < l.length := by omega
  refine ldB hv i rfl hil ?_
  rw [ofL_dec]
  refine cnd_prop.2 ⟨fun h => ?_, fun h => ⟨inR64 (by omega) (by omega), ⟨⟨rfl, rfl, trivial⟩, i + 1, by omega, by omega, rfl, fun j hjl hj => ?_⟩, by dsimp only; omega⟩⟩
  ·rw [decide_eq_true (h ▸ List.getElem_mem hil)] at hK
   exact hK
  ·rcases Nat.lt_or_ge j i with h' | h'
   ·exact hb j hjl h'
   ·have : j = i := by omega
    subst this
    exact h
 ·have : v ∉ l := fun hm => by
   obtain ⟨j, hj, e⟩ := List.mem_iff_getElem.1 hm
   exact hb j hj (by omega) e
  rw [decide_eq_false this] at hK
  exact hK
theorem rLot_spec {id : Int} {K : ByteArray -> World -> Prop} (h : I64 id) (hK : ∀ w', Fr F0 w w' -> K (ofL (lotC id)) w') : z1z_sh id K w := by
 refine ⟨?_⟩
 unfold z1z_sd
 have := itoa_len' h
 refine rdecimal_spec h fun w1 hf1 => ?_
 rw [str_lot, ofL_sz, ofL_sz, ofL_app]
 exact ⟨by unfold maxI; simp [wLot]; omega, hK w1 hf1⟩
variable {tb : Nat}
theorem rClauses_l3_spec {K : Sl -> World -> Prop} {all : Sl} {A : List B} (hw : Fr F0 w0 w) (ha : Ow 1 encB w all A) (hl : A.length <= 2 ^ 30) (hn : ∀ b, inB all b -> w0.heap.size <= b) (hK : ∀ w' s', Mk w0 1 encB w' s' (A.foldl addB []) -> K s' w') : z0i_l3 all ⟨none, 0, 0⟩ 0 K w := by
 have el := ha.len
 have hlt : ∀ b, inB all b -> b < w.heap.size := fun b hb => ha.lt' hb
 refine ⟨⟨fun out i u => ∃ i' : Nat, i = i' /\ i' <= A.length /\ Mk w 1 encB u out ((A.take i').foldl addB []), fun _ i _ => A.length - i.toNat, ⟨0, rfl, by omega, Mk.nil Fr.refl⟩, ?_⟩⟩
 rintro out i u ⟨i, rfl, hi, hu⟩
 unfold z0i_b3
 have hlen := foldB_len (A.take i) []
 simp only [List.length_take, List.length_nil] at hlen
 have hv := (ha.fr hu.fr0).vw
 refine cnd_prop.2 ⟨fun hlt => ?_, fun hge => ?_⟩
 ·have hil : i < A.length := by omega
  refine ldB hv i rfl hil (rhas_spec hu.vw (by omega) (cnd_iff.2 ⟨fun h => ?_, fun h => ?_⟩))
  ·have hn : A[i] ∉ (A.take i).foldl addB [] := by simpa using h
   refine ldB hv i rfl hil ?_
   refine hu.push (a := A[i]) rfl rfl encB_ok rfl (by omega) (by omega) fun s6 w7 h7 _ => ⟨inR64 (by omega) (by omega), ⟨⟨rfl, trivial⟩, i + 1, by omega, by omega, ?_⟩, by dsimp only; omega⟩
   rw [List.take_add_one, List.getElem?_eq_getElem hil, List.foldl_append]
   rw [← addB_new hn] at h7
   exact h7
  ·have hn : A[i] ∈ (A.take i).foldl addB [] := by simpa using h
   refine ⟨inR64 (by omega) (by omega), ⟨⟨rfl, trivial⟩, i + 1, by omega, by omega, ?_⟩, by dsimp only; omega⟩
   rw [List.take_add_one, List.getElem?_eq_getElem hil, List.foldl_append]
   rw [← addB_in hn] at hu
   exact hu
 ·have : i = A.length := by omega
  subst this
  rw [List.take_length] at hu
  exact hK u out ⟨hw.t hu.fr0, hu.ow, fun b hb => Nat.le_trans hw.1 (hu.nw b hb)⟩
theorem rClauses_l2_spec {K : Sl -> World -> Prop} (hx : TP w0 x t) (hF : Fit t) (h : SpB w0 w [(tb, x.cs)] s l) (hl : l.length <= 2 ^ 26)
  (hK : ∀ w' s', Mk w0 1 encB w' s' ((l ++ (List.range t.reqs.length).map reqC ++ fixed).foldl addB []) -> K s' w') : z0i_l2 ⟨tb, 0, none⟩ s 0 K w := by
 have h20 := hF.reqs
 have e3 : (x.f3.l : Int) = (t.reqs.length : Int) := by rw [hx.reqs.len]
 refine ⟨⟨fun s' i u => ∃ i' : Nat, i = i' /\ i' <= t.reqs.length /\ SpB w0 u [(tb, x.cs)] s' (l ++ (List.range i').map reqC), fun _ i _ => t.reqs.length - i.toNat, ⟨0, rfl, by omega, by simpa using h⟩, ?_⟩⟩
 rintro s' i u ⟨i, rfl, hi, hu⟩
 unfold z0i_b2
 refine ⟨x.f3, hu.ld (i := 3) 0 rfl rfl, ?_⟩
 rw [e3]
 refine cnd_prop.2 ⟨fun hlt => ?_, fun hge => ?_⟩
 ·have h64 : I64 ((i : Int) + 1) := ⟨by omega, by omega⟩
  have := itoa_len' h64
  refine ⟨inR64 (by omega) (by omega), rdecimal_spec h64 fun w1 hf1 => ?_⟩
  rw [str_req, ofL_sz, ofL_sz, ofL_app]
  refine ⟨by unfold maxI; simp [wReq]; omega, (hu.fr hf1).push (a := reqC i) rfl rfl encB_ok rfl (by simp; omega) (by simp; omega) fun s2 w2 h2 => ⟨inR64 (by omega) (by omega), ⟨⟨rfl, trivial⟩, i + 1, by omega, by omega, ?_⟩, by dsimp only; omega⟩⟩
  rw [List.range_succ, List.map_append, ← List.append_assoc]
  exact h2
 ·have : i = t.reqs.length := by omega
  subst this
  intro w1
  have h1 : SpB w0 w1 ((u.heap.size, _) :: [(tb, x.cs)]) s' _ := hu.allocL (vs := fixed.flatMap encB)
  clear_value w1
  refine h1.app (m := fixed) (Row.ow encB_length (h1.row 0 rfl)).vw encB_ok rfl (by simp [fixed]; omega) (by simp [fixed]; omega) fun s2 w2 h2 => ?_
  exact rClauses_l3_spec h2.m.1 h2.ow (by simp [fixed]; omega) (fun b hb => (h2.os b hb).1) hK
theorem rClauses_l1_spec {K : Sl -> World -> Prop} (hx : TP w0 x t) (hF : Fit t) (h : SpB w0 w [(tb, x.cs)] s l) (hl : l.length <= 2 ^ 24)
  (hK : ∀ w' s', Mk w0 1 encB w' s' ((l ++ t.crit.map (fun c => critC c.name) ++ (List.range t.reqs.length).map reqC ++ fixed).foldl addB []) -> K s' w') : z0i_l1 ⟨tb, 0, none⟩ s 0 K w := by
 have h20 := hF.crit
 have e3 : (x.f2.l : Int) = (t.crit.length : Int) := by rw [hx.crit.len]
 refine ⟨⟨fun s' i u => ∃ i' : Nat, i = i' /\ i' <= t.crit.length /\ SpB w0 u [(tb, x.cs)] s' (l ++ (t.crit.take i').map (fun c => critC c.name)), fun _ i _ => t.crit.length - i.toNat, ⟨0, rfl, by omega, by simpa using h⟩, ?_⟩⟩
 rintro s' i u ⟨i, rfl, hi, hu⟩
 unfold z0i_b1
 refine ⟨x.f2, hu.ld (i := 2) 0 rfl rfl, ?_⟩
 rw [e3]
 refine cnd_prop.2 ⟨fun hlt => ?_, fun hge => ?_⟩
 ·have hil : i < t.crit.length := by omega
  have hn20 := (hF.cr _ (List.getElem_mem hil)).1
  refine ⟨x.f2, hu.ld (i := 2) 0 rfl rfl, Vw.go encC_length (by decide) (hx.crit.fr hu.m.1) i rfl hil fun _ hc => ⟨_, hc 0 _ rfl, ?_⟩⟩
  rw [str_crit, ofL_sz, ofL_sz, ofL_app]
  refine ⟨by unfold maxI; simp [wCrit]; omega, hu.push (a := critC t.crit[i].name) rfl rfl encB_ok rfl (by simp; omega) (by simp; omega) fun s2 w2 h2 => ⟨inR64 (by omega) (by omega), ⟨⟨rfl, trivial⟩, i + 1, by omega, by omega, ?_⟩, by dsimp only; omega⟩⟩
  rw [List.take_add_one, List.getElem?_eq_getElem hil, List.map_append, ← List.append_assoc]
  exact h2
 ·have : i = t.crit.length := by omega
  subst this
  rw [List.take_length] at hu
  exact rClauses_l2_spec hx hF hu (by simp; omega) hK
theorem rClauses_spec {K : Sl -> World -> Prop} (hx : TP w x t) (hF : Fit t) (hK : ∀ w' s', Mk w 1 encB w' s' (clauses t) -> K s' w') : z0i_sh x K w := by
 have h20 := hF.lots
 have e1 : (x.f1.l : Int) = (t.lots.length : Int) := by rw [hx.lots.len]
 refine ⟨?_⟩
 unfold z0i_sd
 intro w1
 have m : Mem w w1 [(w.heap.size, x.cs)] := Mem.nil.allocL
 clear_value w1
 intro w2
 have m : Mem w w2 ((w1.heap.size, [wName].flatMap encB) :: _) := m.allocL
 clear_value w2
 have hpw := m.2.2.1
 have hge := m.2.2.2
 have h4 : SpB w w2 [(w.heap.size, x.cs)] ⟨some ⟨w1.heap.size, 0, none⟩, 1, 1⟩ [wName] := by
  refine SpB.of (m.subl (.cons _ (List.Sublist.refl _))) (Row.ow encB_length (l := [wName]) (m.row 0 rfl)) fun b ⟨a, ha, hb⟩ => ?_
  cases ha
  subst hb
  simp only [List.map_cons, List.map_nil, List.pairwise_cons, List.mem_cons, List.not_mem_nil, or_false, forall_eq] at hpw
  refine ⟨hge _ List.mem_cons_self, fun p hp => ?_⟩
  simp only [List.mem_cons, List.not_mem_nil, or_false] at hp
  subst hp
  have := hpw.1
  simp only
  omega
 refine ⟨⟨fun s' i u => ∃ i' : Nat, i = i' /\ i' <= t.lots.length /\ SpB w u [(w.heap.size, x.cs)] s' ([wName] ++ (t.lots.take i').map fun l => lotC l.1), fun _ i _ => t.lots.length - i.toNat, ⟨0, rfl, by omega, by simpa using h4⟩, ?_⟩⟩
 rintro s' i u ⟨i, rfl, hi, hu⟩
 unfold z0i_b0
 refine ⟨x.f1, hu.ld (i := 1) 0 rfl rfl, ?_⟩
 rw [e1]
 refine cnd_prop.2 ⟨fun hlt => ?_, fun hge => ?_⟩
 ·have hil : i < t.lots.length := by omega
  refine ⟨x.f1, hu.ld (i := 1) 0 rfl rfl, Vw.go encL_length (by decide) (hx.lots.fr hu.m.1) i rfl hil fun _ hc => ⟨_, hc 0 _ rfl, ?_⟩⟩
  refine rLot_spec (hF.lot _ (List.getElem_mem hil)).1 fun w8 hf8 => ?_
  refine (hu.fr hf8).push (a := lotC t.lots[i].1) rfl rfl encB_ok rfl (by simp; omega) (by simp; omega) fun s2 w2 h2 => ⟨inR64 (by omega) (by omega), ⟨⟨rfl, trivial⟩, i + 1, by omega, by omega, ?_⟩, by dsimp only; omega⟩
  rw [List.take_add_one, List.getElem?_eq_getElem hil, List.map_append, ← List.append_assoc]
  exact h2
 ·have : i = t.lots.length := by omega
  subst this
  rw [List.take_length] at hu
  refine rClauses_l1_spec hx hF hu (by simp; omega) fun w' s2 h2 => hK w' s2 ?_
  rw [← clauses_all]
  have e : [wName] ++ List.map (fun l => lotC l.fst) t.lots ++ List.map (fun c => critC c.name) t.crit ++ List.map reqC (List.range t.reqs.length) ++ fixed = heads t ++ fixed := by
   unfold heads
   simp
  rw [← e]
  exact h2
end
end Go.Proofs.YtfkmpbpkahcogaaGreatDoor



