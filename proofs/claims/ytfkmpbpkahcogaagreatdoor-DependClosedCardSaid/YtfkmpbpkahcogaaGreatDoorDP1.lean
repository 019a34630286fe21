/- Tenders, their clauses, and what a change affects: plain. Conditions: none. -/
import Derived.Test.YtfkmpbpkahcogaaGreatDoorPWX
namespace Dp
open Go Pw
abbrev B := List UInt8
inductive Fm where
  | num (n d : Int)
  | name (s : B)
  | op (o : Fin 6) (a b : Fm)
deriving DecidableEq
structure Cr where
  name : B
  kind : Int
  low : Int
  high : Int
  less : Bool
deriving DecidableEq
structure Rq where
  name : B
  rel : B
  val : Int
deriving DecidableEq
structure Td where
  name : B
  lots : List (Int × Int)
  crit : List Cr
  reqs : List Rq
  low : Int
  high : Int
  fm : Fm
  ties : List B
  most : Int
  combos : List (List Int)
  budget : Int
  t1 : Int
  t2 : Int
  t3 : Int
  t4 : Int
  t5 : Int
def wName : B := [110, 97, 109, 101]
def wLot : B := [108, 111, 116, 32]
def wCrit : B := [99, 114, 105, 116, 101, 114, 105, 111, 110, 32]
def wReq : B := [114, 101, 113, 117, 105, 114, 101, 32]
def wRange : B := [114, 97, 110, 103, 101]
def wForm : B := [102, 111, 114, 109, 117, 108, 97]
def wTies : B := [116, 105, 101, 115]
def wMost : B := [109, 111, 115, 116]
def wCombos : B := [99, 111, 109, 98, 111, 115]
def wBudget : B := [98, 117, 100, 103, 101, 116]
def wTimes : B := [116, 105, 109, 101, 115]
def wPrice : B := [112, 114, 105, 99, 101]
def wLow : B := [108, 111, 119]
def lotC (id : Int) : B := wLot ++ Lib.itoa id
def critC (n : B) : B := wCrit ++ n
def reqC (k : Nat) : B := wReq ++ Lib.itoa ((k : Int) + 1)
def fixed : List B := [wRange, wForm, wTies, wMost, wCombos, wBudget, wTimes]
def addB (l : List B) (s : B) : List B := if s ∈ l then l else l ++ [s]
def heads (t : Td) : List B := wName :: (t.lots.map (fun l => lotC l.1) ++ (t.crit.map (fun c => critC c.name) ++ (List.range t.reqs.length).map reqC))
def clauses (t : Td) : List B := (heads t).foldl addB [] ++ fixed
def numOk (n d : Int) : Bool := decide (rightP n d) && (decide (0 <= n) && (decide (Int.tmod 1000000 d = 0) && decide (n <= 1000000000 * d)))
def letterB (c : UInt8) : Bool := (decide (97 <= c.toNat) && decide (c.toNat <= 122)) || (decide (65 <= c.toNat) && decide (c.toNat <= 90))
def digitB (c : UInt8) : Bool := decide (48 <= c.toNat) && decide (c.toNat <= 57)
def inNameB (c : UInt8) : Bool := letterB c || digitB c || decide (c.toNat = 95)
def isNameB (s : B) : Bool := match s with
  | [] => false
  | c :: r => decide ((c :: r).length <= 30) && (letterB c && (c :: r).all inNameB)
def wMin : B := [109, 105, 110]
def wMax : B := [109, 97, 120]
def nameOk (s : B) : Bool := isNameB s && (!decide (s = wMin) && !decide (s = wMax))
namespace Fm
def parts : Fm -> Nat
  | .num _ _ => 1
  | .name _ => 1
  | .op _ a b => 1 + a.parts + b.parts
def depth : Fm -> Nat
  | .num _ _ => 1
  | .name _ => 1
  | .op _ a b => max a.depth b.depth + 1
def sound : Fm -> Bool
  | .num n d => numOk n d
  | .name s => nameOk s
  | .op _ a b => a.sound && b.sound
def names : Fm -> List B
  | .num _ _ => []
  | .name s => [s]
  | .op _ a b => a.names ++ b.names
def right (e : Fm) : Bool := e.sound && (decide (e.parts <= 60) && decide (e.depth <= 12))
def namesR (e : Fm) : List B := if e.right then e.names else []
end Fm
def wants (t : Td) (c : B) : List B :=
  ((List.range t.reqs.length).filter (fun k => decide (c = reqC k))).map (fun k => critC ((t.reqs[k]?.map (·.name)).getD [])) ++
  (if c = wForm then t.fm.namesR.flatMap (fun n => critC n :: if n = wPrice \/ n = wLow then [wRange] else [])
   else if c = wTies then t.ties.flatMap (fun n => critC n :: if n = wPrice then [wRange] else [])
   else if c = wMost then t.lots.map (fun l => lotC l.1)
   else if c = wBudget then t.lots.map (fun l => lotC l.1) ++ [wCombos]
   else if c = wCombos then t.combos.flatMap (fun l => l.map lotC) else [])
def uses (t : Td) (c : B) : List B := if c ∈ clauses t then (clauses t).filter (fun o => decide (o ∈ wants t c)) else []
def lotM (t : Td) (c : B) : Int := ((t.lots.find? (fun l => decide (lotC l.1 = c))).map (·.2)).getD 0
def critF (t : Td) (c : B) : Cr := (t.crit.find? (fun x => decide (critC x.name = c))).getD ⟨[], 0, 0, 0, false⟩
def reqF (t : Td) (c : B) : Option Rq := ((List.range t.reqs.length).find? (fun k => decide (c = reqC k))).bind (t.reqs[·]?)
def eqc (a b : Td) (c : B) : Bool :=
  if c = wName then decide (a.name = b.name)
  else if c = wRange then decide (a.low = b.low) && decide (a.high = b.high)
  else if c = wForm then decide (a.fm = b.fm)
  else if c = wTies then decide (a.ties = b.ties)
  else if c = wMost then decide (a.most = b.most)
  else if c = wCombos then decide (a.combos = b.combos)
  else if c = wBudget then decide (a.budget = b.budget)
  else if c = wTimes then decide (a.t1 = b.t1) && (decide (a.t2 = b.t2) && (decide (a.t3 = b.t3) && (decide (a.t4 = b.t4) && decide (a.t5 = b.t5))))
  else if wLot.isPrefixOf c then decide (lotM a c = lotM b c)
  else if wCrit.isPrefixOf c then decide (critF a c = critF b c)
  else decide (reqF a c = reqF b c)
def both (a b : Td) : List B := (clauses a).foldl addB (clauses b)
def isCh (a b : Td) (c : B) : Bool := !(decide (c ∈ clauses a) && (decide (c ∈ clauses b) && eqc a b c))
def changed (a b : Td) : List B := (both a b).filter (isCh a b)
def hitB (a b : Td) (S : List B) (c : B) : Bool := (uses a c).any (fun u => decide (u ∈ S)) || (uses b c).any (fun u => decide (u ∈ S))
def stepA (a b : Td) (S : List B) (c : B) : List B := if hitB a b S c then addB S c else S
def roundA (a b : Td) (S : List B) : List B := (both a b).foldl (stepA a b) S
def iterA (a b : Td) : Nat -> List B -> List B
  | 0, S => S
  | n + 1, S => iterA a b n (roundA a b S)
def affS (a b : Td) : List B := iterA a b (both a b).length (changed a b)
def affected (a b : Td) : List B := (both a b).filter (fun c => decide (c ∈ affS a b))
def hitsB (lots : List Int) (c : B) : Bool := if wLot.isPrefixOf c then lots.any (fun i => decide (lotC i = c)) else !decide (c ∈ [wName, wTimes, wMost, wCombos, wBudget])
def touches (a b : Td) (lots : List Int) : Bool := (affected a b).any (hitsB lots)
inductive Aff (a b : Td) : B -> Prop
  | base {c : B} : c ∈ changed a b -> Aff a b c
  | step {c u : B} : c ∈ both a b -> (u ∈ uses a c \/ u ∈ uses b c) -> Aff a b u -> Aff a b c
theorem mem_addB {l : List B} {s c : B} : c ∈ addB l s ↔ c ∈ l \/ c = s := by
  unfold addB
  split
  . rename_i h
    constructor
    . exact .inl
    . rintro (h' | rfl)
      . exact h'
      . exact h
  . simp
theorem mem_foldN : ∀ {m l : List B} {c : B}, c ∈ m.foldl addB l ↔ c ∈ l \/ c ∈ m
  | [], l, c => by simp
  | a :: m, l, c => by
    rw [List.foldl_cons, mem_foldN, mem_addB, List.mem_cons, or_assoc]
theorem nodup_addB {l : List B} {s : B} (h : l.Nodup) : (addB l s).Nodup := by
  unfold addB
  split
  . exact h
  . rename_i hs
    rw [List.nodup_append]
    exact ⟨h, by simp, fun a ha b hb => by rw [List.mem_singleton] at hb; subst hb; intro e; subst e; exact hs ha⟩
theorem nodup_foldN : ∀ {m l : List B}, l.Nodup -> (m.foldl addB l).Nodup
  | [], _, h => h
  | _ :: m, _, h => nodup_foldN (m := m) (nodup_addB h)
theorem foldN_new : ∀ {m l : List B}, m.Nodup -> (∀ c ∈ m, c ∉ l) -> m.foldl addB l = l ++ m
  | [], l, _, _ => by simp
  | a :: m, l, hn, hd => by
    rw [List.nodup_cons] at hn
    rw [List.foldl_cons]
    have : addB l a = l ++ [a] := by unfold addB; rw [if_neg (hd a (by simp))]
    rw [this, foldN_new hn.2 fun c hc h => ?_, List.append_assoc]
    . rfl
    . rcases List.mem_append.1 h with h | h
      . exact hd c (by simp [hc]) h
      . rw [List.mem_singleton] at h
        subst h
        exact hn.1 hc
theorem heads_blank {t : Td} {c : B} (h : c ∈ heads t) : c = wName \/ (32 : UInt8) ∈ c := by
  unfold heads at h
  rcases List.mem_cons.1 h with h | h
  . exact .inl h
  rcases List.mem_append.1 h with h | h
  . obtain ⟨l, _, rfl⟩ := List.mem_map.1 h
    exact .inr (List.mem_append.2 (.inl (by decide)))
  rcases List.mem_append.1 h with h | h
  . obtain ⟨l, _, rfl⟩ := List.mem_map.1 h
    exact .inr (List.mem_append.2 (.inl (by decide)))
  . obtain ⟨l, _, rfl⟩ := List.mem_map.1 h
    exact .inr (List.mem_append.2 (.inl (by decide)))
theorem fixed_new {t : Td} {c : B} (h : c ∈ fixed) : c ∉ heads t := fun h' => by
  have h1 : ∀ c ∈ fixed, ¬ (c = wName \/ (32 : UInt8) ∈ c) := by decide
  exact h1 c h (heads_blank h')
theorem mem_clauses {t : Td} {c : B} : c ∈ clauses t ↔ c ∈ heads t \/ c ∈ fixed := by
  unfold clauses
  rw [List.mem_append, mem_foldN]
  simp
theorem clauses_all (t : Td) : (heads t ++ fixed).foldl addB [] = clauses t := by
  rw [List.foldl_append, foldN_new (by decide) fun c hc h => fixed_new hc (by simpa [mem_foldN] using h)]
  rfl
theorem nodup_clauses (t : Td) : (clauses t).Nodup := by
  rw [← clauses_all]
  exact nodup_foldN List.nodup_nil
theorem mem_both {a b : Td} {c : B} : c ∈ both a b ↔ c ∈ clauses b \/ c ∈ clauses a := mem_foldN
theorem nodup_both (a b : Td) : (both a b).Nodup := nodup_foldN (nodup_clauses b)
theorem aff_both {a b : Td} {c : B} (h : Aff a b c) : c ∈ both a b := by
  cases h with
  | base h => exact (List.mem_filter.1 h).1
  | step h _ _ => exact h
section
variable {a b : Td}
theorem hit_iff {S : List B} {c : B} : hitB a b S c = true ↔ ∃ u, (u ∈ uses a c \/ u ∈ uses b c) /\ u ∈ S := by
  unfold hitB
  simp only [Bool.or_eq_true, List.any_eq_true, decide_eq_true_eq]
  constructor
  . rintro (⟨u, h, h'⟩ | ⟨u, h, h'⟩)
    . exact ⟨u, .inl h, h'⟩
    . exact ⟨u, .inr h, h'⟩
  . rintro ⟨u, h | h, h'⟩
    . exact .inl ⟨u, h, h'⟩
    . exact .inr ⟨u, h, h'⟩
theorem hit_mono {S S' : List B} {c : B} (hs : ∀ u ∈ S, u ∈ S') (h : hitB a b S c = true) : hitB a b S' c = true := by
  rw [hit_iff] at h ⊢
  obtain ⟨u, h1, h2⟩ := h
  exact ⟨u, h1, hs u h2⟩
theorem step_sub {S : List B} {c u : B} (h : u ∈ S) : u ∈ stepA a b S c := by
  unfold stepA
  split
  . exact mem_addB.2 (.inl h)
  . exact h
theorem step_aff {S : List B} {c : B} (hS : ∀ u ∈ S, Aff a b u) (hc : c ∈ both a b) : ∀ u ∈ stepA a b S c, Aff a b u := by
  intro u hu
  unfold stepA at hu
  split at hu
  . rename_i h
    rcases mem_addB.1 hu with h' | rfl
    . exact hS u h'
    . obtain ⟨v, h1, h2⟩ := hit_iff.1 h
      exact .step hc h1 (hS v h2)
  . exact hS u hu
def stepsA (a b : Td) (S l : List B) : List B := l.foldl (stepA a b) S
theorem steps_sub : ∀ {l S : List B} {u : B}, u ∈ S -> u ∈ stepsA a b S l
  | [], _, _, h => h
  | _ :: l, _, _, h => steps_sub (l := l) (step_sub h)
theorem steps_aff : ∀ {l S : List B}, (∀ u ∈ S, Aff a b u) -> (∀ c ∈ l, c ∈ both a b) -> ∀ u ∈ stepsA a b S l, Aff a b u
  | [], _, h, _ => h
  | c :: l, _, h, hl => steps_aff (l := l) (step_aff h (hl c (by simp))) fun x hx => hl x (by simp [hx])
theorem steps_hit : ∀ {l S : List B} {c : B}, c ∈ l -> hitB a b S c = true -> c ∈ stepsA a b S l
  | x :: l, S, c, hc, h => by
    rcases List.mem_cons.1 hc with rfl | hc
    . refine steps_sub (l := l) ?_
      unfold stepA
      rw [if_pos h]
      exact mem_addB.2 (.inr rfl)
    . exact steps_hit (l := l) hc (hit_mono (fun u hu => step_sub hu) h)
def ClosedA (a b : Td) (S : List B) : Prop := ∀ c ∈ both a b, hitB a b S c = true -> c ∈ S
theorem closed_step {S : List B} (h : ClosedA a b S) {c : B} (hc : c ∈ both a b) : stepA a b S c = S := by
  unfold stepA
  split
  . rename_i hh
    unfold addB
    rw [if_pos (h c hc hh)]
  . rfl
theorem closed_steps {S : List B} (h : ClosedA a b S) : ∀ {l : List B}, (∀ c ∈ l, c ∈ both a b) -> stepsA a b S l = S
  | [], _ => rfl
  | c :: l, hl => by
    unfold stepsA
    rw [List.foldl_cons, closed_step h (hl c (by simp))]
    exact closed_steps h fun x hx => hl x (by simp [hx])
theorem closed_aff {S : List B} (h : ClosedA a b S) (hb : ∀ c ∈ changed a b, c ∈ S) {c : B} (hc : Aff a b c) : c ∈ S := by
  induction hc with
  | base h' => exact hb _ h'
  | step h1 h2 _ ih => exact h _ h1 (hit_iff.2 ⟨_, h2, ih⟩)
def cntA (a b : Td) (S : List B) : Nat := (both a b).countP fun c => decide (c ∈ S)
theorem cnt_le (S : List B) : cntA a b S <= (both a b).length := List.countP_le_length
theorem cnt_lt {S S' : List B} (h : ∀ u ∈ S, u ∈ S') {c : B} (hc : c ∈ both a b) (h1 : c ∉ S) (h2 : c ∈ S') : cntA a b S < cntA a b S' := by
  unfold cntA
  revert hc
  generalize both a b = l
  intro hc
  induction l with
  | nil => cases hc
  | cons x l ih =>
    have hm : l.countP (fun c => decide (c ∈ S)) <= l.countP (fun c => decide (c ∈ S')) := List.countP_mono_left fun c _ hc => by simpa using h c (by simpa using hc)
    simp only [List.countP_cons]
    by_cases hx : x = c
    . subst hx
      simp [h1, h2]
      omega
    . have hc' : c ∈ l := by
        rcases List.mem_cons.1 hc with h | h
        . exact absurd h.symm hx
        . exact h
      have := ih hc'
      by_cases hxs : x ∈ S
      . simp [hxs, h x hxs]; omega
      . by_cases hxs' : x ∈ S' <;> simp [hxs, hxs'] <;> omega
theorem round_or (S : List B) : ClosedA a b S \/ cntA a b S < cntA a b (roundA a b S) := by
  by_cases h : ClosedA a b S
  . exact .inl h
  . refine .inr ?_
    unfold ClosedA at h
    simp only [Classical.not_forall] at h
    obtain ⟨c, hc, hh, hn⟩ := h
    exact cnt_lt (fun u hu => steps_sub hu) hc hn (steps_hit hc hh)
theorem iter_spec : ∀ (n : Nat) (S : List B), (∀ u ∈ S, Aff a b u) -> (both a b).length <= cntA a b S + n -> (∀ u ∈ S, u ∈ iterA a b n S) /\ (∀ u ∈ iterA a b n S, Aff a b u) /\ ClosedA a b (iterA a b n S)
  | 0, S, h, hn => by
    refine ⟨fun u h => h, h, fun c hc _ => ?_⟩
    have hall : cntA a b S = (both a b).length := Nat.le_antisymm (cnt_le S) (by omega)
    have := List.countP_eq_length.1 hall c hc
    show c ∈ S
    simpa using this
  | n + 1, S, h, hn => by
    have h' : ∀ u ∈ roundA a b S, Aff a b u := steps_aff h fun c hc => hc
    rcases round_or S with hc | hlt
    . have e : roundA a b S = S := closed_steps hc fun c hc => hc
      have hi : ∀ k, iterA a b k S = S := fun k => by
        induction k with
        | zero => rfl
        | succ k ih => unfold iterA; rw [e, ih]
      rw [hi]
      exact ⟨fun u h => h, h, hc⟩
    . obtain ⟨h1, h2, h3⟩ := iter_spec n (roundA a b S) h' (by omega)
      exact ⟨fun u hu => h1 u (steps_sub hu), h2, h3⟩
theorem mem_affS {c : B} : c ∈ affS a b ↔ Aff a b c := by
  obtain ⟨h1, h2, h3⟩ := iter_spec (a := a) (b := b) (both a b).length (changed a b) (fun u hu => .base hu) (by omega)
  exact ⟨h2 c, closed_aff h3 h1⟩
theorem mem_affected {c : B} : c ∈ affected a b ↔ Aff a b c := by
  unfold affected
  rw [List.mem_filter]
  simp only [decide_eq_true_eq, mem_affS]
  exact ⟨fun h => h.2, fun h => ⟨aff_both h, h⟩⟩
end
end Dp
