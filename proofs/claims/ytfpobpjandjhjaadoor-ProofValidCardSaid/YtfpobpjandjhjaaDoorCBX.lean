/- Awards of several lots in plain terms: problems, takes, what they cost and are worth, and why a bound holds. Conditions: none. -/
import Derived.Test.YtfpobpjandjhjaaDoorPwS
namespace Pw
structure Ch where
 lot : Int
 bid : Int
 price : Int
 pts : Int
structure De where
 bid : Int
 lots : List Int
 off : Int
structure Pr where
 lots : List Int
 ch : List Ch
 de : List De
 most : Int
 budget : Int
def Wi (n m : Int) : Prop := 0 <= n /\ n <= m
structure RightPr (p : Pr) : Prop where
 some : 0 < p.lots.length
 few : p.lots.length <= 12
 diff : p.lots.Nodup
 chs : p.ch.length <= 480
 des : p.de.length <= 100
 most : Wi p.most 1000000000
 budget : Wi p.budget 1000000000
 ch : ∀ c ∈ p.ch, c.lot ∈ p.lots /\ Wi c.price 1000000000 /\ Wi c.pts 1000000
 de : ∀ d ∈ p.de, d.lots ≠ [] /\ d.lots.Nodup /\ (∀ x ∈ d.lots, x ∈ p.lots) /\ Wi d.off 1000000000
def chAt (p : Pr) (n : Int) : Option Ch := if 0 <= n then p.ch[n.toNat]? else none
def Dec (p : Pr) (lot n : Int) : Prop := n = -1 \/ ∃ c, chAt p n = some c /\ c.lot = lot
def Decs (p : Pr) : List Int -> List Int -> Prop
 | _, [] => True
 | [], _ :: _ => False
 | lot :: ls, n :: f => Dec p lot n /\ Decs p ls f
def took (p : Pr) (f : List Int) : List Ch := f.filterMap (chAt p)
def ptsOf (p : Pr) (f : List Int) : Int := ((took p f).map (·.pts)).sum
def costOf (p : Pr) (f : List Int) : Int := ((took p f).map (·.price)).sum
def may (p : Pr) (f : List Int) (b lot : Int) : Bool :=
 match f[p.lots.idxOf lot]? with
 | some n => match chAt p n with
  | some c => c.bid == b
  | none => false
 | none => p.ch.any fun c => c.lot == lot && c.bid == b
def offOf (p : Pr) (f : List Int) (d : De) : Int := if d.lots.all (may p f d.bid) then d.off else 0
def offs (p : Pr) (f : List Int) : Int := (p.de.map (offOf p f)).sum
def leastOf (p : Pr) (f : List Int) : Int := max 0 (costOf p f - offs p f)
def Crowd (p : Pr) (f : List Int) : Prop := 0 < p.most /\ ∃ b, p.most < ((took p f).countP (·.bid == b) : Int)
def worth (p : Pr) (f : List Int) : Int := ptsOf p f * (p.budget + 1) - leastOf p f
def Perm (p : Pr) (t : List Int) : Prop := t.length = p.lots.length /\ Decs p p.lots t /\ leastOf p t <= p.budget /\ ¬ Crowd p t
def gain (p : Pr) (lam : Rat) (c : Ch) : Rat := ((c.pts * (p.budget + 1) - c.price : Int) : Rat) + lam * ((-c.price : Int) : Rat)
def free (p : Pr) (lam : Rat) (lot : Int) : Rat := p.ch.foldl (fun m c => if c.lot = lot /\ m < gain p lam c then gain p lam c else m) 0
def lotsB (p : Pr) (lam : Rat) : List Int -> List Int -> Rat
 | [], _ => 0
 | lot :: ls, [] => free p lam lot + lotsB p lam ls []
 | _ :: ls, n :: f => (match chAt p n with
  | some c => gain p lam c
  | none => 0) + lotsB p lam ls f
def gains (p : Pr) (lam : Rat) (l : List Ch) : Rat := (l.map (gain p lam)).sum
theorem free_ge {p : Pr} {lam : Rat} {lot : Int} : 0 <= free p lam lot /\ ∀ c ∈ p.ch, c.lot = lot -> gain p lam c <= free p lam lot := by
 unfold free
 have key : ∀ (l : List Ch) (m : Rat), m <= l.foldl (fun m c => if c.lot = lot /\ m < gain p lam c then gain p lam c else m) m /\ ∀ c ∈ l, c.lot = lot -> gain p lam c <= l.foldl (fun m c => if c.lot = lot /\ m < gain p lam c then gain p lam c else m) m := by
  intro l
  induction l with
  | nil => exact fun m => ⟨Rat.le_refl, fun c hc => by cases hc⟩
  | cons x l ih =>
   intro m
   simp only [List.foldl_cons]
   obtain ⟨h1, h2⟩ := ih (if x.lot = lot /\ m < gain p lam x then gain p lam x else m)
   have hm : m <= if x.lot = lot /\ m < gain p lam x then gain p lam x else m := by
    split
    ·rename_i h; exact Rat.le_of_lt h.2
    ·exact Rat.le_refl
   have hx : x.lot = lot -> gain p lam x <= if x.lot = lot /\ m < gain p lam x then gain p lam x else m := by
    intro hl
    split
    ·exact Rat.le_refl
    ·rename_i h; exact Rat.not_lt.1 fun hh => h ⟨hl, hh⟩
   refine ⟨Rat.le_trans hm h1, fun c hc hl => ?_⟩
   rcases List.mem_cons.1 hc with rfl | hc
   ·exact Rat.le_trans (hx hl) h1
   ·exact h2 c hc hl
 obtain ⟨h1, h2⟩ := key p.ch 0
 exact ⟨h1, h2⟩
theorem chAt_mem {p : Pr} {n : Int} {c : Ch} (h : chAt p n = some c) : c ∈ p.ch := by
 unfold chAt at h
 split at h
 ·exact List.mem_of_getElem? h
 ·cases h
theorem gains_le {p : Pr} {lam : Rat} : ∀ (ls t f : List Int), t.length = ls.length -> Decs p ls t -> f <+: t -> gains p lam (took p t) <= lotsB p lam ls f
 | [], [], _, _, _, _ => by simp [gains, took, lotsB]
 | [], _ :: _, _, h, _, _ => by simp at h
 | _ :: _, [], _, h, _, _ => by simp at h
 | lot :: ls, n :: t, f, hl, hd, hf => by
  obtain ⟨hn, hd⟩ := hd
  have hl' : t.length = ls.length := by simpa using hl
  have e : gains p lam (took p (n :: t)) = (match chAt p n with | some c => gain p lam c | none => 0) + gains p lam (took p t) := by
   unfold gains took
   rw [List.filterMap_cons]
   cases chAt p n with
   | none => exact (Rat.zero_add _).symm
   | some c => simp
  rw [e]
  match f, hf with
  | [], _ =>
   have ih := gains_le (lam := lam) ls t [] hl' hd (List.nil_prefix)
   have hfree := free_ge (p := p) (lam := lam) (lot := lot)
   have h1 : (match chAt p n with | some c => gain p lam c | none => 0) <= free p lam lot := by
    rcases hn with rfl | ⟨c, hc, hlot⟩
    ·have : chAt p (-1) = none := by simp [chAt]
     rw [this]
     exact hfree.1
    ·rw [hc]
     exact hfree.2 c (chAt_mem hc) hlot
   show _ <= free p lam lot + lotsB p lam ls []
   grind
  | m :: f, hf =>
   obtain ⟨rfl, hf2⟩ := List.cons_prefix_cons.1 hf
   have ih := gains_le (lam := lam) ls t f hl' hd hf2
   show _ <= _ + lotsB p lam ls f
   grind
end Pw
namespace Pw
theorem took_mem {p : Pr} {f : List Int} {c : Ch} (h : c ∈ took p f) : c ∈ p.ch := by
 obtain ⟨n, _, hn⟩ := List.mem_filterMap.1 h
 exact chAt_mem hn
theorem sum_nonneg : ∀ l : List Int, (∀ x ∈ l, 0 <= x) -> 0 <= l.sum
 | [], _ => by simp
 | x :: l, h => by
  have h1 := h x (by simp)
  have h2 := sum_nonneg l fun y hy => h y (by simp [hy])
  rw [List.sum_cons]
  omega
theorem dec_at {p : Pr} : ∀ (ls f : List Int) (i : Nat) (n : Int), Decs p ls f -> f[i]? = some n -> ∃ lot, ls[i]? = some lot /\ Dec p lot n
 | _, [], i, n, _, h => by simp at h
 | [], _ :: _, _, _, hd, _ => hd.elim
 | lot :: ls, m :: f, 0, n, hd, h => by
  simp only [List.getElem?_cons_zero, Option.some.injEq] at h
  subst h
  exact ⟨lot, rfl, hd.1⟩
 | lot :: ls, m :: f, i + 1, n, hd, h => by
  obtain ⟨l', h1, h2⟩ := dec_at ls f i n hd.2 (by simpa using h)
  exact ⟨l', by simpa using h1, h2⟩
theorem may_mono {p : Pr} {f t : List Int} (h : f <+: t) (hd : Decs p p.lots t) {b lot : Int} (hm : may p t b lot = true) : may p f b lot = true := by
 unfold may at hm ⊢
 obtain ⟨r, rfl⟩ := h
 by_cases hi : p.lots.idxOf lot < f.length
 ·rw [List.getElem?_append_left hi] at hm
  exact hm
 ·rw [List.getElem?_eq_none (by omega)]
  simp only
  cases hn : (f ++ r)[p.lots.idxOf lot]? with
  | none => rw [hn] at hm; exact hm
  | some n =>
   rw [hn] at hm
   simp only at hm
   obtain ⟨l', h1, h2⟩ := dec_at _ _ _ _ hd hn
   cases hc : chAt p n with
   | none => rw [hc] at hm; cases hm
   | some c =>
    rw [hc] at hm
    rw [List.any_eq_true]
    refine ⟨c, chAt_mem hc, ?_⟩
    have hlot : l' = lot := by
     have hlt : p.lots.idxOf lot < p.lots.length := (List.getElem?_eq_some_iff.1 h1).1
     have := (List.getElem?_eq_some_iff.1 h1).2
     rw [← this, List.getElem_idxOf]
    rcases h2 with rfl | ⟨c', hc', hl⟩
    ·rw [show chAt p (-1) = none by simp [chAt]] at hc
     cases hc
    ·rw [hc] at hc'
     injection hc' with hc'
     subst hc'
     simp only [Bool.and_eq_true, beq_iff_eq]
     exact ⟨by rw [hl, hlot], by simpa using hm⟩
theorem off_anti {p : Pr} {f t : List Int} (h : f <+: t) (hd : Decs p p.lots t) {d : De} (h0 : 0 <= d.off) : offOf p t d <= offOf p f d := by
 unfold offOf
 by_cases ha : d.lots.all (may p t d.bid) = true
 ·rw [if_pos ha]
  have : d.lots.all (may p f d.bid) = true := List.all_eq_true.2 fun x hx => may_mono h hd (List.all_eq_true.1 ha x hx)
  rw [if_pos this]
  exact Int.le_refl _
 ·rw [if_neg ha]
  split <;> omega
theorem sum_le {α : Type} (g h : α -> Int) : ∀ l : List α, (∀ x ∈ l, g x <= h x) -> (l.map g).sum <= (l.map h).sum
 | [], _ => by simp
 | x :: l, hl => by
  have h1 := hl x (by simp)
  have h2 := sum_le g h l fun y hy => hl y (by simp [hy])
  simp only [List.map_cons, List.sum_cons]
  omega
theorem offs_anti {p : Pr} (hp : RightPr p) {f t : List Int} (h : f <+: t) (hd : Decs p p.lots t) : offs p t <= offs p f :=
 sum_le _ _ _ fun d hd' => off_anti h hd (hp.de d hd').2.2.2.1
theorem offs_nonneg {p : Pr} (hp : RightPr p) (f : List Int) : 0 <= offs p f :=
 sum_nonneg _ fun x hx => by
  obtain ⟨d, hd, rfl⟩ := List.mem_map.1 hx
  have := (hp.de d hd).2.2.2.1
  unfold offOf
  split <;> omega
theorem gains_eq (p : Pr) (lam : Rat) : ∀ l : List Ch, gains p lam l = (((l.map (·.pts)).sum * (p.budget + 1) - (l.map (·.price)).sum : Int) : Rat) - lam * (((l.map (·.price)).sum : Int) : Rat)
 | [] => by simp [gains]; grind
 | c :: l => by
  have ih := gains_eq p lam l
  unfold gains at ih ⊢
  simp only [List.map_cons, List.sum_cons]
  rw [ih]
  unfold gain
  simp only [Rat.intCast_add, Rat.intCast_sub, Rat.intCast_mul, Rat.intCast_neg]
  grind
theorem dual_le {p : Pr} (hp : RightPr p) {lam : Rat} (hl : 0 <= lam) {f t : List Int} (h : f <+: t) (ht : Perm p t) :
  ((worth p t : Int) : Rat) <= lam * ((p.budget : Int) : Rat) + lotsB p lam p.lots f + (1 + lam) * ((offs p f : Int) : Rat) := by
 obtain ⟨hlen, hd, hb, _⟩ := ht
 have h1 := gains_le (lam := lam) p.lots t f hlen hd h
 rw [gains_eq] at h1
 have h2 := offs_anti hp h hd
 have h3 : costOf p t - offs p t <= leastOf p t := by unfold leastOf; omega
 have h4 : ((offs p t : Int) : Rat) <= ((offs p f : Int) : Rat) := Rat.intCast_le_intCast.2 h2
 have h5 : ((costOf p t - offs p t : Int) : Rat) <= ((leastOf p t : Int) : Rat) := Rat.intCast_le_intCast.2 h3
 have h6 : ((leastOf p t : Int) : Rat) <= ((p.budget : Int) : Rat) := Rat.intCast_le_intCast.2 hb
 have h7 : lam * ((costOf p t - offs p t : Int) : Rat) <= lam * ((p.budget : Int) : Rat) := Rat.mul_le_mul_of_nonneg_left (Rat.le_trans h5 h6) hl
 have h8 : (1 + lam) * ((offs p t : Int) : Rat) <= (1 + lam) * ((offs p f : Int) : Rat) := Rat.mul_le_mul_of_nonneg_left h4 (by grind)
 change (((ptsOf p t * (p.budget + 1) - costOf p t : Int) : Rat)) - lam * ((costOf p t : Int) : Rat) <= _ at h1
 unfold worth
 simp only [Rat.intCast_add, Rat.intCast_sub, Rat.intCast_mul] at *
 grind
end Pw
namespace Pw
def gtL : List Int -> List Int -> Bool
 | x :: f, y :: t => if x = y then gtL f t else decide (y < x)
 | _, _ => false
theorem gtL_take : ∀ f t : List Int, gtL f (t.take f.length) = gtL f t
 | [], t => by simp [gtL]
 | x :: f, [] => rfl
 | x :: f, y :: t => by
  simp only [List.length_cons, List.take_succ_cons, gtL]
  rw [gtL_take f t]
def Bt (p : Pr) (a b : List Int) : Prop := worth p b < worth p a \/ worth p a = worth p b /\ gtL b a = true
def UpTo (p : Pr) (f : List Int) (n : Int) : Prop := ∀ t, f <+: t -> Perm p t -> worth p t <= n
def UpOk (up : List Int -> Int -> Int -> Option Int) (p : Pr) : Prop := ∀ f a b n, up f a b = some n -> UpTo p f n
structure Nd where
 lot : Int
 num : Int
 den : Int
 next : List Int
def optsFrom (lot : Int) : Nat -> List Ch -> List Int
 | _, [] => []
 | i, c :: l => if c.lot = lot then (i : Int) :: optsFrom lot (i + 1) l else optsFrom lot (i + 1) l
def opts (p : Pr) (lot : Int) : List Int := -1 :: optsFrom lot 0 p.ch
theorem optsFrom_mem {lot : Int} : ∀ (l : List Ch) (i : Nat) (n : Int), n ∈ optsFrom lot i l ↔ ∃ j c, l[j]? = some c /\ c.lot = lot /\ n = ((i + j : Nat) : Int)
 | [], i, n => by simp [optsFrom]
 | c :: l, i, n => by
  have ih := optsFrom_mem (lot := lot) l (i + 1) n
  have key : (∃ j d, (c :: l)[j]? = some d /\ d.lot = lot /\ n = ((i + j : Nat) : Int)) ↔ (c.lot = lot /\ n = (i : Int)) \/ ∃ j d, l[j]? = some d /\ d.lot = lot /\ n = ((i + 1 + j : Nat) : Int) := by
   constructor
   ·rintro ⟨j, d, h1, h2, h3⟩
    cases j with
    | zero => simp at h1; subst h1; exact .inl ⟨h2, h3⟩
    | succ j => exact .inr ⟨j, d, by simpa using h1, h2, by rw [h3]; congr 1; omega⟩
   ·rintro (⟨h1, h2⟩ | ⟨j, d, h1, h2, h3⟩)
    ·exact ⟨0, c, rfl, h1, h2⟩
    ·exact ⟨j + 1, d, by simpa using h1, h2, by rw [h3]; congr 1; omega⟩
  rw [key, optsFrom]
  by_cases h : c.lot = lot
  ·rw [if_pos h, List.mem_cons, ih]
   simp [h]
  ·rw [if_neg h, ih]
   simp [h]
theorem opts_mem {p : Pr} {lot n : Int} : n ∈ opts p lot ↔ Dec p lot n := by
 unfold opts Dec chAt
 rw [List.mem_cons, optsFrom_mem]
 constructor
 ·rintro (h | ⟨j, c, h1, h2, h3⟩)
  ·exact .inl h
  ·subst h3
   refine .inr ⟨c, ?_, h2⟩
   rw [if_pos (by omega)]
   simpa using h1
 ·rintro (h | ⟨c, h1, h2⟩)
  ·exact .inl h
  ·split at h1
   ·rename_i h0
    exact .inr ⟨n.toNat, c, h1, h2, by omega⟩
   ·cases h1
end Pw
namespace Pw
def decB (p : Pr) (lot n : Int) : Bool := decide (n = -1) || match chAt p n with
 | some c => decide (c.lot = lot)
 | none => false
theorem decB_iff {p : Pr} {lot n : Int} : decB p lot n = true ↔ Dec p lot n := by
 unfold decB Dec
 simp only [Bool.or_eq_true, decide_eq_true_eq]
 constructor
 ·rintro (h | h)
  ·exact .inl h
  ·split at h
   ·rename_i c hc
    exact .inr ⟨c, hc, of_decide_eq_true h⟩
   ·cases h
 ·rintro (h | ⟨c, hc, h⟩)
  ·exact .inl h
  ·right
   rw [hc]
   exact decide_eq_true h
def decsB (p : Pr) : List Int -> List Int -> Bool
 | _, [] => true
 | [], _ :: _ => false
 | lot :: ls, n :: f => decB p lot n && decsB p ls f
theorem decsB_iff {p : Pr} : ∀ {ls f : List Int}, decsB p ls f = true ↔ Decs p ls f
 | [], [] => by simp [decsB, Decs]
 | _ :: _, [] => by simp [decsB, Decs]
 | [], _ :: _ => by simp [decsB, Decs]
 | lot :: ls, n :: f => by
  simp only [decsB, Decs, Bool.and_eq_true, decB_iff, decsB_iff]
theorem decs_len {p : Pr} : ∀ {ls f : List Int}, Decs p ls f -> f.length <= ls.length
 | _, [], _ => by simp
 | [], _ :: _, h => h.elim
 | _ :: _, _ :: _, h => by have := decs_len h.2; simp; omega
theorem decs_get {p : Pr} : ∀ {ls f : List Int}, f.length <= ls.length -> (Decs p ls f ↔ ∀ (i : Nat) lot n, ls[i]? = some lot -> f[i]? = some n -> Dec p lot n)
 | ls, [], _ => by
  constructor
  ·intro _ i lot n _ h; simp at h
  ·intro _; cases ls <;> exact trivial
 | [], _ :: _, h => by simp at h
 | lot :: ls, n :: f, h => by
  have ih := decs_get (p := p) (ls := ls) (f := f) (by simpa using h)
  constructor
  ·rintro ⟨h1, h2⟩ i lot' n' hl hn
   cases i with
   | zero => simp at hl hn; subst hl; subst hn; exact h1
   | succ i => exact ih.1 h2 i lot' n' (by simpa using hl) (by simpa using hn)
  ·intro h
   exact ⟨h 0 lot n rfl rfl, ih.2 fun i lot' n' hl hn => h (i + 1) lot' n' (by simpa using hl) (by simpa using hn)⟩
def fitsB (p : Pr) (f : List Int) : Bool := decide (f.length = p.lots.length) && decsB p p.lots f
def crowdB (p : Pr) (f : List Int) : Bool := decide (0 < p.most) && (took p f).any fun c => decide (p.most < ((took p f).countP (fun d => d.bid == c.bid) : Int))
def permB (p : Pr) (f : List Int) : Bool := fitsB p f && (decide (leastOf p f <= p.budget) && !crowdB p f)
theorem crowdB_iff {p : Pr} {f : List Int} : crowdB p f = true ↔ Crowd p f := by
 unfold crowdB Crowd
 simp only [Bool.and_eq_true, decide_eq_true_eq, List.any_eq_true]
 constructor
 ·rintro ⟨h0, c, _, h⟩
  exact ⟨h0, c.bid, h⟩
 ·rintro ⟨h0, b, h⟩
  refine ⟨h0, ?_⟩
  have hpos : 0 < (took p f).countP (fun d => d.bid == b) := by omega
  obtain ⟨c, hc, hb⟩ := List.countP_pos_iff.1 hpos
  refine ⟨c, hc, ?_⟩
  have : c.bid = b := by simpa using hb
  rw [this]
  exact h
theorem permB_iff {p : Pr} {f : List Int} : permB p f = true ↔ Perm p f := by
 unfold permB Perm fitsB
 simp only [Bool.and_eq_true, decide_eq_true_eq, decsB_iff, Bool.not_eq_true', and_assoc]
 constructor
 ·rintro ⟨h1, h2, h3, h4⟩
  exact ⟨h1, h2, h3, fun h => by rw [crowdB_iff.2 h] at h4; cases h4⟩
 ·rintro ⟨h1, h2, h3, h4⟩
  refine ⟨h1, h2, h3, ?_⟩
  cases h : crowdB p f with
  | false => rfl
  | true => exact absurd (crowdB_iff.1 h) h4
theorem sum_bound (M : Int) : ∀ l : List Int, (∀ x ∈ l, 0 <= x /\ x <= M) -> 0 <= l.sum /\ l.sum <= l.length * M
 | [], _ => by simp
 | x :: l, h => by
  have h1 := h x (by simp)
  have h2 := sum_bound M l fun y hy => h y (by simp [hy])
  rw [List.sum_cons, List.length_cons]
  have e : ((l.length + 1 : Nat) : Int) * M = l.length * M + M := by
   rw [Int.natCast_add, Int.add_mul]; simp
  rw [e]
  omega
theorem took_len {p : Pr} (f : List Int) : (took p f).length <= f.length := List.length_filterMap_le ..
theorem took_append {p : Pr} (f g : List Int) : took p (f ++ g) = took p f ++ took p g := List.filterMap_append
section
variable {p : Pr} {f : List Int}
theorem right_len (hp : RightPr p) (hd : Decs p p.lots f) : f.length <= 12 := Nat.le_trans (decs_len hd) hp.few
theorem took_sum (hp : RightPr p) (g : Ch -> Int) (M : Int) (hg : ∀ c ∈ p.ch, 0 <= g c /\ g c <= M) (hd : Decs p p.lots f) (hM : 0 <= M) {l : List Ch} (hl : l <+: took p f) : 0 <= (l.map g).sum /\ (l.map g).sum <= 12 * M := by
 have h1 := sum_bound M (l.map g) fun x hx => by
  obtain ⟨c, hc, rfl⟩ := List.mem_map.1 hx
  exact hg c (took_mem (hl.subset hc))
 have h2 := hl.length_le
 have h3 := took_len (p := p) f
 have h4 := right_len hp hd
 rw [List.length_map] at h1
 refine ⟨h1.1, Int.le_trans h1.2 (Int.mul_le_mul_of_nonneg_right (by omega) hM)⟩
theorem pts_bound (hp : RightPr p) (hd : Decs p p.lots f) : 0 <= ptsOf p f /\ ptsOf p f <= 12000000 :=
 took_sum hp (·.pts) 1000000 (fun c hc => (hp.ch c hc).2.2) hd (by decide) (List.prefix_refl _)
theorem cost_bound (hp : RightPr p) (hd : Decs p p.lots f) : 0 <= costOf p f /\ costOf p f <= 12000000000 :=
 took_sum hp (·.price) 1000000000 (fun c hc => (hp.ch c hc).2.1) hd (by decide) (List.prefix_refl _)
theorem offs_bound (hp : RightPr p) {l : List De} (hl : l <+: p.de) : 0 <= (l.map (offOf p f)).sum /\ (l.map (offOf p f)).sum <= 100000000000 := by
 have h1 := sum_bound 1000000000 (l.map (offOf p f)) fun x hx => by
  obtain ⟨d, hd, rfl⟩ := List.mem_map.1 hx
  have := (hp.de d (hl.subset hd)).2.2.2
  unfold offOf
  split
  ·exact ⟨this.1, this.2⟩
  ·exact ⟨Int.le_refl _, by decide⟩
 have h2 := hl.length_le
 have h3 := hp.des
 rw [List.length_map] at h1
 omega
theorem least_bound (hp : RightPr p) (hd : Decs p p.lots f) : 0 <= leastOf p f /\ leastOf p f <= 12000000000 := by
 have h1 := cost_bound hp hd
 have h2 := offs_nonneg hp f
 unfold leastOf
 omega
theorem worth_bound (hp : RightPr p) (hd : Decs p p.lots f) : 0 <= ptsOf p f * (p.budget + 1) /\ ptsOf p f * (p.budget + 1) <= 12000012000000000 /\ -12000000000 <= worth p f /\ worth p f <= 12000012000000000 := by
 have h1 := pts_bound hp hd
 have h2 := least_bound hp hd
 have h3 := hp.budget
 have h4 : ptsOf p f * (p.budget + 1) <= 12000000 * 1000000001 := Int.mul_le_mul h1.2 (by have := h3.2; omega) (by have := h3.1; omega) (by decide)
 have h5 : 0 <= ptsOf p f * (p.budget + 1) := Int.mul_nonneg h1.1 (by have := h3.1; omega)
 unfold worth
 omega
theorem net_bound (hp : RightPr p) {c : Ch} (hc : c ∈ p.ch) : 0 <= c.pts * (p.budget + 1) /\ c.pts * (p.budget + 1) <= 1000001000000000 := by
 have h1 := (hp.ch c hc).2.2
 have h3 := hp.budget
 have h4 : c.pts * (p.budget + 1) <= 1000000 * 1000000001 := Int.mul_le_mul h1.2 (by have := h3.2; omega) (by have := h3.1; omega) (by decide)
 exact ⟨Int.mul_nonneg h1.1 (by have := h3.1; omega), by omega⟩
end
end Pw


