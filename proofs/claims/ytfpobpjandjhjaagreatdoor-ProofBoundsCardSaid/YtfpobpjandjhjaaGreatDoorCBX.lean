/- Awards of several lots in plain terms: problems, takes, what they cost and are worth, and why a bound holds. Conditions: none. -/
import Derived.Test.YtfpobpjandjhjaaGreatDoorPwS
namespace Pw
structure Ch where
 lot : Int
 bid : Int
 price : Int
 pts : Int
structure De where
 bid : Int
 lots : List Int
 off : Int
structure Pr where
 lots : List Int
 ch : List Ch
 de : List De
 most : Int
 budget : Int
def Wi (n m : Int) : Prop := 0 <= n /\ n <= m
structure RightPr (p : Pr) : Prop where
 some : 0 < p.lots.length
 few : p.lots.length <= 12
 diff : p.lots.Nodup
 chs : p.ch.length <= 480
 des : p.de.length <= 100
 most : Wi p.most 1000000000
 budget : Wi p.budget 1000000000
 ch : ∀ c ∈ p.ch, c.lot ∈ p.lots /\ Wi c.price 1000000000 /\ Wi c.pts 1000000
 de : ∀ d ∈ p.de, d.lots ≠ [] /\ d.lots.Nodup /\ (∀ x ∈ d.lots, x ∈ p.lots) /\ Wi d.off 1000000000
def chAt (p : Pr) (n : Int) : Option Ch := if 0 <= n then p.ch[n.toNat]? else none
def Dec (p : Pr) (lot n : Int) : Prop := n = -1 \/ ∃ c, chAt p n = some c /\ c.lot = lot
def Decs (p : Pr) : List Int -> List Int -> Prop
 | _, [] => True
 | [], _ :: _ => False
 | lot :: ls, n :: f => Dec p lot n /\ Decs p ls f
def took (p : Pr) (f : List Int) : List Ch := f.filterMap (chAt p)
def ptsOf (p : Pr) (f : List Int) : Int := ((took p f).map (·.pts)).sum
def costOf (p : Pr) (f : List Int) : Int := ((took p f).map (·.price)).sum
def may (p : Pr) (f : List Int) (b lot : Int) : Bool :=
 match f[p.lots.idxOf lot]? with
 | some n => match chAt p n with
  | some c => c.bid == b
  | none => false
 | none => p.ch.any fun c => c.lot == lot && c.bid == b
def offOf (p : Pr) (f : List Int) (d : De) : Int := if d.lots.all (may p f d.bid) then d.off else 0
def offs (p : Pr) (f : List Int) : Int := (p.de.map (offOf p f)).sum
def leastOf (p : Pr) (f : List Int) : Int := max 0 (costOf p f - offs p f)
def Crowd (p : Pr) (f : List Int) : Prop := 0 < p.most /\ ∃ b, p.most < ((took p f).countP (·.bid == b) : Int)
def worth (p : Pr) (f : List Int) : Int := ptsOf p f * (p.budget + 1) - leastOf p f
def Perm (p : Pr) (t : List Int) : Prop := t.length = p.lots.length /\ Decs p p.lots t /\ leastOf p t <= p.budget /\ ¬ Crowd p t
theorem chAt_mem {p : Pr} {n : Int} {c : Ch} (h : chAt p n = some c) : c ∈ p.ch := by
 unfold chAt at h
 split at h
 ·exact List.mem_of_getElem? h
 ·cases h
end Pw
namespace Pw
theorem took_mem {p : Pr} {f : List Int} {c : Ch} (h : c ∈ took p f) : c ∈ p.ch := by
 obtain ⟨n, _, hn⟩ := List.mem_filterMap.1 h
 exact chAt_mem hn
theorem sum_nonneg : ∀ l : List Int, (∀ x ∈ l, 0 <= x) -> 0 <= l.sum
 | [], _ => by simp
 | x :: l, h => by
  have h1 := h x (by simp)
  have h2 := sum_nonneg l fun y hy => h y (by simp [hy])
  rw [List.sum_cons]
  omega
theorem offs_nonneg {p : Pr} (hp : RightPr p) (f : List Int) : 0 <= offs p f :=
 sum_nonneg _ fun x hx => by
  obtain ⟨d, hd, rfl⟩ := List.mem_map.1 hx
  have := (hp.de d hd).2.2.2.1
  unfold offOf
  split <;> omega
end Pw
namespace Pw
def gtL : List Int -> List Int -> Bool
 | x :: f, y :: t => if x = y then gtL f t else decide (y < x)
 | _, _ => false
theorem gtL_take : ∀ f t : List Int, gtL f (t.take f.length) = gtL f t
 | [], t => by simp [gtL]
 | x :: f, [] => rfl
 | x :: f, y :: t => by
  simp only [List.length_cons, List.take_succ_cons, gtL]
  rw [gtL_take f t]
def Bt (p : Pr) (a b : List Int) : Prop := worth p b < worth p a \/ worth p a = worth p b /\ gtL b a = true
structure Nd where
 lot : Int
 num : Int
 den : Int
 next : List Int
def optsFrom (lot : Int) : Nat -> List Ch -> List Int
 | _, [] => []
 | i, c :: l => if c.lot = lot then (i : Int) :: optsFrom lot (i + 1) l else optsFrom lot (i + 1) l
def opts (p : Pr) (lot : Int) : List Int := -1 :: optsFrom lot 0 p.ch
theorem optsFrom_mem {lot : Int} : ∀ (l : List Ch) (i : Nat) (n : Int), n ∈ optsFrom lot i l ↔ ∃ j c, l[j]? = some c /\ c.lot = lot /\ n = ((i + j : Nat) : Int)
 | [], i, n => by simp [optsFrom]
 | c :: l, i, n => by
  have ih := optsFrom_mem (lot := lot) l (i + 1) n
  have key : (∃ j d, (c :: l)[j]? = some d /\ d.lot = lot /\ n = ((i + j : Nat) : Int)) ↔ (c.lot = lot /\ n = (i : Int)) \/ ∃ j d, l[j]? = some d /\ d.lot = lot /\ n = ((i + 1 + j : Nat) : Int) := by
   constructor
   ·rintro ⟨j, d, h1, h2, h3⟩
    cases j with
    | zero => simp at h1; subst h1; exact .inl ⟨h2, h3⟩
    | succ j => exact .inr ⟨j, d, by simpa using h1, h2, by rw [h3]; congr 1; omega⟩
   ·rintro (⟨h1, h2⟩ | ⟨j, d, h1, h2, h3⟩)
    ·exact ⟨0, c, rfl, h1, h2⟩
    ·exact ⟨j + 1, d, by simpa using h1, h2, by rw [h3]; congr 1; omega⟩
  rw [key, optsFrom]
  by_cases h : c.lot = lot
  ·rw [if_pos h, List.mem_cons, ih]
   simp [h]
  ·rw [if_neg h, ih]
   simp [h]
theorem opts_mem {p : Pr} {lot n : Int} : n ∈ opts p lot ↔ Dec p lot n := by
 unfold opts Dec chAt
 rw [List.mem_cons, optsFrom_mem]
 constructor
 ·rintro (h | ⟨j, c, h1, h2, h3⟩)
  ·exact .inl h
  ·subst h3
   refine .inr ⟨c, ?_, h2⟩
   rw [if_pos (by omega)]
   simpa using h1
 ·rintro (h | ⟨c, h1, h2⟩)
  ·exact .inl h
  ·split at h1
   ·rename_i h0
    exact .inr ⟨n.toNat, c, h1, h2, by omega⟩
   ·cases h1
end Pw
namespace Pw
def decB (p : Pr) (lot n : Int) : Bool := decide (n = -1) || match chAt p n with
 | some c => decide (c.lot = lot)
 | none => false
theorem decB_iff {p : Pr} {lot n : Int} : decB p lot n = true ↔ Dec p lot n := by
 unfold decB Dec
 simp only [Bool.or_eq_true, decide_eq_true_eq]
 constructor
 ·rintro (h | h)
  ·exact .inl h
  ·split at h
   ·rename_i c hc
    exact .inr ⟨c, hc, of_decide_eq_true h⟩
   ·cases h
 ·rintro (h | ⟨c, hc, h⟩)
  ·exact .inl h
  ·right
   rw [hc]
   exact decide_eq_true h
def decsB (p : Pr) : List Int -> List Int -> Bool
 | _, [] => true
 | [], _ :: _ => false
 | lot :: ls, n :: f => decB p lot n && decsB p ls f
theorem decsB_iff {p : Pr} : ∀ {ls f : List Int}, decsB p ls f = true ↔ Decs p ls f
 | [], [] => by simp [decsB, Decs]
 | _ :: _, [] => by simp [decsB, Decs]
 | [], _ :: _ => by simp [decsB, Decs]
 | lot :: ls, n :: f => by
  simp only [decsB, Decs, Bool.and_eq_true, decB_iff, decsB_iff]
theorem decs_len {p : Pr} : ∀ {ls f : List Int}, Decs p ls f -> f.length <= ls.length
 | _, [], _ => by simp
 | [], _ :: _, h => h.elim
 | _ :: _, _ :: _, h => by have := decs_len h.2; simp; omega
theorem decs_get {p : Pr} : ∀ {ls f : List Int}, f.length <= ls.length -> (Decs p ls f ↔ ∀ (i : Nat) lot n, ls[i]? = some lot -> f[i]? = some n -> Dec p lot n)
 | ls, [], _ => by
  constructor
  ·intro _ i lot n _ h; simp at h
  ·intro _; cases ls <;> exact trivial
 | [], _ :: _, h => by simp at h
 | lot :: ls, n :: f, h => by
  have ih := decs_get (p := p) (ls := ls) (f := f) (by simpa using h)
  constructor
  ·rintro ⟨h1, h2⟩ i lot' n' hl hn
   cases i with
   | zero => simp at hl hn; subst hl; subst hn; exact h1
   | succ i => exact ih.1 h2 i lot' n' (by simpa using hl) (by simpa using hn)
  ·intro h
   exact ⟨h 0 lot n rfl rfl, ih.2 fun i lot' n' hl hn => h (i + 1) lot' n' (by simpa using hl) (by simpa using hn)⟩
def fitsB (p : Pr) (f : List Int) : Bool := decide (f.length = p.lots.length) && decsB p p.lots f
def crowdB (p : Pr) (f : List Int) : Bool := decide (0 < p.most) && (took p f).any fun c => decide (p.most < ((took p f).countP (fun d => d.bid == c.bid) : Int))
def permB (p : Pr) (f : List Int) : Bool := fitsB p f && (decide (leastOf p f <= p.budget) && !crowdB p f)
theorem crowdB_iff {p : Pr} {f : List Int} : crowdB p f = true ↔ Crowd p f := by
 unfold crowdB Crowd
 simp only [Bool.and_eq_true, decide_eq_true_eq, List.any_eq_true]
 constructor
 ·rintro ⟨h0, c, _, h⟩
  exact ⟨h0, c.bid, h⟩
 ·rintro ⟨h0, b, h⟩
  refine ⟨h0, ?_⟩
  have hpos : 0 < (took p f).countP (fun d => d.bid == b) := by omega
  obtain ⟨c, hc, hb⟩ := List.countP_pos_iff.1 hpos
  refine ⟨c, hc, ?_⟩
  have : c.bid = b := by simpa using hb
  rw [this]
  exact h
theorem permB_iff {p : Pr} {f : List Int} : permB p f = true ↔ Perm p f := by
 unfold permB Perm fitsB
 simp only [Bool.and_eq_true, decide_eq_true_eq, decsB_iff, Bool.not_eq_true', and_assoc]
 constructor
 ·rintro ⟨h1, h2, h3, h4⟩
  exact ⟨h1, h2, h3, fun h => by rw [crowdB_iff.2 h] at h4; cases h4⟩
 ·rintro ⟨h1, h2, h3, h4⟩
  refine ⟨h1, h2, h3, ?_⟩
  cases h : crowdB p f with
  | false => rfl
  | true => exact absurd (crowdB_iff.1 h) h4
theorem sum_bound (M : Int) : ∀ l : List Int, (∀ x ∈ l, 0 <= x /\ x <= M) -> 0 <= l.sum /\ l.sum <= l.length * M
 | [], _ => by simp
 | x :: l, h => by
  have h1 := h x (by simp)
  have h2 := sum_bound M l fun y hy => h y (by simp [hy])
  rw [List.sum_cons, List.length_cons]
  have e : ((l.length + 1 : Nat) : Int) * M = l.length * M + M := by
   rw [Int.natCast_add, Int.add_mul]; simp
  rw [e]
  omega
theorem took_len {p : Pr} (f : List Int) : (took p f).length <= f.length := List.length_filterMap_le ..
theorem took_append {p : Pr} (f g : List Int) : took p (f ++ g) = took p f ++ took p g := List.filterMap_append
section
variable {p : Pr} {f : List Int}
theorem right_len (hp : RightPr p) (hd : Decs p p.lots f) : f.length <= 12 := Nat.le_trans (decs_len hd) hp.few
theorem took_sum (hp : RightPr p) (g : Ch -> Int) (M : Int) (hg : ∀ c ∈ p.ch, 0 <= g c /\ g c <= M) (hd : Decs p p.lots f) (hM : 0 <= M) {l : List Ch} (hl : l <+: took p f) : 0 <= (l.map g).sum /\ (l.map g).sum <= 12 * M := by
 have h1 := sum_bound M (l.map g) fun x hx => by
  obtain ⟨c, hc, rfl⟩ := List.mem_map.1 hx
  exact hg c (took_mem (hl.subset hc))
 have h2 := hl.length_le
 have h3 := took_len (p := p) f
 have h4 := right_len hp hd
 rw [List.length_map] at h1
 refine ⟨h1.1, Int.le_trans h1.2 (Int.mul_le_mul_of_nonneg_right (by omega) hM)⟩
theorem pts_bound (hp : RightPr p) (hd : Decs p p.lots f) : 0 <= ptsOf p f /\ ptsOf p f <= 12000000 :=
 took_sum hp (·.pts) 1000000 (fun c hc => (hp.ch c hc).2.2) hd (by decide) (List.prefix_refl _)
theorem cost_bound (hp : RightPr p) (hd : Decs p p.lots f) : 0 <= costOf p f /\ costOf p f <= 12000000000 :=
 took_sum hp (·.price) 1000000000 (fun c hc => (hp.ch c hc).2.1) hd (by decide) (List.prefix_refl _)
theorem offs_bound (hp : RightPr p) {l : List De} (hl : l <+: p.de) : 0 <= (l.map (offOf p f)).sum /\ (l.map (offOf p f)).sum <= 100000000000 := by
 have h1 := sum_bound 1000000000 (l.map (offOf p f)) fun x hx => by
  obtain ⟨d, hd, rfl⟩ := List.mem_map.1 hx
  have := (hp.de d (hl.subset hd)).2.2.2
  unfold offOf
  split
  ·exact ⟨this.1, this.2⟩
  ·exact ⟨Int.le_refl _, by decide⟩
 have h2 := hl.length_le
 have h3 := hp.des
 rw [List.length_map] at h1
 omega
theorem least_bound (hp : RightPr p) (hd : Decs p p.lots f) : 0 <= leastOf p f /\ leastOf p f <= 12000000000 := by
 have h1 := cost_bound hp hd
 have h2 := offs_nonneg hp f
 unfold leastOf
 omega
theorem worth_bound (hp : RightPr p) (hd : Decs p p.lots f) : 0 <= ptsOf p f * (p.budget + 1) /\ ptsOf p f * (p.budget + 1) <= 12000012000000000 /\ -12000000000 <= worth p f /\ worth p f <= 12000012000000000 := by
 have h1 := pts_bound hp hd
 have h2 := least_bound hp hd
 have h3 := hp.budget
 have h4 : ptsOf p f * (p.budget + 1) <= 12000000 * 1000000001 := Int.mul_le_mul h1.2 (by have := h3.2; omega) (by have := h3.1; omega) (by decide)
 have h5 : 0 <= ptsOf p f * (p.budget + 1) := Int.mul_nonneg h1.1 (by have := h3.1; omega)
 unfold worth
 omega
theorem net_bound (hp : RightPr p) {c : Ch} (hc : c ∈ p.ch) : 0 <= c.pts * (p.budget + 1) /\ c.pts * (p.budget + 1) <= 1000001000000000 := by
 have h1 := (hp.ch c hc).2.2
 have h3 := hp.budget
 have h4 : c.pts * (p.budget + 1) <= 1000000 * 1000000001 := Int.mul_le_mul h1.2 (by have := h3.2; omega) (by have := h3.1; omega) (by decide)
 exact ⟨Int.mul_nonneg h1.1 (by have := h3.1; omega), by omega⟩
end
end Pw


