/- Awards of several lots in plain terms: problems, takes, what they cost and are worth, and why a bound holds. Conditions: none. -/
import Derived.Test.YtfpobpjandjhjaaGreatDoorPwS
import Derived.Test.YtfpobpjandjhjaaGreatDoorCG2
import Derived.Test.YtfpobpjandjhjaaGreatDoorRXZ
import Derived.Test.YtfpobpjandjhjaaGreatDoorPWX
namespace Pw
structure Ch where
 lot : Int
 bid : Int
 price : Int
 pts : Int
structure De where
 bid : Int
 lots : List Int
 off : Int
structure Pr where
 lots : List Int
 ch : List Ch
 de : List De
 most : Int
 budget : Int
def Wi (n m : Int) : Prop := 0 <= n /\ n <= m
structure RightPr (p : Pr) : Prop where
 some : 0 < p.lots.length
 few : p.lots.length <= 12
 diff : p.lots.Nodup
 chs : p.ch.length <= 480
 des : p.de.length <= 100
 most : Wi p.most 1000000000
 budget : Wi p.budget 1000000000
 ch : ∀ c ∈ p.ch, c.lot ∈ p.lots /\ Wi c.price 1000000000 /\ Wi c.pts 1000000
 de : ∀ d ∈ p.de, d.lots ≠ [] /\ d.lots.Nodup /\ (∀ x ∈ d.lots, x ∈ p.lots) /\ Wi d.off 1000000000
def chAt (p : Pr) (n : Int) : Option Ch := if 0 <= n then p.ch[n.toNat]? else none
def Dec (p : Pr) (lot n : Int) : Prop := n = -1 \/ ∃ c, chAt p n = some c /\ c.lot = lot
def Decs (p : Pr) : List Int -> List Int -> Prop
 | _, [] => True
 | [], _ :: _ => False
 | lot :: ls, n :: f => Dec p lot n /\ Decs p ls f
def took (p : Pr) (f : List Int) : List Ch := f.filterMap (chAt p)
def ptsOf (p : Pr) (f : List Int) : Int := ((took p f).map (·.pts)).sum
def costOf (p : Pr) (f : List Int) : Int := ((took p f).map (·.price)).sum
def may (p : Pr) (f : List Int) (b lot : Int) : Bool :=
 match f[p.lots.idxOf lot]? with
 | some n => match chAt p n with
  | some c => c.bid == b
  | none => false
 | none => p.ch.any fun c => c.lot == lot && c.bid == b
def offOf (p : Pr) (f : List Int) (d : De) : Int := if d.lots.all (may p f d.bid) then d.off else 0
def offs (p : Pr) (f : List Int) : Int := (p.de.map (offOf p f)).sum
def leastOf (p : Pr) (f : List Int) : Int := max 0 (costOf p f - offs p f)
def Crowd (p : Pr) (f : List Int) : Prop := 0 < p.most /\ ∃ b, p.most < ((took p f).countP (·.bid == b) : Int)
def worth (p : Pr) (f : List Int) : Int := ptsOf p f * (p.budget + 1) - leastOf p f
def Perm (p : Pr) (t : List Int) : Prop := t.length = p.lots.length /\ Decs p p.lots t /\ leastOf p t <= p.budget /\ ¬ Crowd p t
theorem chAt_mem {p : Pr} {n : Int} {c : Ch} (h : chAt p n = some c) : c ∈ p.ch := by
 unfold chAt at h
 split at h
 ·exact List.mem_of_getElem? h
 ·cases h
end Pw
namespace Pw
theorem took_mem {p : Pr} {f : List Int} {c : Ch} (h : c ∈ took p f) : c ∈ p.ch := by
 obtain ⟨n, _, hn⟩ := List.mem_filterMap.1 h
 exact chAt_mem hn
theorem sum_nonneg : ∀ l : List Int, (∀ x ∈ l, 0 <= x) -> 0 <= l.sum
 | [], _ => by simp
 | x :: l, h => by
  have h1 := h x (by simp)
  have h2 := sum_nonneg l fun y hy => h y (by simp [hy])
  rw [List.sum_cons]
  omega
theorem offs_nonneg {p : Pr} (hp : RightPr p) (f : List Int) : 0 <= offs p f :=
 sum_nonneg _ fun x hx => by
  obtain ⟨d, hd, rfl⟩ := List.mem_map.1 hx
  have := (hp.de d hd).2.2.2.1
  unfold offOf
  split <;> omega
end Pw
namespace Pw
def gtL : List Int -> List Int -> Bool
 | x :: f, y :: t => if x = y then gtL f t else decide (y < x)
 | _, _ => false
theorem gtL_take : ∀ f t : List Int, gtL f (t.take f.length) = gtL f t
 | [], t => by simp [gtL]
 | x :: f, [] => rfl
 | x :: f, y :: t => by
  simp only [List.length_cons, List.take_succ_cons, gtL]
  rw [gtL_take f t]
def Bt (p : Pr) (a b : List Int) : Prop := worth p b < worth p a \/ worth p a = worth p b /\ gtL b a = true
structure Nd where
 lot : Int
 num : Int
 den : Int
 next : List Int
def optsFrom (lot : Int) : Nat -> List Ch -> List Int
 | _, [] => []
 | i, c :: l => if c.lot = lot then (i : Int) :: optsFrom lot (i + 1) l else optsFrom lot (i + 1) l
def opts (p : Pr) (lot : Int) : List Int := -1 :: optsFrom lot 0 p.ch
theorem optsFrom_mem {lot : Int} : ∀ (l : List Ch) (i : Nat) (n : Int), n ∈ optsFrom lot i l ↔ ∃ j c, l[j]? = some c /\ c.lot = lot /\ n = ((i + j : Nat) : Int)
 | [], i, n => by simp [optsFrom]
 | c :: l, i, n => by
  have ih := optsFrom_mem (lot := lot) l (i + 1) n
  have key : (∃ j d, (c :: l)[j]? = some d /\ d.lot = lot /\ n = ((i + j : Nat) : Int)) ↔ (c.lot = lot /\ n = (i : Int)) \/ ∃ j d, l[j]? = some d /\ d.lot = lot /\ n = ((i + 1 + j : Nat) : Int) := by
   constructor
   ·rintro ⟨j, d, h1, h2, h3⟩
    cases j with
    | zero => simp at h1; subst h1; exact .inl ⟨h2, h3⟩
    | succ j => exact .inr ⟨j, d, by simpa using h1, h2, by rw [h3]; congr 1; omega⟩
   ·rintro (⟨h1, h2⟩ | ⟨j, d, h1, h2, h3⟩)
    ·exact ⟨0, c, rfl, h1, h2⟩
    ·exact ⟨j + 1, d, by simpa using h1, h2, by rw [h3]; congr 1; omega⟩
  rw [key, optsFrom]
  by_cases h : c.lot = lot
  ·rw [if_pos h, List.mem_cons, ih]
   simp [h]
  ·rw [if_neg h, ih]
   simp [h]
theorem opts_mem {p : Pr} {lot n : Int} : n ∈ opts p lot ↔ Dec p lot n := by
 unfold opts Dec chAt
 rw [List.mem_cons, optsFrom_mem]
 constructor
 ·rintro (h | ⟨j, c, h1, h2, h3⟩)
  ·exact .inl h
  ·subst h3
   refine .inr ⟨c, ?_, h2⟩
   rw [if_pos (by omega)]
   simpa using h1
 ·rintro (h | ⟨c, h1, h2⟩)
  ·exact .inl h
  ·split at h1
   ·rename_i h0
    exact .inr ⟨n.toNat, c, h1, h2, by omega⟩
   ·cases h1
end Pw
namespace Pw
def decB (p : Pr) (lot n : Int) : Bool := decide (n = -1) || match chAt p n with
 | some c => decide (c.lot = lot)
 | none => false
theorem decB_iff {p : Pr} {lot n : Int} : decB p lot n = true ↔ Dec p lot n := by
 unfold decB Dec
 simp only [Bool.or_eq_true, decide_eq_true_eq]
 constructor
 ·rintro (h | h)
  ·exact .inl h
  ·split at h
   ·rename_i c hc
    exact .inr ⟨c, hc, of_decide_eq_true h⟩
   ·cases h
 ·rintro (h | ⟨c, hc, h⟩)
  ·exact .inl h
  ·right
   rw [hc]
   exact decide_eq_true h
def decsB (p : Pr) : List Int -> List Int -> Bool
 | _, [] => true
 | [], _ :: _ => false
 | lot :: ls, n :: f => decB p lot n && decsB p ls f
theorem decsB_iff {p : Pr} : ∀ {ls f : List Int}, decsB p ls f = true ↔ Decs p ls f
 | [], [] => by simp [decsB, Decs]
 | _ :: _, [] => by simp [decsB, Decs]
 | [], _ :: _ => by simp [decsB, Decs]
 | lot :: ls, n :: f => by
  simp only [decsB, Decs, Bool.and_eq_true, decB_iff, decsB_iff]
theorem decs_len {p : Pr} : ∀ {ls f : List Int}, Decs p ls f -> f.length <= ls.length
 | _, [], _ => by simp
 | [], _ :: _, h => h.elim
 | _ :: _, _ :: _, h => by have := decs_len h.2; simp; omega
theorem decs_get {p : Pr} : ∀ {ls f : List Int}, f.length <= ls.length -> (Decs p ls f ↔ ∀ (i : Nat) lot n, ls[i]? = some lot -> f[i]? = some n -> Dec p lot n)
 | ls, [], _ => by
  constructor
  ·intro _ i lot n _ h; simp at h
  ·intro _; cases ls <;> exact trivial
 | [], _ :: _, h => by simp at h
 | lot :: ls, n :: f, h => by
  have ih := decs_get (p := p) (ls := ls) (f := f) (by simpa using h)
  constructor
  ·rintro ⟨h1, h2⟩ i lot' n' hl hn
   cases i with
   | zero => simp at hl hn; subst hl; subst hn; exact h1
   | succ i => exact ih.1 h2 i lot' n' (by simpa using hl) (by simpa using hn)
  ·intro h
   exact ⟨h 0 lot n rfl rfl, ih.2 fun i lot' n' hl hn => h (i + 1) lot' n' (by simpa using hl) (by simpa using hn)⟩
def fitsB (p : Pr) (f : List Int) : Bool := decide (f.length = p.lots.length) && decsB p p.lots f
def crowdB (p : Pr) (f : List Int) : Bool := decide (0 < p.most) && (took p f).any fun c => decide (p.most < ((took p f).countP (fun d => d.bid == c.bid) : Int))
def permB (p : Pr) (f : List Int) : Bool := fitsB p f && (decide (leastOf p f <= p.budget) && !crowdB p f)
theorem crowdB_iff {p : Pr} {f : List Int} : crowdB p f = true ↔ Crowd p f := by
 unfold crowdB Crowd
 simp only [Bool.and_eq_true, decide_eq_true_eq, List.any_eq_true]
 constructor
 ·rintro ⟨h0, c, _, h⟩
  exact ⟨h0, c.bid, h⟩
 ·rintro ⟨h0, b, h⟩
  refine ⟨h0, ?_⟩
  have hpos : 0 < (took p f).countP (fun d => d.bid == b) := by omega
  obtain ⟨c, hc, hb⟩ := List.countP_pos_iff.1 hpos
  refine ⟨c, hc, ?_⟩
  have : c.bid = b := by simpa using hb
  rw [this]
  exact h
theorem permB_iff {p : Pr} {f : List Int} : permB p f = true ↔ Perm p f := by
 unfold permB Perm fitsB
 simp only [Bool.and_eq_true, decide_eq_true_eq, decsB_iff, Bool.not_eq_true', and_assoc]
 constructor
 ·rintro ⟨h1, h2, h3, h4⟩
  exact ⟨h1, h2, h3, fun h => by rw [crowdB_iff.2 h] at h4; cases h4⟩
 ·rintro ⟨h1, h2, h3, h4⟩
  refine ⟨h1, h2, h3, ?_⟩
  cases h : crowdB p f with
  | false => rfl
  | true => exact absurd (crowdB_iff.1 h) h4
theorem sum_bound (M : Int) : ∀ l : List Int, (∀ x ∈ l, 0 <= x /\ x <= M) -> 0 <= l.sum /\ l.sum <= l.length * M
 | [], _ => by simp
 | x :: l, h => by
  have h1 := h x (by simp)
  have h2 := sum_bound M l fun y hy => h y (by simp [hy])
  rw [List.sum_cons, List.length_cons]
  have e : ((l.length + 1 : Nat) : Int) * M = l.length * M + M := by
   rw [Int.natCast_add, Int.add_mul]; simp
  rw [e]
  omega
theorem took_len {p : Pr} (f : List Int) : (took p f).length <= f.length := List.length_filterMap_le ..
theorem took_append {p : Pr} (f g : List Int) : took p (f ++ g) = took p f ++ took p g := List.filterMap_append
section
variable {p : Pr} {f : List Int}
theorem right_len (hp : RightPr p) (hd : Decs p p.lots f) : f.length <= 12 := Nat.le_trans (decs_len hd) hp.few
theorem took_sum (hp : RightPr p) (g : Ch -> Int) (M : Int) (hg : ∀ c ∈ p.ch, 0 <= g c /\ g c <= M) (hd : Decs p p.lots f) (hM : 0 <= M) {l : List Ch} (hl : l <+: took p f) : 0 <= (l.map g).sum /\ (l.map g).sum <= 12 * M := by
 have h1 := sum_bound M (l.map g) fun x hx => by
  obtain ⟨c, hc, rfl⟩ := List.mem_map.1 hx
  exact hg c (took_mem (hl.subset hc))
 have h2 := hl.length_le
 have h3 := took_len (p := p) f
 have h4 := right_len hp hd
 rw [List.length_map] at h1
 refine ⟨h1.1, Int.le_trans h1.2 (Int.mul_le_mul_of_nonneg_right (by omega) hM)⟩
theorem pts_bound (hp : RightPr p) (hd : Decs p p.lots f) : 0 <= ptsOf p f /\ ptsOf p f <= 12000000 :=
 took_sum hp (·.pts) 1000000 (fun c hc => (hp.ch c hc).2.2) hd (by decide) (List.prefix_refl _)
theorem cost_bound (hp : RightPr p) (hd : Decs p p.lots f) : 0 <= costOf p f /\ costOf p f <= 12000000000 :=
 took_sum hp (·.price) 1000000000 (fun c hc => (hp.ch c hc).2.1) hd (by decide) (List.prefix_refl _)
theorem offs_bound (hp : RightPr p) {l : List De} (hl : l <+: p.de) : 0 <= (l.map (offOf p f)).sum /\ (l.map (offOf p f)).sum <= 100000000000 := by
 have h1 := sum_bound 1000000000 (l.map (offOf p f)) fun x hx => by
  obtain ⟨d, hd, rfl⟩ := List.mem_map.1 hx
  have := (hp.de d (hl.subset hd)).2.2.2
  unfold offOf
  split
  ·exact ⟨this.1, this.2⟩
  ·exact ⟨Int.le_refl _, by decide⟩
 have h2 := hl.length_le
 have h3 := hp.des
 rw [List.length_map] at h1
 omega
theorem least_bound (hp : RightPr p) (hd : Decs p p.lots f) : 0 <= leastOf p f /\ leastOf p f <= 12000000000 := by
 have h1 := cost_bound hp hd
 have h2 := offs_nonneg hp f
 unfold leastOf
 omega
theorem worth_bound (hp : RightPr p) (hd : Decs p p.lots f) : 0 <= ptsOf p f * (p.budget + 1) /\ ptsOf p f * (p.budget + 1) <= 12000012000000000 /\ -12000000000 <= worth p f /\ worth p f <= 12000012000000000 := by
 have h1 := pts_bound hp hd
 have h2 := least_bound hp hd
 have h3 := hp.budget
 have h4 : ptsOf p f * (p.budget + 1) <= 12000000 * 1000000001 := Int.mul_le_mul h1.2 (by have := h3.2; omega) (by have := h3.1; omega) (by decide)
 have h5 : 0 <= ptsOf p f * (p.budget + 1) := Int.mul_nonneg h1.1 (by have := h3.1; omega)
 unfold worth
 omega
theorem net_bound (hp : RightPr p) {c : Ch} (hc : c ∈ p.ch) : 0 <= c.pts * (p.budget + 1) /\ c.pts * (p.budget + 1) <= 1000001000000000 := by
 have h1 := (hp.ch c hc).2.2
 have h3 := hp.budget
 have h4 : c.pts * (p.budget + 1) <= 1000000 * 1000000001 := Int.mul_le_mul h1.2 (by have := h3.2; omega) (by have := h3.1; omega) (by decide)
 exact ⟨Int.mul_nonneg h1.1 (by have := h3.1; omega), by omega⟩
end
end Pw



namespace Pw
open Go
theorem Fr.t {w0 w w' : World} (h : Fr F0 w0 w) (h' : Fr F0 w w') : Fr F0 w0 w' := Fr0.t h h'
end Pw
namespace Go.Proofs.YtfpobpjandjhjaaGreatDoor
open Go Pw
abbrev idOf {f : Nat} {S : Pw.Spec} (_ : Sound Tryz.prog f S) : Nat := f
abbrev fnv (f : Nat) (l : List Nat) : Value := .func (.func f) #[] (l.map fun b => Value.pointer (some ⟨b, 0, none⟩)).toArray
def FnB {α : Type} (f : Value) (w0 : World) (arg : α -> List Value) (l : List α) (t : α -> Bool) : Prop :=
 ∀ a ∈ l, ∀ w, Fr F0 w0 w -> ∀ K : VW, (∀ w', Fr F0 w w' -> K (.bool (t a)) w') -> CallV Tryz.prog f (arg a) w K
def argI : Int -> List Value := fun n => [.int .i64 n]
def encC (c : Ch) : List Value := [.int .i64 c.lot, .int .i64 c.bid, .int .i64 c.price, .int .i64 c.pts]
def argC (c : Ch) : List Value := [.agg #[.int .i64 c.lot, .int .i64 c.bid, .int .i64 c.price, .int .i64 c.pts]]
def encD (d : De × Sl) : List Value := [.int .i64 d.1.bid, .slice d.2.p d.2.l d.2.c, .int .i64 d.1.off]
@[simp] theorem encC_length (c : Ch) : (encC c).length = 4 := rfl
@[simp] theorem encD_length (d : De × Sl) : (encD d).length = 3 := rfl
abbrev VI (w : World) (s : Sl) (l : List Int) : Prop := Vw 1 (ie .i64 id) w s l
abbrev VC (w : World) (s : Sl) (l : List Ch) : Prop := Vw 4 encC w s l
abbrev VD (w : World) (s : Sl) (l : List (De × Sl)) : Prop := Vw 3 encD w s l
section
variable {w w' w0 : World} {s : Sl}
theorem VI.ld {l : List Int} {i : Int} {K : Int -> Prop} (h : VI w s l) (i' : Nat) (hi : i = (i' : Int)) (h1 : i' < l.length) (hK : K l[i']) :
  nz s.p fun a => (0 <= i /\ i < (s.l : Nat)) /\ ∃ x : Int, w.cell? (a.add (i.toNat * 1)) = some (Value.int .i64 x) /\ K x :=
 Vw.ld 0 h i' hi h1 (by simpa [h1] using hK)
theorem VC.ld {l : List Ch} {i : Int} {K : Addr -> Prop} (h : VC w s l) (i' : Nat) (hi : i = (i' : Int)) (h1 : i' < l.length)
  (hK : ∀ a : Addr, (∀ w', Fr F0 w w' -> w'.cell? (a.add (i.toNat * 4)) = some (.int .i64 l[i'].lot) /\ w'.cell? ((a.add (i.toNat * 4)).add 1) = some (.int .i64 l[i'].bid) /\ w'.cell? ((a.add (i.toNat * 4)).add 2) = some (.int .i64 l[i'].price) /\ w'.cell? ((a.add (i.toNat * 4)).add 3) = some (.int .i64 l[i'].pts)) -> K a) :
  nz s.p fun a => (0 <= i /\ i < (s.l : Nat)) /\ K a := by
 subst hi
 have hl := h.len
 obtain ⟨ad, hp, _⟩ := h.at (fun a => encC_length a) (List.getElem?_eq_getElem h1) (by decide)
 rw [hp]
 refine ⟨⟨by omega, by omega⟩, hK _ fun w' hf => ?_⟩
 obtain ⟨ad', hp', hc⟩ := (h.fr hf).at (fun a => encC_length a) (List.getElem?_eq_getElem h1) (by decide)
 rw [hp] at hp'
 cases hp'
 exact ⟨hc 0 _ rfl, hc 1 _ rfl, hc 2 _ rfl, hc 3 _ rfl⟩
theorem VD.ld {l : List (De × Sl)} {i : Int} {K : Addr -> Prop} (h : VD w s l) (i' : Nat) (hi : i = (i' : Int)) (h1 : i' < l.length)
  (hK : ∀ a : Addr, (∀ w', Fr F0 w w' -> w'.cell? (a.add (i.toNat * 3)) = some (.int .i64 l[i'].1.bid) /\ w'.cell? ((a.add (i.toNat * 3)).add 1) = some (.slice l[i'].2.p l[i'].2.l l[i'].2.c) /\ w'.cell? ((a.add (i.toNat * 3)).add 2) = some (.int .i64 l[i'].1.off)) -> K a) :
  nz s.p fun a => (0 <= i /\ i < (s.l : Nat)) /\ K a := by
 subst hi
 have hl := h.len
 obtain ⟨ad, hp, _⟩ := h.at (fun a => encD_length a) (List.getElem?_eq_getElem h1) (by decide)
 rw [hp]
 refine ⟨⟨by omega, by omega⟩, hK _ fun w' hf => ?_⟩
 obtain ⟨ad', hp', hc⟩ := (h.fr hf).at (fun a => encD_length a) (List.getElem?_eq_getElem h1) (by decide)
 rw [hp] at hp'
 cases hp'
 exact ⟨hc 0 _ rfl, hc 1 _ rfl, hc 2 _ rfl⟩
theorem take_succ' {α : Type} {l : List α} {i : Nat} (h : i < l.length) : l.take (i + 1) = l.take i ++ [l[i]] := by
 rw [List.take_add_one, List.getElem?_eq_getElem h]; rfl
def findI {α : Type} (t : α -> Bool) (l : List α) : Int := match l.findIdx? t with
 | some i => i
 | none => -1
theorem findI_any {α : Type} (t : α -> Bool) (l : List α) : decide (findI t l >= 0) = l.any t := by
 unfold findI
 cases h : l.findIdx? t with
 | none =>
  rw [List.findIdx?_eq_none_iff] at h
  rw [Bool.eq_iff_iff]
  simp only [decide_eq_true_eq, List.any_eq_true]
  constructor
  ·intro h; omega
  ·rintro ⟨x, hx, ht⟩
   rw [h x hx] at ht
   cases ht
 | some i =>
  obtain ⟨h1, h2, _⟩ := List.findIdx?_eq_some_iff_getElem.1 h
  rw [Bool.eq_iff_iff]
  simp only [decide_eq_true_eq, List.any_eq_true]
  exact ⟨fun _ => ⟨_, List.getElem_mem h1, h2⟩, fun _ => by omega⟩
theorem findI_at {α : Type} {t : α -> Bool} {l : List α} {i : Nat} (h : i < l.length) (h1 : t l[i] = true) (h2 : ∀ a ∈ l.take i, t a = false) : findI t l = (i : Int) := by
 have : l.findIdx? t = some i := by
  rw [List.findIdx?_eq_some_iff_getElem]
  refine ⟨h, h1, fun j hj => ?_⟩
  have := h2 l[j] (List.mem_iff_getElem.2 ⟨j, by simp; omega, by simp⟩)
  simp [this]
 unfold findI
 rw [this]
theorem findI_none {α : Type} {t : α -> Bool} {l : List α} (h : ∀ a ∈ l, t a = false) : findI t l = -1 := by
 have : l.findIdx? t = none := List.findIdx?_eq_none_iff.2 h
 unfold findI
 rw [this]
theorem IndexFunc_spec {f : Value} {t : Int -> Bool} {l : List Int} {K : Int -> World -> Prop} (h : VI w s l) (hl : l.length < 2 ^ 62) (hf : FnB f w argI l t) (hK : ∀ w', Fr F0 w w' -> K (findI t l) w') : z33_sh s f K w := by
 have hlen := h.len
 refine ⟨⟨⟨fun i w' => ∃ i' : Nat, i = i' /\ i' <= l.length /\ (∀ a ∈ l.take i', t a = false) /\ Fr F0 w w', fun i _ => l.length - i.toNat, ⟨0, rfl, by omega, by simp, Fr.refl⟩, ?_⟩⟩⟩
 rintro i w1 ⟨i, rfl, hi, hn, hw⟩
 unfold z33_b0
 rw [cnd_prop]
 refine ⟨fun hlt => ?_, fun hge => ?_⟩
 ·have hlt : i < l.length := by omega
  refine VI.ld (h.fr hw) i rfl hlt ?_
  refine hf _ (List.getElem_mem hlt) w1 hw _ fun w2 hw2 => ⟨_, rfl, ?_⟩
  rw [cnd_iff]
  refine ⟨fun he => ?_, fun hne => ⟨inR64 (by omega) (by omega), ⟨⟨rfl, rfl, rfl, trivial⟩, i + 1, by omega, by omega, ?_, hw.t hw2⟩, by dsimp only; omega⟩⟩
  ·have := hK w2 (hw.t hw2)
   rwa [findI_at hlt he hn] at this
  ·rw [take_succ' hlt]
   intro a ha
   rcases List.mem_append.1 ha with ha | ha
   ·exact hn a ha
   ·rw [List.mem_singleton] at ha
    subst ha
    exact hne
 ·have : i = l.length := by omega
  subst this
  rw [List.take_length] at hn
  have := hK w1 hw
  rwa [findI_none hn] at this
theorem IndexFuncC_spec {f : Value} {t : Ch -> Bool} {l : List Ch} {K : Int -> World -> Prop} (h : VC w s l) (hl : l.length < 2 ^ 62) (hf : FnB f w argC l t) (hK : ∀ w', Fr F0 w w' -> K (findI t l) w') : z05_sh s f K w := by
 have hlen := h.len
 refine ⟨⟨⟨fun i w' => ∃ i' : Nat, i = i' /\ i' <= l.length /\ (∀ a ∈ l.take i', t a = false) /\ Fr F0 w w', fun i _ => l.length - i.toNat, ⟨0, rfl, by omega, by simp, Fr.refl⟩, ?_⟩⟩⟩
 rintro i w1 ⟨i, rfl, hi, hn, hw⟩
 unfold z05_b0
 rw [cnd_prop]
 refine ⟨fun hlt => ?_, fun hge => ?_⟩
 ·have hlt : i < l.length := by omega
  refine VC.ld (h.fr hw) i rfl hlt fun a hc => ?_
  obtain ⟨c0, c1, c2, c3⟩ := hc w1 Fr.refl
  refine ⟨_, c0, _, c1, _, c2, _, c3, ?_⟩
  refine hf _ (List.getElem_mem hlt) w1 hw _ fun w2 hw2 => ⟨_, rfl, ?_⟩
  rw [cnd_iff]
  refine ⟨fun he => ?_, fun hne => ⟨inR64 (by omega) (by omega), ⟨⟨rfl, rfl, rfl, trivial⟩, i + 1, by omega, by omega, ?_, hw.t hw2⟩, by dsimp only; omega⟩⟩
  ·have := hK w2 (hw.t hw2)
   rwa [findI_at hlt he hn] at this
  ·rw [take_succ' hlt]
   intro a ha
   rcases List.mem_append.1 ha with ha | ha
   ·exact hn a ha
   ·rw [List.mem_singleton] at ha
    subst ha
    exact hne
 ·have : i = l.length := by omega
  subst this
  rw [List.take_length] at hn
  have := hK w1 hw
  rwa [findI_none hn] at this
theorem ContainsFunc_spec {f : Value} {t : Int -> Bool} {l : List Int} {K : Bool -> World -> Prop} (h : VI w s l) (hl : l.length < 2 ^ 62) (hf : FnB f w argI l t) (hK : ∀ w', Fr F0 w w' -> K (l.any t) w') : z1r_sh s f K w :=
 ⟨IndexFunc_spec h hl hf fun w' hw => by rw [findI_any]; exact hK w' hw⟩
theorem ContainsFuncC_spec {f : Value} {t : Ch -> Bool} {l : List Ch} {K : Bool -> World -> Prop} (h : VC w s l) (hl : l.length < 2 ^ 62) (hf : FnB f w argC l t) (hK : ∀ w', Fr F0 w w' -> K (l.any t) w') : z00_sh s f K w :=
 ⟨IndexFuncC_spec h hl hf fun w' hw => by rw [findI_any]; exact hK w' hw⟩
theorem not_any_not {α : Type} (t : α -> Bool) : ∀ l : List α, (!l.any fun a => !t a) = l.all t
 | [] => rfl
 | a :: l => by simp [not_any_not]
end
end Go.Proofs.YtfpobpjandjhjaaGreatDoor
namespace Go.Proofs.YtfpobpjandjhjaaGreatDoor
open Go Pw
theorem mset_fr {w0 w : World} {r : Nat} {k : IntKind} {n : Int} {v : Value} (hf : Fr F0 w0 w) (hr : w0.heap.size <= r) : Fr F0 w0 (w.mset r k n v) := by
 obtain ⟨h1, h2, h3, h4, h5⟩ := hf
 refine ⟨by simpa [World.mset] using h1, fun b hb hn => ?_, h3, h4, h5⟩
 rw [← h2 b hb hn]
 unfold World.mset
 simp only [Array.getElem?_modify]
 rw [if_neg (by omega)]
theorem mget_put {α : Type} (d : α) (n x : Int) (v : α) : ∀ l : List (Int × α), mgetD d x (mput n v l) = if x = n then v else mgetD d x l
 | [] => by
  simp only [mput, mgetD]
  by_cases h : n = x
  ·rw [if_pos h, if_pos h.symm]
  ·rw [if_neg h, if_neg (Ne.symm h)]
 | p :: l => by
  simp only [mput]
  by_cases hp : p.1 = n
  ·rw [if_pos hp]
   simp only [mgetD, hp]
   by_cases h : n = x
   ·rw [if_pos h, if_pos h.symm]
   ·rw [if_neg h, if_neg (Ne.symm h), if_neg h]
  ·rw [if_neg hp]
   simp only [mgetD]
   by_cases h : p.1 = x
   ·rw [if_pos h, if_pos h, if_neg (by rw [← h]; exact hp)]
   ·rw [if_neg h, if_neg h]
    exact mget_put d n x v l
def wiB (n m : Int) : Bool := decide (0 <= n) && decide (n <= m)
theorem wiB_iff {n m : Int} : wiB n m = true ↔ Wi n m := by simp [wiB, Wi]
def chB (p : Pr) (c : Ch) : Bool := decide (c.lot ∈ p.lots) && (wiB c.price 1000000000 && wiB c.pts 1000000)
def deB (p : Pr) (d : De) : Bool := decide (0 < d.lots.length) && (decide d.lots.Nodup && (d.lots.all (fun x => decide (x ∈ p.lots)) && wiB d.off 1000000000))
def rightB (p : Pr) : Bool :=
 decide (0 < p.lots.length) && (decide (p.lots.length <= 12) && (decide p.lots.Nodup && (decide (p.ch.length <= 480) && (decide (p.de.length <= 100) && (wiB p.most 1000000000 && (wiB p.budget 1000000000 && (p.ch.all (chB p) && p.de.all (deB p))))))))
theorem rightB_iff {p : Pr} : rightB p = true ↔ RightPr p := by
 unfold rightB
 simp only [Bool.and_eq_true, decide_eq_true_eq, wiB_iff, List.all_eq_true, chB, deB]
 constructor
 ·rintro ⟨h1, h2, h3, h4, h5, h6, h7, h8, h9⟩
  exact ⟨h1, h2, h3, h4, h5, h6, h7, h8, fun d hd => ⟨fun h => by have := (h9 d hd).1; rw [h] at this; simp at this, (h9 d hd).2.1, (h9 d hd).2.2.1, (h9 d hd).2.2.2⟩⟩
 ·intro h
  exact ⟨h.some, h.few, h.diff, h.chs, h.des, h.most, h.budget, h.ch, fun d hd => ⟨List.length_pos_iff.2 (h.de d hd).1, (h.de d hd).2.1, (h.de d hd).2.2.1, (h.de d hd).2.2.2⟩⟩
structure PV (w : World) (s0 s1 s2 : Sl) (p : Pr) : Prop where
 lots : VI w s0 p.lots
 ch : VC w s1 p.ch
 de : ∃ dc : List (De × Sl), VD w s2 dc /\ dc.map (·.1) = p.de /\ ∀ x ∈ dc, VI w x.2 x.1.lots /\ x.1.lots.length < 2 ^ 40
 l0 : p.lots.length < 2 ^ 40
 l1 : p.ch.length < 2 ^ 40
 l2 : p.de.length < 2 ^ 40
theorem PV.fr {w w' : World} {s0 s1 s2 : Sl} {p : Pr} (h : PV w s0 s1 s2 p) (hf : Fr F0 w w') : PV w' s0 s1 s2 p := by
 obtain ⟨dc, h1, h2, h3⟩ := h.de
 exact ⟨h.lots.fr hf, h.ch.fr hf, ⟨dc, h1.fr hf, h2, fun x hx => ⟨(h3 x hx).1.fr hf, (h3 x hx).2⟩⟩, h.l0, h.l1, h.l2⟩
def prC (s0 s1 s2 : Sl) (m b : Int) : List Value := [.slice s0.p s0.l s0.c, .slice s1.p s1.l s1.c, .slice s2.p s2.l s2.c, .int .i64 m, .int .i64 b]
section
variable {w w' w0 : World} {s s0 s1 s2 : Sl} {p : Pr}
theorem cnd_and {a b : Bool} {K : Bool -> Prop} {X : Prop} (h : K (a && b)) (hX : a = true -> K b -> X) : cnd a X (K false) := by
 cases a
 ·simpa using h
 ·exact hX rfl (by simpa using h)
end
end Go.Proofs.YtfpobpjandjhjaaGreatDoor
namespace Go.Proofs.YtfpobpjandjhjaaGreatDoor
open Go Pw
structure PF (w : World) (s0 s1 s2 s5 : Sl) (p : Pr) (f : List Int) : Prop where
 pv : PV w s0 s1 s2 p
 tk : VI w s5 f
 lt : f.length < 2 ^ 63
theorem PF.fr {w w' : World} {s0 s1 s2 s5 : Sl} {p : Pr} {f : List Int} (h : PF w s0 s1 s2 s5 p f) (hf : Fr F0 w w') : PF w' s0 s1 s2 s5 p f := ⟨h.pv.fr hf, h.tk.fr hf, h.lt⟩
section
variable {w w' w0 : World} {s s0 s1 s2 s5 : Sl} {p : Pr} {f : List Int}
theorem chAt_some {n : Int} {c : Ch} (h : chAt p n = some c) : 0 <= n /\ ∃ h : n.toNat < p.ch.length, p.ch[n.toNat] = c := by
 unfold chAt at h
 split at h
 ·rename_i h0
  obtain ⟨h1, h2⟩ := List.getElem?_eq_some_iff.1 h
  exact ⟨h0, h1, h2⟩
 ·cases h
theorem chAt_get {n : Int} (h0 : 0 <= n) (h : n.toNat < p.ch.length) : chAt p n = some p.ch[n.toNat] := by
 unfold chAt
 rw [if_pos h0, List.getElem?_eq_getElem h]
theorem chAt_neg {n : Int} (h0 : ¬ 0 <= n) : chAt p n = none := by unfold chAt; rw [if_neg h0]
theorem decs_at {i : Nat} (hd : Decs p p.lots f) (hi : i < f.length) : ∃ h : i < p.lots.length, Dec p p.lots[i] f[i] := by
 have hl := decs_len hd
 refine ⟨by omega, (decs_get hl).1 hd i _ _ (List.getElem?_eq_getElem (by omega)) (List.getElem?_eq_getElem hi)⟩
theorem decs_take_succ {i : Nat} (hl : f.length <= p.lots.length) (hi : i < f.length) (h : ∀ j lot n, j < i -> p.lots[j]? = some lot -> f[j]? = some n -> Dec p lot n) (hn : Dec p (p.lots[i]'(by omega)) f[i]) :
  ∀ j lot n, j < i + 1 -> p.lots[j]? = some lot -> f[j]? = some n -> Dec p lot n := by
 intro j lot n hj h1 h2
 rcases Nat.lt_or_ge j i with hlt | hge
 ·exact h j lot n hlt h1 h2
 ·have : j = i := by omega
  subst this
  rw [List.getElem?_eq_getElem (by omega)] at h1
  rw [List.getElem?_eq_getElem hi] at h2
  injection h1 with h1
  injection h2 with h2
  rw [← h1, ← h2]
  exact hn
theorem took_succ {i : Nat} (hi : i < f.length) : took p (f.take (i + 1)) = took p (f.take i) ++ (match chAt p f[i] with | some c => [c] | none => []) := by
 rw [take_succ' hi, took_append]
 congr 1
 unfold took
 rw [List.filterMap_cons]
 cases chAt p f[i] <;> rfl
end
end Go.Proofs.YtfpobpjandjhjaaGreatDoor
namespace Go.Proofs.YtfpobpjandjhjaaGreatDoor
open Go Pw
theorem Mp.fr {w w' : World} {r : Nat} {k : IntKind} {l : List (Int × Value)} (h : Mp w r k l) (hf : Fr F0 w w') : Mp w' r k l := by
 obtain ⟨es, clock, h1, h2⟩ := h
 refine ⟨es, clock, ?_, h2⟩
 rw [hf.2.1 r (Array.getElem?_eq_some_iff.1 h1).1 fun h => h]
 exact h1
theorem mset_frB {w : World} {r : Nat} {k : IntKind} {n : Int} {v : Value} : Fr (fun b => b = r) w (w.mset r k n v) := by
 refine ⟨by simp [World.mset], fun b _ hn => ?_, rfl, rfl, rfl⟩
 unfold World.mset
 simp only [Array.getElem?_modify]
 rw [if_neg (fun h => hn h.symm)]
section
variable {w w' w0 : World} {s s0 s1 s2 s5 : Sl} {p : Pr} {f : List Int}
def cntL (l : List Ch) (b : Int) : Int := (l.countP (fun c => c.bid == b) : Int)
end
end Go.Proofs.YtfpobpjandjhjaaGreatDoor
namespace Pw
def cmpLst : List Int -> List Int -> Int
 | [], [] => 0
 | [], _ :: _ => -1
 | _ :: _, [] => 1
 | x :: a, y :: b => if x < y then -1 else if y < x then 1 else cmpLst a b
theorem cmpLst_gt : ∀ a b : List Int, a.length = b.length -> (0 < cmpLst a b ↔ gtL a b = true)
 | [], [], _ => by simp [cmpLst, gtL]
 | [], _ :: _, h => by simp at h
 | _ :: _, [], h => by simp at h
 | x :: a, y :: b, h => by
  have ih := cmpLst_gt a b (by simpa using h)
  rw [cmpLst, gtL]
  by_cases h1 : x < y
  ·rw [if_pos h1, if_neg (by omega), decide_eq_true_iff]
   omega
  ·rw [if_neg h1]
   by_cases h2 : y < x
   ·rw [if_pos h2, if_neg (by omega), decide_eq_true_iff]
    omega
   ·rw [if_neg h2, if_pos (by omega)]
    exact ih
def btB (p : Pr) (a b : List Int) : Bool := decide (worth p b < worth p a) || (decide (worth p a = worth p b) && gtL b a)
theorem btB_iff {p : Pr} {a b : List Int} : btB p a b = true ↔ Bt p a b := by simp [btB, Bt]
end Pw
namespace Go.Proofs.YtfpobpjandjhjaaGreatDoor
open Go Pw
section
variable {w w' w0 : World} {s s0 s1 s2 s5 t0 t1 t2 t5 : Sl} {p : Pr} {f g : List Int}
theorem CompareL_spec {a b : List Int} {K : Int -> World -> Prop} (ha : VI w s a) (hb : VI w t0 b) (hla : a.length < 2 ^ 63) (_ : b.length < 2 ^ 63) (hK : K (cmpLst a b) w) : z3k_sh s t0 K w := by
 have ea := ha.len; have eb := hb.len
 refine ⟨⟨⟨fun i w' => ∃ i' : Nat, i = i' /\ i' <= a.length /\ i' <= b.length /\ cmpLst a b = cmpLst (a.drop i') (b.drop i') /\ w' = w, fun i _ => a.length - i.toNat, ⟨0, rfl, by omega, by omega, rfl, rfl⟩, ?_⟩⟩⟩
 rintro i _ ⟨i, rfl, hi, hi2, he, rfl⟩
 unfold z3k_b0
 rw [he] at hK
 rw [cnd_prop]
 refine ⟨fun hlt => ?_, fun hge => ?_⟩
 ·have hlt : i < a.length := by omega
  rw [List.drop_eq_getElem_cons hlt] at hK he
  refine VI.ld ha i rfl hlt ?_
  rw [cnd_prop]
  refine ⟨fun hc => ?_, fun hc => ?_⟩
  ·have e : b.drop i = [] := List.drop_of_length_le (by omega)
   rw [e] at hK
   exact hK
  ·have hlt2 : i < b.length := by omega
   rw [List.drop_eq_getElem_cons hlt2] at hK he
   refine VI.ld hb i rfl hlt2 ?_
   refine Compare_i ?_
   rw [cmpLst] at hK he
   unfold cmpI
   rw [cnd_bne]
   by_cases h1 : a[i] < b[i]
   ·rw [if_pos h1] at hK ⊢
    exact ⟨fun _ => hK, fun h => by omega⟩
   ·rw [if_neg h1] at hK he ⊢
    by_cases h2 : b[i] < a[i]
    ·rw [if_pos h2] at hK ⊢
     exact ⟨fun _ => hK, fun h => by omega⟩
    ·rw [if_neg h2] at hK he ⊢
     exact ⟨fun h => absurd rfl h, fun _ => ⟨inR64 (by omega) (by omega), ⟨⟨rfl, rfl, rfl, rfl, trivial⟩, i + 1, by omega, by omega, by omega, he, rfl⟩, by dsimp only; omega⟩⟩
 ·have : i = a.length := by omega
  subst this
  rw [List.drop_of_length_le (Nat.le_refl _)] at hK
  rw [cnd_prop]
  refine ⟨fun hc => ?_, fun hc => ?_⟩
  ·rw [List.drop_eq_getElem_cons (by omega : a.length < b.length)] at hK
   exact hK
  ·have e : b.drop a.length = [] := List.drop_of_length_le (by omega)
   rw [e] at hK
   exact hK
end
end Go.Proofs.YtfpobpjandjhjaaGreatDoor
