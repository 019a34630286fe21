/- Searching in slices, with functions that answer true or false; a problem's parts in memory. Conditions: none. -/
import Derived.Test.YtfpobpjandjhjaaDoorCG2
import Derived.Test.YtfpobpjandjhjaaDoorRSZ
import Derived.Test.YtfpobpjandjhjaaDoorPWX
import Derived.Test.YtfpobpjandjhjaaDoorCBX
namespace Pw
open Go
theorem Fr.t {w0 w w' : World} (h : Fr F0 w0 w) (h' : Fr F0 w w') : Fr F0 w0 w' := Fr0.t h h'
end Pw
namespace Go.Proofs.YtfpobpjandjhjaaDoor
open Go Pw
abbrev idOf {f : Nat} {S : Pw.Spec} (_ : Sound Tryd.prog f S) : Nat := f
abbrev fnv (f : Nat) (l : List Nat) : Value := .func (.func f) #[] (l.map fun b => Value.pointer (some ⟨b, 0, none⟩)).toArray
def FnB {α : Type} (f : Value) (w0 : World) (arg : α -> List Value) (l : List α) (t : α -> Bool) : Prop :=
 ∀ a ∈ l, ∀ w, Fr F0 w0 w -> ∀ K : VW, (∀ w', Fr F0 w w' -> K (.bool (t a)) w') -> CallV Tryd.prog f (arg a) w K
def argI : Int -> List Value := fun n => [.int .i64 n]
def encC (c : Ch) : List Value := [.int .i64 c.lot, .int .i64 c.bid, .int .i64 c.price, .int .i64 c.pts]
def argC (c : Ch) : List Value := [.agg #[.int .i64 c.lot, .int .i64 c.bid, .int .i64 c.price, .int .i64 c.pts]]
def encD (d : De × Sl) : List Value := [.int .i64 d.1.bid, .slice d.2.p d.2.l d.2.c, .int .i64 d.1.off]
@[simp] theorem encC_length (c : Ch) : (encC c).length = 4 := rfl
@[simp] theorem encD_length (d : De × Sl) : (encD d).length = 3 := rfl
abbrev VI (w : World) (s : Sl) (l : List Int) : Prop := Vw 1 (ie .i64 id) w s l
abbrev VC (w : World) (s : Sl) (l : List Ch) : Prop := Vw 4 encC w s l
abbrev VD (w : World) (s : Sl) (l : List (De × Sl)) : Prop := Vw 3 encD w s l
section
variable {w w' w0 : World} {s : Sl}
theorem VI.ld {l : List Int} {i : Int} {K : Int -> Prop} (h : VI w s l) (i' : Nat) (hi : i = (i' : Int)) (h1 : i' < l.length) (hK : K l[i']) :
  nz s.p fun a => (0 <= i /\ i < (s.l : Nat)) /\ ∃ x : Int, w.cell? (a.add (i.toNat * 1)) = some (Value.int .i64 x) /\ K x :=
 Vw.ld 0 h i' hi h1 (by simpa [h1] using hK)
theorem VC.ld {l : List Ch} {i : Int} {K : Addr -> Prop} (h : VC w s l) (i' : Nat) (hi : i = (i' : Int)) (h1 : i' < l.length)
  (hK : ∀ a : Addr, (∀ w', Fr F0 w w' -> w'.cell? (a.add (i.toNat * 4)) = some (.int .i64 l[i'].lot) /\ w'.cell? ((a.add (i.toNat * 4)).add 1) = some (.int .i64 l[i'].bid) /\ w'.cell? ((a.add (i.toNat * 4)).add 2) = some (.int .i64 l[i'].price) /\ w'.cell? ((a.add (i.toNat * 4)).add 3) = some (.int .i64 l[i'].pts)) -> K a) :
  nz s.p fun a => (0 <= i /\ i < (s.l : Nat)) /\ K a := by
 subst hi
 have hl := h.len
 obtain ⟨ad, hp, _⟩ := h.at (fun a => encC_length a) (List.getElem?_eq_getElem h1) (by decide)
 rw [hp]
 refine ⟨⟨by omega, by omega⟩, hK _ fun w' hf => ?_⟩
 obtain ⟨ad', hp', hc⟩ := (h.fr hf).at (fun a => encC_length a) (List.getElem?_eq_getElem h1) (by decide)
 rw [hp] at hp'
 cases hp'
 exact ⟨hc 0 _ rfl, hc 1 _ rfl, hc 2 _ rfl, hc 3 _ rfl⟩
theorem VD.ld {l : List (De × Sl)} {i : Int} {K : Addr -> Prop} (h : VD w s l) (i' : Nat) (hi : i = (i' : Int)) (h1 : i' < l.length)
  (hK : ∀ a : Addr, (∀ w', Fr F0 w w' -> w'.cell? (a.add (i.toNat * 3)) = some (.int .i64 l[i'].1.bid) /\ w'.cell? ((a.add (i.toNat * 3)).add 1) = some (.slice l[i'].2.p l[i'].2.l l[i'].2.c) /\ w'.cell? ((a.add (i.toNat * 3)).add 2) = some (.int .i64 l[i'].1.off)) -> K a) :
  nz s.p fun a => (0 <= i /\ i < (s.l : Nat)) /\ K a := by
 subst hi
 have hl := h.len
 obtain ⟨ad, hp, _⟩ := h.at (fun a => encD_length a) (List.getElem?_eq_getElem h1) (by decide)
 rw [hp]
 refine ⟨⟨by omega, by omega⟩, hK _ fun w' hf => ?_⟩
 obtain ⟨ad', hp', hc⟩ := (h.fr hf).at (fun a => encD_length a) (List.getElem?_eq_getElem h1) (by decide)
 rw [hp] at hp'
 cases hp'
 exact ⟨hc 0 _ rfl, hc 1 _ rfl, hc 2 _ rfl⟩
theorem take_succ' {α : Type} {l : List α} {i : Nat} (h : i < l.length) : l.take (i + 1) = l.take i ++ [l[i]] := by
 rw [List.take_add_one, List.getElem?_eq_getElem h]; rfl
def findI {α : Type} (t : α -> Bool) (l : List α) : Int := match l.findIdx? t with
 | some i => i
 | none => -1
theorem findI_any {α : Type} (t : α -> Bool) (l : List α) : decide (findI t l >= 0) = l.any t := by
 unfold findI
 cases h : l.findIdx? t with
 | none =>
  rw [List.findIdx?_eq_none_iff] at h
  rw [Bool.eq_iff_iff]
  simp only [decide_eq_true_eq, List.any_eq_true]
  constructor
  ·intro h; omega
  ·rintro ⟨x, hx, ht⟩
   rw [h x hx] at ht
   cases ht
 | some i =>
  obtain ⟨h1, h2, _⟩ := List.findIdx?_eq_some_iff_getElem.1 h
  rw [Bool.eq_iff_iff]
  simp only [decide_eq_true_eq, List.any_eq_true]
  exact ⟨fun _ => ⟨_, List.getElem_mem h1, h2⟩, fun _ => by omega⟩
theorem findI_at {α : Type} {t : α -> Bool} {l : List α} {i : Nat} (h : i < l.length) (h1 : t l[i] = true) (h2 : ∀ a ∈ l.take i, t a = false) : findI t l = (i : Int) := by
 have : l.findIdx? t = some i := by
  rw [List.findIdx?_eq_some_iff_getElem]
  refine ⟨h, h1, fun j hj => ?_⟩
  have := h2 l[j] (List.mem_iff_getElem.2 ⟨j, by simp; omega, by simp⟩)
  simp [this]
 unfold findI
 rw [this]
theorem findI_none {α : Type} {t : α -> Bool} {l : List α} (h : ∀ a ∈ l, t a = false) : findI t l = -1 := by
 have : l.findIdx? t = none := List.findIdx?_eq_none_iff.2 h
 unfold findI
 rw [this]
theorem IndexFunc_spec {f : Value} {t : Int -> Bool} {l : List Int} {K : Int -> World -> Prop} (h : VI w s l) (hl : l.length < 2 ^ 62) (hf : FnB f w argI l t) (hK : ∀ w', Fr F0 w w' -> K (findI t l) w') : z0v_sh s f K w := by
 have hlen := h.len
 refine ⟨⟨⟨fun i w' => ∃ i' : Nat, i = i' /\ i' <= l.length /\ (∀ a ∈ l.take i', t a = false) /\ Fr F0 w w', fun i _ => l.length - i.toNat, ⟨0, rfl, by omega, by simp, Fr.refl⟩, ?_⟩⟩⟩
 rintro i w1 ⟨i, rfl, hi, hn, hw⟩
 unfold z0v_b0
 rw [cnd_prop]
 refine ⟨fun hlt => ?_, fun hge => ?_⟩
 ·have hlt : i < l.length := by omega
  refine VI.ld (h.fr hw) i rfl hlt ?_
  refine hf _ (List.getElem_mem hlt) w1 hw _ fun w2 hw2 => ⟨_, rfl, ?_⟩
  rw [cnd_iff]
  refine ⟨fun he => ?_, fun hne => ⟨inR64 (by omega) (by omega), ⟨⟨rfl, rfl, rfl, trivial⟩, i + 1, by omega, by omega, ?_, hw.t hw2⟩, by dsimp only; omega⟩⟩
  ·have := hK w2 (hw.t hw2)
   rwa [findI_at hlt he hn] at this
  ·rw [take_succ' hlt]
   intro a ha
   rcases List.mem_append.1 ha with ha | ha
   ·exact hn a ha
   ·rw [List.mem_singleton] at ha
    subst ha
    exact hne
 ·have : i = l.length := by omega
  subst this
  rw [List.take_length] at hn
  have := hK w1 hw
  rwa [findI_none hn] at this
theorem IndexFuncC_spec {f : Value} {t : Ch -> Bool} {l : List Ch} {K : Int -> World -> Prop} (h : VC w s l) (hl : l.length < 2 ^ 62) (hf : FnB f w argC l t) (hK : ∀ w', Fr F0 w w' -> K (findI t l) w') : z02_sh s f K w := by
 have hlen := h.len
 refine ⟨⟨⟨fun i w' => ∃ i' : Nat, i = i' /\ i' <= l.length /\ (∀ a ∈ l.take i', t a = false) /\ Fr F0 w w', fun i _ => l.length - i.toNat, ⟨0, rfl, by omega, by simp, Fr.refl⟩, ?_⟩⟩⟩
 rintro i w1 ⟨i, rfl, hi, hn, hw⟩
 unfold z02_b0
 rw [cnd_prop]
 refine ⟨fun hlt => ?_, fun hge => ?_⟩
 ·have hlt : i < l.length := by omega
  refine VC.ld (h.fr hw) i rfl hlt fun a hc => ?_
  obtain ⟨c0, c1, c2, c3⟩ := hc w1 Fr.refl
  refine ⟨_, c0, _, c1, _, c2, _, c3, ?_⟩
  refine hf _ (List.getElem_mem hlt) w1 hw _ fun w2 hw2 => ⟨_, rfl, ?_⟩
  rw [cnd_iff]
  refine ⟨fun he => ?_, fun hne => ⟨inR64 (by omega) (by omega), ⟨⟨rfl, rfl, rfl, trivial⟩, i + 1, by omega, by omega, ?_, hw.t hw2⟩, by dsimp only; omega⟩⟩
  ·have := hK w2 (hw.t hw2)
   rwa [findI_at hlt he hn] at this
  ·rw [take_succ' hlt]
   intro a ha
   rcases List.mem_append.1 ha with ha | ha
   ·exact hn a ha
   ·rw [List.mem_singleton] at ha
    subst ha
    exact hne
 ·have : i = l.length := by omega
  subst this
  rw [List.take_length] at hn
  have := hK w1 hw
  rwa [findI_none hn] at this
theorem ContainsFunc_spec {f : Value} {t : Int -> Bool} {l : List Int} {K : Bool -> World -> Prop} (h : VI w s l) (hl : l.length < 2 ^ 62) (hf : FnB f w argI l t) (hK : ∀ w', Fr F0 w w' -> K (l.any t) w') : z0i_sh s f K w :=
 ⟨IndexFunc_spec h hl hf fun w' hw => by rw [findI_any]; exact hK w' hw⟩
theorem ContainsFuncC_spec {f : Value} {t : Ch -> Bool} {l : List Ch} {K : Bool -> World -> Prop} (h : VC w s l) (hl : l.length < 2 ^ 62) (hf : FnB f w argC l t) (hK : ∀ w', Fr F0 w w' -> K (l.any t) w') : z00_sh s f K w :=
 ⟨IndexFuncC_spec h hl hf fun w' hw => by rw [findI_any]; exact hK w' hw⟩
theorem not_any_not {α : Type} (t : α -> Bool) : ∀ l : List α, (!l.any fun a => !t a) = l.all t
 | [] => rfl
 | a :: l => by simp [not_any_not]
end
end Go.Proofs.YtfpobpjandjhjaaDoor
namespace Go.Proofs.YtfpobpjandjhjaaDoor
open Go Pw
theorem mset_fr {w0 w : World} {r : Nat} {k : IntKind} {n : Int} {v : Value} (hf : Fr F0 w0 w) (hr : w0.heap.size <= r) : Fr F0 w0 (w.mset r k n v) := by
 obtain ⟨h1, h2, h3, h4, h5⟩ := hf
 refine ⟨by simpa [World.mset] using h1, fun b hb hn => ?_, h3, h4, h5⟩
 rw [← h2 b hb hn]
 unfold World.mset
 simp only [Array.getElem?_modify]
 rw [if_neg (by omega)]
theorem mget_put {α : Type} (d : α) (n x : Int) (v : α) : ∀ l : List (Int × α), mgetD d x (mput n v l) = if x = n then v else mgetD d x l
 | [] => by
  simp only [mput, mgetD]
  by_cases h : n = x
  ·rw [if_pos h, if_pos h.symm]
  ·rw [if_neg h, if_neg (Ne.symm h)]
 | p :: l => by
  simp only [mput]
  by_cases hp : p.1 = n
  ·rw [if_pos hp]
   simp only [mgetD, hp]
   by_cases h : n = x
   ·rw [if_pos h, if_pos h.symm]
   ·rw [if_neg h, if_neg (Ne.symm h), if_neg h]
  ·rw [if_neg hp]
   simp only [mgetD]
   by_cases h : p.1 = x
   ·rw [if_pos h, if_pos h, if_neg (by rw [← h]; exact hp)]
   ·rw [if_neg h, if_neg h]
    exact mget_put d n x v l
def wiB (n m : Int) : Bool := decide (0 <= n) && decide (n <= m)
theorem wiB_iff {n m : Int} : wiB n m = true ↔ Wi n m := by simp [wiB, Wi]
def chB (p : Pr) (c : Ch) : Bool := decide (c.lot ∈ p.lots) && (wiB c.price 1000000000 && wiB c.pts 1000000)
def deB (p : Pr) (d : De) : Bool := decide (0 < d.lots.length) && (decide d.lots.Nodup && (d.lots.all (fun x => decide (x ∈ p.lots)) && wiB d.off 1000000000))
def rightB (p : Pr) : Bool :=
 decide (0 < p.lots.length) && (decide (p.lots.length <= 12) && (decide p.lots.Nodup && (decide (p.ch.length <= 480) && (decide (p.de.length <= 100) && (wiB p.most 1000000000 && (wiB p.budget 1000000000 && (p.ch.all (chB p) && p.de.all (deB p))))))))
theorem rightB_iff {p : Pr} : rightB p = true ↔ RightPr p := by
 unfold rightB
 simp only [Bool.and_eq_true, decide_eq_true_eq, wiB_iff, List.all_eq_true, chB, deB]
 constructor
 ·rintro ⟨h1, h2, h3, h4, h5, h6, h7, h8, h9⟩
  exact ⟨h1, h2, h3, h4, h5, h6, h7, h8, fun d hd => ⟨fun h => by have := (h9 d hd).1; rw [h] at this; simp at this, (h9 d hd).2.1, (h9 d hd).2.2.1, (h9 d hd).2.2.2⟩⟩
 ·intro h
  exact ⟨h.some, h.few, h.diff, h.chs, h.des, h.most, h.budget, h.ch, fun d hd => ⟨List.length_pos_iff.2 (h.de d hd).1, (h.de d hd).2.1, (h.de d hd).2.2.1, (h.de d hd).2.2.2⟩⟩
structure PV (w : World) (s0 s1 s2 : Sl) (p : Pr) : Prop where
 lots : VI w s0 p.lots
 ch : VC w s1 p.ch
 de : ∃ dc : List (De × Sl), VD w s2 dc /\ dc.map (·.1) = p.de /\ ∀ x ∈ dc, VI w x.2 x.1.lots /\ x.1.lots.length < 2 ^ 40
 l0 : p.lots.length < 2 ^ 40
 l1 : p.ch.length < 2 ^ 40
 l2 : p.de.length < 2 ^ 40
theorem PV.fr {w w' : World} {s0 s1 s2 : Sl} {p : Pr} (h : PV w s0 s1 s2 p) (hf : Fr F0 w w') : PV w' s0 s1 s2 p := by
 obtain ⟨dc, h1, h2, h3⟩ := h.de
 exact ⟨h.lots.fr hf, h.ch.fr hf, ⟨dc, h1.fr hf, h2, fun x hx => ⟨(h3 x hx).1.fr hf, (h3 x hx).2⟩⟩, h.l0, h.l1, h.l2⟩
def prC (s0 s1 s2 : Sl) (m b : Int) : List Value := [.slice s0.p s0.l s0.c, .slice s1.p s1.l s1.c, .slice s2.p s2.l s2.c, .int .i64 m, .int .i64 b]
section
variable {w w' w0 : World} {s s0 s1 s2 : Sl} {p : Pr}
theorem cnd_and {a b : Bool} {K : Bool -> Prop} {X : Prop} (h : K (a && b)) (hX : a = true -> K b -> X) : cnd a X (K false) := by
 cases a
 ·simpa using h
 ·exact hX rfl (by simpa using h)
end
end Go.Proofs.YtfpobpjandjhjaaDoor
namespace Go.Proofs.YtfpobpjandjhjaaDoor
open Go Pw
structure PF (w : World) (s0 s1 s2 s5 : Sl) (p : Pr) (f : List Int) : Prop where
 pv : PV w s0 s1 s2 p
 tk : VI w s5 f
 lt : f.length < 2 ^ 63
theorem PF.fr {w w' : World} {s0 s1 s2 s5 : Sl} {p : Pr} {f : List Int} (h : PF w s0 s1 s2 s5 p f) (hf : Fr F0 w w') : PF w' s0 s1 s2 s5 p f := ⟨h.pv.fr hf, h.tk.fr hf, h.lt⟩
section
variable {w w' w0 : World} {s s0 s1 s2 s5 : Sl} {p : Pr} {f : List Int}
theorem chAt_some {n : Int} {c : Ch} (h : chAt p n = some c) : 0 <= n /\ ∃ h : n.toNat < p.ch.length, p.ch[n.toNat] = c := by
 unfold chAt at h
 split at h
 ·rename_i h0
  obtain ⟨h1, h2⟩ := List.getElem?_eq_some_iff.1 h
  exact ⟨h0, h1, h2⟩
 ·cases h
theorem chAt_get {n : Int} (h0 : 0 <= n) (h : n.toNat < p.ch.length) : chAt p n = some p.ch[n.toNat] := by
 unfold chAt
 rw [if_pos h0, List.getElem?_eq_getElem h]
theorem chAt_neg {n : Int} (h0 : ¬ 0 <= n) : chAt p n = none := by unfold chAt; rw [if_neg h0]
theorem decs_at {i : Nat} (hd : Decs p p.lots f) (hi : i < f.length) : ∃ h : i < p.lots.length, Dec p p.lots[i] f[i] := by
 have hl := decs_len hd
 refine ⟨by omega, (decs_get hl).1 hd i _ _ (List.getElem?_eq_getElem (by omega)) (List.getElem?_eq_getElem hi)⟩
theorem decs_take_succ {i : Nat} (hl : f.length <= p.lots.length) (hi : i < f.length) (h : ∀ j lot n, j < i -> p.lots[j]? = some lot -> f[j]? = some n -> Dec p lot n) (hn : Dec p (p.lots[i]'(by omega)) f[i]) :
  ∀ j lot n, j < i + 1 -> p.lots[j]? = some lot -> f[j]? = some n -> Dec p lot n := by
 intro j lot n hj h1 h2
 rcases Nat.lt_or_ge j i with hlt | hge
 ·exact h j lot n hlt h1 h2
 ·have : j = i := by omega
  subst this
  rw [List.getElem?_eq_getElem (by omega)] at h1
  rw [List.getElem?_eq_getElem hi] at h2
  injection h1 with h1
  injection h2 with h2
  rw [← h1, ← h2]
  exact hn
theorem encC_ok (c : Ch) : ∀ v ∈ encC c, okC v = true := by intro v hv; simp [encC] at hv; rcases hv with rfl | rfl | rfl | rfl <;> rfl
theorem took_succ {i : Nat} (hi : i < f.length) : took p (f.take (i + 1)) = took p (f.take i) ++ (match chAt p f[i] with | some c => [c] | none => []) := by
 rw [take_succ' hi, took_append]
 congr 1
 unfold took
 rw [List.filterMap_cons]
 cases chAt p f[i] <;> rfl
end
end Go.Proofs.YtfpobpjandjhjaaDoor
namespace Go.Proofs.YtfpobpjandjhjaaDoor
open Go Pw
theorem Mp.fr {w w' : World} {r : Nat} {k : IntKind} {l : List (Int × Value)} (h : Mp w r k l) (hf : Fr F0 w w') : Mp w' r k l := by
 obtain ⟨es, clock, h1, h2⟩ := h
 refine ⟨es, clock, ?_, h2⟩
 rw [hf.2.1 r (Array.getElem?_eq_some_iff.1 h1).1 fun h => h]
 exact h1
theorem mset_frB {w : World} {r : Nat} {k : IntKind} {n : Int} {v : Value} : Fr (fun b => b = r) w (w.mset r k n v) := by
 refine ⟨by simp [World.mset], fun b _ hn => ?_, rfl, rfl, rfl⟩
 unfold World.mset
 simp only [Array.getElem?_modify]
 rw [if_neg (fun h => hn h.symm)]
section
variable {w w' w0 : World} {s s0 s1 s2 s5 : Sl} {p : Pr} {f : List Int}
def cntL (l : List Ch) (b : Int) : Int := (l.countP (fun c => c.bid == b) : Int)
end
end Go.Proofs.YtfpobpjandjhjaaDoor
namespace Pw
def cmpLst : List Int -> List Int -> Int
 | [], [] => 0
 | [], _ :: _ => -1
 | _ :: _, [] => 1
 | x :: a, y :: b => if x < y then -1 else if y < x then 1 else cmpLst a b
theorem cmpLst_gt : ∀ a b : List Int, a.length = b.length -> (0 < cmpLst a b ↔ gtL a b = true)
 | [], [], _ => by simp [cmpLst, gtL]
 | [], _ :: _, h => by simp at h
 | _ :: _, [], h => by simp at h
 | x :: a, y :: b, h => by
  have ih := cmpLst_gt a b (by simpa using h)
  rw [cmpLst, gtL]
  by_cases h1 : x < y
  ·rw [if_pos h1, if_neg (by omega), decide_eq_true_iff]
   omega
  ·rw [if_neg h1]
   by_cases h2 : y < x
   ·rw [if_pos h2, if_neg (by omega), decide_eq_true_iff]
    omega
   ·rw [if_neg h2, if_pos (by omega)]
    exact ih
def btB (p : Pr) (a b : List Int) : Bool := decide (worth p b < worth p a) || (decide (worth p a = worth p b) && gtL b a)
theorem btB_iff {p : Pr} {a b : List Int} : btB p a b = true ↔ Bt p a b := by simp [btB, Bt]
end Pw
namespace Go.Proofs.YtfpobpjandjhjaaDoor
open Go Pw
section
variable {w w' w0 : World} {s s0 s1 s2 s5 t0 t1 t2 t5 : Sl} {p : Pr} {f g : List Int}
theorem CompareL_spec {a b : List Int} {K : Int -> World -> Prop} (ha : VI w s a) (hb : VI w t0 b) (hla : a.length < 2 ^ 63) (_ : b.length < 2 ^ 63) (hK : K (cmpLst a b) w) : z11_sh s t0 K w := by
 have ea := ha.len; have eb := hb.len
 refine ⟨⟨⟨fun i w' => ∃ i' : Nat, i = i' /\ i' <= a.length /\ i' <= b.length /\ cmpLst a b = cmpLst (a.drop i') (b.drop i') /\ w' = w, fun i _ => a.length - i.toNat, ⟨0, rfl, by omega, by omega, rfl, rfl⟩, ?_⟩⟩⟩
 rintro i _ ⟨i, rfl, hi, hi2, he, rfl⟩
 unfold z11_b0
 rw [he] at hK
 rw [cnd_prop]
 refine ⟨fun hlt => ?_, fun hge => ?_⟩
 ·have hlt : i < a.length := by omega
  rw [List.drop_eq_getElem_cons hlt] at hK he
  refine VI.ld ha i rfl hlt ?_
  rw [cnd_prop]
  refine ⟨fun hc => ?_, fun hc => ?_⟩
  ·have e : b.drop i = [] := List.drop_of_length_le (by omega)
   rw [e] at hK
   exact hK
  ·have hlt2 : i < b.length := by omega
   rw [List.drop_eq_getElem_cons hlt2] at hK he
   refine VI.ld hb i rfl hlt2 ?_
   refine Compare_i ?_
   rw [cmpLst] at hK he
   unfold cmpI
   rw [cnd_bne]
   by_cases h1 : a[i] < b[i]
   ·rw [if_pos h1] at hK ⊢
    exact ⟨fun _ => hK, fun h => by omega⟩
   ·rw [if_neg h1] at hK he ⊢
    by_cases h2 : b[i] < a[i]
    ·rw [if_pos h2] at hK ⊢
     exact ⟨fun _ => hK, fun h => by omega⟩
    ·rw [if_neg h2] at hK he ⊢
     exact ⟨fun h => absurd rfl h, fun _ => ⟨inR64 (by omega) (by omega), ⟨⟨rfl, rfl, rfl, rfl, trivial⟩, i + 1, by omega, by omega, by omega, he, rfl⟩, by dsimp only; omega⟩⟩
 ·have : i = a.length := by omega
  subst this
  rw [List.drop_of_length_le (Nat.le_refl _)] at hK
  rw [cnd_prop]
  refine ⟨fun hc => ?_, fun hc => ?_⟩
  ·rw [List.drop_eq_getElem_cons (by omega : a.length < b.length)] at hK
   exact hK
  ·have e : b.drop a.length = [] := List.drop_of_length_le (by omega)
   rw [e] at hK
   exact hK
end
end Go.Proofs.YtfpobpjandjhjaaDoor
