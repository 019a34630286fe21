/- The reference's bound of a prefix. Conditions: none. -/
import Derived.Test.YtfpobpjandjhjaaGreatDoorCG5
import Derived.Test.YtfpobpjandjhjaaGreatDoorCXZ
import Derived.Test.YtfpobpjandjhjaaGreatDoorRXV
import Derived.Test.YtfpobpjandjhjaaGreatDoorCXY
import Derived.Lib.ItoaMem
import Derived.Lib.AtoiAllCases
import Derived.Lib.IndexBytes
import Derived.Lib.IndexMore
import Derived.Test.YtfpobpjandjhjaaGreatDoorPwS
namespace Go.Proofs.YtfpobpjandjhjaaGreatDoor
open Go Pw
theorem mulQ_one {n d : Int} (h : rightP n d) (hn : I64 n) (hd : I64 d) : mulQ 1 1 n d = ⟨n, d, true⟩ := by
 unfold mulQ
 rw [if_pos ⟨rightP_int 1, h⟩, val_int, show ((1 : Int) : Rat) * val n d = val n d by grind]
 unfold fitQ
 have e1 := val_num h
 have e2 := val_den h
 unfold I64 at hn hd
 rw [if_pos (by omega), e1, e2]
def upR (p : Pr) (f : List Int) (a b : Int) : Int × Bool := match (if rightB p && decsB p p.lots f then upB p f a b else none) with
 | some n => (n, true)
 | none => (0, false)
end Go.Proofs.YtfpobpjandjhjaaGreatDoor
namespace Pw
open Go
theorem Sp.one {α : Type} {n : Nat} {enc : α -> List Value} {w0 w : World} {L : List (Nat × List Value)} {a : α} {e : TypeId} (hn : ∀ a, (enc a).length = n) (h : Mem w0 w L) : Sp w0 (w.alloc (Obj.cells (enc a).toArray e)) L (fun _ => False) (fun _ => True) n enc ⟨some ⟨w.heap.size, 0, none⟩, 1, 1⟩ [a] := by
 refine ⟨h.fr Fr.alloc, Rests.top, trivial, fun _ hb => hb.elim, Row.ow hn (l := [a]) (by simpa using Row.new), fun b ⟨x, ha, hb⟩ => ?_⟩
 cases ha
 subst hb
 exact ⟨h.1.1, fun h => h, fun p hp e => by have := (h.2.1 p hp).lt; simp only at e; omega⟩
end Pw
namespace Go.Proofs.YtfpobpjandjhjaaGreatDoor
open Go Pw
section
variable {w wB : World} {s t s0 s1 s2 s5 t5 : Sl} {a b l f g : List Int} {p : Pr} {pb : Nat}
theorem dec_lt {i : Nat} (hd : Decs p p.lots f) (hi : i < f.length) (h0 : 0 <= f[i]) : f[i].toNat < p.ch.length := by
 obtain ⟨_, q⟩ := decs_at hd hi
 rcases q with q | ⟨c, q, _⟩
 ·omega
 ·obtain ⟨_, q2, _⟩ := chAt_some q; exact q2
def cntB (p : Pr) (f : List Int) (i k : Nat) : Nat := match chAt p (f.getD i 0) with
 | some c => (took p (f.take k)).countP (fun d => d.bid == c.bid)
 | none => 0
theorem cntB_succ {i k : Nat} (hk : k < f.length) : cntB p f i (k + 1) = cntB p f i k + (match chAt p (f.getD i 0), chAt p f[k] with | some c, some d => if c.bid = d.bid then 1 else 0 | _, _ => 0) := by
 unfold cntB
 cases chAt p (f.getD i 0) with
 | none => rfl
 | some c =>
  rw [took_succ hk]
  cases chAt p f[k] with
  | none => simp
  | some d =>
   simp only [List.countP_append, List.countP_cons, List.countP_nil]
   by_cases h : c.bid = d.bid
   ·simp [h]
   ·have : ¬ d.bid = c.bid := fun e => h e.symm
    simp [h, this]
theorem Crowded_l1 {i : Nat} {N0 : Sl -> Addr -> Int -> World -> Prop} {K : Bool -> World -> Prop} (hp : RightPr p) (h : PF wB s0 s1 s2 s5 p f) (hd : Decs p p.lots f) (hB : Fr F0 wB w) (hi : i < f.length)
  (hpr : Row w pb (prC s0 s1 s2 p.most p.budget)) (hT : 0 < p.most /\ p.most < cntB p f i f.length -> ∀ w', Fr F0 w w' -> K true w') (hF : ¬ (0 < p.most /\ p.most < cntB p f i f.length) -> ∀ w', Fr F0 w w' -> N0 s5 ⟨pb, 0, none⟩ ((i : Int) + 1) w') :
  z11_l1 s5 ⟨pb, 0, none⟩ i 0 0 N0 K w := by
 have el := h.tk.len
 have hl12 := right_len hp hd
 have e1 := h.pv.ch.len
 have hgi : f.getD i 0 = f[i] := by simp [hi]
 refine ⟨⟨fun n k w' => ∃ k' : Nat, k = k' /\ k' <= f.length /\ n = cntB p f i k' /\ Fr F0 w w', fun _ k _ => f.length - k.toNat, ⟨0, rfl, by omega, by unfold cntB; cases chAt p (f.getD i 0) <;> simp [took], Fr.refl⟩, ?_⟩⟩
 rintro n k w1 ⟨k, rfl, hk, rfl, hf⟩
 have hcb : cntB p f i k <= 12 := by
  unfold cntB
  split
  ·exact Nat.le_trans (List.countP_le_length) (Nat.le_trans (took_len _) (by simp; omega))
  ·omega
 unfold z11_b1
 rw [cnd_prop]
 refine ⟨fun hlt => ?_, fun hge => ?_⟩
 ·have hkf : k < f.length := by omega
  have hs := cntB_succ (p := p) (i := i) hkf
  rw [hgi] at hs
  intro w2
  have hf2 : Fr F0 w w2 := hf.t Fr.drew
  clear_value w2
  have h2 := h.fr (hB.t hf2)
  have hp2 := hf2.row hpr fun h => h
  refine VI.ld h2.tk i rfl hi ?_
  rw [cnd_prop]
  refine ⟨fun h0 => VI.ld h2.tk k rfl hkf ?_, fun h0 => ?_⟩
  ·have hci := dec_lt hd hi h0
   rw [chAt_get h0 hci] at hs
   rw [cnd_prop]
   refine ⟨fun h3 => ?_, fun h3 => ?_⟩
   ·have hck := dec_lt hd hkf h3
    rw [chAt_get h3 hck] at hs
    simp only at hs
    refine ⟨s1, hp2.at rfl, VI.ld h2.tk i rfl hi (VC.ld h2.pv.ch f[i].toNat (by omega) hci fun x hc => ?_)⟩
    obtain ⟨_, c1, _, _⟩ := hc w2 Fr.refl
    refine ⟨_, c1, s1, hp2.at rfl, VI.ld h2.tk k rfl hkf (VC.ld h2.pv.ch f[k].toNat (by omega) hck fun y hc' => ?_)⟩
    obtain ⟨_, d1, _, _⟩ := hc' w2 Fr.refl
    refine ⟨_, d1, ?_⟩
    rw [cnd_beq]
    refine ⟨fun he => ?_, fun hne => ?_⟩
    ·rw [if_pos he] at hs
     exact ⟨inR64 (by omega) (by omega), inR64 (by omega) (by omega), ⟨⟨rfl, rfl, rfl, trivial⟩, k + 1, by omega, by omega, by omega, hf2⟩, by dsimp only; omega⟩
    ·rw [if_neg hne] at hs
     exact ⟨inR64 (by omega) (by omega), ⟨⟨rfl, rfl, rfl, trivial⟩, k + 1, by omega, by omega, by omega, hf2⟩, by dsimp only; omega⟩
   ·rw [chAt_neg h3] at hs
    simp only at hs
    exact ⟨inR64 (by omega) (by omega), ⟨⟨rfl, rfl, rfl, trivial⟩, k + 1, by omega, by omega, by omega, hf2⟩, by dsimp only; omega⟩
  ·rw [chAt_neg h0] at hs
   simp only at hs
   exact ⟨inR64 (by omega) (by omega), ⟨⟨rfl, rfl, rfl, trivial⟩, k + 1, by omega, by omega, by omega, hf2⟩, by dsimp only; omega⟩
 ·have : k = f.length := by omega
  subst this
  have hp2 := hf.row hpr fun h => h
  refine ⟨_, hp2.at rfl, ?_⟩
  rw [cnd_prop]
  refine ⟨fun h1 => ⟨_, hp2.at rfl, ?_⟩, fun h1 => ⟨inR64 (by omega) (by omega), hF (fun q => h1 q.1) w1 hf⟩⟩
  rw [cnd_prop]
  exact ⟨fun h2 => hT ⟨h1, h2⟩ w1 hf, fun h2 => ⟨inR64 (by omega) (by omega), hF (fun q => h2 q.2) w1 hf⟩⟩
theorem refCrowded_spec {K : Bool -> World -> Prop} (hp : RightPr p) (h : PF w s0 s1 s2 s5 p f) (hd : Decs p p.lots f) (hK : ∀ w', Fr F0 w w' -> K (crowdB p f) w') : z11_sh s0 s1 s2 p.most p.budget s5 K w := by
 have el := h.tk.len
 have hl12 := right_len hp hd
 have hcase : ∀ i, i < f.length -> (0 < p.most /\ p.most < cntB p f i f.length) -> crowdB p f = true := fun i hi q => by
  unfold cntB at q
  have hgi : f.getD i 0 = f[i] := by simp [hi]
  rw [hgi, List.take_length] at q
  cases hc : chAt p f[i] with
  | none => rw [hc] at q; simp at q; omega
  | some c =>
   rw [hc] at q
   exact crowdB_iff.2 ⟨q.1, c.bid, q.2⟩
 refine ⟨?_⟩
 unfold z11_sd
 intro w1
 have m : Mem w w1 _ := Mem.nil.allocL (cs := prC s0 s1 s2 p.most p.budget)
 clear_value w1
 have hpr := m.row 0 rfl
 refine ⟨⟨fun i w' => ∃ i' : Nat, i = i' /\ i' <= f.length /\ Fr F0 w1 w' /\ ∀ j < i', ¬ (0 < p.most /\ p.most < cntB p f j f.length), fun i _ => f.length - i.toNat, ⟨0, rfl, by omega, Fr.refl, fun j hj => by omega⟩, ?_⟩⟩
 rintro i w2 ⟨i, rfl, hi, hf, hin⟩
 unfold z11_b0
 rw [cnd_prop]
 refine ⟨fun hlt => ?_, fun hge => ?_⟩
 ·have hif : i < f.length := by omega
  refine Crowded_l1 hp h hd (m.1.t hf) hif (hf.row hpr fun h => h) (fun q w' hw => ?_) fun q w' hw => ⟨⟨⟨rfl, rfl, trivial⟩, i + 1, by omega, by omega, hf.t hw, fun j hj => ?_⟩, by dsimp only; omega⟩
  ·have hk := hK w' (m.1.t (hf.t hw))
   rwa [hcase i hif q] at hk
  ·rcases Nat.lt_succ_iff_lt_or_eq.1 hj with hj | rfl
   ·exact hin j hj
   ·exact q
 ·have : i = f.length := by omega
  subst this
  have hk := hK w2 (m.1.t hf)
  cases hc : crowdB p f with
  | false => rwa [hc] at hk
  | true =>
   exfalso
   obtain ⟨h0, bd, hb⟩ := crowdB_iff.1 hc
   have hpos : 0 < (took p f).countP (fun d => d.bid == bd) := by omega
   obtain ⟨c, hcm, hcb⟩ := List.countP_pos_iff.1 hpos
   obtain ⟨n, hn, hnc⟩ := List.mem_filterMap.1 hcm
   obtain ⟨j, hj, rfl⟩ := List.mem_iff_getElem.1 hn
   refine hin j hj ⟨h0, ?_⟩
   unfold cntB
   have hgj : f.getD j 0 = f[j] := by simp [hj]
   rw [hgj, hnc, List.take_length]
   have : c.bid = bd := by simpa using hcb
   subst this
   exact hb
theorem refPermitted_spec {K : Bool -> World -> Prop} (h : PF w s0 s1 s2 s5 p f) (hK : ∀ w', Fr F0 w w' -> K (rightB p && permB p f) w') : z0i_sh s0 s1 s2 p.most p.budget s5 K w := by
 refine ⟨?_⟩
 unfold z0i_sd
 intro w1
 have m : Mem w w1 _ := Mem.nil.allocL (cs := prC s0 s1 s2 p.most p.budget)
 clear_value w1
 refine ⟨s0, m.ld 0 rfl rfl, s1, m.ld 0 rfl rfl, s2, m.ld 0 rfl rfl, _, m.ld 0 rfl rfl, _, m.ld 0 rfl rfl, take_spec (h.fr m.1) fun w7 hf => ?_⟩
 have m := m.fr hf
 intro w9
 have m : Mem w w9 _ := m.drew
 clear_value w9
 refine ⟨fun u => Row u w.heap.size (prC s0 s1 s2 p.most p.budget), m.row 0 rfl, ?_⟩
 unfold permB at hK
 refine cnd_iff.2 ⟨fun hy => ?_, fun hn => ?_⟩
 ·obtain ⟨er, ef⟩ := Bool.and_eq_true_iff.1 hy
  have hp := rightB_iff.1 er
  have hd := fitsB_decs ef
  rw [er, ef, Bool.true_and, Bool.true_and] at hK
  refine ⟨s0, fun u hu => hu.at rfl, s1, fun u hu => hu.at rfl, s2, fun u hu => hu.at rfl, _, fun u hu => hu.at rfl, _, fun u hu => hu.at rfl, _, fun u hu => hu.at rfl, refLeast_spec hp (h.fr m.1) hd fun w17 hf => ?_⟩
  have m := m.fr hf
  refine ⟨m.row 0 rfl, ?_⟩
  rw [cnd_prop]
  refine ⟨fun hle => ?_, fun hgt => ?_⟩
  ·rw [decide_eq_true hle, Bool.true_and] at hK
   refine ⟨s0, fun u hu => hu.at rfl, s1, fun u hu => hu.at rfl, s2, fun u hu => hu.at rfl, _, fun u hu => hu.at rfl, _, fun u hu => hu.at rfl, refCrowded_spec hp (h.fr m.1) hd fun w24 hf => ?_⟩
   have m := m.fr hf
   exact ⟨m.row 0 rfl, hK w24 m.1⟩
  ·rw [decide_eq_false hgt, Bool.false_and] at hK
   exact hK w17 m.1
 ·have hk := hK w9 m.1
  rw [← Bool.and_assoc, hn, Bool.false_and] at hk
  exact hk
theorem refValue_spec {K : Int -> World -> Prop} (hp : RightPr p) (h : PF w s0 s1 s2 s5 p f) (hfit : fitsB p f = true) (hK : ∀ w', Fr F0 w w' -> K (worth p f) w') : z1w_sh s0 s1 s2 p.most p.budget s5 K w := by
 have hd := fitsB_decs hfit
 have hbu := hp.budget
 have ⟨b1, b2⟩ : 0 <= p.budget /\ p.budget <= 1000000000 := hbu
 obtain ⟨q1, q2, q3, q4⟩ := worth_bound hp hd
 have ep : pointsR p (rightB p) (fitsB p f) f = ptsOf p f := by
  unfold pointsR
  rw [rightB_iff.2 hp, hfit]
  rfl
 refine ⟨?_⟩
 unfold z1w_sd
 intro w1
 have m : Mem w w1 _ := Mem.nil.allocL (cs := prC s0 s1 s2 p.most p.budget)
 clear_value w1
 intro w2
 have m : Mem w w2 _ := m.drew
 clear_value w2
 refine ⟨fun u => Row u w.heap.size (prC s0 s1 s2 p.most p.budget), m.row 0 rfl, s0, fun u hu => hu.at rfl, s1, fun u hu => hu.at rfl, s2, fun u hu => hu.at rfl, _, fun u hu => hu.at rfl, _, fun u hu => hu.at rfl, _, fun u hu => hu.at rfl, inR64 (by omega) (by omega), s0, fun u hu => hu.at rfl, s1, fun u hu => hu.at rfl, s2, fun u hu => hu.at rfl, _, fun u hu => hu.at rfl, _, fun u hu => hu.at rfl, refPoints_spec (h.fr m.1) fun w15 hf => ?_⟩
 have m := m.fr hf
 rw [ep]
 refine ⟨m.row 0 rfl, inR64 (by omega) (by omega), refLeast_spec hp (h.fr m.1) hd fun w17 hf => ?_⟩
 have m := m.fr hf
 have hk := hK w17 m.1
 unfold worth at hk q3 q4
 exact ⟨m.row 0 rfl, inR64 (by omega) (by omega), hk⟩
theorem refGreater_spec {K : Bool -> World -> Prop} (ha : VI w s a) (hb : VI w t b) (hla : a.length < 2 ^ 63) (hK : ∀ w', Fr F0 w w' -> K (gtL a b) w') : z12_sh s t K w := by
 have ea := ha.len
 have eb := hb.len
 refine ⟨?_⟩
 unfold z12_sd
 refine ⟨⟨fun i w' => ∃ i' : Nat, i = i' /\ i' <= a.length /\ Fr F0 w w' /\ gtL a b = gtL (a.drop i') (b.drop i'), fun i _ => a.length - i.toNat, ⟨0, rfl, by omega, Fr.refl, rfl⟩, ?_⟩⟩
 rintro i w1 ⟨i, rfl, hi, hf, hg⟩
 unfold z12_b0
 rw [cnd_prop]
 refine ⟨fun hlt => ?_, fun hge => ?_⟩
 ·have hia : i < a.length := by omega
  rw [cnd_prop]
  refine ⟨fun hlt2 => ?_, fun hge2 => ?_⟩
  ·have hib : i < b.length := by omega
   rw [List.drop_eq_getElem_cons hia, List.drop_eq_getElem_cons hib, gtL] at hg
   intro w2
   have hf2 : Fr F0 w w2 := hf.t Fr.drew
   clear_value w2
   refine VI.ld (ha.fr hf2) i rfl hia (VI.ld (hb.fr hf2) i rfl hib ?_)
   rw [cnd_bne]
   refine ⟨fun hne => ?_, fun he => ?_⟩
   ·rw [if_neg hne] at hg
    intro w3
    have hf3 : Fr F0 w w3 := hf2.t Fr.drew
    clear_value w3
    refine VI.ld (ha.fr hf3) i rfl hia (VI.ld (hb.fr hf3) i rfl hib ?_)
    have hk := hK w3 hf3
    rwa [hg] at hk
   ·rw [if_pos he] at hg
    exact ⟨inR64 (by omega) (by omega), ⟨⟨rfl, rfl, trivial⟩, i + 1, by omega, by omega, hf2, hg⟩, by dsimp only; omega⟩
  ·rw [List.drop_of_length_le (show b.length <= i by omega)] at hg
   have hk := hK w1 hf
   rw [hg] at hk
   have e : gtL (a.drop i) [] = false := by cases a.drop i <;> rfl
   rwa [e] at hk
 ·rw [List.drop_of_length_le (show a.length <= i by omega)] at hg
  have hk := hK w1 hf
  rw [hg] at hk
  exact hk
theorem perm_fits {p : Pr} {f : List Int} (h : permB p f = true) : fitsB p f = true := (Bool.and_eq_true_iff.1 h).1
theorem refBetter_spec {K : Bool -> World -> Prop} (ha : PF w s0 s1 s2 s5 p a) (hb : PF w s0 s1 s2 t5 p b) (hK : ∀ w', Fr F0 w w' -> K (betterR p a b) w') : z1c_sh s0 s1 s2 p.most p.budget s5 t5 K w := by
 refine ⟨?_⟩
 unfold z1c_sd
 intro w1
 have m : Mem w w1 _ := Mem.nil.allocL (cs := prC s0 s1 s2 p.most p.budget)
 clear_value w1
 refine ⟨s0, m.ld 0 rfl rfl, s1, m.ld 0 rfl rfl, s2, m.ld 0 rfl rfl, _, m.ld 0 rfl rfl, _, m.ld 0 rfl rfl, refPermitted_spec (ha.fr m.1) fun w7 hf => ?_⟩
 have m := m.fr hf
 refine ⟨s0, m.ld 0 rfl rfl, s1, m.ld 0 rfl rfl, s2, m.ld 0 rfl rfl, _, m.ld 0 rfl rfl, _, m.ld 0 rfl rfl, refPermitted_spec (hb.fr m.1) fun w14 hf => ?_⟩
 have m := m.fr hf
 unfold betterR at hK
 refine cnd_iff.2 ⟨fun hn => ?_, fun hy => ?_⟩
 ·have hk := hK w14 m.1
  have e : (rightB p && permB p a) = false := by
   cases hq : (rightB p && permB p a) with
   | false => rfl
   | true => rw [hq] at hn; cases hn
  rw [← Bool.and_assoc, e, Bool.false_and] at hk
  rw [e]
  exact hk
 ·have e : (rightB p && permB p a) = true := by
   cases hq : (rightB p && permB p a) with
   | true => rfl
   | false => rw [hq] at hy; cases hy
  obtain ⟨er, ea⟩ := Bool.and_eq_true_iff.1 e
  have hp := rightB_iff.1 er
  rw [er, ea, Bool.true_and, Bool.true_and] at hK
  refine cnd_iff.2 ⟨fun hn => ?_, fun hy2 => ?_⟩
  ·have e2 : permB p b = false := by
    cases hq : permB p b with
    | false => rfl
    | true => rw [er, hq] at hn; cases hn
   have hk := hK w14 m.1
   rw [e2] at hk
   rw [er, ea]
   exact hk
  ·have e2 : permB p b = true := by
    cases hq : permB p b with
    | true => rfl
    | false => rw [hq, Bool.and_false] at hy2; cases hy2
   rw [e2, Bool.not_true, Bool.false_or] at hK
   refine ⟨s0, m.ld 0 rfl rfl, s1, m.ld 0 rfl rfl, s2, m.ld 0 rfl rfl, _, m.ld 0 rfl rfl, _, m.ld 0 rfl rfl, refValue_spec hp (ha.fr m.1) (perm_fits ea) fun w21 hf => ?_⟩
   have m := m.fr hf
   refine ⟨s0, m.ld 0 rfl rfl, s1, m.ld 0 rfl rfl, s2, m.ld 0 rfl rfl, _, m.ld 0 rfl rfl, _, m.ld 0 rfl rfl, refValue_spec hp (hb.fr m.1) (perm_fits e2) fun w28 hf => ?_⟩
   have m := m.fr hf
   unfold btB at hK
   rw [cnd_prop]
   refine ⟨fun hg => ?_, fun hng => ?_⟩
   ·have hk := hK w28 m.1
    rw [decide_eq_true (show worth p b < worth p a from hg), Bool.true_or] at hk
    exact hk
   ·rw [decide_eq_false (show ¬ worth p b < worth p a from hng), Bool.false_or] at hK
    rw [cnd_beq]
    refine ⟨fun he => ?_, fun hne => ?_⟩
    ·rw [decide_eq_true he, Bool.true_and] at hK
     exact refGreater_spec (hb.fr m.1).tk (ha.fr m.1).tk hb.lt fun w30 hf => hK w30 (m.1.t hf)
    ·have hk := hK w28 m.1
     rw [decide_eq_false hne, Bool.false_and] at hk
     exact hk
end
end Go.Proofs.YtfpobpjandjhjaaGreatDoor
namespace Go.Proofs.YtfpobpjandjhjaaGreatDoor
open Go Pw
def boundB (p : Pr) (f : List Int) (a b : Int) (T : List Int) : Bool := (upR p f a b).2 && (decide ((upR p f a b).1 < worth p T) || (decide ((upR p f a b).1 = worth p T) && gtL f T))
def closedB (p : Pr) (f : List Int) (a b : Int) (T : List Int) : Bool := crowdB p f || (decide (p.budget < leastOf p f) || ((decide (f.length = p.lots.length) && !betterR p f T) || boundB p f a b T))
end Go.Proofs.YtfpobpjandjhjaaGreatDoor
namespace Go.Proofs.YtfpobpjandjhjaaGreatDoor
open Go Pw
def bF (p : Pr) : List Int -> List Int -> List Int -> List Int
 | f, [], kn => if betterR p f kn then f else kn
 | f, lot :: ls, kn => (opts p lot).foldl (fun kn o => bF p (f ++ [o]) ls kn) kn
structure BestOf (p : Pr) (S : List Int -> Prop) (kn R : List Int) : Prop where
 one : R = kn \/ (Perm p R /\ S R)
 all : ∀ t, S t -> Perm p t -> Perm p R /\ ¬ Bt p t R
 old : Perm p kn -> Perm p R /\ ¬ Bt p kn R
theorem bt_le {p : Pr} {a b c : List Int} (hb : Perm p b) (h1 : ¬ Bt p a b) (h2 : ¬ Bt p b c) (hc : Perm p c) : ¬ Bt p a c := fun h => by
 by_cases e : b = c
 ·exact h1 (e ▸ h)
 ·rcases Bt.total (p := p) (show b.length = c.length by rw [hb.1, hc.1]) e with q | q
  ·exact h2 q
  ·exact h1 (h.trans q)
theorem BestOf.comp {p : Pr} {S1 S2 : List Int -> Prop} {kn R1 R2 : List Int} (h1 : BestOf p S1 kn R1) (h2 : BestOf p S2 R1 R2) : BestOf p (fun t => S1 t \/ S2 t) kn R2 := by
 refine ⟨?_, fun t ht hp => ?_, fun hp => ?_⟩
 ·rcases h2.one with e | ⟨q, s⟩
  ·rcases h1.one with e1 | ⟨q, s⟩
   ·exact .inl (e.trans e1)
   ·exact .inr ⟨e ▸ q, .inl (e ▸ s)⟩
  ·exact .inr ⟨q, .inr s⟩
 ·rcases ht with ht | ht
  ·obtain ⟨q1, q2⟩ := h1.all t ht hp
   obtain ⟨q3, q4⟩ := h2.old q1
   exact ⟨q3, bt_le q1 q2 q4 q3⟩
  ·exact h2.all t ht hp
 ·obtain ⟨q1, q2⟩ := h1.old hp
  obtain ⟨q3, q4⟩ := h2.old q1
  exact ⟨q3, bt_le q1 q2 q4 q3⟩
theorem bF_ok {p : Pr} (hp : RightPr p) : ∀ (ls f kn : List Int), BestOf p (fun t => ∃ r, t = f ++ r /\ r.length = ls.length /\ Decs p ls r) kn (bF p f ls kn)
 | [], f, kn => by
  unfold bF
  cases hb : betterR p f kn with
  | true =>
   unfold betterR at hb
   rw [Bool.and_eq_true, Bool.and_eq_true] at hb
   obtain ⟨_, ha, hb⟩ := hb
   have hpa := permB_iff.1 ha
   rw [if_pos rfl]
   refine ⟨.inr ⟨hpa, [], by simp, rfl, trivial⟩, ?_, fun hk => ⟨hpa, ?_⟩⟩
   ·rintro t ⟨r, rfl, hr, _⟩ _
    obtain rfl := List.length_eq_zero_iff.1 hr
    rw [List.append_nil]
    exact ⟨hpa, Bt.irrefl⟩
   ·rw [permB_iff.2 hk, Bool.not_true, Bool.false_or] at hb
    exact (btB_iff.1 hb).asymm
  | false =>
   rw [if_neg (by decide)]
   refine ⟨.inl rfl, ?_, fun hk => ⟨hk, Bt.irrefl⟩⟩
   rintro t ⟨r, rfl, hr, _⟩ hpt
   obtain rfl := List.length_eq_zero_iff.1 hr
   rw [List.append_nil] at hpt ⊢
   unfold betterR at hb
   rw [rightB_iff.2 hp, permB_iff.2 hpt, Bool.true_and, Bool.true_and, Bool.or_eq_false_iff] at hb
   obtain ⟨h1, h2⟩ := hb
   refine ⟨permB_iff.1 (by simpa using h1), fun h => ?_⟩
   rw [btB_iff.2 h] at h2
   cases h2
 | lot :: ls, f, kn => by
  unfold bF
  have key : ∀ (os : List Int) (kn : List Int), BestOf p (fun t => ∃ o ∈ os, ∃ r, t = f ++ [o] ++ r /\ r.length = ls.length /\ Decs p ls r) kn (os.foldl (fun kn o => bF p (f ++ [o]) ls kn) kn) := by
   intro os
   induction os with
   | nil => exact fun kn => ⟨.inl rfl, fun t ⟨o, ho, _⟩ => (by cases ho), fun hk => ⟨hk, Bt.irrefl⟩⟩
   | cons o os ih =>
    intro kn
    have h := (bF_ok hp ls (f ++ [o]) kn).comp (ih (bF p (f ++ [o]) ls kn))
    refine ⟨?_, fun t ht => ?_, h.old⟩
    ·rcases h.one with e | ⟨q, s⟩
     ·exact .inl e
     ·refine .inr ⟨q, ?_⟩
      rcases s with ⟨r, s⟩ | ⟨o', ho, s⟩
      ·exact ⟨o, List.mem_cons_self .., r, s⟩
      ·exact ⟨o', List.mem_cons_of_mem _ ho, s⟩
    ·obtain ⟨o', ho, r, s⟩ := ht
     rcases List.mem_cons.1 ho with rfl | ho
     ·exact h.all t (.inl ⟨r, s⟩)
     ·exact h.all t (.inr ⟨o', ho, r, s⟩)
  have h := key (opts p lot) kn
  refine ⟨?_, ?_, h.old⟩
  ·rcases h.one with e | ⟨q, o, ho, r, s1, s2, s3⟩
   ·exact .inl e
   ·exact .inr ⟨q, o :: r, by rw [s1]; simp, by simp [s2], opts_mem.1 ho, s3⟩
  ·rintro t ⟨r, rfl, hr, hd⟩ hpt
   cases r with
   | nil => simp at hr
   | cons o r => exact h.all _ ⟨o, opts_mem.2 hd.1, r, by simp, by simpa using hr, hd.2⟩ hpt
theorem bF_best {p : Pr} (hp : RightPr p) : IsBest p (bF p [] p.lots []) := by
 have h := bF_ok hp p.lots [] []
 have hs : ∀ t, Perm p t -> (∃ r, t = [] ++ r /\ r.length = p.lots.length /\ Decs p p.lots r) := fun t ht => ⟨t, by simp, ht.1, ht.2.1⟩
 have h0 := perm_none hp
 exact ⟨(h.all _ (hs _ h0) h0).1, fun u hu => (h.all u (hs u hu) hu).2⟩
theorem optsFrom_app {lot : Int} {c : Ch} : ∀ (l : List Ch) (i : Nat), optsFrom lot i (l ++ [c]) = optsFrom lot i l ++ (if c.lot = lot then [((i + l.length : Nat) : Int)] else [])
 | [], i => by simp [optsFrom]
 | d :: l, i => by
  rw [List.cons_append, optsFrom, optsFrom, optsFrom_app l (i + 1)]
  have e : i + 1 + l.length = i + (d :: l).length := by simp; omega
  rw [e]
  split <;> simp
section
variable {w wB : World} {s t s0 s1 s2 s5 t5 : Sl} {a b l f g : List Int} {p : Pr} {pb : Nat}
theorem refoptions_mk {k : Nat} {K : Sl -> World -> Prop} (h : PV w s0 s1 s2 p) (hk : k < p.lots.length) (hK : ∀ w' s, Mk w 1 (ie .i64 (id : Int -> Int)) w' s (opts p p.lots[k]) -> K s w') : z14_sh s0 s1 s2 p.most p.budget k K w := by
 have e0 := h.lots.len
 have e1 := h.ch.len
 have hl1 := h.l1
 have hl0 := h.l0
 refine ⟨?_⟩
 unfold z14_sd
 intro w1
 have m : Mem w w1 _ := Mem.nil.allocL (cs := prC s0 s1 s2 p.most p.budget)
 clear_value w1
 intro w2
 have h2 : Sp w w2 _ _ _ _ _ _ _ := Sp.one (α := Int) (n := 1) (enc := ie .i64 (id : Int -> Int)) (a := -1) (fun a => ie_length _ _ a) m
 clear_value w2
 refine ⟨⟨fun out i w' => ∃ i' : Nat, i = i' /\ i' <= p.ch.length /\ Sp w w' [(w.heap.size, prC s0 s1 s2 p.most p.budget)] (fun _ => False) (fun _ => True) 1 (ie .i64 (id : Int -> Int)) out (-1 :: optsFrom p.lots[k] 0 (p.ch.take i')), fun _ i _ => p.ch.length - i.toNat, ⟨0, rfl, by omega, h2⟩, ?_⟩⟩
 rintro out i w3 ⟨i, rfl, hi, h3⟩
 unfold z14_b0
 refine ⟨s1, h3.ld 0 rfl rfl, ?_⟩
 rw [cnd_prop]
 refine ⟨fun hlt => ?_, fun hge => ?_⟩
 ·have hic : i < p.ch.length := by omega
  have hts := take_succ' hic
  have hlen : (optsFrom p.lots[k] 0 (p.ch.take i)).length <= i := by
   rw [optsFrom_len]
   have := List.countP_le_length (p := fun c : Ch => c.lot == p.lots[k]) (l := p.ch.take i)
   simp at this
   omega
  have hap : -1 :: optsFrom p.lots[k] 0 (p.ch.take (i + 1)) = (-1 :: optsFrom p.lots[k] 0 (p.ch.take i)) ++ (if p.ch[i].lot = p.lots[k] then [(i : Int)] else []) := by
   rw [hts, optsFrom_app]
   simp only [List.length_take, List.cons_append]
   rw [show 0 + min i p.ch.length = i by omega]
  intro w4
  have h4 : Sp w w4 _ _ _ _ _ _ _ := h3.drew
  clear_value w4
  have hp4 := h.fr h4.m.1
  refine ⟨s1, h4.ld 0 rfl rfl, VC.ld hp4.ch i rfl hic fun x hc => ?_⟩
  obtain ⟨c0, _, _, _⟩ := hc w4 Fr.refl
  refine ⟨_, c0, s0, h4.ld 0 rfl rfl, VI.ld hp4.lots k rfl hk ?_⟩
  rw [cnd_beq]
  refine ⟨fun he => ?_, fun hne => ?_⟩
  ·rw [if_pos he] at hap
   intro w5
   refine h4.push (a := (i : Int)) rfl rfl (ie_ok _ _) rfl (by simp; omega) (by simp; omega) fun r w6 h6 => ?_
   rw [← hap] at h6
   exact ⟨inR64 (by omega) (by omega), ⟨⟨rfl, rfl, trivial⟩, i + 1, by omega, by omega, h6⟩, by dsimp only; omega⟩
  ·rw [if_neg hne, List.append_nil] at hap
   rw [← hap] at h4
   exact ⟨inR64 (by omega) (by omega), ⟨⟨rfl, rfl, trivial⟩, i + 1, by omega, by omega, h4⟩, by dsimp only; omega⟩
 ·have : i = p.ch.length := by omega
  subst this
  rw [List.take_length] at h3
  exact hK w3 out ⟨h3.m.1, h3.ow, fun b hb => (h3.os b hb).1⟩
theorem refoptions_spec {k : Nat} {K : Sl -> World -> Prop} (h : PV w s0 s1 s2 p) (hk : k < p.lots.length) (hK : ∀ w' s, Fr F0 w w' -> VI w' s (opts p p.lots[k]) -> K s w') : z14_sh s0 s1 s2 p.most p.budget k K w :=
 refoptions_mk h hk fun w' s hm => hK w' s hm.fr0 hm.vw
theorem best_spec (hp : RightPr p) (hP0 : PV wB s0 s1 s2 p) : ∀ (ls ds f kn : List Int) (w : World) (s5 t5 : Sl) (K : Sl -> World -> Prop), Fr F0 wB w -> p.lots = ds ++ ls -> f.length = ds.length -> VI w s5 f -> VI w t5 kn -> kn.length <= 12 ->
  (∀ w' s, Fr F0 w w' -> VI w' s (bF p f ls kn) -> K s w') -> z27_sh s0 s1 s2 p.most p.budget s5 t5 K w := by
 intro ls
 induction ls with
 | nil =>
  intro ds f kn w s5 t5 K hB hl hfl hv hkn hkl hK
  have hP := hP0.fr hB
  have hds : p.lots.length = f.length := by rw [hl, hfl]; simp
  have e0 := hP.lots.len
  have e5 := hv.len
  have hfew := hp.few
  apply z27_mk
  unfold z27_sd
  intro w1
  have m : Mem w w1 _ := Mem.nil.allocL (cs := prC s0 s1 s2 p.most p.budget)
  clear_value w1
  refine ⟨s0, m.ld 0 rfl rfl, ?_⟩
  rw [cnd_beq]
  refine ⟨fun _ => ⟨s0, m.ld 0 rfl rfl, s1, m.ld 0 rfl rfl, s2, m.ld 0 rfl rfl, _, m.ld 0 rfl rfl, _, m.ld 0 rfl rfl, ?_⟩, fun h => absurd (show (s5.l : Int) = (s0.l : Int) by omega) h⟩
  refine refBetter_spec (a := f) (b := kn) ⟨hP.fr m.1, hv.fr m.1, by omega⟩ ⟨hP.fr m.1, hkn.fr m.1, by omega⟩ fun w8 hf => ?_
  have m := m.fr hf
  unfold bF at hK
  refine cnd_iff.2 ⟨fun hb => ?_, fun hb => ?_⟩
  ·rw [if_pos hb] at hK
   intro w10
   have h : Sp w w10 _ _ _ _ _ _ _ := Sp.empty (α := Int) (n := 1) (enc := ie .i64 (id : Int -> Int)) (fun a => ie_length _ _ a) m
   clear_value w10
   refine h.app (hv.fr h.m.1) (ie_ok _ _) rfl (by simp; omega) (by simp; omega) fun r w12 h => ?_
   rw [List.nil_append] at h
   exact hK w12 r h.m.1 h.ow.vw
  ·rw [if_neg (by rw [hb]; decide)] at hK
   exact hK w8 t5 m.1 (hkn.fr m.1)
 | cons lot ls ih =>
  intro ds f kn w s5 t5 K hB hl hfl hv hkn hkl hK
  have hP := hP0.fr hB
  have hds : p.lots.length = f.length + (ls.length + 1) := by rw [hl, hfl]; simp
  have e0 := hP.lots.len
  have e5 := hv.len
  have hfew := hp.few
  have hch := hp.chs
  have hkf : f.length < p.lots.length := by omega
  have hlot : ∀ (k : Nat) (hk : k < p.lots.length), k = f.length -> p.lots[k] = lot := by
   rintro k hk rfl
   have : p.lots[f.length]? = some lot := by rw [hl, hfl]; simp
   rw [List.getElem?_eq_getElem hkf] at this
   exact Option.some.inj this
  apply z27_mk
  unfold z27_sd
  intro w1
  have m : Mem w w1 _ := Mem.nil.allocL (cs := prC s0 s1 s2 p.most p.budget)
  clear_value w1
  have hpr := m.row 0 rfl
  refine ⟨s0, m.ld 0 rfl rfl, ?_⟩
  rw [cnd_beq]
  refine ⟨fun h => absurd (show (s5.l : Int) = s0.l from h) (by omega), fun _ => ⟨s0, m.ld 0 rfl rfl, s1, m.ld 0 rfl rfl, s2, m.ld 0 rfl rfl, _, m.ld 0 rfl rfl, _, m.ld 0 rfl rfl, ?_⟩⟩
  refine refoptions_spec (k := s5.l) (hP.fr m.1) (by omega) fun w18 sl hf hsl => ?_
  rw [hlot s5.l (by omega) e5] at hsl
  have hf18 := m.1.t hf
  have hol := opts_len p lot
  have esl := hsl.len
  have hbl : ∀ (os kn : List Int), kn.length <= 12 -> (os.foldl (fun kn o => bF p (f ++ [o]) ls kn) kn).length <= 12 := by
   intro os
   induction os with
   | nil => exact fun kn h => h
   | cons o os ih2 =>
    intro kn h
    refine ih2 _ ?_
    show (bF p (f ++ [o]) ls kn).length <= 12
    rcases (bF_ok hp ls (f ++ [o]) kn).one with e | ⟨q, _⟩
    ·rw [e]; exact h
    ·rw [q.1]; exact hfew
  refine ⟨⟨fun kn' i w' => ∃ i' : Nat, i = i' /\ i' <= (opts p lot).length /\ Fr F0 w18 w' /\ VI w' kn' (((opts p lot).take i').foldl (fun kn o => bF p (f ++ [o]) ls kn) kn), fun _ i _ => (opts p lot).length - i.toNat, ⟨0, rfl, by omega, Fr.refl, hkn.fr hf18⟩, ?_⟩⟩
  rintro kn' i w2 ⟨i, rfl, hi, hf2, hkv⟩
  unfold z27_b0
  rw [cnd_prop]
  refine ⟨fun hlt => ?_, fun hge => ?_⟩
  ·have hio : i < (opts p lot).length := by omega
   have hfold : ((opts p lot).take (i + 1)).foldl (fun kn o => bF p (f ++ [o]) ls kn) kn = bF p (f ++ [(opts p lot)[i]]) ls (((opts p lot).take i).foldl (fun kn o => bF p (f ++ [o]) ls kn) kn) := by
    rw [take_succ' hio, List.foldl_append]
    rfl
   have hkl' := hbl ((opts p lot).take i) kn hkl
   intro w20
   have hf20 : Fr F0 w18 w20 := hf2.t Fr.drew
   have hkv : VI w20 kn' _ := hkv.fr Fr.drew
   clear_value w20
   have hS : ∀ {u}, Fr F0 w20 u -> (Row u w.heap.size (prC s0 s1 s2 p.most p.budget) /\ VI u sl (opts p lot)) := fun hu => ⟨(hf.t (hf20.t hu)).row hpr fun h => h, hsl.fr (hf20.t hu)⟩
   refine ⟨fun u => Row u w.heap.size (prC s0 s1 s2 p.most p.budget) /\ VI u sl (opts p lot), hS Fr.refl, s0, fun u hu => hu.1.at rfl, s1, fun u hu => hu.1.at rfl, s2, fun u hu => hu.1.at rfl, _, fun u hu => hu.1.at rfl, _, fun u hu => hu.1.at rfl, ?_⟩
   obtain ⟨ad, hp', _⟩ := hsl.at (fun a => ie_length _ _ a) (List.getElem?_eq_getElem hio) (by decide)
   have hv20 := hv.fr (hf18.t hf20)
   have hrec : ∀ {u : World} {r : Sl} {K' : Sl -> World -> Prop}, Fr F0 w20 u -> VI u r (f ++ [(opts p lot)[i]]) -> (∀ w' s, Fr F0 w20 w' -> VI w' s (((opts p lot).take (i + 1)).foldl (fun kn o => bF p (f ++ [o]) ls kn) kn) -> K' s w') -> z27_sh s0 s1 s2 p.most p.budget r kn' K' u := fun {u r K'} hu hr hk =>
    ih (ds ++ [lot]) (f ++ [(opts p lot)[i]]) _ u r kn' K' (hB.t (hf18.t (hf20.t hu))) (by rw [hl]; simp) (by simp [hfl]) hr (hkv.fr hu) hkl' fun w' s hw hs => hk w' s (hu.t hw) (hfold ▸ hs)
   have hfin : ∀ {w' : World} {r : Sl}, Fr F0 w20 w' -> VI w' r (((opts p lot).take (i + 1)).foldl (fun kn o => bF p (f ++ [o]) ls kn) kn) -> ∃ i' : Nat, (i : Int) + 1 = i' /\ i' <= (opts p lot).length /\ Fr F0 w18 w' /\ VI w' r (((opts p lot).take i').foldl (fun kn o => bF p (f ++ [o]) ls kn) kn) := fun hw hr => ⟨i + 1, by omega, by omega, hf20.t hw, hr⟩
   refine nz_iff.2 ⟨ad, hp', ⟨by omega, by omega⟩, (opts p lot)[i], fun u hu => ?_, ?_, ?_⟩
   ·obtain ⟨ad', hp'', hc⟩ := hu.2.at (fun a => ie_length _ _ a) (List.getElem?_eq_getElem hio) (by decide)
    rw [hp'] at hp''
    cases hp''
    exact hc 0 _ rfl
   ·intro w29
    have h : Sp w20 w29 [] _ _ _ _ _ _ := Sp.empty (α := Int) (n := 1) (enc := ie .i64 (id : Int -> Int)) (fun a => ie_length _ _ a) Mem.nil
    clear_value w29
    refine ⟨hS h.m.1, ?_, ?_⟩
    ·refine h.app (hv20.fr h.m.1) (ie_ok _ _) rfl (by simp; omega) (by simp; omega) fun s30 w31 h => ⟨hS h.m.1, ?_⟩
     rw [List.nil_append] at h
     intro w32
     refine ⟨hS (h.fr (Fr.alloc : Fr F0 w31 w32)).m.1, h.push (a := (opts p lot)[i]) rfl rfl (ie_ok _ _) rfl (by omega) (by omega) fun s33 w34 h => ⟨hS h.m.1, hrec h.m.1 h.ow.vw fun w35 r hw hr => ⟨hS hw, inR64 (by omega) (by omega), ⟨⟨rfl, rfl, rfl, trivial⟩, hfin hw hr⟩, by dsimp only; omega⟩⟩⟩
    ·intro w37
     have h : Sp w20 w37 _ _ _ _ _ _ _ := h.allocL (vs := ([(opts p lot)[i]] : List Int).map (Value.int .i64))
     clear_value w37
     refine ⟨hS h.m.1, h.app (hv20.fr h.m.1) (ie_ok _ _) rfl (by simp; omega) (by simp; omega) fun s38 w39 h => ⟨hS h.m.1, ?_⟩⟩
     rw [List.nil_append] at h
     exact h.app (m := [(opts p lot)[i]]) (Ow.row (l := [(opts p lot)[i]]) (h.row 0 rfl)).vw (ie_ok _ _) rfl (by simp; omega) (by simp; omega) fun s40 w41 h => ⟨hS h.m.1, hrec h.m.1 h.ow.vw fun w35 r hw hr => ⟨hS hw, inR64 (by omega) (by omega), ⟨⟨rfl, rfl, rfl, trivial⟩, hfin hw hr⟩, by dsimp only; omega⟩⟩
   ·intro w44
    have m : Mem w20 w44 _ := Mem.nil.allocL (cs := ([(opts p lot)[i]] : List Int).map (Value.int .i64))
    clear_value w44
    refine ⟨hS m.1, ?_⟩
    intro w45
    have h : Sp w20 w45 _ _ _ _ _ _ _ := Sp.empty (α := Int) (n := 1) (enc := ie .i64 (id : Int -> Int)) (fun a => ie_length _ _ a) m
    clear_value w45
    refine ⟨hS h.m.1, h.app (hv20.fr h.m.1) (ie_ok _ _) rfl (by simp; omega) (by simp; omega) fun s46 w47 h => ⟨hS h.m.1, ?_⟩⟩
    rw [List.nil_append] at h
    exact h.app (m := [(opts p lot)[i]]) (Ow.row (l := [(opts p lot)[i]]) (h.row 0 rfl)).vw (ie_ok _ _) rfl (by simp; omega) (by simp; omega) fun s48 w49 h => ⟨hS h.m.1, hrec h.m.1 h.ow.vw fun w35 r hw hr => ⟨hS hw, inR64 (by omega) (by omega), ⟨⟨rfl, rfl, rfl, trivial⟩, hfin hw hr⟩, by dsimp only; omega⟩⟩
  ·have : i = (opts p lot).length := by omega
   subst this
   rw [List.take_length] at hkv
   exact hK w2 kn' (hf18.t hf2) hkv
theorem refBest_spec {K : Sl -> World -> Prop} (hp : RightPr p) (h : PV w s0 s1 s2 p) (hK : ∀ w' s, Fr F0 w w' -> VI w' s (bF p [] p.lots []) -> K s w') : z24_sh s0 s1 s2 p.most p.budget K w := by
 refine ⟨?_⟩
 unfold z24_sd
 intro w1
 have m : Mem w w1 _ := Mem.nil.allocL (cs := prC s0 s1 s2 p.most p.budget)
 clear_value w1
 exact ⟨s0, m.ld 0 rfl rfl, s1, m.ld 0 rfl rfl, s2, m.ld 0 rfl rfl, _, m.ld 0 rfl rfl, _, m.ld 0 rfl rfl, best_spec hp h p.lots [] [] [] w1 _ _ _ m.1 rfl rfl Vw.nil Vw.nil (by simp) fun w' s hw hs => hK w' s (m.1.t hw) hs⟩
end
end Go.Proofs.YtfpobpjandjhjaaGreatDoor
namespace Go.Proofs.YtfpobpjandjhjaaGreatDoor
open Go Pw
def NdV (w : World) (c : NdC) (n : Nd) : Prop := (c.lot = n.lot /\ c.num = n.num /\ c.den = n.den) /\ VI w c.nx n.next /\ I64 n.num /\ I64 n.den
structure NV (w : World) (s : Sl) (N : List Nd) : Prop where
 nds : ∃ cs : List NdC, Vw 4 encN w s cs /\ cs.length = N.length /\ ∀ (i : Nat) c n, cs[i]? = some c -> N[i]? = some n -> NdV w c n
 lt : N.length < 2 ^ 47
theorem NV.fr {w w' : World} {s : Sl} {N : List Nd} (h : NV w s N) (hf : Fr F0 w w') : NV w' s N := by
 obtain ⟨⟨cs, h1, h2, h3⟩, h4⟩ := h
 exact ⟨⟨cs, h1.fr hf, h2, fun i c n hc hn => ⟨(h3 i c n hc hn).1, (h3 i c n hc hn).2.1.fr hf, (h3 i c n hc hn).2.2⟩⟩, h4⟩
theorem NV.len {w : World} {s : Sl} {N : List Nd} (h : NV w s N) : s.l = N.length := by
 obtain ⟨⟨cs, h1, h2, _⟩, _⟩ := h
 rw [h1.len, h2]
def be : Bool -> List Value := fun b => [.bool b]
@[simp] theorem be_length (b : Bool) : (be b).length = 1 := rfl
def kidsB (W : List Int -> Int -> List Bool -> Bool × List Bool) (n : Int) (f : List Int) : List Int -> List Int -> List Bool -> Bool × List Bool
 | o :: os, k :: ks, seen => if k <= n then (false, seen) else
   if (W (f ++ [o]) k seen).1 then kidsB W n f os ks (W (f ++ [o]) k seen).2 else (false, (W (f ++ [o]) k seen).2)
 | _, _, seen => (true, seen)
def walkB (p : Pr) (N : List Nd) (T : List Int) : List Int -> List Int -> Int -> List Bool -> Bool × List Bool
 | ls, f, n, seen => match (if 0 <= n then N[n.toNat]? else none) with
  | none => (false, seen)
  | some x => if seen.getD n.toNat true then (false, seen) else
   if x.next = [] then (closedB p f x.num x.den T, seen.set n.toNat true) else
   match ls with
   | [] => (false, seen.set n.toNat true)
   | lot :: ls => if x.lot ≠ f.length \/ x.next.length ≠ (opts p lot).length then (false, seen.set n.toNat true)
    else kidsB (walkB p N T ls) n f (opts p lot) x.next (seen.set n.toNat true)
end Go.Proofs.YtfpobpjandjhjaaGreatDoor
namespace Pw
open Go
theorem Fr.any {F : Nat -> Prop} {w w' : World} (h : Fr F0 w w') : Fr F w w' := ⟨h.1, fun b hb _ => h.2.1 b hb fun h => h, h.2.2⟩
theorem Sp.mk'' {α : Type} {n : Nat} {enc : α -> List Value} {w0 w : World} {s : Sl} {l : List α} {L : List (Nat × List Value)} {B : Nat -> Prop} {Q : World -> Prop} (h : Sp w0 w L B Q n enc s l) : Mk w0 n enc w s l := ⟨h.m.1, h.ow, fun b hb => (h.os b hb).1⟩
theorem Fr.comp {F : Nat -> Prop} {w w' w2 : World} (h : Fr F w w') (h' : Fr F w' w2) : Fr F w w2 := h.trans h' fun _ hb _ => hb
end Pw
namespace Go.Proofs.YtfpobpjandjhjaaGreatDoor
open Go Pw
section
variable {w w' w0 : World} {s : Sl} {l : List Bool} {N : List Nd}
theorem NV.ld {i : Int} {K : Addr -> Prop} (h : NV w0 s N) (hf : Fr F0 w0 w) (i' : Nat) (hi : i = (i' : Int)) (h1 : i' < N.length)
  (hK : ∀ (a : Addr) (nx : Sl), VI w0 nx N[i'].next -> (w.cell? (a.add (i.toNat * 4)) = some (.int .i64 N[i'].lot) /\ w.cell? ((a.add (i.toNat * 4)).add 1) = some (.int .i64 N[i'].num) /\ w.cell? ((a.add (i.toNat * 4)).add 2) = some (.int .i64 N[i'].den) /\ w.cell? ((a.add (i.toNat * 4)).add 3) = some (.slice nx.p nx.l nx.c)) -> K a) :
  nz s.p fun a => (0 <= i /\ i < (s.l : Nat)) /\ K a := by
 subst hi
 have hl := h.len
 obtain ⟨⟨cs, hv, hcl, hn⟩, _⟩ := h
 have h2 : i' < cs.length := by omega
 obtain ⟨⟨e1, e2, e3⟩, hx, _⟩ := hn i' _ _ (List.getElem?_eq_getElem h2) (List.getElem?_eq_getElem h1)
 obtain ⟨ad, hp, hc⟩ := (hv.fr hf).at (fun a => encN_length a) (List.getElem?_eq_getElem h2) (by decide)
 rw [hp]
 refine ⟨⟨by omega, by omega⟩, hK _ cs[i'].nx hx ⟨?_, ?_, ?_, ?_⟩⟩
 ·rw [← e1]; exact hc 0 _ rfl
 ·rw [← e2]; exact hc 1 _ rfl
 ·rw [← e3]; exact hc 2 _ rfl
 ·exact hc 3 _ rfl
theorem NV.i64 (h : NV w s N) {x : Nd} (hx : x ∈ N) : I64 x.num /\ I64 x.den := by
 obtain ⟨⟨cs, hv, hcl, hn⟩, _⟩ := h
 obtain ⟨i, hi, rfl⟩ := List.mem_iff_getElem.1 hx
 obtain ⟨_, _, h2, h3⟩ := hn i _ _ (List.getElem?_eq_getElem (by omega)) (List.getElem?_eq_getElem hi)
 exact ⟨h2, h3⟩
theorem kidsB_len {W : List Int -> Int -> List Bool -> Bool × List Bool} {n : Int} {f : List Int} {c : Nat} (hW : ∀ g k seen, seen.length = c -> (W g k seen).2.length = c) : ∀ (os ks : List Int) (seen : List Bool), seen.length = c -> (kidsB W n f os ks seen).2.length = c
 | [], [], _, h => h
 | [], _ :: _, _, h => h
 | _ :: _, [], _, h => h
 | o :: os, k :: ks, seen, h => by
  unfold kidsB
  split
  ·exact h
  ·split
   ·exact kidsB_len hW os ks _ (hW _ _ _ h)
   ·exact hW _ _ _ h
theorem walkB_len {p : Pr} {T : List Int} {c : Nat} : ∀ (ls f : List Int) (n : Int) (seen : List Bool), seen.length = c -> (walkB p N T ls f n seen).2.length = c := by
 intro ls
 induction ls with
 | nil =>
  intro f n seen h
  unfold walkB
  split
  ·exact h
  ·split
   ·exact h
   ·split <;> simpa using h
 | cons lot ls ih =>
  intro f n seen h
  unfold walkB
  split
  ·exact h
  ·split
   ·exact h
   ·split
    ·simpa using h
    ·simp only
     split
     ·simpa using h
     ·exact kidsB_len ih _ _ _ (by simpa using h)
end
section
variable {w w' w0 : World} {s0 s1 s2 t5 ns : Sl} {p : Pr} {T : List Int} {N : List Nd} {pts bnd : Int}
abbrev rsC (t5 : Sl) (pts bnd : Int) (ns : Sl) : List Value := [.slice t5.p t5.l t5.c, .int .i64 pts, .int .i64 bnd, .slice ns.p ns.l ns.c]
theorem decs_snoc {p : Pr} : ∀ {ds ls f : List Int} {lot o : Int}, Decs p (ds ++ lot :: ls) f -> f.length = ds.length -> Dec p lot o -> Decs p (ds ++ lot :: ls) (f ++ [o])
 | [], ls, [], lot, o, _, _, ho => ⟨ho, by cases ls <;> trivial⟩
 | [], _, _ :: _, _, _, _, h, _ => by simp at h
 | _ :: _, _, [], _, _, _, h, _ => by simp at h
 | d :: ds, ls, x :: f, lot, o, h, hl, ho => ⟨h.1, decs_snoc h.2 (by simpa using hl) ho⟩
end
end Go.Proofs.YtfpobpjandjhjaaGreatDoor
namespace Go.Proofs.YtfpobpjandjhjaaGreatDoor
open Go Pw
def proofB (p : Pr) (N : List Nd) (T : List Int) : Bool := (rightB p && permB p T) && ((walkB p N T p.lots [] 0 (List.replicate N.length false)).1 && (walkB p N T p.lots [] 0 (List.replicate N.length false)).2.all id)
def mkd (l : List Bool) (a b : Nat) : List Bool := l.mapIdx fun i x => if a <= i /\ i < b then true else x
theorem mkd_len (l : List Bool) (a b : Nat) : (mkd l a b).length = l.length := by simp [mkd]
theorem mkd_get (l : List Bool) (a b i : Nat) : (mkd l a b)[i]? = (l[i]?).map fun x => if a <= i /\ i < b then true else x := by simp [mkd]
theorem mkd_self (l : List Bool) (a : Nat) : mkd l a a = l := by
 apply List.ext_getElem?
 intro i
 rw [mkd_get]
 cases l[i]? with
 | none => rfl
 | some x => simp only [Option.map_some]; rw [if_neg (by omega)]
theorem mkd_set (l : List Bool) {n m : Nat} (h : n < m) : mkd (l.set n true) (n + 1) m = mkd l n m := by
 apply List.ext_getElem?
 intro i
 rw [mkd_get, mkd_get, List.getElem?_set]
 by_cases hi : n = i
 ·subst hi
  by_cases hl : n < l.length
  ·rw [if_pos rfl, if_pos hl, List.getElem?_eq_getElem hl]
   simp only [Option.map_some]
   rw [if_neg (by omega), if_pos (by omega)]
  ·rw [if_pos rfl, if_neg hl, List.getElem?_eq_none (by omega)]
   rfl
 ·rw [if_neg hi]
  cases l[i]? with
  | none => rfl
  | some x =>
   simp only [Option.map_some]
   by_cases g : n + 1 <= i /\ i < m
   ·rw [if_pos g, if_pos (by omega)]
   ·rw [if_neg g, if_neg (by omega)]
end Go.Proofs.YtfpobpjandjhjaaGreatDoor

