/- The reference's Crowded, Permitted, Value, Greater, Better, options. Conditions: none. -/
import Derived.Test.YtmkjcheafdionaaGreatCF1
namespace Pw
open Go
theorem Sp.one {α : Type} {n : Nat} {enc : α -> List Value} {w0 w : World} {L : List (Nat × List Value)} {a : α} {e : TypeId} (hn : ∀ a, (enc a).length = n) (h : Mem w0 w L) : Sp w0 (w.alloc (Obj.cells (enc a).toArray e)) L (fun _ => False) (fun _ => True) n enc ⟨some ⟨w.heap.size, 0, none⟩, 1, 1⟩ [a] := by
 refine ⟨h.fr Fr.alloc, Rests.top, trivial, fun _ hb => hb.elim, Row.ow hn (l := [a]) (by simpa using Row.new), fun b ⟨x, ha, hb⟩ => ?_⟩
 cases ha
 subst hb
 exact ⟨h.1.1, fun h => h, fun p hp e => by have := (h.2.1 p hp).lt; simp only at e; omega⟩
end Pw
namespace Go.Proofs.YtmkjcheafdionaaGreat
open Go Pw
section
variable {w wB : World} {s t s0 s1 s2 s5 t5 : Sl} {a b l f g : List Int} {p : Pr} {pb : Nat}
theorem dec_lt {i : Nat} (hd : Decs p p.lots f) (hi : i < f.length) (h0 : 0 <= f[i]) : f[i].toNat < p.ch.length := by
 obtain ⟨_, q⟩ := decs_at hd hi
 rcases q with q | ⟨c, q, _⟩
 ·omega
 ·obtain ⟨_, q2, _⟩ := chAt_some q; exact q2
def cntB (p : Pr) (f : List Int) (i k : Nat) : Nat := match chAt p (f.getD i 0) with
 | some c => (took p (f.take k)).countP (fun d => d.bid == c.bid)
 | none => 0
theorem cntB_succ {i k : Nat} (hk : k < f.length) : cntB p f i (k + 1) = cntB p f i k + (match chAt p (f.getD i 0), chAt p f[k] with | some c, some d => if c.bid = d.bid then 1 else 0 | _, _ => 0) := by
 unfold cntB
 cases chAt p (f.getD i 0) with
 | none => rfl
 | some c =>
  rw [took_succ hk]
  cases chAt p f[k] with
  | none => simp
  | some d =>
   simp only [List.countP_append, List.countP_cons, List.countP_nil]
   by_cases h : c.bid = d.bid
   ·simp [h]
   ·have : ¬ d.bid = c.bid := fun e => h e.symm
    simp [h, this]
theorem Crowded_l1 {i : Nat} {N0 : Sl -> Addr -> Int -> World -> Prop} {K : Bool -> World -> Prop} (hp : RightPr p) (h : PF wB s0 s1 s2 s5 p f) (hd : Decs p p.lots f) (hB : Fr F0 wB w) (hi : i < f.length)
  (hpr : Row w pb (prC s0 s1 s2 p.most p.budget)) (hT : 0 < p.most /\ p.most < cntB p f i f.length -> ∀ w', Fr F0 w w' -> K true w') (hF : ¬ (0 < p.most /\ p.most < cntB p f i f.length) -> ∀ w', Fr F0 w w' -> N0 s5 ⟨pb, 0, none⟩ ((i : Int) + 1) w') :
  z0z_l1 s5 ⟨pb, 0, none⟩ i 0 0 N0 K w := by
 have el := h.tk.len
 have hl12 := right_len hp hd
 have e1 := h.pv.ch.len
 have hgi : f.getD i 0 = f[i] := by simp [hi]
 refine ⟨⟨fun n k w' => ∃ k' : Nat, k = k' /\ k' <= f.length /\ n = cntB p f i k' /\ Fr F0 w w', fun _ k _ => f.length - k.toNat, ⟨0, rfl, by omega, by unfold cntB; cases chAt p (f.getD i 0) <;> simp [took], Fr.refl⟩, ?_⟩⟩
 rintro n k w1 ⟨k, rfl, hk, rfl, hf⟩
 have hcb : cntB p f i k <= 12 := by
  unfold cntB
  split
  ·exact Nat.le_trans (List.countP_le_length) (Nat.le_trans (took_len _) (by simp; omega))
  ·omega
 unfold z0z_b1
 rw [cnd_prop]
 refine ⟨fun hlt => ?_, fun hge => ?_⟩
 ·have hkf : k < f.length := by omega
  have hs := cntB_succ (p := p) (i := i) hkf
  rw [hgi] at hs
  intro w2
  have hf2 : Fr F0 w w2 := hf.t Fr.drew
  clear_value w2
  have h2 := h.fr (hB.t hf2)
  have hp2 := hf2.row hpr fun h => h
  refine VI.ld h2.tk i rfl hi ?_
  rw [cnd_prop]
  refine ⟨fun h0 => VI.ld h2.tk k rfl hkf ?_, fun h0 => ?_⟩
  ·have hci := dec_lt hd hi h0
   rw [chAt_get h0 hci] at hs
   rw [cnd_prop]
   refine ⟨fun h3 => ?_, fun h3 => ?_⟩
   ·have hck := dec_lt hd hkf h3
    rw [chAt_get h3 hck] at hs
    simp only at hs
    refine ⟨s1, hp2.at rfl, VI.ld h2.tk i rfl hi (VC.ld h2.pv.ch f[i].toNat (by omega) hci fun x hc => ?_)⟩
    obtain ⟨_, c1, _, _⟩ := hc w2 Fr.refl
    refine ⟨_, c1, s1, hp2.at rfl, VI.ld h2.tk k rfl hkf (VC.ld h2.pv.ch f[k].toNat (by omega) hck fun y hc' => ?_)⟩
    obtain ⟨_, d1, _, _⟩ := hc' w2 Fr.refl
    refine ⟨_, d1, ?_⟩
    rw [cnd_beq]
    refine ⟨fun he => ?_, fun hne => ?_⟩
    ·rw [if_pos he] at hs
     exact ⟨inR64 (by omega) (by omega), inR64 (by omega) (by omega), ⟨⟨rfl, rfl, rfl, trivial⟩, k + 1, by omega, by omega, by omega, hf2⟩, by dsimp only; omega⟩
    ·rw [if_neg hne] at hs
     exact ⟨inR64 (by omega) (by omega), ⟨⟨rfl, rfl, rfl, trivial⟩, k + 1, by omega, by omega, by omega, hf2⟩, by dsimp only; omega⟩
   ·rw [chAt_neg h3] at hs
    simp only at hs
    exact ⟨inR64 (by omega) (by omega), ⟨⟨rfl, rfl, rfl, trivial⟩, k + 1, by omega, by omega, by omega, hf2⟩, by dsimp only; omega⟩
  ·rw [chAt_neg h0] at hs
   simp only at hs
   exact ⟨inR64 (by omega) (by omega), ⟨⟨rfl, rfl, rfl, trivial⟩, k + 1, by omega, by omega, by omega, hf2⟩, by dsimp only; omega⟩
 ·have : k = f.length := by omega
  subst this
  have hp2 := hf.row hpr fun h => h
  refine ⟨_, hp2.at rfl, ?_⟩
  rw [cnd_prop]
  refine ⟨fun h1 => ⟨_, hp2.at rfl, ?_⟩, fun h1 => ⟨inR64 (by omega) (by omega), hF (fun q => h1 q.1) w1 hf⟩⟩
  rw [cnd_prop]
  exact ⟨fun h2 => hT ⟨h1, h2⟩ w1 hf, fun h2 => ⟨inR64 (by omega) (by omega), hF (fun q => h2 q.2) w1 hf⟩⟩
theorem refCrowded_spec {K : Bool -> World -> Prop} (hp : RightPr p) (h : PF w s0 s1 s2 s5 p f) (hd : Decs p p.lots f) (hK : ∀ w', Fr F0 w w' -> K (crowdB p f) w') : z0z_sh s0 s1 s2 p.most p.budget s5 K w := by
 have el := h.tk.len
 have hl12 := right_len hp hd
 have hcase : ∀ i, i < f.length -> (0 < p.most /\ p.most < cntB p f i f.length) -> crowdB p f = true := fun i hi q => by
  unfold cntB at q
  have hgi : f.getD i 0 = f[i] := by simp [hi]
  rw [hgi, List.take_length] at q
  cases hc : chAt p f[i] with
  | none => rw [hc] at q; simp at q; omega
  | some c =>
   rw [hc] at q
   exact crowdB_iff.2 ⟨q.1, c.bid, q.2⟩
 refine ⟨?_⟩
 unfold z0z_sd
 intro w1
 have m : Mem w w1 _ := Mem.nil.allocL (cs := prC s0 s1 s2 p.most p.budget)
 clear_value w1
 have hpr := m.row 0 rfl
 refine ⟨⟨fun i w' => ∃ i' : Nat, i = i' /\ i' <= f.length /\ Fr F0 w1 w' /\ ∀ j < i', ¬ (0 < p.most /\ p.most < cntB p f j f.length), fun i _ => f.length - i.toNat, ⟨0, rfl, by omega, Fr.refl, fun j hj => by omega⟩, ?_⟩⟩
 rintro i w2 ⟨i, rfl, hi, hf, hin⟩
 unfold z0z_b0
 rw [cnd_prop]
 refine ⟨fun hlt => ?_, fun hge => ?_⟩
 ·have hif : i < f.length := by omega
  refine Crowded_l1 hp h hd (m.1.t hf) hif (hf.row hpr fun h => h) (fun q w' hw => ?_) fun q w' hw => ⟨⟨⟨rfl, rfl, trivial⟩, i + 1, by omega, by omega, hf.t hw, fun j hj => ?_⟩, by dsimp only; omega⟩
  ·have hk := hK w' (m.1.t (hf.t hw))
   rwa [hcase i hif q] at hk
  ·rcases Nat.lt_succ_iff_lt_or_eq.1 hj with hj | rfl
   ·exact hin j hj
   ·exact q
 ·have : i = f.length := by omega
  subst this
  have hk := hK w2 (m.1.t hf)
  cases hc : crowdB p f with
  | false => rwa [hc] at hk
  | true =>
   exfalso
   obtain ⟨h0, bd, hb⟩ := crowdB_iff.1 hc
   have hpos : 0 < (took p f).countP (fun d => d.bid == bd) := by omega
   obtain ⟨c, hcm, hcb⟩ := List.countP_pos_iff.1 hpos
   obtain ⟨n, hn, hnc⟩ := List.mem_filterMap.1 hcm
   obtain ⟨j, hj, rfl⟩ := List.mem_iff_getElem.1 hn
   refine hin j hj ⟨h0, ?_⟩
   unfold cntB
   have hgj : f.getD j 0 = f[j] := by simp [hj]
   rw [hgj, hnc, List.take_length]
   have : c.bid = bd := by simpa using hcb
   subst this
   exact hb
theorem refPermitted_spec {K : Bool -> World -> Prop} (h : PF w s0 s1 s2 s5 p f) (hK : ∀ w', Fr F0 w w' -> K (rightB p && permB p f) w') : z0h_sh s0 s1 s2 p.most p.budget s5 K w := by
 refine ⟨?_⟩
 unfold z0h_sd
 intro w1
 have m : Mem w w1 _ := Mem.nil.allocL (cs := prC s0 s1 s2 p.most p.budget)
 clear_value w1
 refine ⟨s0, m.ld 0 rfl rfl, s1, m.ld 0 rfl rfl, s2, m.ld 0 rfl rfl, _, m.ld 0 rfl rfl, _, m.ld 0 rfl rfl, take_spec (h.fr m.1) fun w7 hf => ?_⟩
 have m := m.fr hf
 intro w9
 have m : Mem w w9 _ := m.drew
 clear_value w9
 refine ⟨fun u => Row u w.heap.size (prC s0 s1 s2 p.most p.budget), m.row 0 rfl, ?_⟩
 unfold permB at hK
 refine cnd_iff.2 ⟨fun hy => ?_, fun hn => ?_⟩
 ·obtain ⟨er, ef⟩ := Bool.and_eq_true_iff.1 hy
  have hp := rightB_iff.1 er
  have hd := fitsB_decs ef
  rw [er, ef, Bool.true_and, Bool.true_and] at hK
  refine ⟨s0, fun u hu => hu.at rfl, s1, fun u hu => hu.at rfl, s2, fun u hu => hu.at rfl, _, fun u hu => hu.at rfl, _, fun u hu => hu.at rfl, _, fun u hu => hu.at rfl, refLeast_spec hp (h.fr m.1) hd fun w17 hf => ?_⟩
  have m := m.fr hf
  refine ⟨m.row 0 rfl, ?_⟩
  rw [cnd_prop]
  refine ⟨fun hle => ?_, fun hgt => ?_⟩
  ·rw [decide_eq_true hle, Bool.true_and] at hK
   refine ⟨s0, fun u hu => hu.at rfl, s1, fun u hu => hu.at rfl, s2, fun u hu => hu.at rfl, _, fun u hu => hu.at rfl, _, fun u hu => hu.at rfl, refCrowded_spec hp (h.fr m.1) hd fun w24 hf => ?_⟩
   have m := m.fr hf
   exact ⟨m.row 0 rfl, hK w24 m.1⟩
  ·rw [decide_eq_false hgt, Bool.false_and] at hK
   exact hK w17 m.1
 ·have hk := hK w9 m.1
  rw [← Bool.and_assoc, hn, Bool.false_and] at hk
  exact hk
theorem refValue_spec {K : Int -> World -> Prop} (hp : RightPr p) (h : PF w s0 s1 s2 s5 p f) (hfit : fitsB p f = true) (hK : ∀ w', Fr F0 w w' -> K (worth p f) w') : z1v_sh s0 s1 s2 p.most p.budget s5 K w := by
 have hd := fitsB_decs hfit
 have hbu := hp.budget
 have ⟨b1, b2⟩ : 0 <= p.budget /\ p.budget <= 1000000000 := hbu
 obtain ⟨q1, q2, q3, q4⟩ := worth_bound hp hd
 have ep : pointsR p (rightB p) (fitsB p f) f = ptsOf p f := by
  unfold pointsR
  rw [rightB_iff.2 hp, hfit]
  rfl
 refine ⟨?_⟩
 unfold z1v_sd
 intro w1
 have m : Mem w w1 _ := Mem.nil.allocL (cs := prC s0 s1 s2 p.most p.budget)
 clear_value w1
 intro w2
 have m : Mem w w2 _ := m.drew
 clear_value w2
 refine ⟨fun u => Row u w.heap.size (prC s0 s1 s2 p.most p.budget), m.row 0 rfl, s0, fun u hu => hu.at rfl, s1, fun u hu => hu.at rfl, s2, fun u hu => hu.at rfl, _, fun u hu => hu.at rfl, _, fun u hu => hu.at rfl, _, fun u hu => hu.at rfl, inR64 (by omega) (by omega), s0, fun u hu => hu.at rfl, s1, fun u hu => hu.at rfl, s2, fun u hu => hu.at rfl, _, fun u hu => hu.at rfl, _, fun u hu => hu.at rfl, refPoints_spec (h.fr m.1) fun w15 hf => ?_⟩
 have m := m.fr hf
 rw [ep]
 refine ⟨m.row 0 rfl, inR64 (by omega) (by omega), refLeast_spec hp (h.fr m.1) hd fun w17 hf => ?_⟩
 have m := m.fr hf
 have hk := hK w17 m.1
 unfold worth at hk q3 q4
 exact ⟨m.row 0 rfl, inR64 (by omega) (by omega), hk⟩
theorem refGreater_spec {K : Bool -> World -> Prop} (ha : VI w s a) (hb : VI w t b) (hla : a.length < 2 ^ 63) (hK : ∀ w', Fr F0 w w' -> K (gtL a b) w') : z10_sh s t K w := by
 have ea := ha.len
 have eb := hb.len
 refine ⟨?_⟩
 unfold z10_sd
 refine ⟨⟨fun i w' => ∃ i' : Nat, i = i' /\ i' <= a.length /\ Fr F0 w w' /\ gtL a b = gtL (a.drop i') (b.drop i'), fun i _ => a.length - i.toNat, ⟨0, rfl, by omega, Fr.refl, rfl⟩, ?_⟩⟩
 rintro i w1 ⟨i, rfl, hi, hf, hg⟩
 unfold z10_b0
 rw [cnd_prop]
 refine ⟨fun hlt => ?_, fun hge => ?_⟩
 ·have hia : i < a.length := by omega
  rw [cnd_prop]
  refine ⟨fun hlt2 => ?_, fun hge2 => ?_⟩
  ·have hib : i < b.length := by omega
   rw [List.drop_eq_getElem_cons hia, List.drop_eq_getElem_cons hib, gtL] at hg
   intro w2
   have hf2 : Fr F0 w w2 := hf.t Fr.drew
   clear_value w2
   refine VI.ld (ha.fr hf2) i rfl hia (VI.ld (hb.fr hf2) i rfl hib ?_)
   rw [cnd_bne]
   refine ⟨fun hne => ?_, fun he => ?_⟩
   ·rw [if_neg hne] at hg
    intro w3
    have hf3 : Fr F0 w w3 := hf2.t Fr.drew
    clear_value w3
    refine VI.ld (ha.fr hf3) i rfl hia (VI.ld (hb.fr hf3) i rfl hib ?_)
    have hk := hK w3 hf3
    rwa [hg] at hk
   ·rw [if_pos he] at hg
    exact ⟨inR64 (by omega) (by omega), ⟨⟨rfl, rfl, trivial⟩, i + 1, by omega, by omega, hf2, hg⟩, by dsimp only; omega⟩
  ·rw [List.drop_of_length_le (show b.length <= i by omega)] at hg
   have hk := hK w1 hf
   rw [hg] at hk
   have e : gtL (a.drop i) [] = false := by cases a.drop i <;> rfl
   rwa [e] at hk
 ·rw [List.drop_of_length_le (show a.length <= i by omega)] at hg
  have hk := hK w1 hf
  rw [hg] at hk
  exact hk
theorem perm_fits {p : Pr} {f : List Int} (h : permB p f = true) : fitsB p f = true := (Bool.and_eq_true_iff.1 h).1
theorem refBetter_spec {K : Bool -> World -> Prop} (ha : PF w s0 s1 s2 s5 p a) (hb : PF w s0 s1 s2 t5 p b) (hK : ∀ w', Fr F0 w w' -> K (betterR p a b) w') : z1a_sh s0 s1 s2 p.most p.budget s5 t5 K w := by
 refine ⟨?_⟩
 unfold z1a_sd
 intro w1
 have m : Mem w w1 _ := Mem.nil.allocL (cs := prC s0 s1 s2 p.most p.budget)
 clear_value w1
 refine ⟨s0, m.ld 0 rfl rfl, s1, m.ld 0 rfl rfl, s2, m.ld 0 rfl rfl, _, m.ld 0 rfl rfl, _, m.ld 0 rfl rfl, refPermitted_spec (ha.fr m.1) fun w7 hf => ?_⟩
 have m := m.fr hf
 refine ⟨s0, m.ld 0 rfl rfl, s1, m.ld 0 rfl rfl, s2, m.ld 0 rfl rfl, _, m.ld 0 rfl rfl, _, m.ld 0 rfl rfl, refPermitted_spec (hb.fr m.1) fun w14 hf => ?_⟩
 have m := m.fr hf
 unfold betterR at hK
 refine cnd_iff.2 ⟨fun hn => ?_, fun hy => ?_⟩
 ·have hk := hK w14 m.1
  have e : (rightB p && permB p a) = false := by
   cases hq : (rightB p && permB p a) with
   | false => rfl
   | true => rw [hq] at hn; cases hn
  rw [← Bool.and_assoc, e, Bool.false_and] at hk
  rw [e]
  exact hk
 ·have e : (rightB p && permB p a) = true := by
   cases hq : (rightB p && permB p a) with
   | true => rfl
   | false => rw [hq] at hy; cases hy
  obtain ⟨er, ea⟩ := Bool.and_eq_true_iff.1 e
  have hp := rightB_iff.1 er
  rw [er, ea, Bool.true_and, Bool.true_and] at hK
  refine cnd_iff.2 ⟨fun hn => ?_, fun hy2 => ?_⟩
  ·have e2 : permB p b = false := by
    cases hq : permB p b with
    | false => rfl
    | true => rw [er, hq] at hn; cases hn
   have hk := hK w14 m.1
   rw [e2] at hk
   rw [er, ea]
   exact hk
  ·have e2 : permB p b = true := by
    cases hq : permB p b with
    | true => rfl
    | false => rw [hq, Bool.and_false] at hy2; cases hy2
   rw [e2, Bool.not_true, Bool.false_or] at hK
   refine ⟨s0, m.ld 0 rfl rfl, s1, m.ld 0 rfl rfl, s2, m.ld 0 rfl rfl, _, m.ld 0 rfl rfl, _, m.ld 0 rfl rfl, refValue_spec hp (ha.fr m.1) (perm_fits ea) fun w21 hf => ?_⟩
   have m := m.fr hf
   refine ⟨s0, m.ld 0 rfl rfl, s1, m.ld 0 rfl rfl, s2, m.ld 0 rfl rfl, _, m.ld 0 rfl rfl, _, m.ld 0 rfl rfl, refValue_spec hp (hb.fr m.1) (perm_fits e2) fun w28 hf => ?_⟩
   have m := m.fr hf
   unfold btB at hK
   rw [cnd_prop]
   refine ⟨fun hg => ?_, fun hng => ?_⟩
   ·have hk := hK w28 m.1
    rw [decide_eq_true (show worth p b < worth p a from hg), Bool.true_or] at hk
    exact hk
   ·rw [decide_eq_false (show ¬ worth p b < worth p a from hng), Bool.false_or] at hK
    rw [cnd_beq]
    refine ⟨fun he => ?_, fun hne => ?_⟩
    ·rw [decide_eq_true he, Bool.true_and] at hK
     exact refGreater_spec (hb.fr m.1).tk (ha.fr m.1).tk hb.lt fun w30 hf => hK w30 (m.1.t hf)
    ·have hk := hK w28 m.1
     rw [decide_eq_false hne, Bool.false_and] at hk
     exact hk
end
end Go.Proofs.YtmkjcheafdionaaGreat
