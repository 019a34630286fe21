/- The reference's Crowded, Permitted, Value, Greater, Better, options. Conditions: none. -/
import Derived.Test.YtfpobpjandjhjaaDoorCFX
namespace Go.Proofs.YtfpobpjandjhjaaDoor
open Go Pw
section
variable {w wB : World} {s t s0 s1 s2 s5 t5 : Sl} {a b l f g : List Int} {p : Pr} {pb : Nat}
theorem dec_lt {i : Nat} (hd : Decs p p.lots f) (hi : i < f.length) (h0 : 0 <= f[i]) : f[i].toNat < p.ch.length := by
 obtain ⟨_, q⟩ := decs_at hd hi
 rcases q with q | ⟨c, q, _⟩
 ·omega
 ·obtain ⟨_, q2, _⟩ := chAt_some q; exact q2
def cntB (p : Pr) (f : List Int) (i k : Nat) : Nat := match chAt p (f.getD i 0) with
 | some c => (took p (f.take k)).countP (fun d => d.bid == c.bid)
 | none => 0
theorem cntB_succ {i k : Nat} (hk : k < f.length) : cntB p f i (k + 1) = cntB p f i k + (match chAt p (f.getD i 0), chAt p f[k] with | some c, some d => if c.bid = d.bid then 1 else 0 | _, _ => 0) := by
 unfold cntB
 cases chAt p (f.getD i 0) with
 | none => rfl
 | some c =>
  rw [took_succ hk]
  cases chAt p f[k] with
  | none => simp
  | some d =>
   simp only [List.countP_append, List.countP_cons, List.countP_nil]
   by_cases h : c.bid = d.bid
   ·simp [h]
   ·have : ¬ d.bid = c.bid := fun e => h e.symm
    simp [h, this]
theorem Crowded_l1 {i : Nat} {N0 : Sl -> Addr -> Int -> World -> Prop} {K : Bool -> World -> Prop} (hp : RightPr p) (h : PF wB s0 s1 s2 s5 p f) (hd : Decs p p.lots f) (hB : Fr F0 wB w) (hi : i < f.length)
  (hpr : Row w pb (prC s0 s1 s2 p.most p.budget)) (hT : 0 < p.most /\ p.most < cntB p f i f.length -> ∀ w', Fr F0 w w' -> K true w') (hF : ¬ (0 < p.most /\ p.most < cntB p f i f.length) -> ∀ w', Fr F0 w w' -> N0 s5 ⟨pb, 0, none⟩ ((i : Int) + 1) w') :
  z0b_l1 s5 ⟨pb, 0, none⟩ i 0 0 N0 K w := by
 have el := h.tk.len
 have hl12 := right_len hp hd
 have e1 := h.pv.ch.len
 have hgi : f.getD i 0 = f[i] := by simp [hi]
 refine ⟨⟨fun n k w' => ∃ k' : Nat, k = k' /\ k' <= f.length /\ n = cntB p f i k' /\ Fr F0 w w', fun _ k _ => f.length - k.toNat, ⟨0, rfl, by omega, by unfold cntB; cases chAt p (f.getD i 0) <;> simp [took], Fr.refl⟩, ?_⟩⟩
 rintro n k w1 ⟨k, rfl, hk, rfl, hf⟩
 have hcb : cntB p f i k <= 12 := by
  unfold cntB
  split
  ·exact Nat.le_trans (List.countP_le_length) (Nat.le_trans (took_len _) (by simp; omega))
  ·omega
 unfold z0b_b1
 rw [cnd_prop]
 refine ⟨fun hlt => ?_, fun hge => ?_⟩
 ·have hkf : k < f.length := by omega
  have hs := cntB_succ (p := p) (i := i) hkf
  rw [hgi] at hs
  intro w2
  have hf2 : Fr F0 w w2 := hf.t Fr.drew
  clear_value w2
  have h2 := h.fr (hB.t hf2)
  have hp2 := hf2.row hpr fun h => h
  refine VI.ld h2.tk i rfl hi ?_
  rw [cnd_prop]
  refine ⟨fun h0 => VI.ld h2.tk k rfl hkf ?_, fun h0 => ?_⟩
  ·have hci := dec_lt hd hi h0
   rw [chAt_get h0 hci] at hs
   rw [cnd_prop]
   refine ⟨fun h3 => ?_, fun h3 => ?_⟩
   ·have hck := dec_lt hd hkf h3
    rw [chAt_get h3 hck] at hs
    simp only at hs
    refine ⟨s1, hp2.at rfl, VI.ld h2.tk i rfl hi (VC.ld h2.pv.ch f[i].toNat (by omega) hci fun x hc => ?_)⟩
    obtain ⟨_, c1, _, _⟩ := hc w2 Fr.refl
    refine ⟨_, c1, s1, hp2.at rfl, VI.ld h2.tk k rfl hkf (VC.ld h2.pv.ch f[k].toNat (by omega) hck fun y hc' => ?_)⟩
    obtain ⟨_, d1, _, _⟩ := hc' w2 Fr.refl
    refine ⟨_, d1, ?_⟩
    rw [cnd_beq]
    refine ⟨fun he => ?_, fun hne => ?_⟩
    ·rw [if_pos he] at hs
     exact ⟨inR64 (by omega) (by omega), inR64 (by omega) (by omega), ⟨⟨rfl, rfl, rfl, trivial⟩, k + 1, by omega, by omega, by omega, hf2⟩, by dsimp only; omega⟩
    ·rw [if_neg hne] at hs
     exact ⟨inR64 (by omega) (by omega), ⟨⟨rfl, rfl, rfl, trivial⟩, k + 1, by omega, by omega, by omega, hf2⟩, by dsimp only; omega⟩
   ·rw [chAt_neg h3] at hs
    simp only at hs
    exact ⟨inR64 (by omega) (by omega), ⟨⟨rfl, rfl, rfl, trivial⟩, k + 1, by omega, by omega, by omega, hf2⟩, by dsimp only; omega⟩
  ·rw [chAt_neg h0] at hs
   simp only at hs
   exact ⟨inR64 (by omega) (by omega), ⟨⟨rfl, rfl, rfl, trivial⟩, k + 1, by omega, by omega, by omega, hf2⟩, by dsimp only; omega⟩
 ·have : k = f.length := by omega
  subst this
  have hp2 := hf.row hpr fun h => h
  refine ⟨_, hp2.at rfl, ?_⟩
  rw [cnd_prop]
  refine ⟨fun h1 => ⟨_, hp2.at rfl, ?_⟩, fun h1 => ⟨inR64 (by omega) (by omega), hF (fun q => h1 q.1) w1 hf⟩⟩
  rw [cnd_prop]
  exact ⟨fun h2 => hT ⟨h1, h2⟩ w1 hf, fun h2 => ⟨inR64 (by omega) (by omega), hF (fun q => h2 q.2) w1 hf⟩⟩
theorem refCrowded_spec {K : Bool -> World -> Prop} (hp : RightPr p) (h : PF w s0 s1 s2 s5 p f) (hd : Decs p p.lots f) (hK : ∀ w', Fr F0 w w' -> K (crowdB p f) w') : z0b_sh s0 s1 s2 p.most p.budget s5 K w := by
 have el := h.tk.len
 have hl12 := right_len hp hd
 have hcase : ∀ i, i < f.length -> (0 < p.most /\ p.most < cntB p f i f.length) -> crowdB p f = true := fun i hi q => by
  unfold cntB at q
  have hgi : f.getD i 0 = f[i] := by simp [hi]
  rw [hgi, List.take_length] at q
  cases hc : chAt p f[i] with
  | none => rw [hc] at q; simp at q; omega
  | some c =>
   rw [hc] at q
   exact crowdB_iff.2 ⟨q.1, c.bid, q.2⟩
 refine ⟨?_⟩
 unfold z0b_sd
 intro w1
 have m : Mem w w1 _ := Mem.nil.allocL (cs := prC s0 s1 s2 p.most p.budget)
 clear_value w1
 have hpr := m.row 0 rfl
 refine ⟨⟨fun i w' => ∃ i' : Nat, i = i' /\ i' <= f.length /\ Fr F0 w1 w' /\ ∀ j < i', ¬ (0 < p.most /\ p.most < cntB p f j f.length), fun i _ => f.length - i.toNat, ⟨0, rfl, by omega, Fr.refl, fun j hj => by omega⟩, ?_⟩⟩
 rintro i w2 ⟨i, rfl, hi, hf, hin⟩
 unfold z0b_b0
 rw [cnd_prop]
 refine ⟨fun hlt => ?_, fun hge => ?_⟩
 ·have hif : i < f.length := by omega
  refine Crowded_l1 hp h hd (m.1.t hf) hif (hf.row hpr fun h => h) (fun q w' hw => ?_) fun q w' hw => ⟨⟨⟨rfl, rfl, trivial⟩, i + 1, by omega, by omega, hf.t hw, fun j hj => ?_⟩, by dsimp only; omega⟩
  ·have hk := hK w' (m.1.t (hf.t hw))
   rwa [hcase i hif q] at hk
  ·rcases Nat.lt_succ_iff_lt_or_eq.1 hj with hj | rfl
   ·exact hin j hj
   ·exact q
 ·have : i = f.length := by omega
  subst this
  have hk := hK w2 (m.1.t hf)
  cases hc : crowdB p f with
  | false => rwa [hc] at hk
  | true =>
   exfalso
   obtain ⟨h0, bd, hb⟩ := crowdB_iff.1 hc
   have hpos : 0 < (took p f).countP (fun d => d.bid == bd) := by omega
   obtain ⟨c, hcm, hcb⟩ := List.countP_pos_iff.1 hpos
   obtain ⟨n, hn, hnc⟩ := List.mem_filterMap.1 hcm
   obtain ⟨j, hj, rfl⟩ := List.mem_iff_getElem.1 hn
   refine hin j hj ⟨h0, ?_⟩
   unfold cntB
   have hgj : f.getD j 0 = f[j] := by simp [hj]
   rw [hgj, hnc, List.take_length]
   have : c.bid = bd := by simpa using hcb
   subst this
   exact hb
theorem refPermitted_spec {K : Bool -> World -> Prop} (h : PF w s0 s1 s2 s5 p f) (hK : ∀ w', Fr F0 w w' -> K (rightB p && permB p f) w') : z05_sh s0 s1 s2 p.most p.budget s5 K w := by
 refine ⟨?_⟩
 unfold z05_sd
 intro w1
 have m : Mem w w1 _ := Mem.nil.allocL (cs := prC s0 s1 s2 p.most p.budget)
 clear_value w1
 refine ⟨s0, m.ld 0 rfl rfl, s1, m.ld 0 rfl rfl, s2, m.ld 0 rfl rfl, _, m.ld 0 rfl rfl, _, m.ld 0 rfl rfl, take_spec (h.fr m.1) fun w7 hf => ?_⟩
 have m := m.fr hf
 intro w9
 have m : Mem w w9 _ := m.drew
 clear_value w9
 refine ⟨fun u => Row u w.heap.size (prC s0 s1 s2 p.most p.budget), m.row 0 rfl, ?_⟩
 unfold permB at hK
 refine cnd_iff.2 ⟨fun hy => ?_, fun hn => ?_⟩
 ·obtain ⟨er, ef⟩ := Bool.and_eq_true_iff.1 hy
  have hp := rightB_iff.1 er
  have hd := fitsB_decs ef
  rw [er, ef, Bool.true_and, Bool.true_and] at hK
  refine ⟨s0, fun u hu => hu.at rfl, s1, fun u hu => hu.at rfl, s2, fun u hu => hu.at rfl, _, fun u hu => hu.at rfl, _, fun u hu => hu.at rfl, _, fun u hu => hu.at rfl, refLeast_spec hp (h.fr m.1) hd fun w17 hf => ?_⟩
  have m := m.fr hf
  refine ⟨m.row 0 rfl, ?_⟩
  rw [cnd_prop]
  refine ⟨fun hle => ?_, fun hgt => ?_⟩
  ·rw [decide_eq_true hle, Bool.true_and] at hK
   refine ⟨s0, fun u hu => hu.at rfl, s1, fun u hu => hu.at rfl, s2, fun u hu => hu.at rfl, _, fun u hu => hu.at rfl, _, fun u hu => hu.at rfl, refCrowded_spec hp (h.fr m.1) hd fun w24 hf => ?_⟩
   have m := m.fr hf
   exact ⟨m.row 0 rfl, hK w24 m.1⟩
  ·rw [decide_eq_false hgt, Bool.false_and] at hK
   exact hK w17 m.1
 ·have hk := hK w9 m.1
  rw [← Bool.and_assoc, hn, Bool.false_and] at hk
  exact hk
theorem refValue_spec {K : Int -> World -> Prop} (hp : RightPr p) (h : PF w s0 s1 s2 s5 p f) (hfit : fitsB p f = true) (hK : ∀ w', Fr F0 w w' -> K (worth p f) w') : z0m_sh s0 s1 s2 p.most p.budget s5 K w := by
 have hd := fitsB_decs hfit
 have hbu := hp.budget
 have ⟨b1, b2⟩ : 0 <= p.budget /\ p.budget <= 1000000000 := hbu
 obtain ⟨q1, q2, q3, q4⟩ := worth_bound hp hd
 have ep : pointsR p (rightB p) (fitsB p f) f = ptsOf p f := by
  unfold pointsR
  rw [rightB_iff.2 hp, hfit]
  rfl
 refine ⟨?_⟩
 unfold z0m_sd
 intro w1
 have m : Mem w w1 _ := Mem.nil.allocL (cs := prC s0 s1 s2 p.most p.budget)
 clear_value w1
 intro w2
 have m : Mem w w2 _ := m.drew
 clear_value w2
 refine ⟨fun u => Row u w.heap.size (prC s0 s1 s2 p.most p.budget), m.row 0 rfl, s0, fun u hu => hu.at rfl, s1, fun u hu => hu.at rfl, s2, fun u hu => hu.at rfl, _, fun u hu => hu.at rfl, _, fun u hu => hu.at rfl, _, fun u hu => hu.at rfl, inR64 (by omega) (by omega), s0, fun u hu => hu.at rfl, s1, fun u hu => hu.at rfl, s2, fun u hu => hu.at rfl, _, fun u hu => hu.at rfl, _, fun u hu => hu.at rfl, refPoints_spec (h.fr m.1) fun w15 hf => ?_⟩
 have m := m.fr hf
 rw [ep]
 refine ⟨m.row 0 rfl, inR64 (by omega) (by omega), refLeast_spec hp (h.fr m.1) hd fun w17 hf => ?_⟩
 have m := m.fr hf
 have hk := hK w17 m.1
 unfold worth at hk q3 q4
 exact ⟨m.row 0 rfl, inR64 (by omega) (by omega), hk⟩
theorem perm_fits {p : Pr} {f : List Int} (h : permB p f = true) : fitsB p f = true := (Bool.and_eq_true_iff.1 h).1
end
end Go.Proofs.YtfpobpjandjhjaaDoor
