/- combine: the memory of a search. Conditions: none. -/
import Derived.Test.YtfpobpjandjhjaaGreatDoorCXY
import Derived.Test.YtfpobpjandjhjaaGreatDoorPwQ
import Derived.Test.YtfpobpjandjhjaaGreatDoorCG2
import Derived.Test.YtfpobpjandjhjaaGreatDoorCXX
import Derived.Test.YtfpobpjandjhjaaGreatDoorRXZ
import Derived.Test.YtfpobpjandjhjaaGreatDoorCG5
namespace Pw
open Go
theorem Ow.row {w : World} {b : Nat} {l : List Int} (h : Row w b (l.map fun n => Value.int .i64 n)) : Ow 1 (ie .i64 id) w ⟨some ⟨b, 0, none⟩, l.length, l.length⟩ l := by
 refine ⟨rfl, ?_, .inr ⟨b, _, rfl, h, by simp, Nat.le_refl _, ?_⟩⟩
 ·simp [fm_length (fun a => ie_length IntKind.i64 (id : Int -> Int) a)]
 ·rw [show l.flatMap (ie .i64 id) = l.map fun n => Value.int .i64 n from fm_one (fun n => Value.int .i64 n) l]
  exact List.take_of_length_le (Nat.le_refl _)
end Pw
namespace Go.Proofs.YtfpobpjandjhjaaGreatDoor
open Go Pw
structure NdC where
 lot : Int
 num : Int
 den : Int
 nx : Sl
def encN (c : NdC) : List Value := [.int .i64 c.lot, .int .i64 c.num, .int .i64 c.den, .slice c.nx.p c.nx.l c.nx.c]
@[simp] theorem encN_length (c : NdC) : (encN c).length = 4 := rfl
theorem encN_ok (c : NdC) : ∀ v ∈ encN c, okC v = true := by intro v hv; simp [encN] at hv; rcases hv with rfl | rfl | rfl | rfl <;> rfl
abbrev OI (w : World) (s : Sl) (l : List Int) : Prop := Ow 1 (ie .i64 id) w s l
end Go.Proofs.YtfpobpjandjhjaaGreatDoor
namespace Go.Proofs.YtfpobpjandjhjaaGreatDoor
open Go Pw
section
variable {wB u u' : World} {l : List (Nat × List Value)} {R : List (Sl × List Int)} {O : List (Nat × Obj)} {ns t : Sl} {T : List Int} {cs : List NdC} {N : List Nd}
theorem flatMap_set_enc (cs : List NdC) (i k : Nat) (c d : NdC) (v : Value) (hi : cs[i]? = some c) (hk : k < 4) (hd : encN d = (encN c).set k v) : (cs.flatMap encN).set (i * 4 + k) v = (cs.set i d).flatMap encN := by
 induction cs generalizing i with
 | nil => simp at hi
 | cons x cs ih =>
  cases i with
  | zero =>
   simp only [List.getElem?_cons_zero, Option.some.injEq] at hi
   subst hi
   simp only [Nat.zero_mul, Nat.zero_add, List.flatMap_cons, List.set_cons_zero, hd]
   rw [List.set_append, if_pos (by simpa using hk)]
  | succ i =>
   simp only [List.getElem?_cons_succ] at hi
   simp only [List.flatMap_cons, List.set_cons_succ]
   rw [List.set_append, if_neg (by simp; omega)]
   have := ih i hi
   rw [← this]
   congr 2
   simp only [encN_length]
   omega
end
end Go.Proofs.YtfpobpjandjhjaaGreatDoor



namespace Go.Proofs.YtfpobpjandjhjaaGreatDoor
open Go Pw
section
variable {wB u w : World} {l : List (Nat × List Value)} {R : List (Sl × List Int)} {O : List (Nat × Obj)} {ns t take s0 s1 s2 : Sl} {p : Pr} {T f ds : List Int} {cs : List NdC} {N : List Nd} {left : Int} {jr jp jv sb spb vb fid : Nat} {row row' : List Value}
theorem opts_len (p : Pr) (lot : Int) : (opts p lot).length <= p.ch.length + 1 := by
 have : ∀ (l : List Ch) (i : Nat), (optsFrom lot i l).length <= l.length := by
  intro l
  induction l with
  | nil => intro i; simp [optsFrom]
  | cons c l ih =>
   intro i
   unfold optsFrom
   have := ih (i + 1)
   split <;> simp <;> omega
 have := this p.ch 0
 simp only [opts, List.length_cons]
 omega
end
end Go.Proofs.YtfpobpjandjhjaaGreatDoor

namespace Go.Proofs.YtfpobpjandjhjaaGreatDoor
open Go Pw
section
variable {w w' w0 : World} {s t : Sl} {L : List (Nat × List Value)} {l : List Int} {mb : Nat}
def nmC (s : Sl) (l : List Int) (i : Nat) : List Value := [.slice s.p s.l s.c, .int .i64 (min i l.length : Nat)]
theorem next_mem {i : Nat} {n : Int} {K : Int -> World -> Prop} (hv : VI w0 s l) (hl : l.length < 2 ^ 63) (m : Mem w0 w L) (j : Nat) (hj : L[j]? = some (mb, nmC s l i)) (hn0 : 0 < n) (hn : n < 4611686018427387904)
  (hK : ∀ w', Mem w0 w' (L.set j (mb, nmC s l (i + 1))) -> Fr (fun b => b = mb) w w' -> K (nv l i n) w') : z06_sh (some ⟨mb, 0, none⟩) n K w := by
 refine ⟨?_⟩
 unfold z06_sd
 have hlen := hv.len
 have hjl : j < L.length := (List.getElem?_eq_some_iff.1 hj).1
 intro w1
 have m1 : Mem w0 w1 _ := m.drew
 have hf1 : Fr (fun b => b = mb) w w1 := Fr.drew
 clear_value w1
 refine nz_iff.2 ⟨_, rfl, _, m1.ld j hj rfl, ?_⟩
 refine nz_iff.2 ⟨_, rfl, s, m1.ld j hj rfl, ?_⟩
 rw [cnd_prop]
 refine ⟨fun hge => ?_, fun hlt => ?_⟩
 ·have hil : l.length <= i := by omega
  have e : nmC s l (i + 1) = nmC s l i := by unfold nmC; rw [Nat.min_eq_right hil, Nat.min_eq_right (by omega)]
  have := hK w1 (by rw [e, set_self hj]; exact m1) hf1
  rwa [nv_out hil] at this
 ·have hil : i < l.length := by omega
  have hmin : min i l.length = i := by omega
  refine nz_iff.2 ⟨_, rfl, _, m1.ld j hj rfl, inR64 (by omega) (by omega), ?_⟩
  refine nz_iff.2 ⟨_, rfl, m1.wr j hj rfl, ?_⟩
  intro w2
  have m2 : Mem w0 w2 (L.set j (mb, [.slice s.p s.l s.c, .int .i64 ((min i l.length : Nat) + 1)])) := m1.set j hj
  have hf2 : Fr (fun b => b = mb) w1 w2 := Fr.set rfl
  clear_value w2
  have e : nmC s l (i + 1) = [.slice s.p s.l s.c, .int .i64 ((min i l.length : Nat) + 1)] := by
   unfold nmC
   rw [Nat.min_eq_left (by omega : i + 1 <= l.length), hmin]
   rfl
  rw [← e] at m2
  intro w3
  have m3 : Mem w0 w3 _ := m2.drew
  have hf3 : Fr (fun b => b = mb) w2 w3 := Fr.drew
  clear_value w3
  have hj3 : (L.set j (mb, nmC s l (i + 1)))[j]? = some (mb, nmC s l (i + 1)) := by simp [hjl]
  have hmin2 : min (i + 1) l.length = i + 1 := by omega
  refine ⟨fun u => Row u mb (nmC s l (i + 1)) /\ VI u s l, ⟨m3.row j hj3, hv.fr m3.1⟩, ?_⟩
  refine nz_iff.2 ⟨_, rfl, s, fun u hu => hu.1.at rfl, ?_⟩
  refine nz_iff.2 ⟨_, rfl, _, fun u hu => hu.1.at rfl, inR64 (by omega) (by omega), ?_⟩
  obtain ⟨ad, hp, _⟩ := hv.at (fun a => ie_length _ _ a) (List.getElem?_eq_getElem hil) (by decide)
  refine nz_iff.2 ⟨ad, hp, ⟨by omega, by omega⟩, l[i], fun u hu => ?_, ?_⟩
  ·obtain ⟨ad', hp', hc⟩ := hu.2.at (fun a => ie_length _ _ a) (List.getElem?_eq_getElem hil) (by decide)
   rw [hp] at hp'
   cases hp'
   have e2 : ((((min (i + 1) l.length : Nat) : Int)) - 1).toNat = i := by omega
   rw [e2]
   exact hc 0 _ rfl
  ·refine Mod_spec hn0 hn ⟨⟨m3.row j hj3, hv.fr m3.1⟩, ?_⟩
   have := hK w3 m3 ((hf1.trans hf2 fun _ h _ => h).trans hf3 fun _ h _ => h)
   unfold nv at this
   rw [List.getD_eq_getElem?_getD, List.getElem?_eq_getElem hil] at this
   exact this
theorem next_sp {α : Type} {k : Nat} {enc : α -> List Value} {xs : List α} {B : Nat -> Prop} {Q : World -> Prop} {i : Nat} {n : Int} {K : Int -> World -> Prop} (hv : VI w0 s l) (hl : l.length < 2 ^ 63) (h : Sp w0 w L B Q k enc t xs) (j : Nat) (hj : L[j]? = some (mb, nmC s l i)) (hn0 : 0 < n) (hn : n < 4611686018427387904)
  (hK : ∀ w', Sp w0 w' (L.set j (mb, nmC s l (i + 1))) B Q k enc t xs -> K (nv l i n) w') : z06_sh (some ⟨mb, 0, none⟩) n K w :=
 next_mem hv hl h.m j hj hn0 hn fun w' m hf => hK w' (h.setF hj hf m)
theorem range_succ_map {α : Type} (f : Nat -> α) (i : Nat) : (List.range (i + 1)).map f = (List.range i).map f ++ [f i] := by rw [List.range_succ, List.map_append]; rfl
theorem bit_code : ∀ m : Fin 16, ∀ k : Fin 4, ((IntKind.wrap .i64 (((BitVec.ofInt (IntKind.bits .i64) (Int.fdiv (m.val : Int) (2 ^ (min ((k.val : Int)).toNat (IntKind.bits .i64)))) &&& BitVec.ofInt (IntKind.bits .i64) (1 : Int))).toNat : Int)) == (1 : Int)) = bitI (m.val : Int) k.val := by decide +kernel
theorem pow_code : ∀ k : Fin 5, (IntKind.wrap .i64 ((1 : Int) * 2 ^ (min ((k.val : Int)).toNat (IntKind.bits .i64)))) = 2 ^ k.val := by decide +kernel
theorem Ints_spec {a b : List Int} {K : Bool -> World -> Prop} (ha : VI w s a) (hb : VI w t b) (hl : a.length < 2 ^ 63) (hK : ∀ w', Fr F0 w w' -> K (decide (a = b)) w') : z25_sh s t K w := by
 refine ⟨?_⟩
 unfold z25_sd
 have ea := ha.len; have eb := hb.len
 rw [cnd_bne]
 refine ⟨fun hne => ?_, fun heq => ?_⟩
 ·have := hK w Fr.refl
  rwa [decide_eq_false (by rintro rfl; omega)] at this
 ·have hlen : a.length = b.length := by omega
  refine ⟨⟨fun i w' => ∃ i' : Nat, i = i' /\ i' <= a.length /\ a.take i' = b.take i' /\ Fr F0 w w', fun i _ => a.length - i.toNat, ⟨0, rfl, by omega, rfl, Fr.refl⟩, ?_⟩⟩
  rintro i w1 ⟨i, rfl, hi, ht, hf⟩
  unfold z25_b0
  rw [cnd_prop]
  refine ⟨fun hlt => ?_, fun hge => ?_⟩
  ·have hlt : i < a.length := by omega
   intro w2
   have hf2 : Fr F0 w w2 := hf.t Fr.drew
   clear_value w2
   refine VI.ld (ha.fr hf2) i rfl hlt ?_
   refine VI.ld (hb.fr hf2) i rfl (by omega) ?_
   rw [cnd_bne]
   refine ⟨fun hne => ?_, fun he => ⟨inR64 (by omega) (by omega), ⟨⟨rfl, rfl, trivial⟩, i + 1, by omega, by omega, ?_, hf2⟩, by dsimp only; omega⟩⟩
   ·have := hK w2 hf2
    rwa [decide_eq_false (by rintro rfl; exact hne rfl)] at this
   ·rw [take_succ' hlt, take_succ' (by omega), ht, he]
  ·have : i = a.length := by omega
   subst this
   rw [List.take_length, List.take_of_length_le (by omega)] at ht
   have := hK w1 hf
   rwa [decide_eq_true ht] at this
theorem optsFrom_len {lot : Int} : ∀ (l : List Ch) (i : Nat), (optsFrom lot i l).length = l.countP (fun c => c.lot == lot)
 | [], _ => rfl
 | c :: l, i => by
  unfold optsFrom
  rw [List.countP_cons]
  by_cases h : c.lot = lot
  ·rw [if_pos h, List.length_cons, optsFrom_len l (i + 1)]
   simp [h]
  ·rw [if_neg h, optsFrom_len l (i + 1)]
   simp [h]
theorem Prefixes_spec {s0 s1 s2 : Sl} {p : Pr} {K : Int -> World -> Prop} (h : PV w s0 s1 s2 p) (hb : prefN p p.lots < 2 ^ 40) (hK : ∀ w', Fr F0 w w' -> K (prefN p p.lots) w') : z0p_sh s0 s1 s2 p.most p.budget K w := by
 refine ⟨?_⟩
 unfold z0p_sd
 have l0 := h.l0; have l1 := h.l1
 have e0 := h.lots.len; have e1 := h.ch.len
 intro w1
 have hf1 : Fr F0 w w1 := Fr.alloc
 have hr : Row w1 w.heap.size (prC s0 s1 s2 p.most p.budget) := Row.new
 clear_value w1
 refine ⟨⟨fun out now i w' => ∃ i' o n : Nat, i = i' /\ out = o /\ now = n /\ i' <= p.lots.length /\ o + n * (prefN p (p.lots.drop i') - 1) = prefN p p.lots /\ Fr F0 w1 w', fun _ _ i _ => p.lots.length - i.toNat,
  ⟨0, 1, 1, rfl, rfl, rfl, by omega, by rw [List.drop_zero]; have := prefN_pos p p.lots; omega, Fr.refl⟩, ?_⟩⟩
 rintro _ _ i w2 ⟨i, o, n, rfl, rfl, rfl, hi, hsum, hf2⟩
 unfold z0p_b0
 have hr2 := hf2.row hr fun h => h
 refine ⟨s0, hr2.at rfl, ?_⟩
 rw [cnd_prop]
 refine ⟨fun hlt => ?_, fun hge => ?_⟩
 ·have hlt : i < p.lots.length := by omega
  have hdrop : p.lots.drop i = p.lots[i] :: p.lots.drop (i + 1) := List.drop_eq_getElem_cons hlt
  rw [hdrop, prefN] at hsum
  have hpos := prefN_pos p (p.lots.drop (i + 1))
  have hol : (opts p p.lots[i]).length = 1 + p.ch.countP (fun c => c.lot == p.lots[i]) := by simp [opts, optsFrom_len]; omega
  have hcl := List.countP_le_length (p := fun c : Ch => c.lot == p.lots[i]) (l := p.ch)
  refine ⟨⟨fun m k w' => ∃ k' : Nat, k = k' /\ k' <= p.ch.length /\ m = ((1 + (p.ch.take k').countP (fun c => c.lot == p.lots[i]) : Nat) : Int) /\ Fr F0 w1 w', fun _ k _ => p.ch.length - k.toNat, ⟨0, rfl, by omega, by simp, hf2⟩, ?_⟩⟩
  rintro m k w3 ⟨k, rfl, hk, rfl, hf3⟩
  unfold z0p_b1
  refine ⟨s1, (hf3.row hr fun h => h).at rfl, ?_⟩
  rw [cnd_prop]
  refine ⟨fun hlk => ?_, fun hgk => ?_⟩
  ·have hlk : k < p.ch.length := by omega
   intro w4
   have hf4 : Fr F0 w1 w4 := hf3.t Fr.drew
   clear_value w4
   have hr4 := hf4.row hr fun h => h
   refine ⟨s1, hr4.at rfl, ?_⟩
   refine VC.ld (h.fr (hf1.t hf4)).ch k rfl hlk fun a hc => ?_
   refine ⟨_, (hc w4 Fr.refl).1, s0, hr4.at rfl, ?_⟩
   refine VI.ld (h.fr (hf1.t hf4)).lots i rfl hlt ?_
   have hts := take_succ' hlk
   have hcl2 := List.countP_le_length (p := fun c : Ch => c.lot == p.lots[i]) (l := p.ch.take k)
   rw [List.length_take] at hcl2
   rw [cnd_beq]
   refine ⟨fun he => ⟨inR64 (by omega) (by omega), inR64 (by omega) (by omega), ⟨⟨rfl, rfl, rfl, rfl, trivial⟩, k + 1, by omega, by omega, ?_, hf4⟩, by dsimp only; omega⟩, fun hne => ⟨inR64 (by omega) (by omega), ⟨⟨rfl, rfl, rfl, rfl, trivial⟩, k + 1, by omega, by omega, ?_, hf4⟩, by dsimp only; omega⟩⟩
   ·rw [hts, List.countP_append, List.countP_cons, List.countP_nil]
    simp [he]
    omega
   ·rw [hts, List.countP_append, List.countP_cons, List.countP_nil]
    simp [hne]
  ·have : k = p.ch.length := by omega
   subst this
   rw [List.take_length, ← hol]
   generalize hq : prefN p (p.lots.drop (i + 1)) = q at *
   generalize (opts p p.lots[i]).length = m at *
   have e2 : n * (1 + m * q - 1) = n * m * q := by rw [Nat.add_sub_cancel_left, Nat.mul_assoc]
   rw [e2] at hsum
   have e3 : n * m + n * m * (q - 1) = n * m * q := by
    obtain ⟨q', rfl⟩ : ∃ q', q = q' + 1 := ⟨q - 1, by omega⟩
    rw [Nat.add_sub_cancel, Nat.mul_add, Nat.mul_one, Nat.add_comm]
   have hle : n * m <= n * m * q := Nat.le_mul_of_pos_right _ (by omega)
   have e4 : (n : Int) * (m : Int) = ((n * m : Nat) : Int) := by rw [Int.natCast_mul]
   rw [e4]
   refine ⟨inR64 (by omega) (by omega), inR64 (by omega) (by omega), inR64 (by omega) (by omega), ⟨⟨rfl, trivial⟩, i + 1, o + n * m, n * m, by omega, by omega, rfl, by omega, by rw [hq]; omega, hf3⟩, by dsimp only; omega⟩
 ·have : i = p.lots.length := by omega
  subst this
  rw [List.drop_of_length_le (Nat.le_refl _), prefN] at hsum
  have := hK w2 (hf1.t hf2)
  rw [← hsum] at this
  simpa using this
end
end Go.Proofs.YtfpobpjandjhjaaGreatDoor
namespace Go.Proofs.YtfpobpjandjhjaaGreatDoor
open Go Pw
theorem encD_ok (d : De × Sl) : ∀ v ∈ encD d, okC v = true := by intro v hv; simp [encD] at hv; rcases hv with rfl | rfl | rfl <;> rfl
section
variable {w w' w0 : World} {s s0 s1 s2 : Sl} {L : List (Nat × List Value)} {l : List Int} {mb pb rb db : Nat} {R : List Value}
abbrev mdL (pb mb rb : Nat) (s s0 s1 s2 : Sl) (l : List Int) (j : Nat) (R : List Value) : List (Nat × List Value) :=
 [(pb, prC s0 s1 s2 (nv l 0 4) (nv l 1 30)), (mb, nmC s l j), (rb, R)]
theorem Made_l3 {i j : Nat} {dc : List (De × Sl)} {B : Nat -> Prop} {Q : World -> Prop} {so : Sl} {bid off st lots deals : Int} {N2 : Addr -> Addr -> Addr -> Int -> Int -> Int -> World -> Prop} {K : Sl -> Sl -> Sl -> Int -> Int -> World -> Prop}
  (hlots : lots = (mLots l).toNat) (hst : 0 <= st /\ st < 16)
  (h : Sp w0 w ((db, [.int .i64 bid, .slice none 0 0, .int .i64 off]) :: mdL pb mb rb s s0 s1 so l j R) (fun b => B b \/ inB so b) (fun w => Q w /\ Ow 3 encD w so dc) 1 (ie .i64 (id : Int -> Int)) ⟨none, 0, 0⟩ [])
  (hB : Rests B Q) (hBs : ∀ b, inB so b -> ¬ B b) (hQ : ∀ u, Q u -> VI u s0 (mLotsL l)) (hdc : dc.length <= 3) (hi : 0 <= i /\ i < 10)
  (hN : ∀ w' so' sl, Sp w0 w' (mdL pb mb rb s s0 s1 so' l j R) (fun b => B b \/ inB sl b) (fun w => Q w /\ Ow 1 (ie .i64 (id : Int -> Int)) w sl ((List.range (mLots l).toNat).filterMap (fun k => if bitI st k then some (mLot l k) else none))) 3 encD so' (dc ++ [(⟨bid, (List.range (mLots l).toNat).filterMap (fun k => if bitI st k then some (mLot l k) else none), off⟩, sl)]) ->
   N2 ⟨rb, 0, none⟩ ⟨mb, 0, none⟩ ⟨pb, 0, none⟩ lots deals ((i : Int) + 1) w') :
  z26_l3 ⟨rb, 0, none⟩ ⟨mb, 0, none⟩ ⟨pb, 0, none⟩ lots deals i ⟨db, 0, none⟩ st 0 N2 K w := by
 subst hlots
 have hL := mLots_range (l := l)
 refine ⟨⟨fun k w' => ∃ (k' : Nat) (sd : Sl), k = k' /\ k' <= (mLots l).toNat /\ Sp w0 w' ((db, [.int .i64 bid, .slice sd.p sd.l sd.c, .int .i64 off]) :: mdL pb mb rb s s0 s1 so l j R) (fun b => B b \/ inB so b) (fun w => Q w /\ Ow 3 encD w so dc) 1 (ie .i64 (id : Int -> Int)) sd ((List.range k').filterMap (fun k => if bitI st k then some (mLot l k) else none)), fun k _ => (mLots l).toNat - k.toNat,
  ⟨0, ⟨none, 0, 0⟩, rfl, by omega, h⟩, ?_⟩⟩
 rintro k w1 ⟨k, sd, rfl, hk, h⟩
 unfold z26_b3
 rw [cnd_prop]
 refine ⟨fun hlt => ?_, fun hge => ?_⟩
 ·have hlt : k < (mLots l).toNat := by omega
  refine ⟨by omega, ?_⟩
  have hb := bit_code ⟨st.toNat, by omega⟩ ⟨k, by omega⟩
  have est : ((st.toNat : Nat) : Int) = st := by omega
  simp only [est] at hb
  rw [hb]
  have hrs : ∀ g : Nat -> Option Int, (List.range (k + 1)).filterMap g = (List.range k).filterMap g ++ (match g k with | some x => [x] | none => []) := by
   intro g
   rw [List.range_succ, List.filterMap_append, List.filterMap_cons]
   cases g k <;> rfl
  have hlen : ((List.range k).filterMap (fun k => if bitI st k then some (mLot l k) else none)).length <= k := by
   have := List.length_filterMap_le (fun k => if bitI st k then some (mLot l k) else none) (List.range k)
   simpa using this
  rw [cnd_iff]
  refine ⟨fun ht => ?_, fun hf => ⟨inR64 (by omega) (by omega), ⟨⟨rfl, rfl, rfl, rfl, rfl, rfl, rfl, rfl, trivial⟩, k + 1, sd, by omega, by omega, ?_⟩, by dsimp only; omega⟩⟩
  ·intro w2
   have h2 : Sp w0 w2 _ _ _ _ _ _ _ := h.drew
   clear_value w2
   have hS : ∀ {u B' Q' sd'} {ls : List Int}, Sp w0 u ((db, [.int .i64 bid, .slice sd.p sd.l sd.c, .int .i64 off]) :: mdL pb mb rb s s0 s1 so l j R) B' Q' 1 (ie .i64 (id : Int -> Int)) sd' ls -> (Q' u -> Q u) -> Row u db [.int .i64 bid, .slice sd.p sd.l sd.c, .int .i64 off] /\ Row u pb (prC s0 s1 so (nv l 0 4) (nv l 1 30)) /\ VI u s0 (mLotsL l) :=
    fun hu hq => ⟨hu.row 0 rfl, hu.row 1 rfl, hQ _ (hq hu.q)⟩
   refine ⟨fun u => Row u db [.int .i64 bid, .slice sd.p sd.l sd.c, .int .i64 off] /\ Row u pb (prC s0 s1 so (nv l 0 4) (nv l 1 30)) /\ VI u s0 (mLotsL l), hS h2 (fun h => h.1), sd, fun u hu => hu.1.at rfl, s0, fun u hu => hu.2.1.at rfl, ?_⟩
   have hv0 := hQ _ h2.q.1
   have hl0 := hv0.len
   rw [mLotsL_len] at hl0
   have hkl : k < (mLotsL l).length := by rw [mLotsL_len]; exact hlt
   obtain ⟨ad, hp, _⟩ := hv0.at (fun a => ie_length _ _ a) (List.getElem?_eq_getElem hkl) (by decide)
   have hel : (mLotsL l)[k] = mLot l k := by simp [mLotsL]
   refine nz_iff.2 ⟨ad, hp, ⟨by omega, by omega⟩, mLot l k, fun u hu => ?_, ?_⟩
   ·obtain ⟨ad', hp', hc⟩ := hu.2.2.at (fun a => ie_length _ _ a) (List.getElem?_eq_getElem hkl) (by decide)
    rw [hp] at hp'
    cases hp'
    have := hc 0 _ rfl
    rw [hel] at this
    exact this
   ·intro w3
    have h3 := h2.allocL (vs := [.int .i64 (mLot l k)]) (e := 0)
    refine ⟨hS (h2.fr (Fr.alloc : Fr F0 w2 w3)) (fun h => h.1), ?_⟩
    refine h2.push (a := mLot l k) rfl rfl (ie_ok _ _) rfl (by omega) (by omega) fun r w4 h4 => ?_
    refine ⟨hS h4 (fun h => h.1), h4.wr 0 rfl rfl, ?_⟩
    intro w5
    have h5 : Sp w0 w5 _ _ _ _ _ _ _ := h4.set (i := 1) (v := .slice r.p r.l r.c) 0 rfl
    clear_value w5
    simp only [List.set_cons_zero, List.set_cons_succ] at h5
    refine ⟨inR64 (by omega) (by omega), ⟨⟨rfl, rfl, rfl, rfl, rfl, rfl, rfl, rfl, trivial⟩, k + 1, r, by omega, by omega, ?_⟩, by dsimp only; omega⟩
    rw [hrs, if_pos ht]
    exact h5
  ·rw [hrs, if_neg (by rw [hf]; decide), List.append_nil]
   exact h
 ·have : k = (mLots l).toNat := by omega
  subst this
  refine ⟨so, h.ld 1 rfl rfl, _, h.ld 0 rfl rfl, sd, h.ld 0 rfl rfl, _, h.ld 0 rfl rfl, ?_⟩
  have hb := (h.back hB hBs).dr (k := mdL pb mb rb s s0 s1 so l j R) 1 rfl
  refine hb.push (a := (⟨bid, (List.range (mLots l).toNat).filterMap (fun k => if bitI st k then some (mLot l k) else none), off⟩, sd)) rfl rfl encD_ok rfl (by omega) (by omega) fun r w4 h4 => ?_
  refine ⟨h4.wr 0 rfl rfl, ?_⟩
  intro w5
  have h5 : Sp w0 w5 _ _ _ _ _ _ _ := h4.set (i := 2) (v := .slice r.p r.l r.c) 0 rfl
  clear_value w5
  simp only [List.set_cons_zero] at h5
  exact ⟨inR64 (by omega) (by omega), hN w5 r sd h5⟩
theorem Made_l2 {lots deals : Int} {B : Nat -> Prop} {Q : World -> Prop} {K : Sl -> Sl -> Sl -> Int -> Int -> World -> Prop} (hv : VI w0 s l) (hl : l.length < 2 ^ 63)
  (hlots : lots = (mLots l).toNat) (hdeals : deals = mDeals l) {a b c d e : Value} (hR : R = [a, b, c, d, e])
  (h : Sp w0 w (mdL pb mb rb s s0 s1 ⟨none, 0, 0⟩ l (mD0 l) R) B Q 3 encD ⟨none, 0, 0⟩ []) (hB : Rests B Q) (hQ : ∀ u, Q u -> VI u s0 (mLotsL l) /\ VC u s1 (mChL l))
  (hK : ∀ w' s2, Fr F0 w0 w' -> PV w' s0 s1 s2 (madeP l) -> K s0 s1 s2 (nv l 0 4) (nv l 1 30) w') :
  z26_l2 ⟨rb, 0, none⟩ ⟨mb, 0, none⟩ ⟨pb, 0, none⟩ lots deals 0 K w := by
 subst hlots
 subst hdeals
 have hL := mLots_range (l := l)
 have hDr := nv_range (l := l) (j := mC0 l + 4 * (mChoices l).toNat) (n := 4) (by decide)
 have hD : 0 <= mDeals l /\ mDeals l < 4 := hDr
 refine ⟨⟨fun i w' => ∃ (i' : Nat) (s2 : Sl) (dc : List (De × Sl)) (B : Nat -> Prop) (Q : World -> Prop), i = i' /\ i' <= (mDeals l).toNat /\ Sp w0 w' (mdL pb mb rb s s0 s1 s2 l (mD0 l + 3 * i') R) B Q 3 encD s2 dc /\ Rests B Q /\ (∀ u, Q u -> VI u s0 (mLotsL l) /\ VC u s1 (mChL l) /\ ∀ x ∈ dc, VI u x.2 x.1.lots) /\ dc.map (·.1) = (List.range i').map (mDe l),
  fun i _ => (mDeals l).toNat - i.toNat, ⟨0, ⟨none, 0, 0⟩, [], B, Q, rfl, by omega, h, hB, fun u hu => ⟨(hQ u hu).1, (hQ u hu).2, fun _ h => by cases h⟩, rfl⟩, ?_⟩⟩
 clear h hB hQ
 rintro i w1 ⟨i, s2, dc, B, Q, rfl, hi, h, hB, hQ, hdm⟩
 have hdl : dc.length = i := by have := congrArg List.length hdm; simpa using this
 unfold z26_b2
 rw [cnd_prop]
 refine ⟨fun hlt => ?_, fun hge => ?_⟩
 ·have hlt : i < (mDeals l).toNat := by omega
  have q1 := nv_range (l := l) (j := mD0 l + 3 * i) (n := 4) (by decide)
  have q2 := nv_range (l := l) (j := mD0 l + 3 * i + 1) (n := 6) (by decide)
  refine next_sp hv hl h 1 rfl (by decide) (by decide) fun w2 h => ?_
  simp only [List.set_cons_zero, List.set_cons_succ] at h
  refine ⟨inR64 (by omega) (by omega), next_sp hv hl h 1 rfl (by decide) (by decide) fun w3 h => ?_⟩
  simp only [List.set_cons_zero, List.set_cons_succ] at h
  intro w4
  have h : Sp w0 w4 _ _ _ _ _ _ _ := h.allocL (vs := [.int .i64 0, .slice none 0 0, .int .i64 0])
  clear_value w4
  refine stN_sp h 0 rfl rfl fun w5 h => ?_
  simp only [List.set_cons_zero] at h
  have hpw := pow_code ⟨(mLots l).toNat, by omega⟩
  simp only at hpw
  have hp1 : (1 : Int) <= 2 ^ (mLots l).toNat - 1 /\ (2 : Int) ^ (mLots l).toNat <= 16 := by
   have : (mLots l).toNat = 1 \/ (mLots l).toNat = 2 \/ (mLots l).toNat = 3 \/ (mLots l).toNat = 4 := by omega
   rcases this with e | e | e | e <;> rw [e] <;> decide
  rw [hpw]
  refine ⟨by omega, inR64 (by omega) (by omega), next_sp hv hl h 2 rfl (by omega) (by omega) fun w6 h => ?_⟩
  simp only [List.set_cons_zero, List.set_cons_succ] at h
  have q3 := nv_range (l := l) (j := mD0 l + 3 * i + 1 + 1) (n := 2 ^ (mLots l).toNat - 1) (by omega)
  refine ⟨inR64 (by omega) (by omega), ?_⟩
  have hst : 1 + nv l (mD0 l + 3 * i + 1 + 1) (2 ^ (mLots l).toNat - 1) = mSet l i := rfl
  rw [hst]
  have hstr : 0 <= mSet l i /\ mSet l i < 16 := by rw [← hst]; omega
  have hs2 := fun b hb => (h.os b hb).2.1
  refine Made_l3 (B := B) (Q := Q) rfl hstr h.next hB hs2 (fun u hu => (hQ u hu).1) (by omega) (by omega) fun w7 so' sl h7 => ⟨⟨⟨rfl, rfl, rfl, rfl, rfl, trivial⟩, i + 1, so', _, _, _, by omega, by omega, h7, ?_, ?_, ?_⟩, by dsimp only; omega⟩
  ·exact hB.and (Rests.ow sl _)
  ·intro u hu
   refine ⟨(hQ u hu.1).1, (hQ u hu.1).2.1, fun x hx => ?_⟩
   rcases List.mem_append.1 hx with hx | hx
   ·exact (hQ u hu.1).2.2 x hx
   ·rw [List.mem_singleton] at hx
    subst hx
    exact hu.2.vw
  ·rw [List.map_append, hdm, range_succ_map]
   rfl
 ·have : i = (mDeals l).toNat := by omega
  subst this
  subst hR
  obtain ⟨hq0, hq1, hq2⟩ := hQ _ h.q
  refine ⟨s0, h.ld 0 rfl rfl, s1, h.ld 0 rfl rfl, s2, h.ld 0 rfl rfl, _, h.ld 0 rfl rfl, _, h.ld 0 rfl rfl, ?_⟩
  refine stN_sp h 2 rfl rfl fun w2 h => ?_
  simp only [List.set_cons_zero, List.set_cons_succ] at h
  obtain ⟨hq0, hq1, hq2⟩ := hQ _ h.q
  refine ⟨s0, h.ld 2 rfl rfl, s1, h.ld 2 rfl rfl, s2, h.ld 2 rfl rfl, _, h.ld 2 rfl rfl, _, h.ld 2 rfl rfl, hK w2 s2 h.m.1 ?_⟩
  have hr := madeP_right l
  refine ⟨hq0, hq1, ⟨dc, h.ow.vw, hdm, fun x hx => ⟨hq2 x hx, ?_⟩⟩, ?_, ?_, ?_⟩
  ·have hm : x.1 ∈ dc.map (·.1) := List.mem_map_of_mem hx
   rw [hdm] at hm
   obtain ⟨k, _, hk⟩ := List.mem_map.1 hm
   rw [← hk]
   have := List.length_filterMap_le (fun k' => if bitI (mSet l k) k' then some (mLot l k') else none) (List.range (mLots l).toNat)
   simp only [List.length_range] at this
   show ((List.range (mLots l).toNat).filterMap (fun k' => if bitI (mSet l k) k' then some (mLot l k') else none)).length < _
   omega
  ·have := hr.few; omega
  ·have := hr.chs; omega
  ·have := hr.des; omega
theorem Made_l1 {lots choices : Int} {B : Nat -> Prop} {Q : World -> Prop} {K : Sl -> Sl -> Sl -> Int -> Int -> World -> Prop} (hv : VI w0 s l) (hl : l.length < 2 ^ 63)
  (hlots : lots = mLots l) (hch : choices = mChoices l) {a b c d e : Value} (hR : R = [a, b, c, d, e])
  (h : Sp w0 w (mdL pb mb rb s s0 ⟨none, 0, 0⟩ ⟨none, 0, 0⟩ l (mC0 l) R) B Q 4 encC ⟨none, 0, 0⟩ []) (hB : Rests B Q) (hQ : ∀ u, Q u -> VI u s0 (mLotsL l))
  (hK : ∀ w' s1 s2, Fr F0 w0 w' -> PV w' s0 s1 s2 (madeP l) -> K s0 s1 s2 (nv l 0 4) (nv l 1 30) w') :
  z26_l1 ⟨rb, 0, none⟩ ⟨mb, 0, none⟩ ⟨pb, 0, none⟩ lots choices 0 K w := by
 subst hlots
 subst hch
 have hL := mLots_range (l := l)
 have hDr := nv_range (l := l) (j := 3 + (mLots l).toNat) (n := 13) (by decide)
 have hD : 0 <= mChoices l /\ mChoices l < 13 := hDr
 refine ⟨⟨fun i w' => ∃ (i' : Nat) (s1 : Sl), i = i' /\ i' <= (mChoices l).toNat /\ Sp w0 w' (mdL pb mb rb s s0 s1 ⟨none, 0, 0⟩ l (mC0 l + 4 * i') R) B Q 4 encC s1 ((List.range i').map (mCh l)),
  fun i _ => (mChoices l).toNat - i.toNat, ⟨0, ⟨none, 0, 0⟩, rfl, by omega, h⟩, ?_⟩⟩
 clear h
 rintro i w1 ⟨i, s1, rfl, hi, h⟩
 unfold z26_b1
 rw [cnd_prop]
 refine ⟨fun hlt => ?_, fun hge => ?_⟩
 ·have hlt : i < (mChoices l).toNat := by omega
  intro w2
  replace h : Sp w0 w2 _ _ _ _ _ _ _ := h.drew
  clear_value w2
  have hS : ∀ {u j t} {ls : List Ch}, Sp w0 u (mdL pb mb rb s s0 s1 ⟨none, 0, 0⟩ l j R) B Q 4 encC t ls -> Row u pb (prC s0 s1 ⟨none, 0, 0⟩ (nv l 0 4) (nv l 1 30)) /\ VI u s0 (mLotsL l) :=
   fun hu => ⟨hu.row 0 rfl, hQ _ hu.q⟩
  refine ⟨fun u => Row u pb (prC s0 s1 ⟨none, 0, 0⟩ (nv l 0 4) (nv l 1 30)) /\ VI u s0 (mLotsL l), hS h, s1, fun u hu => hu.1.at rfl, s0, fun u hu => hu.1.at rfl, next_sp hv hl h 1 rfl (by omega) (by omega) fun w3 h => ?_⟩
  simp only [List.set_cons_zero, List.set_cons_succ] at h
  have q0 := nv_range (l := l) (j := mC0 l + 4 * i) (n := mLots l) (by omega)
  have q1 := nv_range (l := l) (j := mC0 l + 4 * i + 1) (n := 4) (by decide)
  have hv0 := hQ _ h.q
  have hl0 := hv0.len
  rw [mLotsL_len] at hl0
  have hil : (nv l (mC0 l + 4 * i) (mLots l)).toNat < (mLotsL l).length := by rw [mLotsL_len]; omega
  have hel : (mLotsL l)[(nv l (mC0 l + 4 * i) (mLots l)).toNat] = (mCh l i).lot := by
   show _ = (mLotsL l).getD _ 0
   rw [List.getD_eq_getElem?_getD, List.getElem?_eq_getElem hil]
   rfl
  obtain ⟨ad, hp, _⟩ := hv0.at (fun a => ie_length _ _ a) (List.getElem?_eq_getElem hil) (by decide)
  refine ⟨hS h, nz_iff.2 ⟨ad, hp, ⟨by omega, by omega⟩, (mCh l i).lot, fun u hu => ?_, next_sp hv hl h 1 rfl (by decide) (by decide) fun w4 h => ?_⟩⟩
  ·obtain ⟨ad', hp', hc⟩ := hu.2.at (fun a => ie_length _ _ a) (List.getElem?_eq_getElem hil) (by decide)
   rw [hp] at hp'
   cases hp'
   have := hc 0 _ rfl
   rw [hel] at this
   exact this
  simp only [List.set_cons_zero, List.set_cons_succ] at h
  refine ⟨hS h, inR64 (by omega) (by omega), next_sp hv hl h 1 rfl (by decide) (by decide) fun w5 h => ?_⟩
  simp only [List.set_cons_zero, List.set_cons_succ] at h
  refine ⟨hS h, next_sp hv hl h 1 rfl (by decide) (by decide) fun w6 h => ?_⟩
  simp only [List.set_cons_zero, List.set_cons_succ] at h
  refine ⟨hS h, ?_⟩
  intro w7
  refine ⟨hS (h.fr (Fr.alloc : Fr F0 w6 w7)), ?_⟩
  refine h.push (a := mCh l i) rfl rfl encC_ok rfl (by simp; omega) (by simp; omega) fun r w8 h => ?_
  refine ⟨hS h, h.wr 0 rfl rfl, ?_⟩
  intro w9
  have h : Sp w0 w9 _ _ _ _ _ _ _ := h.set (i := 1) (v := .slice r.p r.l r.c) 0 rfl
  clear_value w9
  simp only [List.set_cons_zero] at h
  refine ⟨inR64 (by omega) (by omega), ⟨⟨rfl, rfl, rfl, rfl, rfl, trivial⟩, i + 1, r, by omega, by omega, ?_⟩, by dsimp only; omega⟩
  rw [range_succ_map]
  exact h
 ·have : i = (mChoices l).toNat := by omega
  subst this
  refine next_sp hv hl h 1 rfl (by decide) (by decide) fun w2 h => ?_
  simp only [List.set_cons_zero, List.set_cons_succ] at h
  exact Made_l2 hv hl (by omega) rfl hR h.next (hB.and (Rests.ow s1 _)) (fun u hu => ⟨hQ u hu.1, hu.2.vw⟩) fun w' s2 => hK w' s1 s2
theorem Made_l0 {lots : Int} {K : Sl -> Sl -> Sl -> Int -> Int -> World -> Prop} (hv : VI w0 s l) (hl : l.length < 2 ^ 63)
  (hlots : lots = mLots l) {a b c d e : Value} (hR : R = [a, b, c, d, e])
  (h : Sp w0 w (mdL pb mb rb s ⟨none, 0, 0⟩ ⟨none, 0, 0⟩ ⟨none, 0, 0⟩ l 3 R) (fun _ => False) (fun _ => True) 1 (ie .i64 (id : Int -> Int)) ⟨none, 0, 0⟩ [])
  (hK : ∀ w' s0 s1 s2, Fr F0 w0 w' -> PV w' s0 s1 s2 (madeP l) -> K s0 s1 s2 (nv l 0 4) (nv l 1 30) w') :
  z26_l0 ⟨rb, 0, none⟩ ⟨mb, 0, none⟩ ⟨pb, 0, none⟩ lots 0 K w := by
 subst hlots
 have hL := mLots_range (l := l)
 refine ⟨⟨fun i w' => ∃ (i' : Nat) (s0 : Sl), i = i' /\ i' <= (mLots l).toNat /\ Sp w0 w' (mdL pb mb rb s s0 ⟨none, 0, 0⟩ ⟨none, 0, 0⟩ l (3 + i') R) (fun _ => False) (fun _ => True) 1 (ie .i64 (id : Int -> Int)) s0 ((List.range i').map (mLot l)),
  fun i _ => (mLots l).toNat - i.toNat, ⟨0, ⟨none, 0, 0⟩, rfl, by omega, h⟩, ?_⟩⟩
 clear h
 rintro i w1 ⟨i, s0, rfl, hi, h⟩
 unfold z26_b0
 rw [cnd_prop]
 refine ⟨fun hlt => ?_, fun hge => ?_⟩
 ·have hlt : i < (mLots l).toNat := by omega
  intro w2
  replace h : Sp w0 w2 _ _ _ _ _ _ _ := h.drew
  clear_value w2
  have q0 := nv_range (l := l) (j := 3 + i) (n := 2) (by decide)
  refine ⟨fun u => Row u pb (prC s0 ⟨none, 0, 0⟩ ⟨none, 0, 0⟩ (nv l 0 4) (nv l 1 30)), h.row 0 rfl, s0, fun u hu => hu.at rfl, inR64 (by omega) (by omega), inR64 (by omega) (by omega), next_sp hv hl h 1 rfl (by omega) (by omega) fun w3 h => ?_⟩
  simp only [List.set_cons_zero, List.set_cons_succ] at h
  refine ⟨h.row 0 rfl, inR64 (by omega) (by omega), inR64 (by omega) (by omega), ?_⟩
  intro w7
  refine ⟨(h.fr (Fr.alloc : Fr F0 w3 w7)).row 0 rfl, ?_⟩
  refine h.push (a := mLot l i) rfl rfl (ie_ok _ _) rfl (by simp; omega) (by simp; omega) fun r w8 h => ?_
  refine ⟨h.wr 0 rfl rfl, ?_⟩
  intro w9
  have h : Sp w0 w9 _ _ _ _ _ _ _ := h.set (i := 0) (v := .slice r.p r.l r.c) 0 rfl
  clear_value w9
  simp only [List.set_cons_zero] at h
  refine ⟨inR64 (by omega) (by omega), ⟨⟨rfl, rfl, rfl, rfl, trivial⟩, i + 1, r, by omega, by omega, ?_⟩, by dsimp only; omega⟩
  rw [range_succ_map]
  exact h
 ·have : i = (mLots l).toNat := by omega
  subst this
  refine next_sp hv hl h 1 rfl (by decide) (by decide) fun w2 h => ?_
  simp only [List.set_cons_zero, List.set_cons_succ] at h
  have e : 3 + (mLots l).toNat + 1 = mC0 l := by unfold mC0; omega
  rw [e] at h
  exact Made_l1 hv hl rfl rfl hR h.next (Rests.top.and (Rests.ow s0 _)) (fun u hu => hu.2.vw) fun w' s1 s2 => hK w' s0 s1 s2
theorem Made_spec {K : Sl -> Sl -> Sl -> Int -> Int -> World -> Prop} (hv : VI w s l) (hl : l.length < 2 ^ 63)
  (hK : ∀ w' s0 s1 s2, Fr F0 w w' -> PV w' s0 s1 s2 (madeP l) -> K s0 s1 s2 (madeP l).most (madeP l).budget w') : z26_sh s K w := by
 refine ⟨?_⟩
 unfold z26_sd
 intro w1
 have m1 : Mem w w1 [(w.heap.size, [.slice none 0 0, .slice none 0 0, .slice none 0 0, .int .i64 0, .int .i64 0])] := Mem.nil.allocL
 clear_value w1
 intro w2
 have m2 : Mem w w2 [(w1.heap.size, nmC s l 0), (w.heap.size, [.slice none 0 0, .slice none 0 0, .slice none 0 0, .int .i64 0, .int .i64 0])] := by
  have : nmC s l 0 = [.slice s.p s.l s.c, .int .i64 0] := by simp [nmC]
  rw [this]
  exact m1.allocL
 clear_value w2
 refine next_mem hv hl m2 0 rfl (by decide) (by decide) fun w3 m3 _ => ?_
 simp only [List.set_cons_zero] at m3
 refine next_mem hv hl m3 0 rfl (by decide) (by decide) fun w4 m4 _ => ?_
 simp only [List.set_cons_zero] at m4
 intro w5
 have m5 : Mem w w5 _ := m4.allocL (cs := [.slice none 0 0, .slice none 0 0, .slice none 0 0, .int .i64 0, .int .i64 0])
 clear_value w5
 refine stN_sp (Sp.start m5 (n := 1) (enc := ie .i64 (id : Int -> Int))) 0 rfl rfl fun w6 h => ?_
 simp only [List.set_cons_zero] at h
 refine next_sp hv hl h 1 rfl (by decide) (by decide) fun w7 h => ?_
 simp only [List.set_cons_zero, List.set_cons_succ] at h
 have q0 := nv_range (l := l) (j := 0 + 1 + 1) (n := 4) (by decide)
 refine ⟨inR64 (by omega) (by omega), ?_⟩
 exact Made_l0 hv hl rfl rfl h hK
end
end Go.Proofs.YtfpobpjandjhjaaGreatDoor
namespace Pw
open Go
theorem Row.ow {α : Type} {n : Nat} {enc : α -> List Value} {w : World} {b : Nat} {l : List α} (hn : ∀ a, (enc a).length = n) (h : Row w b (l.flatMap enc)) : Ow n enc w ⟨some ⟨b, 0, none⟩, l.length, l.length⟩ l := by
 refine ⟨rfl, ?_, .inr ⟨b, _, rfl, h, ?_, Nat.le_refl _, ?_⟩⟩
 ·simp [fm_length hn]
 ·rw [fm_length hn]
 ·exact List.take_of_length_le (by rw [fm_length hn]; exact Nat.le_refl _)
end Pw

namespace Pw
section
variable {p : Pr} {m b : Int}
def prB : Nat -> Nat
 | 0 => 1
 | k + 1 => 1 + 13 * prB k
theorem prefN_le (h : p.ch.length <= 12) : ∀ ls : List Int, prefN p ls <= prB ls.length
 | [] => Nat.le_refl _
 | lot :: ls => by
  have ih := prefN_le h ls
  have hl : (opts p lot).length <= 13 := by
   have := Go.Proofs.YtfpobpjandjhjaaGreatDoor.optsFrom_len (lot := lot) p.ch 0
   have := List.countP_le_length (p := fun c : Ch => c.lot == lot) (l := p.ch)
   simp only [opts, List.length_cons]
   omega
  have := Nat.mul_le_mul hl ih
  show 1 + (opts p lot).length * prefN p ls <= 1 + 13 * prB ls.length
  omega
theorem made_prefN (l : List Int) : prefN (madeP l) (madeP l).lots <= 30941 := by
 have h1 := nv_range (l := l) (j := 3 + (mLots l).toNat) (n := 13) (by decide)
 have h2 := mLots_range (l := l)
 have h3 := prefN_le (p := madeP l) (by simp only [madeP, mChL, List.length_map, List.length_range, mChoices]; omega) (madeP l).lots
 have h4 : (madeP l).lots.length = (mLots l).toNat := mLotsL_len
 rw [h4] at h3
 have : (mLots l).toNat = 1 \/ (mLots l).toNat = 2 \/ (mLots l).toNat = 3 \/ (mLots l).toNat = 4 := by omega
 refine Nat.le_trans h3 ?_
 rcases this with h | h | h | h <;> rw [h] <;> decide
end
end Pw
namespace Pw
open Go
section
variable {α : Type} {n : Nat} {enc : α -> List Value} {w w' : World} {s : Sl} {l : List α}
theorem Sp.empty {w0 : World} {L : List (Nat × List Value)} {e : TypeId} (hn : ∀ a, (enc a).length = n) (h : Mem w0 w L) : Sp w0 (w.alloc (Obj.cells #[] e)) L (fun _ => False) (fun _ => True) n enc ⟨some ⟨w.heap.size, 0, none⟩, 0, 0⟩ ([] : List α) := by
 refine ⟨h.fr Fr.alloc, Rests.top, trivial, fun _ hb => hb.elim, Row.ow hn (l := ([] : List α)) Row.new, fun b ⟨a, ha, hb⟩ => ?_⟩
 cases ha
 subst hb
 exact ⟨h.1.1, fun h => h, fun p hp e => by have := (h.2.1 p hp).lt; simp only at e; omega⟩
end
end Pw
namespace Go.Proofs.YtfpobpjandjhjaaGreatDoor
open Go Pw
section
variable {w wB : World} {s x s0 s1 s2 : Sl} {l dl : List Int} {p : Pr} {pb db : Nat}
theorem contains_spec {n : Int} {K : Bool -> World -> Prop} (hv : VI w s l) (hl : l.length < 2 ^ 62) (hK : K (decide (n ∈ l)) w) : z0q_sh s n K w := by
 have hlen := hv.len
 refine ⟨?_⟩
 unfold z0q_sd
 refine ⟨⟨fun i w' => ∃ i' : Nat, i = i' /\ i' <= l.length /\ w' = w /\ n ∉ l.take i', fun i _ => l.length - i.toNat, ⟨0, rfl, by omega, rfl, by simp⟩, ?_⟩⟩
 rintro i w1 ⟨i, rfl, hi, rfl, hno⟩
 unfold z0q_b0
 rw [cnd_prop]
 refine ⟨fun hlt => ?_, fun hge => ?_⟩
 ·have hlt : i < l.length := by omega
  refine VI.ld hv i rfl hlt ?_
  rw [cnd_beq]
  refine ⟨fun he => ?_, fun hne => ⟨inR64 (by omega) (by omega), ⟨⟨rfl, rfl, trivial⟩, i + 1, by omega, by omega, rfl, ?_⟩, by dsimp only; omega⟩⟩
  ·rwa [decide_eq_true (he ▸ List.getElem_mem hlt)] at hK
  ·rw [take_succ' hlt, List.mem_append, List.mem_singleton]
   rintro (h | h)
   ·exact hno h
   ·exact hne h.symm
 ·have : i = l.length := by omega
  subst this
  rw [List.take_length] at hno
  rwa [decide_eq_false hno] at hK
theorem different_spec {K : Bool -> World -> Prop} (hv : VI w s l) (hl : l.length < 2 ^ 62) (hK : ∀ w', Fr F0 w w' -> K (decide l.Nodup) w') : z0j_sh s K w := by
 have hlen := hv.len
 have hcap := hv.cap
 refine ⟨?_⟩
 unfold z0j_sd
 refine ⟨⟨fun i w' => ∃ i' : Nat, i = i' /\ i' <= l.length /\ Fr F0 w w' /\ (l.take i').Nodup, fun i _ => l.length - i.toNat, ⟨0, rfl, by omega, Fr.refl, by simp⟩, ?_⟩⟩
 rintro i w1 ⟨i, rfl, hi, hf, hnd⟩
 unfold z0j_b0
 rw [cnd_prop]
 refine ⟨fun hlt => ?_, fun hge => ?_⟩
 ·have hlt : i < l.length := by omega
  intro w2
  have hf2 : Fr F0 w w2 := hf.t Fr.drew
  clear_value w2
  have hts := take_succ' hlt
  refine ⟨fun u => VI u s l, hv.fr hf2, ⟨by omega, by omega, by omega⟩, ?_⟩
  obtain ⟨ad, hp, _⟩ := hv.at (fun a => ie_length _ _ a) (List.getElem?_eq_getElem hlt) (by decide)
  refine nz_iff.2 ⟨ad, hp, ⟨by omega, by omega⟩, l[i], fun u hu => ?_, ?_⟩
  ·obtain ⟨ad', hp', hc⟩ := hu.at (fun a => ie_length _ _ a) (List.getElem?_eq_getElem hlt) (by decide)
   rw [hp] at hp'
   cases hp'
   exact hc 0 _ rfl
  ·refine contains_spec (l := l.take (i : Int).toNat) ((hv.fr hf2).take (fun a => ie_length _ _ a) (j := (i : Int).toNat) (by omega)) (by simp; omega) ?_
   rw [Int.toNat_natCast]
   refine cnd_iff.2 ⟨fun h => ?_, fun h => ⟨inR64 (by omega) (by omega), ⟨⟨rfl, trivial⟩, i + 1, by omega, by omega, hf2, ?_⟩, by dsimp only; omega⟩⟩
   ·have hk := hK w2 hf2
    rwa [decide_eq_false] at hk
    intro hn
    have hn' : (l.take (i + 1)).Nodup := hn.sublist (List.take_sublist _ _)
    rw [hts, List.nodup_append] at hn'
    exact hn'.2.2 _ (of_decide_eq_true h) _ (List.mem_singleton.2 rfl) rfl
   ·rw [hts, List.nodup_append]
    refine ⟨hnd, by simp, fun a ha b hb => ?_⟩
    rw [List.mem_singleton] at hb
    subst hb
    rintro rfl
    exact of_decide_eq_false h ha
 ·have : i = l.length := by omega
  subst this
  rw [List.take_length] at hnd
  have hk := hK w1 hf
  rwa [decide_eq_true hnd] at hk
theorem rwithin_spec {n m : Int} {K : Bool -> World -> Prop} (hK : K (wiB n m) w) : z1g_sh n m K w := by
 refine ⟨?_⟩
 unfold z1g_sd
 rw [cnd_prop]
 refine ⟨fun h => ?_, fun h => ?_⟩
 ·have e : wiB n m = decide (n <= m) := by simp [wiB, h]
  rwa [e] at hK
 ·have e : wiB n m = false := by
   cases hb : wiB n m with
   | false => rfl
   | true => exact absurd (wiB_iff.1 hb).1 h
  rwa [e] at hK
theorem Right_l2 {i : Int} {A B : Value} {N1 : Addr -> Int -> World -> Prop} {K : Bool -> World -> Prop} (hP : PV wB s0 s1 s2 p) (hpr : Row w pb (prC s0 s1 s2 p.most p.budget)) (hdr : Row w db [A, .slice x.p x.l x.c, B]) (hv : VI w x dl) (hl : dl.length < 2 ^ 40) (hB : Fr F0 wB w)
  (hF : (∃ y ∈ dl, y ∉ p.lots) -> ∀ w', Fr F0 w w' -> K false w') (hT : (∀ y ∈ dl, y ∈ p.lots) -> ∀ w', Fr F0 w w' -> inR .i64 (i + 1) /\ N1 ⟨pb, 0, none⟩ (i + 1) w') : z1u_l2 ⟨pb, 0, none⟩ i ⟨db, 0, none⟩ 0 N1 K w := by
 have hlen := hv.len
 have hl0 := hP.l0
 refine ⟨⟨fun k w' => ∃ k' : Nat, k = k' /\ k' <= dl.length /\ Fr F0 w w' /\ ∀ y ∈ dl.take k', y ∈ p.lots, fun k _ => dl.length - k.toNat, ⟨0, rfl, by omega, Fr.refl, by simp⟩, ?_⟩⟩
 rintro k w1 ⟨k, rfl, hk, hf, hin⟩
 unfold z1u_b2
 refine ⟨x, (hf.row hdr fun h => h).at rfl, ?_⟩
 rw [cnd_prop]
 refine ⟨fun hlt => ?_, fun hge => ?_⟩
 ·have hlt : k < dl.length := by omega
  intro w2
  have hf2 : Fr F0 w w2 := hf.t Fr.drew
  clear_value w2
  have hS : ∀ {u}, Fr F0 w u -> (Row u pb (prC s0 s1 s2 p.most p.budget) /\ Row u db [A, .slice x.p x.l x.c, B]) /\ VI u x dl := fun hu => ⟨⟨hu.row hpr fun h => h, hu.row hdr fun h => h⟩, hv.fr hu⟩
  refine ⟨fun u => (Row u pb (prC s0 s1 s2 p.most p.budget) /\ Row u db [A, .slice x.p x.l x.c, B]) /\ VI u x dl, hS hf2, s0, fun u hu => hu.1.1.at rfl, x, fun u hu => hu.1.2.at rfl, ?_⟩
  obtain ⟨ad, hp, _⟩ := hv.at (fun a => ie_length _ _ a) (List.getElem?_eq_getElem hlt) (by decide)
  refine nz_iff.2 ⟨ad, hp, ⟨by omega, by omega⟩, dl[k], fun u hu => ?_, ?_⟩
  ·obtain ⟨ad', hp', hc⟩ := hu.2.at (fun a => ie_length _ _ a) (List.getElem?_eq_getElem hlt) (by decide)
   rw [hp] at hp'
   cases hp'
   exact hc 0 _ rfl
  ·refine contains_spec (hP.fr (hB.t hf2)).lots (by omega) ⟨hS hf2, ?_⟩
   refine cnd_iff.2 ⟨fun h => ?_, fun h => ⟨inR64 (by omega) (by omega), ⟨⟨rfl, rfl, rfl, trivial⟩, k + 1, by omega, by omega, hf2, ?_⟩, by dsimp only; omega⟩⟩
   ·exact hF ⟨dl[k], List.getElem_mem hlt, by simpa using h⟩ w2 hf2
   ·rw [take_succ' hlt]
    intro y hy
    rcases List.mem_append.1 hy with hy | hy
    ·exact hin y hy
    ·rw [List.mem_singleton] at hy
     subst hy
     simpa using h
 ·have : k = dl.length := by omega
  subst this
  rw [List.take_length] at hin
  exact hT hin w1 hf
theorem Right_l1 {K : Bool -> World -> Prop} (hP : PV wB s0 s1 s2 p) (hB : Fr F0 wB w) (hpr : Row w pb (prC s0 s1 s2 p.most p.budget)) (hl2 : p.de.length <= 100)
  (hF : (∃ d ∈ p.de, deB p d = false) -> ∀ w', Fr F0 w w' -> K false w') (hT : (∀ d ∈ p.de, deB p d = true) -> ∀ w', Fr F0 w w' -> K true w') : z1u_l1 ⟨pb, 0, none⟩ 0 K w := by
 obtain ⟨dc, hd, hm, hx⟩ := hP.de
 have hdl := hd.len
 have hlm : dc.length = p.de.length := by rw [← hm, List.length_map]
 refine ⟨⟨fun i w' => ∃ i' : Nat, i = i' /\ i' <= dc.length /\ Fr F0 w w' /\ ∀ x ∈ dc.take i', deB p x.1 = true, fun i _ => dc.length - i.toNat, ⟨0, rfl, by omega, Fr.refl, by simp⟩, ?_⟩⟩
 rintro i w1 ⟨i, rfl, hi, hf, hin⟩
 unfold z1u_b1
 have hpr1 := hf.row hpr fun h => h
 refine ⟨s2, hpr1.at rfl, ?_⟩
 rw [cnd_prop]
 refine ⟨fun hlt => ?_, fun hge => ?_⟩
 ·have hlt : i < dc.length := by omega
  refine ⟨s2, hpr1.at rfl, ?_⟩
  have hdv := hd.fr (hB.t hf)
  obtain ⟨ad, hp, hc⟩ := hdv.at (fun a => encD_length a) (List.getElem?_eq_getElem hlt) (by decide)
  refine nz_iff.2 ⟨ad, hp, ⟨by omega, by omega⟩, _, hc 0 _ rfl, dc[i].2, hc 1 _ rfl, _, hc 2 _ rfl, ?_⟩
  have hmem : dc[i] ∈ dc := List.getElem_mem hlt
  have hmemp : dc[i].1 ∈ p.de := hm ▸ List.mem_map_of_mem hmem
  obtain ⟨hxv, hxl⟩ := hx _ hmem
  have hbad : deB p dc[i].1 = false -> ∀ w', Fr F0 w1 w' -> K false w' := fun h w' hw => hF ⟨_, hmemp, h⟩ w' (hf.t hw)
  refine stN_new (w0 := w1) (l := []) rfl Mem.nil fun w41 m => ?_
  refine ⟨dc[i].2, m.ld 0 rfl rfl, ?_⟩
  have hvl := (hxv.fr ((hB.t hf).t m.1)).len
  rw [cnd_beq]
  refine ⟨fun h => hbad ?_ _ m.1, fun h => ⟨dc[i].2, m.ld 0 rfl rfl, different_spec (hxv.fr ((hB.t hf).t m.1)) (by omega) fun w44 hf44 => ?_⟩⟩
  ·have : dc[i].1.lots.length = 0 := by omega
   unfold deB
   rw [this]
   rfl
  have m := m.fr hf44
  have hne : 0 < dc[i].1.lots.length := by omega
  refine cnd_iff.2 ⟨fun h => hbad ?_ _ m.1, fun h => ⟨_, m.ld 0 rfl rfl, rwithin_spec ?_⟩⟩
  ·have h' : decide dc[i].1.lots.Nodup = false := by simpa using h
   unfold deB
   rw [h']
   simp
  have hnd : decide dc[i].1.lots.Nodup = true := by simpa using h
  refine cnd_iff.2 ⟨fun h => hbad ?_ _ m.1, fun h => ?_⟩
  ·have h' : wiB dc[i].1.off 1000000000 = false := by simpa using h
   unfold deB
   rw [h']
   simp
  have hwi : wiB dc[i].1.off 1000000000 = true := by simpa using h
  refine Right_l2 (hP.fr ((hB.t hf).t m.1)) ((hf.t m.1).row hpr fun h => h) (m.row 0 rfl) (hxv.fr ((hB.t hf).t m.1)) hxl Fr.refl (fun ⟨y, hy, hno⟩ w' hw => hbad ?_ _ (m.1.t hw)) fun hall w' hw => ⟨inR64 (by omega) (by omega), ⟨⟨rfl, trivial⟩, i + 1, by omega, by omega, hf.t (m.1.t hw), ?_⟩, by dsimp only; omega⟩
  ·have : dc[i].1.lots.all (fun x => decide (x ∈ p.lots)) = false := by
    rw [List.all_eq_false]
    exact ⟨y, hy, by simpa using hno⟩
   unfold deB
   rw [this]
   simp
  ·rw [take_succ' hlt]
   intro z hz
   rcases List.mem_append.1 hz with hz | hz
   ·exact hin z hz
   ·rw [List.mem_singleton] at hz
    subst hz
    have : dc[i].1.lots.all (fun x => decide (x ∈ p.lots)) = true := by
     rw [List.all_eq_true]
     exact fun y hy => decide_eq_true (hall y hy)
    unfold deB
    rw [this, hnd, hwi]
    simp [hne]
 ·have : i = dc.length := by omega
  subst this
  rw [List.take_length] at hin
  refine hT (fun d hd' => ?_) w1 hf
  rw [← hm] at hd'
  obtain ⟨y, hy, rfl⟩ := List.mem_map.1 hd'
  exact hin y hy
theorem Right_l0 {K : Bool -> World -> Prop} (hP : PV wB s0 s1 s2 p) (hB : Fr F0 wB w) (hpr : Row w pb (prC s0 s1 s2 p.most p.budget)) (hl1 : p.ch.length <= 480) (hl2 : p.de.length <= 100)
  (hF : (∃ c ∈ p.ch, chB p c = false) \/ (∃ d ∈ p.de, deB p d = false) -> ∀ w', Fr F0 w w' -> K false w') (hT : (∀ c ∈ p.ch, chB p c = true) -> (∀ d ∈ p.de, deB p d = true) -> ∀ w', Fr F0 w w' -> K true w') : z1u_l0 ⟨pb, 0, none⟩ 0 K w := by
 have hcl := hP.ch.len
 have hl0 := hP.l0
 refine ⟨⟨fun i w' => ∃ i' : Nat, i = i' /\ i' <= p.ch.length /\ Fr F0 w w' /\ ∀ x ∈ p.ch.take i', chB p x = true, fun i _ => p.ch.length - i.toNat, ⟨0, rfl, by omega, Fr.refl, by simp⟩, ?_⟩⟩
 rintro i w1 ⟨i, rfl, hi, hf, hin⟩
 unfold z1u_b0
 have hpr1 := hf.row hpr fun h => h
 refine ⟨s1, hpr1.at rfl, ?_⟩
 rw [cnd_prop]
 refine ⟨fun hlt => ?_, fun hge => ?_⟩
 ·have hlt : i < p.ch.length := by omega
  refine ⟨s1, hpr1.at rfl, ?_⟩
  refine VC.ld (hP.fr (hB.t hf)).ch i rfl hlt fun a hc => ?_
  obtain ⟨c0, c1, c2, c3⟩ := hc w1 Fr.refl
  refine ⟨_, c0, _, c1, _, c2, _, c3, ?_⟩
  have hmem : p.ch[i] ∈ p.ch := List.getElem_mem hlt
  have hbad : chB p p.ch[i] = false -> ∀ w', Fr F0 w1 w' -> K false w' := fun h w' hw => hF (.inl ⟨_, hmem, h⟩) w' (hf.t hw)
  refine stN_new (w0 := w1) (l := []) rfl Mem.nil fun w23 m => ?_
  refine ⟨s0, (m.1.row hpr1 fun h => h).at rfl, _, m.ld 0 rfl rfl, contains_spec (hP.fr ((hB.t hf).t m.1)).lots (by omega) ?_⟩
  refine cnd_iff.2 ⟨fun h => hbad ?_ _ m.1, fun h => ⟨_, m.ld 0 rfl rfl, rwithin_spec ?_⟩⟩
  ·have h' : decide (p.ch[i].lot ∈ p.lots) = false := by simpa using h
   unfold chB
   rw [h']
   rfl
  have h1 : decide (p.ch[i].lot ∈ p.lots) = true := by simpa using h
  refine cnd_iff.2 ⟨fun h => hbad ?_ _ m.1, fun h => ⟨_, m.ld 0 rfl rfl, rwithin_spec ?_⟩⟩
  ·have h' : wiB p.ch[i].price 1000000000 = false := by simpa using h
   unfold chB
   rw [h']
   simp
  have h2 : wiB p.ch[i].price 1000000000 = true := by simpa using h
  refine cnd_iff.2 ⟨fun h => hbad ?_ _ m.1, fun h => ⟨inR64 (by omega) (by omega), ⟨⟨rfl, trivial⟩, i + 1, by omega, by omega, hf.t m.1, ?_⟩, by dsimp only; omega⟩⟩
  ·have h' : wiB p.ch[i].pts 1000000 = false := by simpa using h
   unfold chB
   rw [h']
   simp
  ·rw [take_succ' hlt]
   intro z hz
   rcases List.mem_append.1 hz with hz | hz
   ·exact hin z hz
   ·rw [List.mem_singleton] at hz
    subst hz
    have h3 : wiB p.ch[i].pts 1000000 = true := by simpa using h
    unfold chB
    rw [h1, h2, h3]
    rfl
 ·have : i = p.ch.length := by omega
  subst this
  rw [List.take_length] at hin
  exact Right_l1 hP (hB.t hf) hpr1 hl2 (fun h w' hw => hF (.inr h) w' (hf.t hw)) fun h w' hw => hT hin h w' (hf.t hw)
theorem refRight_spec {K : Bool -> World -> Prop} (hP : PV w s0 s1 s2 p) (hK : ∀ w', Fr F0 w w' -> K (rightB p) w') : z1u_sh s0 s1 s2 p.most p.budget K w := by
 have e0 := hP.lots.len
 have e1 := hP.ch.len
 obtain ⟨dc, hd, hm, _⟩ := hP.de
 have e2 := hd.len
 have hlm : dc.length = p.de.length := by rw [← hm, List.length_map]
 have hl0 := hP.l0
 have hF : ¬ RightPr p -> ∀ w', Fr F0 w w' -> K false w' := fun h w' hw => by
  have := hK w' hw
  cases hb : rightB p with
  | false => rwa [hb] at this
  | true => exact absurd (rightB_iff.1 hb) h
 refine ⟨?_⟩
 unfold z1u_sd
 intro w1
 have m : Mem w w1 _ := Mem.nil.allocL (cs := prC s0 s1 s2 p.most p.budget)
 clear_value w1
 refine ⟨s0, m.ld 0 rfl rfl, ?_⟩
 rw [cnd_prop]
 refine ⟨fun h => hF (fun r => by have := r.some; omega) _ m.1, fun h1 => ⟨s0, m.ld 0 rfl rfl, ?_⟩⟩
 rw [cnd_prop]
 refine ⟨fun h => hF (fun r => by have := r.few; omega) _ m.1, fun h2 => ⟨s0, m.ld 0 rfl rfl, different_spec (hP.fr m.1).lots (by omega) fun w5 hf => ?_⟩⟩
 have m := m.fr hf
 refine cnd_iff.2 ⟨fun h => hF (fun r => by have := r.diff; simp [this] at h) _ m.1, fun h3 => ⟨s1, m.ld 0 rfl rfl, ?_⟩⟩
 rw [cnd_prop]
 refine ⟨fun h => hF (fun r => by have := r.chs; omega) _ m.1, fun h4 => ⟨s2, m.ld 0 rfl rfl, ?_⟩⟩
 rw [cnd_prop]
 refine ⟨fun h => hF (fun r => by have := r.des; omega) _ m.1, fun h5 => ⟨_, m.ld 0 rfl rfl, rwithin_spec ?_⟩⟩
 refine cnd_iff.2 ⟨fun h => hF (fun r => by have := wiB_iff.2 r.most; simp [this] at h) _ m.1, fun h6 => ⟨_, m.ld 0 rfl rfl, rwithin_spec ?_⟩⟩
 refine cnd_iff.2 ⟨fun h => hF (fun r => by have := wiB_iff.2 r.budget; simp [this] at h) _ m.1, fun h7 => ?_⟩
 refine Right_l0 (hP.fr m.1) Fr.refl (m.row 0 rfl) (by omega) (by omega) (fun h w' hw => hF (fun r => ?_) _ (m.1.t hw)) fun hc hd w' hw => ?_
 ·have hr := rightB_iff.2 r
  unfold rightB at hr
  simp only [Bool.and_eq_true, List.all_eq_true] at hr
  obtain ⟨_, _, _, _, _, _, _, hcs, hds⟩ := hr
  rcases h with ⟨c, hc, h⟩ | ⟨d, hd, h⟩
  ·rw [hcs c hc] at h; cases h
  ·rw [hds d hd] at h; cases h
 ·have : rightB p = true := by
   unfold rightB
   simp only [Bool.and_eq_true, List.all_eq_true, decide_eq_true_eq]
   exact ⟨by omega, by omega, by simpa using h3, by omega, by omega, by simpa using h6, by simpa using h7, hc, hd⟩
  have hk := hK w' (m.1.t hw)
  rwa [this] at hk
end
end Go.Proofs.YtfpobpjandjhjaaGreatDoor
namespace Go.Proofs.YtfpobpjandjhjaaGreatDoor
open Go Pw
section
variable {w wB : World} {s x s0 s1 s2 s5 : Sl} {l dl f : List Int} {p : Pr} {pb db : Nat}
theorem decs_take : ∀ (ls f : List Int) (i : Nat), Decs p ls f -> Decs p ls (f.take i)
 | _, _, 0, _ => by simp [Decs]
 | _, [], _ + 1, _ => by simp [Decs]
 | [], _ :: _, _ + 1, h => h.elim
 | _ :: ls, _ :: f, i + 1, h => by
  rw [List.take_succ_cons]
  exact ⟨h.1, decs_take ls f i h.2⟩
theorem refPrefix_spec {K : Bool -> World -> Prop} (h : PF w s0 s1 s2 s5 p f) (hK : ∀ w', Fr F0 w w' -> K (decsB p p.lots f) w') : z1e_sh s0 s1 s2 p.most p.budget s5 K w := by
 have el := h.tk.len
 have hlt := h.lt
 have e0 := h.pv.lots.len
 have e1 := h.pv.ch.len
 have hF : ¬ Decs p p.lots f -> ∀ w', Fr F0 w w' -> K false w' := fun hn w' hw => by
  have := hK w' hw
  cases hb : decsB p p.lots f with
  | false => rwa [hb] at this
  | true => exact absurd (decsB_iff.1 hb) hn
 refine ⟨?_⟩
 unfold z1e_sd
 intro w1
 have m : Mem w w1 _ := Mem.nil.allocL (cs := prC s0 s1 s2 p.most p.budget)
 clear_value w1
 have hpr := m.row 0 rfl
 refine ⟨s0, m.ld 0 rfl rfl, ?_⟩
 rw [cnd_prop]
 refine ⟨fun hg => hF (fun hd => by have := decs_len hd; omega) _ m.1, fun hle => ?_⟩
 refine ⟨⟨fun i w' => ∃ i' : Nat, i = i' /\ i' <= f.length /\ Fr F0 w1 w' /\ ∀ j lot n, j < i' -> p.lots[j]? = some lot -> f[j]? = some n -> Dec p lot n, fun i _ => f.length - i.toNat, ⟨0, rfl, by omega, Fr.refl, fun j _ _ hj => by omega⟩, ?_⟩⟩
 rintro i w2 ⟨i, rfl, hi, hf, hin⟩
 unfold z1e_b0
 rw [cnd_prop]
 refine ⟨fun hlt => ?_, fun hge => ?_⟩
 ·have hif : i < f.length := by omega
  have hil : i < p.lots.length := by omega
  intro w3
  have hf3 : Fr F0 w1 w3 := hf.t Fr.drew
  clear_value w3
  have hfw := m.1.t hf3
  have h3 := h.fr hfw
  have hp3 := hf3.row hpr fun h => h
  have hbad : ¬ Dec p p.lots[i] f[i] -> K false w3 := fun hn => hF (fun hd => hn (by obtain ⟨_, q⟩ := decs_at hd hif; exact q)) _ hfw
  refine VI.ld h3.tk i rfl hif ?_
  rw [cnd_prop]
  refine ⟨fun hc => hbad fun q => ?_, fun hc1 => VI.ld h3.tk i rfl hif ⟨s1, hp3.at rfl, ?_⟩⟩
  ·rcases q with q | ⟨c, q, _⟩
   ·omega
   ·have := (chAt_some q).1; omega
  rw [cnd_prop]
  refine ⟨fun hc => hbad fun q => ?_, fun hc2 => VI.ld h3.tk i rfl hif ?_⟩
  ·rcases q with q | ⟨c, q, _⟩
   ·omega
   ·obtain ⟨_, q2, _⟩ := chAt_some q; omega
  rw [cnd_prop]
  have hnext : Dec p p.lots[i] f[i] -> ∀ j lot n, j < i + 1 -> p.lots[j]? = some lot -> f[j]? = some n -> Dec p lot n := fun q j lot n hj h1 h2 => by
   rcases Nat.lt_succ_iff_lt_or_eq.1 hj with hj | rfl
   ·exact hin j lot n hj h1 h2
   ·rw [List.getElem?_eq_getElem hil] at h1
    rw [List.getElem?_eq_getElem hif] at h2
    cases h1
    cases h2
    exact q
  refine ⟨fun hc3 => ⟨s1, hp3.at rfl, VI.ld h3.tk i rfl hif ?_⟩, fun hc3 => ⟨inR64 (by omega) (by omega), ⟨⟨rfl, rfl, trivial⟩, i + 1, by omega, by omega, hf3, hnext (.inl (by omega))⟩, by dsimp only; omega⟩⟩
  have hci : f[i].toNat < p.ch.length := by omega
  have hcast : f[i] = (f[i].toNat : Int) := by omega
  refine VC.ld h3.pv.ch f[i].toNat hcast hci fun a hc => ?_
  obtain ⟨c0, _, _, _⟩ := hc w3 Fr.refl
  refine ⟨_, c0, s0, hp3.at rfl, VI.ld h3.pv.lots i rfl hil ?_⟩
  have hca := chAt_get hc3 hci
  rw [cnd_bne]
  refine ⟨fun hne => hbad fun q => ?_, fun he => ⟨inR64 (by omega) (by omega), ⟨⟨rfl, rfl, trivial⟩, i + 1, by omega, by omega, hf3, hnext (.inr ⟨_, hca, he⟩)⟩, by dsimp only; omega⟩⟩
  rcases q with q | ⟨c, q, q2⟩
  ·omega
  ·rw [hca] at q
   cases q
   exact hne q2
 ·have : i = f.length := by omega
  subst this
  have hd : Decs p p.lots f := (decs_get (by omega)).2 fun j lot n h1 h2 => hin j lot n (List.getElem?_eq_some_iff.1 h2).1 h1 h2
  have hk := hK w2 (m.1.t hf)
  rwa [decsB_iff.2 hd] at hk
theorem may_at (hp : RightPr p) {i : Nat} (hi : i < p.lots.length) (b : Int) : may p f b p.lots[i] = match f[i]? with
  | some n => (match chAt p n with | some c => c.bid == b | none => false)
  | none => p.ch.any fun c => c.lot == p.lots[i] && c.bid == b := by
 have e : p.lots.idxOf p.lots[i] = i := by
  have h1 : p.lots.idxOf p.lots[i] < p.lots.length := List.idxOf_lt_length_of_mem (List.getElem_mem hi)
  have h2 : p.lots[p.lots.idxOf p.lots[i]] = p.lots[i] := List.getElem_idxOf h1
  exact (List.getElem_inj hp.diff).1 h2
 unfold may
 rw [e]
 cases f[i]? with
 | none => rfl
 | some n => cases chAt p n <;> rfl
theorem possible_k2 {i : Nat} {b : Bool} {N0 : Sl -> Addr -> Addr -> Int -> World -> Prop} {K : Bool -> World -> Prop} (hi : i < 100) (hF : b = false -> K false w) (hT : b = true -> N0 s5 ⟨pb, 0, none⟩ ⟨db, 0, none⟩ ((i : Int) + 1) w) :
  z0r_k2 s5 ⟨pb, 0, none⟩ ⟨db, 0, none⟩ i b N0 K w := by
 refine ⟨?_⟩
 unfold z0r_k2d
 exact cnd_iff.2 ⟨fun h => hF (by simpa using h), fun h => ⟨inR64 (by omega) (by omega), hT (by simpa using h)⟩⟩
theorem possible_l1 {i : Nat} {d : De} {N0 : Sl -> Addr -> Addr -> Int -> World -> Prop} {K : Bool -> World -> Prop} (hp : RightPr p) (h : PF wB s0 s1 s2 s5 p f) (hB : Fr F0 wB w) (hi : i < p.lots.length)
  (hpr : Row w pb (prC s0 s1 s2 p.most p.budget)) (hdr : Row w db [.int .i64 d.bid, .slice x.p x.l x.c, .int .i64 d.off])
  (hF : (p.ch.any fun c => c.lot == p.lots[i] && c.bid == d.bid) = false -> ∀ w', Fr F0 w w' -> K false w') (hT : (p.ch.any fun c => c.lot == p.lots[i] && c.bid == d.bid) = true -> ∀ w', Fr F0 w w' -> N0 s5 ⟨pb, 0, none⟩ ⟨db, 0, none⟩ ((i : Int) + 1) w') :
  z0r_l1 s5 ⟨pb, 0, none⟩ ⟨db, 0, none⟩ i false 0 N0 K w := by
 have e1 := h.pv.ch.len
 have hch := hp.chs
 have hfew := hp.few
 refine ⟨⟨fun b k w' => ∃ k' : Nat, k = k' /\ k' <= p.ch.length /\ Fr F0 w w' /\ b = (p.ch.take k').any fun c => c.lot == p.lots[i] && c.bid == d.bid, fun _ k _ => p.ch.length - k.toNat, ⟨0, rfl, by omega, Fr.refl, by simp⟩, ?_⟩⟩
 rintro b k w1 ⟨k, rfl, hk, hf, hb⟩
 unfold z0r_b1
 refine ⟨s1, (hf.row hpr fun h => h).at rfl, ?_⟩
 rw [cnd_prop]
 refine ⟨fun hlt => ?_, fun hge => ?_⟩
 ·have hlt : k < p.ch.length := by omega
  have hts := take_succ' hlt
  intro w2
  have hf2 : Fr F0 w w2 := hf.t Fr.drew
  clear_value w2
  have hp2 := hf2.row hpr fun h => h
  have h2 := h.fr (hB.t hf2)
  have hany : (p.ch.take (k + 1)).any (fun c => c.lot == p.lots[i] && c.bid == d.bid) = (b || (p.ch[k].lot == p.lots[i] && p.ch[k].bid == d.bid)) := by
   rw [hts, List.any_append, ← hb]
   simp
  refine cnd_iff.2 ⟨fun ht => ⟨inR64 (by omega) (by omega), ⟨⟨rfl, rfl, rfl, rfl, trivial⟩, k + 1, by omega, by omega, hf2, by rw [hany, ht]; rfl⟩, by dsimp only; omega⟩, fun hfa => ⟨s1, hp2.at rfl, ?_⟩⟩
  refine VC.ld h2.pv.ch k rfl hlt fun a hc => ?_
  obtain ⟨c0, c1, _, _⟩ := hc w2 Fr.refl
  refine ⟨_, c0, s0, hp2.at rfl, VI.ld h2.pv.lots i rfl hi ?_⟩
  rw [cnd_beq]
  refine ⟨fun he => ⟨s1, hp2.at rfl, VC.ld h2.pv.ch k rfl hlt fun a hc => ?_⟩, fun hne => ⟨inR64 (by omega) (by omega), ⟨⟨rfl, rfl, rfl, rfl, trivial⟩, k + 1, by omega, by omega, hf2, ?_⟩, by dsimp only; omega⟩⟩
  ·obtain ⟨_, c1, _, _⟩ := hc w2 Fr.refl
   refine ⟨_, c1, _, (hf2.row hdr fun h => h).at rfl, inR64 (by omega) (by omega), ⟨⟨rfl, rfl, rfl, rfl, trivial⟩, k + 1, by omega, by omega, hf2, ?_⟩, by dsimp only; omega⟩
   rw [hany, hfa, he]
   simp
  ·rw [hany, hfa]
   simp [hne]
 ·have : k = p.ch.length := by omega
  subst this
  rw [List.take_length] at hb
  exact possible_k2 (by omega) (fun h => hF (hb ▸ h) w1 hf) fun h => hT (hb ▸ h) w1 hf
theorem possible_spec {d : De} {K : Bool -> World -> Prop} (hp : RightPr p) (h : PF w s0 s1 s2 s5 p f) (hd : Decs p p.lots f) (hdm : d ∈ p.de) (hv : VI w x d.lots) (hl : d.lots.length < 2 ^ 40) (hK : ∀ w', Fr F0 w w' -> K (d.lots.all (may p f d.bid)) w') :
  z0r_sh s0 s1 s2 p.most p.budget s5 d.bid x d.off K w := by
 have el := h.tk.len
 have hfew := hp.few
 have hfl := decs_len hd
 have e0 := h.pv.lots.len
 have hF : (∃ y ∈ d.lots, may p f d.bid y = false) -> ∀ w', Fr F0 w w' -> K false w' := fun ⟨y, hy, hn⟩ w' hw => by
  have := hK w' hw
  have e : d.lots.all (may p f d.bid) = false := List.all_eq_false.2 ⟨y, hy, by simp [hn]⟩
  rwa [e] at this
 refine ⟨?_⟩
 unfold z0r_sd
 intro w1
 have m : Mem w w1 _ := Mem.nil.allocL (cs := prC s0 s1 s2 p.most p.budget)
 clear_value w1
 intro w2
 have m : Mem w w2 _ := m.allocL (cs := [.int .i64 d.bid, .slice x.p x.l x.c, .int .i64 d.off])
 clear_value w2
 have hpr := m.row 1 rfl
 have hdr := m.row 0 rfl
 refine ⟨⟨fun i w' => ∃ i' : Nat, i = i' /\ i' <= p.lots.length /\ Fr F0 w2 w' /\ ∀ y ∈ d.lots, y ∈ p.lots.take i' -> may p f d.bid y = true, fun i _ => p.lots.length - i.toNat, ⟨0, rfl, by omega, Fr.refl, fun y _ hy => by simp at hy⟩, ?_⟩⟩
 rintro i w3 ⟨i, rfl, hi, hf, hin⟩
 unfold z0r_b0
 refine ⟨s0, (hf.row hpr fun h => h).at rfl, ?_⟩
 rw [cnd_prop]
 refine ⟨fun hlt => ?_, fun hge => ?_⟩
 ·have hil : i < p.lots.length := by omega
  have hts := take_succ' hil
  intro w4
  have hf4 : Fr F0 w2 w4 := hf.t Fr.drew
  clear_value w4
  have hS : ∀ {u}, Fr F0 w2 u -> (Row u w.heap.size (prC s0 s1 s2 p.most p.budget) /\ Row u w1.heap.size [.int .i64 d.bid, .slice x.p x.l x.c, .int .i64 d.off]) /\ VI u s0 p.lots := fun hu => ⟨⟨hu.row hpr fun h => h, hu.row hdr fun h => h⟩, h.pv.lots.fr (m.1.t hu)⟩
  have hw4 := m.1.t hf4
  refine ⟨fun u => (Row u w.heap.size (prC s0 s1 s2 p.most p.budget) /\ Row u w1.heap.size [.int .i64 d.bid, .slice x.p x.l x.c, .int .i64 d.off]) /\ VI u s0 p.lots, hS hf4, x, fun u hu => hu.1.2.at rfl, s0, fun u hu => hu.1.1.at rfl, ?_⟩
  obtain ⟨ad, hp', _⟩ := (h.pv.lots.fr hw4).at (fun a => ie_length _ _ a) (List.getElem?_eq_getElem hil) (by decide)
  refine nz_iff.2 ⟨ad, hp', ⟨by omega, by omega⟩, p.lots[i], fun u hu => ?_, ?_⟩
  ·obtain ⟨ad', hp'', hc⟩ := hu.2.at (fun a => ie_length _ _ a) (List.getElem?_eq_getElem hil) (by decide)
   rw [hp'] at hp''
   cases hp''
   exact hc 0 _ rfl
  refine contains_spec (hv.fr hw4) (by omega) ⟨hS hf4, ?_⟩
  have hnext : (p.lots[i] ∈ d.lots -> may p f d.bid p.lots[i] = true) -> ∀ y ∈ d.lots, y ∈ p.lots.take (i + 1) -> may p f d.bid y = true := fun q y hy hm => by
   rw [hts, List.mem_append, List.mem_singleton] at hm
   rcases hm with hm | rfl
   ·exact hin y hy hm
   ·exact q hy
  refine cnd_iff.2 ⟨fun hno => ⟨inR64 (by omega) (by omega), ⟨⟨rfl, rfl, rfl, trivial⟩, i + 1, by omega, by omega, hf4, hnext fun hm => ?_⟩, by dsimp only; omega⟩, fun hyes => ?_⟩
  ·simp [hm] at hno
  have hmem : p.lots[i] ∈ d.lots := by simpa using hyes
  have hmay := may_at (f := f) hp hil d.bid
  have hbad : may p f d.bid p.lots[i] = false -> ∀ w', Fr F0 w w' -> K false w' := fun q => hF ⟨_, hmem, q⟩
  rw [cnd_prop]
  refine ⟨fun hlf => ?_, fun hgf => ?_⟩
  ·have hif : i < f.length := by omega
   rw [List.getElem?_eq_getElem hif] at hmay
   simp only at hmay
   intro w5
   have hf5 : Fr F0 w2 w5 := hf4.t Fr.drew
   clear_value w5
   have hw5 := m.1.t hf5
   have h5 := h.fr hw5
   have hp5 := hf5.row hpr fun h => h
   have e1 := h5.pv.ch.len
   obtain ⟨_, hdec⟩ := decs_at hd hif
   refine VI.ld h5.tk i rfl hif ?_
   rw [cnd_prop]
   refine ⟨fun h0 => ⟨s1, hp5.at rfl, VI.ld h5.tk i rfl hif ?_⟩, fun h0 => ?_⟩
   ·have hci : f[i].toNat < p.ch.length := by
     rcases hdec with q | ⟨c, q, _⟩
     ·omega
     ·obtain ⟨_, q2, _⟩ := chAt_some q; exact q2
    rw [chAt_get h0 hci] at hmay
    simp only at hmay
    refine VC.ld h5.pv.ch f[i].toNat (by omega) hci fun a hc => ?_
    obtain ⟨_, c1, _, _⟩ := hc w5 Fr.refl
    refine ⟨_, c1, _, (hf5.row hdr fun h => h).at rfl, possible_k2 (by omega) (fun q => hbad (hmay.trans q) _ hw5) fun q => ⟨⟨⟨rfl, rfl, rfl, trivial⟩, i + 1, by omega, by omega, hf5, hnext fun _ => hmay.trans q⟩, by dsimp only; omega⟩⟩
   ·rw [chAt_neg h0] at hmay
    simp only at hmay
    exact possible_k2 (by omega) (fun _ => hbad hmay _ hw5) fun q => by cases q
  ·rw [List.getElem?_eq_none (by omega)] at hmay
   simp only at hmay
   exact possible_l1 hp h hw4 hil (hf4.row hpr fun h => h) (hf4.row hdr fun h => h) (fun q w' hw => hbad (hmay.trans q) _ (hw4.t hw)) fun q w' hw => ⟨⟨⟨rfl, rfl, rfl, trivial⟩, i + 1, by omega, by omega, hf4.t hw, hnext fun _ => hmay.trans q⟩, by dsimp only; omega⟩
 ·have : i = p.lots.length := by omega
  subst this
  rw [List.take_length] at hin
  have hk := hK w3 (m.1.t hf)
  have e : d.lots.all (may p f d.bid) = true := List.all_eq_true.2 fun y hy => hin y hy ((hp.de d hdm).2.2.1 y hy)
  rwa [e] at hk
theorem refoffs_spec {K : Int -> World -> Prop} (hp : RightPr p) (h : PF w s0 s1 s2 s5 p f) (hd : Decs p p.lots f) (hK : ∀ w', Fr F0 w w' -> K (offs p f) w') : z28_sh s0 s1 s2 p.most p.budget s5 K w := by
 obtain ⟨dc, hdv, hm, hx⟩ := h.pv.de
 have el := hdv.len
 have hlm : dc.length = p.de.length := by rw [← hm, List.length_map]
 have hdes := hp.des
 refine ⟨?_⟩
 unfold z28_sd
 intro w1
 have m : Mem w w1 _ := Mem.nil.allocL (cs := prC s0 s1 s2 p.most p.budget)
 clear_value w1
 have hpr := m.row 0 rfl
 refine ⟨⟨fun out i w' => ∃ i' : Nat, i = i' /\ i' <= dc.length /\ out = ((p.de.take i').map (offOf p f)).sum /\ Fr F0 w1 w', fun _ i _ => dc.length - i.toNat, ⟨0, rfl, by omega, by simp, Fr.refl⟩, ?_⟩⟩
 rintro out i w2 ⟨i, rfl, hi, rfl, hf⟩
 unfold z28_b0
 have hb1 := offs_bound (f := f) hp (List.take_prefix i p.de)
 have hb2 := offs_bound (f := f) hp (List.take_prefix (i + 1) p.de)
 refine ⟨s2, (hf.row hpr fun h => h).at rfl, ?_⟩
 rw [cnd_prop]
 refine ⟨fun hlt => ?_, fun hge => ?_⟩
 ·have hlt : i < dc.length := by omega
  have hlp : i < p.de.length := by omega
  have hts : ((p.de.take (i + 1)).map (offOf p f)).sum = ((p.de.take i).map (offOf p f)).sum + offOf p f p.de[i] := by
   rw [take_succ' hlp, List.map_append, List.sum_append]
   simp
  have hdi : dc[i].1 = p.de[i] := by simp [← hm]
  have hmem : dc[i] ∈ dc := List.getElem_mem hlt
  obtain ⟨hxv, hxl⟩ := hx _ hmem
  intro w3
  have hf3 : Fr F0 w1 w3 := hf.t Fr.drew
  clear_value w3
  have hS : ∀ {u}, Fr F0 w1 u -> Row u w.heap.size (prC s0 s1 s2 p.most p.budget) /\ VD u s2 dc := fun hu => ⟨hu.row hpr fun h => h, hdv.fr (m.1.t hu)⟩
  have hw3 := m.1.t hf3
  refine ⟨fun u => Row u w.heap.size (prC s0 s1 s2 p.most p.budget) /\ VD u s2 dc, hS hf3, s0, fun u hu => hu.1.at rfl, s1, fun u hu => hu.1.at rfl, s2, fun u hu => hu.1.at rfl, _, fun u hu => hu.1.at rfl, _, fun u hu => hu.1.at rfl, s2, fun u hu => hu.1.at rfl, ?_⟩
  obtain ⟨ad, hp', _⟩ := (hdv.fr hw3).at (fun a => encD_length a) (List.getElem?_eq_getElem hlt) (by decide)
  have hat : ∀ u, VD u s2 dc -> ∀ k v, (encD dc[i])[k]? = some v -> u.cell? ((ad.add ((i : Int).toNat * 3)).add k) = some v := fun u hu k v hv => by
   obtain ⟨ad', hp'', hc⟩ := hu.at (fun a => encD_length a) (List.getElem?_eq_getElem hlt) (by decide)
   rw [hp'] at hp''
   cases hp''
   exact hc k v hv
  refine nz_iff.2 ⟨ad, hp', ⟨by omega, by omega⟩, dc[i].1.bid, fun u hu => hat u hu.2 0 _ rfl, dc[i].2, fun u hu => hat u hu.2 1 _ rfl, dc[i].1.off, fun u hu => hat u hu.2 2 _ rfl, ?_⟩
  refine possible_spec hp (h.fr hw3) hd (d := dc[i].1) (hdi ▸ List.getElem_mem hlp) (hxv.fr hw3) hxl fun w15 hf15 => ?_
  have hf15 := hf3.t hf15
  refine ⟨hS hf15, ?_⟩
  have hoff : offOf p f p.de[i] = if dc[i].1.lots.all (may p f dc[i].1.bid) then dc[i].1.off else 0 := by rw [← hdi]; rfl
  refine cnd_iff.2 ⟨fun ht => ⟨s2, (hS hf15).1.at rfl, nz_iff.2 ⟨ad, hp', ⟨by omega, by omega⟩, dc[i].1.off, hat _ (hS hf15).2 2 _ rfl, ?_⟩⟩, fun hfa => ?_⟩
  ·rw [ht, if_pos rfl] at hoff
   rw [hoff] at hts
   exact ⟨inR64 (by omega) (by omega), inR64 (by omega) (by omega), ⟨⟨rfl, rfl, trivial⟩, i + 1, by omega, by omega, hts.symm, hf15⟩, by dsimp only; omega⟩
  ·rw [hfa, if_neg (by decide)] at hoff
   rw [hoff] at hts
   exact ⟨inR64 (by omega) (by omega), ⟨⟨rfl, rfl, trivial⟩, i + 1, by omega, by omega, by omega, hf15⟩, by dsimp only; omega⟩
 ·have : i = p.de.length := by omega
  subst this
  have hk := hK w2 (m.1.t hf)
  rw [List.take_length]
  exact hk
theorem refLeast_spec {K : Int -> World -> Prop} (hp : RightPr p) (h : PF w s0 s1 s2 s5 p f) (hd : Decs p p.lots f) (hK : ∀ w', Fr F0 w w' -> K (leastOf p f) w') : z1s_sh s0 s1 s2 p.most p.budget s5 K w := by
 have el := h.tk.len
 have hl12 := right_len hp hd
 have e1 := h.pv.ch.len
 refine ⟨?_⟩
 unfold z1s_sd
 intro w1
 have m : Mem w w1 _ := Mem.nil.allocL (cs := prC s0 s1 s2 p.most p.budget)
 clear_value w1
 have hpr := m.row 0 rfl
 refine ⟨⟨fun out i w' => ∃ i' : Nat, i = i' /\ i' <= f.length /\ out = costOf p (f.take i') /\ Fr F0 w1 w', fun _ i _ => f.length - i.toNat, ⟨0, rfl, by omega, by simp [costOf, took], Fr.refl⟩, ?_⟩⟩
 rintro out i w2 ⟨i, rfl, hi, rfl, hf⟩
 unfold z1s_b0
 have hb1 := cost_bound hp (decs_take _ f i hd)
 have hb2 := cost_bound hp (decs_take _ f (i + 1) hd)
 have h2 := h.fr (m.1.t hf)
 rw [cnd_prop]
 refine ⟨fun hlt => ?_, fun hge => ?_⟩
 ·have hif : i < f.length := by omega
  obtain ⟨_, hdec⟩ := decs_at hd hif
  have hts : costOf p (f.take (i + 1)) = costOf p (f.take i) + (match chAt p f[i] with | some c => c.price | none => 0) := by
   unfold costOf
   rw [took_succ hif, List.map_append, List.sum_append]
   cases chAt p f[i] <;> simp
  refine VI.ld h2.tk i rfl hif ?_
  rw [cnd_prop]
  refine ⟨fun h0 => ?_, fun h0 => ?_⟩
  ·have hci : f[i].toNat < p.ch.length := by
    rcases hdec with q | ⟨c, q, _⟩
    ·omega
    ·obtain ⟨_, q2, _⟩ := chAt_some q; exact q2
   rw [chAt_get h0 hci] at hts
   simp only at hts
   intro w4
   have hf4 : Fr F0 w1 w4 := hf.t Fr.drew
   clear_value w4
   have h4 := h.fr (m.1.t hf4)
   refine ⟨s1, (hf4.row hpr fun h => h).at rfl, VI.ld h4.tk i rfl hif (VC.ld h4.pv.ch f[i].toNat (by omega) hci fun a hc => ?_)⟩
   obtain ⟨_, _, c2, _⟩ := hc w4 Fr.refl
   exact ⟨_, c2, inR64 (by omega) (by omega), inR64 (by omega) (by omega), ⟨⟨rfl, rfl, trivial⟩, i + 1, by omega, by omega, hts.symm, hf4⟩, by dsimp only; omega⟩
  ·rw [chAt_neg h0] at hts
   simp only at hts
   exact ⟨inR64 (by omega) (by omega), ⟨⟨rfl, rfl, trivial⟩, i + 1, by omega, by omega, by omega, hf⟩, by dsimp only; omega⟩
 ·have : i = f.length := by omega
  subst this
  rw [List.take_length] at hb1 ⊢
  have hp2 := hf.row hpr fun h => h
  refine ⟨s0, hp2.at rfl, s1, hp2.at rfl, s2, hp2.at rfl, _, hp2.at rfl, _, hp2.at rfl, refoffs_spec hp h2 hd fun w4 hf4 => ?_⟩
  have ho := offs_bound (f := f) hp (List.prefix_refl p.de)
  have ho : 0 <= offs p f /\ offs p f <= 100000000000 := ho
  have hk := hK w4 ((m.1.t hf).t hf4)
  unfold leastOf at hk
  exact ⟨inR64 (by omega) (by omega), hk⟩
theorem take_spec {K : Bool -> World -> Prop} (h : PF w s0 s1 s2 s5 p f) (hK : ∀ w', Fr F0 w w' -> K (rightB p && fitsB p f) w') : z29_sh s0 s1 s2 p.most p.budget s5 K w := by
 have el := h.tk.len
 have e0 := h.pv.lots.len
 refine ⟨?_⟩
 unfold z29_sd
 intro w1
 have m : Mem w w1 _ := Mem.nil.allocL (cs := prC s0 s1 s2 p.most p.budget)
 clear_value w1
 refine ⟨s0, m.ld 0 rfl rfl, s1, m.ld 0 rfl rfl, s2, m.ld 0 rfl rfl, _, m.ld 0 rfl rfl, _, m.ld 0 rfl rfl, refRight_spec (h.fr m.1).pv fun w7 hf => ?_⟩
 have m := m.fr hf
 refine cnd_iff.2 ⟨fun hr => ?_, fun hr => ?_⟩
 ·refine ⟨s0, m.ld 0 rfl rfl, s1, m.ld 0 rfl rfl, s2, m.ld 0 rfl rfl, _, m.ld 0 rfl rfl, _, m.ld 0 rfl rfl, refPrefix_spec (h.fr m.1) fun w14 hf => ?_⟩
  have m := m.fr hf
  refine cnd_iff.2 ⟨fun hd => ⟨s0, m.ld 0 rfl rfl, ?_⟩, fun hd => ?_⟩
  ·have hk := hK w14 m.1
   unfold fitsB at hk
   rw [hr, hd] at hk
   have e : ((s5.l : Int) == (s0.l : Int)) = (true && (decide (f.length = p.lots.length) && true)) := by
    rw [el, e0, Bool.true_and, Bool.and_true, Bool.eq_iff_iff]
    simp
    omega
   rwa [← e] at hk
  ·have hk := hK w14 m.1
   unfold fitsB at hk
   rw [hd, Bool.and_false, Bool.and_false] at hk
   exact hk
 ·have hk := hK w7 m.1
  rw [hr, Bool.false_and] at hk
  exact hk
theorem fitsB_decs (h : fitsB p f = true) : Decs p p.lots f := by
 unfold fitsB at h
 rw [Bool.and_eq_true] at h
 exact decsB_iff.1 h.2
theorem refPoints_spec {K : Int -> World -> Prop} (h : PF w s0 s1 s2 s5 p f) (hK : ∀ w', Fr F0 w w' -> K (pointsR p (rightB p) (fitsB p f) f) w') : z1d_sh s0 s1 s2 p.most p.budget s5 K w := by
 have el := h.tk.len
 have e1 := h.pv.ch.len
 refine ⟨?_⟩
 unfold z1d_sd
 intro w1
 have m : Mem w w1 _ := Mem.nil.allocL (cs := prC s0 s1 s2 p.most p.budget)
 clear_value w1
 refine ⟨s0, m.ld 0 rfl rfl, s1, m.ld 0 rfl rfl, s2, m.ld 0 rfl rfl, _, m.ld 0 rfl rfl, _, m.ld 0 rfl rfl, take_spec (h.fr m.1) fun w7 hf => ?_⟩
 have m := m.fr hf
 refine cnd_iff.2 ⟨fun hn => ?_, fun hy => ?_⟩
 ·have hk := hK w7 m.1
  have e : (rightB p && fitsB p f) = false := by
   cases hq : (rightB p && fitsB p f) with
   | false => rfl
   | true => rw [hq] at hn; cases hn
  unfold pointsR at hk
  rw [e] at hk
  exact hk
 ·have e : (rightB p && fitsB p f) = true := by simpa using hy
  obtain ⟨er, ef⟩ := Bool.and_eq_true_iff.1 e
  have hp := rightB_iff.1 er
  have hd := fitsB_decs ef
  have hl12 := right_len hp hd
  have hpr := m.row 0 rfl
  refine ⟨⟨fun out i w' => ∃ i' : Nat, i = i' /\ i' <= f.length /\ out = ptsOf p (f.take i') /\ Fr F0 w7 w', fun _ i _ => f.length - i.toNat, ⟨0, rfl, by omega, by simp [ptsOf, took], Fr.refl⟩, ?_⟩⟩
  rintro out i w2 ⟨i, rfl, hi, rfl, hf⟩
  unfold z1d_b0
  have hb1 := pts_bound hp (decs_take _ f i hd)
  have hb2 := pts_bound hp (decs_take _ f (i + 1) hd)
  have h2 := h.fr (m.1.t hf)
  rw [cnd_prop]
  refine ⟨fun hlt => ?_, fun hge => ?_⟩
  ·have hif : i < f.length := by omega
   obtain ⟨_, hdec⟩ := decs_at hd hif
   have hts : ptsOf p (f.take (i + 1)) = ptsOf p (f.take i) + (match chAt p f[i] with | some c => c.pts | none => 0) := by
    unfold ptsOf
    rw [took_succ hif, List.map_append, List.sum_append]
    cases chAt p f[i] <;> simp
   refine VI.ld h2.tk i rfl hif ?_
   rw [cnd_prop]
   refine ⟨fun h0 => ?_, fun h0 => ?_⟩
   ·have hci : f[i].toNat < p.ch.length := by
     rcases hdec with q | ⟨c, q, _⟩
     ·omega
     ·obtain ⟨_, q2, _⟩ := chAt_some q; exact q2
    rw [chAt_get h0 hci] at hts
    simp only at hts
    intro w4
    have hf4 : Fr F0 w7 w4 := hf.t Fr.drew
    clear_value w4
    have h4 := h.fr (m.1.t hf4)
    refine ⟨s1, (hf4.row hpr fun h => h).at rfl, VI.ld h4.tk i rfl hif (VC.ld h4.pv.ch f[i].toNat (by omega) hci fun a hc => ?_)⟩
    obtain ⟨_, _, _, c3⟩ := hc w4 Fr.refl
    exact ⟨_, c3, inR64 (by omega) (by omega), inR64 (by omega) (by omega), ⟨⟨rfl, rfl, trivial⟩, i + 1, by omega, by omega, hts.symm, hf4⟩, by dsimp only; omega⟩
   ·rw [chAt_neg h0] at hts
    simp only at hts
    exact ⟨inR64 (by omega) (by omega), ⟨⟨rfl, rfl, trivial⟩, i + 1, by omega, by omega, by omega, hf⟩, by dsimp only; omega⟩
  ·have : i = f.length := by omega
   subst this
   rw [List.take_length]
   have hk := hK w2 (m.1.t hf)
   unfold pointsR at hk
   rw [e] at hk
   exact hk
end
end Go.Proofs.YtfpobpjandjhjaaGreatDoor
