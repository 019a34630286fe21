/- The reference's numbers, read one after the other; the lots of the problem that they determine. Conditions: none. -/
import Derived.Test.YtmkjcheafdionaaRM
import Derived.Test.YtmkjcheafdionaaCG5
import Derived.Test.YtmkjcheafdionaaCE1
import Derived.Test.YtmkjcheafdionaaCDH
import Derived.Test.YtmkjcheafdionaaPwQ
namespace Go.Proofs.Ytmkjcheafdionaa
open Go Pw

section
variable {w w' w0 : World} {s t : Sl} {L : List (Nat × List Value)} {l : List Int} {mb : Nat}

/-- The cells of the numbers' variable, i of which have been read. -/
def nmC (s : Sl) (l : List Int) (i : Nat) : List Value := [.slice s.p s.l s.c, .int .i64 (min i l.length : Nat)]

theorem next_mem {i : Nat} {n : Int} {K : Int -> World -> Prop} (hv : VI w0 s l) (hl : l.length < 2 ^ 63) (m : Mem w0 w L) (j : Nat) (hj : L[j]? = some (mb, nmC s l i)) (hn0 : 0 < n) (hn : n < 4611686018427387904)
    (hK : ∀ w', Mem w0 w' (L.set j (mb, nmC s l (i + 1))) -> Fr (fun b => b = mb) w w' -> K (nv l i n) w') : Rf_numbers_next_sh (some ⟨mb, 0, none⟩) n K w := by
  refine ⟨?_⟩
  unfold Rf_numbers_next_sd
  have hlen := hv.len
  have hjl : j < L.length := (List.getElem?_eq_some_iff.1 hj).1
  intro w1
  have m1 : Mem w0 w1 _ := m.drew
  have hf1 : Fr (fun b => b = mb) w w1 := Fr.drew
  clear_value w1
  refine nz_iff.2 ⟨_, rfl, _, m1.ld j hj rfl, ?_⟩
  refine nz_iff.2 ⟨_, rfl, s, m1.ld j hj rfl, ?_⟩
  rw [cnd_prop]
  refine ⟨fun hge => ?_, fun hlt => ?_⟩
  · have hil : l.length <= i := by omega
    have e : nmC s l (i + 1) = nmC s l i := by unfold nmC; rw [Nat.min_eq_right hil, Nat.min_eq_right (by omega)]
    have := hK w1 (by rw [e, set_self hj]; exact m1) hf1
    rwa [nv_out hil] at this
  · have hil : i < l.length := by omega
    have hmin : min i l.length = i := by omega
    refine nz_iff.2 ⟨_, rfl, _, m1.ld j hj rfl, inR64 (by omega) (by omega), ?_⟩
    refine nz_iff.2 ⟨_, rfl, m1.wr j hj rfl, ?_⟩
    intro w2
    have m2 : Mem w0 w2 (L.set j (mb, [.slice s.p s.l s.c, .int .i64 ((min i l.length : Nat) + 1)])) := m1.set j hj
    have hf2 : Fr (fun b => b = mb) w1 w2 := Fr.set rfl
    clear_value w2
    have e : nmC s l (i + 1) = [.slice s.p s.l s.c, .int .i64 ((min i l.length : Nat) + 1)] := by
      unfold nmC
      rw [Nat.min_eq_left (by omega : i + 1 <= l.length), hmin]
      rfl
    rw [← e] at m2
    intro w3
    have m3 : Mem w0 w3 _ := m2.drew
    have hf3 : Fr (fun b => b = mb) w2 w3 := Fr.drew
    clear_value w3
    have hj3 : (L.set j (mb, nmC s l (i + 1)))[j]? = some (mb, nmC s l (i + 1)) := by simp [hjl]
    have hmin2 : min (i + 1) l.length = i + 1 := by omega
    refine ⟨fun u => Row u mb (nmC s l (i + 1)) /\ VI u s l, ⟨m3.row j hj3, hv.fr m3.1⟩, ?_⟩
    refine nz_iff.2 ⟨_, rfl, s, fun u hu => hu.1.at rfl, ?_⟩
    refine nz_iff.2 ⟨_, rfl, _, fun u hu => hu.1.at rfl, inR64 (by omega) (by omega), ?_⟩
    obtain ⟨ad, hp, _⟩ := hv.at (fun a => ie_length _ _ a) (List.getElem?_eq_getElem hil) (by decide)
    refine nz_iff.2 ⟨ad, hp, ⟨by omega, by omega⟩, l[i], fun u hu => ?_, ?_⟩
    · obtain ⟨ad', hp', hc⟩ := hu.2.at (fun a => ie_length _ _ a) (List.getElem?_eq_getElem hil) (by decide)
      rw [hp] at hp'
      cases hp'
      have e2 : ((((min (i + 1) l.length : Nat) : Int)) - 1).toNat = i := by omega
      rw [e2]
      exact hc 0 _ rfl
    · refine Mod_spec hn0 hn ⟨⟨m3.row j hj3, hv.fr m3.1⟩, ?_⟩
      have := hK w3 m3 ((hf1.trans hf2 fun _ h _ => h).trans hf3 fun _ h _ => h)
      unfold nv at this
      rw [List.getD_eq_getElem?_getD, List.getElem?_eq_getElem hil] at this
      exact this

theorem next_sp {α : Type} {k : Nat} {enc : α -> List Value} {xs : List α} {B : Nat -> Prop} {Q : World -> Prop} {i : Nat} {n : Int} {K : Int -> World -> Prop} (hv : VI w0 s l) (hl : l.length < 2 ^ 63) (h : Sp w0 w L B Q k enc t xs) (j : Nat) (hj : L[j]? = some (mb, nmC s l i)) (hn0 : 0 < n) (hn : n < 4611686018427387904)
    (hK : ∀ w', Sp w0 w' (L.set j (mb, nmC s l (i + 1))) B Q k enc t xs -> K (nv l i n) w') : Rf_numbers_next_sh (some ⟨mb, 0, none⟩) n K w :=
  next_mem hv hl h.m j hj hn0 hn fun w' m hf => hK w' (h.setF hj hf m)

theorem range_succ_map {α : Type} (f : Nat -> α) (i : Nat) : (List.range (i + 1)).map f = (List.range i).map f ++ [f i] := by rw [List.range_succ, List.map_append]; rfl

/-- The bit of a number that is less than 16. -/
theorem bit_code : ∀ m : Fin 16, ∀ k : Fin 4, ((IntKind.wrap .i64 (((BitVec.ofInt (IntKind.bits .i64) (Int.fdiv (m.val : Int) (2 ^ (min ((k.val : Int)).toNat (IntKind.bits .i64)))) &&& BitVec.ofInt (IntKind.bits .i64) (1 : Int))).toNat : Int)) == (1 : Int)) = bitI (m.val : Int) k.val := by decide +kernel

theorem pow_code : ∀ k : Fin 5, (IntKind.wrap .i64 ((1 : Int) * 2 ^ (min ((k.val : Int)).toNat (IntKind.bits .i64)))) = 2 ^ k.val := by decide +kernel

theorem Ints_spec {a b : List Int} {K : Bool -> World -> Prop} (ha : VI w s a) (hb : VI w t b) (hl : a.length < 2 ^ 63) (hK : ∀ w', Fr F0 w w' -> K (decide (a = b)) w') : Rf_Ints_sh s t K w := by
  refine ⟨?_⟩
  unfold Rf_Ints_sd
  have ea := ha.len; have eb := hb.len
  rw [cnd_bne]
  refine ⟨fun hne => ?_, fun heq => ?_⟩
  · have := hK w Fr.refl
    rwa [decide_eq_false (by rintro rfl; omega)] at this
  · have hlen : a.length = b.length := by omega
    refine ⟨⟨fun i w' => ∃ i' : Nat, i = i' /\ i' <= a.length /\ a.take i' = b.take i' /\ Fr F0 w w', fun i _ => a.length - i.toNat, ⟨0, rfl, by omega, rfl, Fr.refl⟩, ?_⟩⟩
    rintro i w1 ⟨i, rfl, hi, ht, hf⟩
    unfold Rf_Ints_b0
    rw [cnd_prop]
    refine ⟨fun hlt => ?_, fun hge => ?_⟩
    · have hlt : i < a.length := by omega
      intro w2
      have hf2 : Fr F0 w w2 := hf.t Fr.drew
      clear_value w2
      refine VI.ld (ha.fr hf2) i rfl hlt ?_
      refine VI.ld (hb.fr hf2) i rfl (by omega) ?_
      rw [cnd_bne]
      refine ⟨fun hne => ?_, fun he => ⟨inR64 (by omega) (by omega), ⟨⟨rfl, rfl, trivial⟩, i + 1, by omega, by omega, ?_, hf2⟩, by dsimp only; omega⟩⟩
      · have := hK w2 hf2
        rwa [decide_eq_false (by rintro rfl; exact hne rfl)] at this
      · rw [take_succ' hlt, take_succ' (by omega), ht, he]
    · have : i = a.length := by omega
      subst this
      rw [List.take_length, List.take_of_length_le (by omega)] at ht
      have := hK w1 hf
      rwa [decide_eq_true ht] at this

theorem optsFrom_len {lot : Int} : ∀ (l : List Ch) (i : Nat), (optsFrom lot i l).length = l.countP (fun c => c.lot == lot)
  | [], _ => rfl
  | c :: l, i => by
    unfold optsFrom
    rw [List.countP_cons]
    by_cases h : c.lot = lot
    · rw [if_pos h, List.length_cons, optsFrom_len l (i + 1)]
      simp [h]
    · rw [if_neg h, optsFrom_len l (i + 1)]
      simp [h]

theorem Prefixes_spec {s0 s1 s2 : Sl} {p : Pr} {K : Int -> World -> Prop} (h : PV w s0 s1 s2 p) (hb : prefN p p.lots < 2 ^ 40) (hK : ∀ w', Fr F0 w w' -> K (prefN p p.lots) w') : Rf_Prefixes_sh s0 s1 s2 p.most p.budget K w := by
  refine ⟨?_⟩
  unfold Rf_Prefixes_sd
  have l0 := h.l0; have l1 := h.l1
  have e0 := h.lots.len; have e1 := h.ch.len
  intro w1
  have hf1 : Fr F0 w w1 := Fr.alloc
  have hr : Row w1 w.heap.size (prC s0 s1 s2 p.most p.budget) := Row.new
  clear_value w1
  refine ⟨⟨fun out now i w' => ∃ i' o n : Nat, i = i' /\ out = o /\ now = n /\ i' <= p.lots.length /\ o + n * (prefN p (p.lots.drop i') - 1) = prefN p p.lots /\ Fr F0 w1 w', fun _ _ i _ => p.lots.length - i.toNat,
    ⟨0, 1, 1, rfl, rfl, rfl, by omega, by rw [List.drop_zero]; have := prefN_pos p p.lots; omega, Fr.refl⟩, ?_⟩⟩
  rintro _ _ i w2 ⟨i, o, n, rfl, rfl, rfl, hi, hsum, hf2⟩
  unfold Rf_Prefixes_b0
  have hr2 := hf2.row hr fun h => h
  refine ⟨s0, hr2.at rfl, ?_⟩
  rw [cnd_prop]
  refine ⟨fun hlt => ?_, fun hge => ?_⟩
  · have hlt : i < p.lots.length := by omega
    have hdrop : p.lots.drop i = p.lots[i] :: p.lots.drop (i + 1) := List.drop_eq_getElem_cons hlt
    rw [hdrop, prefN] at hsum
    have hpos := prefN_pos p (p.lots.drop (i + 1))
    have hol : (opts p p.lots[i]).length = 1 + p.ch.countP (fun c => c.lot == p.lots[i]) := by simp [opts, optsFrom_len]; omega
    have hcl := List.countP_le_length (p := fun c : Ch => c.lot == p.lots[i]) (l := p.ch)
    refine ⟨⟨fun m k w' => ∃ k' : Nat, k = k' /\ k' <= p.ch.length /\ m = ((1 + (p.ch.take k').countP (fun c => c.lot == p.lots[i]) : Nat) : Int) /\ Fr F0 w1 w', fun _ k _ => p.ch.length - k.toNat, ⟨0, rfl, by omega, by simp, hf2⟩, ?_⟩⟩
    rintro m k w3 ⟨k, rfl, hk, rfl, hf3⟩
    unfold Rf_Prefixes_b1
    refine ⟨s1, (hf3.row hr fun h => h).at rfl, ?_⟩
    rw [cnd_prop]
    refine ⟨fun hlk => ?_, fun hgk => ?_⟩
    · have hlk : k < p.ch.length := by omega
      intro w4
      have hf4 : Fr F0 w1 w4 := hf3.t Fr.drew
      clear_value w4
      have hr4 := hf4.row hr fun h => h
      refine ⟨s1, hr4.at rfl, ?_⟩
      refine VC.ld (h.fr (hf1.t hf4)).ch k rfl hlk fun a hc => ?_
      refine ⟨_, (hc w4 Fr.refl).1, s0, hr4.at rfl, ?_⟩
      refine VI.ld (h.fr (hf1.t hf4)).lots i rfl hlt ?_
      have hts := take_succ' hlk
      have hcl2 := List.countP_le_length (p := fun c : Ch => c.lot == p.lots[i]) (l := p.ch.take k)
      rw [List.length_take] at hcl2
      rw [cnd_beq]
      refine ⟨fun he => ⟨inR64 (by omega) (by omega), inR64 (by omega) (by omega), ⟨⟨rfl, rfl, rfl, rfl, trivial⟩, k + 1, by omega, by omega, ?_, hf4⟩, by dsimp only; omega⟩, fun hne => ⟨inR64 (by omega) (by omega), ⟨⟨rfl, rfl, rfl, rfl, trivial⟩, k + 1, by omega, by omega, ?_, hf4⟩, by dsimp only; omega⟩⟩
      · rw [hts, List.countP_append, List.countP_cons, List.countP_nil]
        simp [he]
        omega
      · rw [hts, List.countP_append, List.countP_cons, List.countP_nil]
        simp [hne]
    · have : k = p.ch.length := by omega
      subst this
      rw [List.take_length, ← hol]
      generalize hq : prefN p (p.lots.drop (i + 1)) = q at *
      generalize (opts p p.lots[i]).length = m at *
      have e2 : n * (1 + m * q - 1) = n * m * q := by rw [Nat.add_sub_cancel_left, Nat.mul_assoc]
      rw [e2] at hsum
      have e3 : n * m + n * m * (q - 1) = n * m * q := by
        obtain ⟨q', rfl⟩ : ∃ q', q = q' + 1 := ⟨q - 1, by omega⟩
        rw [Nat.add_sub_cancel, Nat.mul_add, Nat.mul_one, Nat.add_comm]
      have hle : n * m <= n * m * q := Nat.le_mul_of_pos_right _ (by omega)
      have e4 : (n : Int) * (m : Int) = ((n * m : Nat) : Int) := by rw [Int.natCast_mul]
      rw [e4]
      refine ⟨inR64 (by omega) (by omega), inR64 (by omega) (by omega), inR64 (by omega) (by omega), ⟨⟨rfl, trivial⟩, i + 1, o + n * m, n * m, by omega, by omega, rfl, by omega, by rw [hq]; omega, hf3⟩, by dsimp only; omega⟩
  · have : i = p.lots.length := by omega
    subst this
    rw [List.drop_of_length_le (Nat.le_refl _), prefN] at hsum
    have := hK w2 (hf1.t hf2)
    rw [← hsum] at this
    simpa using this
end
end Go.Proofs.Ytmkjcheafdionaa
