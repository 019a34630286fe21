/- The reference's Prefix, offs, Least, take, Paid and Points. Conditions: none. -/
import Derived.Test.YtfpobpjandjhjaaDoorCEY
import Derived.Test.YtfpobpjandjhjaaDoorPWX
import Derived.Test.YtfpobpjandjhjaaDoorPwS
import Derived.Test.YtfpobpjandjhjaaDoorCG1
import Derived.Test.YtfpobpjandjhjaaDoorRSZ
import Derived.Test.YtfpobpjandjhjaaDoorRQ0
import Derived.Test.YtfpobpjandjhjaaDoorRM
namespace Go.Proofs.YtfpobpjandjhjaaDoor
open Go Pw
section
variable {w wB : World} {s x s0 s1 s2 s5 : Sl} {l dl f : List Int} {p : Pr} {pb db : Nat}
theorem decs_take : ∀ (ls f : List Int) (i : Nat), Decs p ls f -> Decs p ls (f.take i)
 | _, _, 0, _ => by simp [Decs]
 | _, [], _ + 1, _ => by simp [Decs]
 | [], _ :: _, _ + 1, h => h.elim
 | _ :: ls, _ :: f, i + 1, h => by
  rw [List.take_succ_cons]
  exact ⟨h.1, decs_take ls f i h.2⟩
theorem refPrefix_spec {K : Bool -> World -> Prop} (h : PF w s0 s1 s2 s5 p f) (hK : ∀ w', Fr F0 w w' -> K (decsB p p.lots f) w') : z0g_sh s0 s1 s2 p.most p.budget s5 K w := by
 have el := h.tk.len
 have hlt := h.lt
 have e0 := h.pv.lots.len
 have e1 := h.pv.ch.len
 have hF : ¬ Decs p p.lots f -> ∀ w', Fr F0 w w' -> K false w' := fun hn w' hw => by
  have := hK w' hw
  cases hb : decsB p p.lots f with
  | false => rwa [hb] at this
  | true => exact absurd (decsB_iff.1 hb) hn
 refine ⟨?_⟩
 unfold z0g_sd
 intro w1
 have m : Mem w w1 _ := Mem.nil.allocL (cs := prC s0 s1 s2 p.most p.budget)
 clear_value w1
 have hpr := m.row 0 rfl
 refine ⟨s0, m.ld 0 rfl rfl, ?_⟩
 rw [cnd_prop]
 refine ⟨fun hg => hF (fun hd => by have := decs_len hd; omega) _ m.1, fun hle => ?_⟩
 refine ⟨⟨fun i w' => ∃ i' : Nat, i = i' /\ i' <= f.length /\ Fr F0 w1 w' /\ ∀ j lot n, j < i' -> p.lots[j]? = some lot -> f[j]? = some n -> Dec p lot n, fun i _ => f.length - i.toNat, ⟨0, rfl, by omega, Fr.refl, fun j _ _ hj => by omega⟩, ?_⟩⟩
 rintro i w2 ⟨i, rfl, hi, hf, hin⟩
 unfold z0g_b0
 rw [cnd_prop]
 refine ⟨fun hlt => ?_, fun hge => ?_⟩
 ·have hif : i < f.length := by omega
  have hil : i < p.lots.length := by omega
  intro w3
  have hf3 : Fr F0 w1 w3 := hf.t Fr.drew
  clear_value w3
  have hfw := m.1.t hf3
  have h3 := h.fr hfw
  have hp3 := hf3.row hpr fun h => h
  have hbad : ¬ Dec p p.lots[i] f[i] -> K false w3 := fun hn => hF (fun hd => hn (by obtain ⟨_, q⟩ := decs_at hd hif; exact q)) _ hfw
  refine VI.ld h3.tk i rfl hif ?_
  rw [cnd_prop]
  refine ⟨fun hc => hbad fun q => ?_, fun hc1 => VI.ld h3.tk i rfl hif ⟨s1, hp3.at rfl, ?_⟩⟩
  ·rcases q with q | ⟨c, q, _⟩
   ·omega
   ·have := (chAt_some q).1; omega
  rw [cnd_prop]
  refine ⟨fun hc => hbad fun q => ?_, fun hc2 => VI.ld h3.tk i rfl hif ?_⟩
  ·rcases q with q | ⟨c, q, _⟩
   ·omega
   ·obtain ⟨_, q2, _⟩ := chAt_some q; omega
  rw [cnd_prop]
  have hnext : Dec p p.lots[i] f[i] -> ∀ j lot n, j < i + 1 -> p.lots[j]? = some lot -> f[j]? = some n -> Dec p lot n := fun q j lot n hj h1 h2 => by
   rcases Nat.lt_succ_iff_lt_or_eq.1 hj with hj | rfl
   ·exact hin j lot n hj h1 h2
   ·rw [List.getElem?_eq_getElem hil] at h1
    rw [List.getElem?_eq_getElem hif] at h2
    cases h1
    cases h2
    exact q
  refine ⟨fun hc3 => ⟨s1, hp3.at rfl, VI.ld h3.tk i rfl hif ?_⟩, fun hc3 => ⟨inR64 (by omega) (by omega), ⟨⟨rfl, rfl, trivial⟩, i + 1, by omega, by omega, hf3, hnext (.inl (by omega))⟩, by dsimp only; omega⟩⟩
  have hci : f[i].toNat < p.ch.length := by omega
  have hcast : f[i] = (f[i].toNat : Int) := by omega
  refine VC.ld h3.pv.ch f[i].toNat hcast hci fun a hc => ?_
  obtain ⟨c0, _, _, _⟩ := hc w3 Fr.refl
  refine ⟨_, c0, s0, hp3.at rfl, VI.ld h3.pv.lots i rfl hil ?_⟩
  have hca := chAt_get hc3 hci
  rw [cnd_bne]
  refine ⟨fun hne => hbad fun q => ?_, fun he => ⟨inR64 (by omega) (by omega), ⟨⟨rfl, rfl, trivial⟩, i + 1, by omega, by omega, hf3, hnext (.inr ⟨_, hca, he⟩)⟩, by dsimp only; omega⟩⟩
  rcases q with q | ⟨c, q, q2⟩
  ·omega
  ·rw [hca] at q
   cases q
   exact hne q2
 ·have : i = f.length := by omega
  subst this
  have hd : Decs p p.lots f := (decs_get (by omega)).2 fun j lot n h1 h2 => hin j lot n (List.getElem?_eq_some_iff.1 h2).1 h1 h2
  have hk := hK w2 (m.1.t hf)
  rwa [decsB_iff.2 hd] at hk
theorem may_at (hp : RightPr p) {i : Nat} (hi : i < p.lots.length) (b : Int) : may p f b p.lots[i] = match f[i]? with
  | some n => (match chAt p n with | some c => c.bid == b | none => false)
  | none => p.ch.any fun c => c.lot == p.lots[i] && c.bid == b := by
 have e : p.lots.idxOf p.lots[i] = i := by
  have h1 : p.lots.idxOf p.lots[i] < p.lots.length := List.idxOf_lt_length_of_mem (List.getElem_mem hi)
  have h2 : p.lots[p.lots.idxOf p.lots[i]] = p.lots[i] := List.getElem_idxOf h1
  exact (List.getElem_inj hp.diff).1 h2
 unfold may
 rw [e]
 cases f[i]? with
 | none => rfl
 | some n => cases chAt p n <;> rfl
theorem possible_k2 {i : Nat} {b : Bool} {N0 : Sl -> Addr -> Addr -> Int -> World -> Prop} {K : Bool -> World -> Prop} (hi : i < 100) (hF : b = false -> K false w) (hT : b = true -> N0 s5 ⟨pb, 0, none⟩ ⟨db, 0, none⟩ ((i : Int) + 1) w) :
  z09_k2 s5 ⟨pb, 0, none⟩ ⟨db, 0, none⟩ i b N0 K w := by
 refine ⟨?_⟩
 unfold z09_k2d
 exact cnd_iff.2 ⟨fun h => hF (by simpa using h), fun h => ⟨inR64 (by omega) (by omega), hT (by simpa using h)⟩⟩
theorem possible_l1 {i : Nat} {d : De} {N0 : Sl -> Addr -> Addr -> Int -> World -> Prop} {K : Bool -> World -> Prop} (hp : RightPr p) (h : PF wB s0 s1 s2 s5 p f) (hB : Fr F0 wB w) (hi : i < p.lots.length)
  (hpr : Row w pb (prC s0 s1 s2 p.most p.budget)) (hdr : Row w db [.int .i64 d.bid, .slice x.p x.l x.c, .int .i64 d.off])
  (hF : (p.ch.any fun c => c.lot == p.lots[i] && c.bid == d.bid) = false -> ∀ w', Fr F0 w w' -> K false w') (hT : (p.ch.any fun c => c.lot == p.lots[i] && c.bid == d.bid) = true -> ∀ w', Fr F0 w w' -> N0 s5 ⟨pb, 0, none⟩ ⟨db, 0, none⟩ ((i : Int) + 1) w') :
  z09_l1 s5 ⟨pb, 0, none⟩ ⟨db, 0, none⟩ i false 0 N0 K w := by
 have e1 := h.pv.ch.len
 have hch := hp.chs
 have hfew := hp.few
 refine ⟨⟨fun b k w' => ∃ k' : Nat, k = k' /\ k' <= p.ch.length /\ Fr F0 w w' /\ b = (p.ch.take k').any fun c => c.lot == p.lots[i] && c.bid == d.bid, fun _ k _ => p.ch.length - k.toNat, ⟨0, rfl, by omega, Fr.refl, by simp⟩, ?_⟩⟩
 rintro b k w1 ⟨k, rfl, hk, hf, hb⟩
 unfold z09_b1
 refine ⟨s1, (hf.row hpr fun h => h).at rfl, ?_⟩
 rw [cnd_prop]
 refine ⟨fun hlt => ?_, fun hge => ?_⟩
 ·have hlt : k < p.ch.length := by omega
  have hts := take_succ' hlt
  intro w2
  have hf2 : Fr F0 w w2 := hf.t Fr.drew
  clear_value w2
  have hp2 := hf2.row hpr fun h => h
  have h2 := h.fr (hB.t hf2)
  have hany : (p.ch.take (k + 1)).any (fun c => c.lot == p.lots[i] && c.bid == d.bid) = (b || (p.ch[k].lot == p.lots[i] && p.ch[k].bid == d.bid)) := by
   rw [hts, List.any_append, ← hb]
   simp
  refine cnd_iff.2 ⟨fun ht => ⟨inR64 (by omega) (by omega), ⟨⟨rfl, rfl, rfl, rfl, trivial⟩, k + 1, by omega, by omega, hf2, by rw [hany, ht]; rfl⟩, by dsimp only; omega⟩, fun hfa => ⟨s1, hp2.at rfl, ?_⟩⟩
  refine VC.ld h2.pv.ch k rfl hlt fun a hc => ?_
  obtain ⟨c0, c1, _, _⟩ := hc w2 Fr.refl
  refine ⟨_, c0, s0, hp2.at rfl, VI.ld h2.pv.lots i rfl hi ?_⟩
  rw [cnd_beq]
  refine ⟨fun he => ⟨s1, hp2.at rfl, VC.ld h2.pv.ch k rfl hlt fun a hc => ?_⟩, fun hne => ⟨inR64 (by omega) (by omega), ⟨⟨rfl, rfl, rfl, rfl, trivial⟩, k + 1, by omega, by omega, hf2, ?_⟩, by dsimp only; omega⟩⟩
  ·obtain ⟨_, c1, _, _⟩ := hc w2 Fr.refl
   refine ⟨_, c1, _, (hf2.row hdr fun h => h).at rfl, inR64 (by omega) (by omega), ⟨⟨rfl, rfl, rfl, rfl, trivial⟩, k + 1, by omega, by omega, hf2, ?_⟩, by dsimp only; omega⟩
   rw [hany, hfa, he]
   simp
  ·rw [hany, hfa]
   simp [hne]
 ·have : k = p.ch.length := by omega
  subst this
  rw [List.take_length] at hb
  exact possible_k2 (by omega) (fun h => hF (hb ▸ h) w1 hf) fun h => hT (hb ▸ h) w1 hf
theorem possible_spec {d : De} {K : Bool -> World -> Prop} (hp : RightPr p) (h : PF w s0 s1 s2 s5 p f) (hd : Decs p p.lots f) (hdm : d ∈ p.de) (hv : VI w x d.lots) (hl : d.lots.length < 2 ^ 40) (hK : ∀ w', Fr F0 w w' -> K (d.lots.all (may p f d.bid)) w') :
  z09_sh s0 s1 s2 p.most p.budget s5 d.bid x d.off K w := by
 have el := h.tk.len
 have hfew := hp.few
 have hfl := decs_len hd
 have e0 := h.pv.lots.len
 have hF : (∃ y ∈ d.lots, may p f d.bid y = false) -> ∀ w', Fr F0 w w' -> K false w' := fun ⟨y, hy, hn⟩ w' hw => by
  have := hK w' hw
  have e : d.lots.all (may p f d.bid) = false := List.all_eq_false.2 ⟨y, hy, by simp [hn]⟩
  rwa [e] at this
 refine ⟨?_⟩
 unfold z09_sd
 intro w1
 have m : Mem w w1 _ := Mem.nil.allocL (cs := prC s0 s1 s2 p.most p.budget)
 clear_value w1
 intro w2
 have m : Mem w w2 _ := m.allocL (cs := [.int .i64 d.bid, .slice x.p x.l x.c, .int .i64 d.off])
 clear_value w2
 have hpr := m.row 1 rfl
 have hdr := m.row 0 rfl
 refine ⟨⟨fun i w' => ∃ i' : Nat, i = i' /\ i' <= p.lots.length /\ Fr F0 w2 w' /\ ∀ y ∈ d.lots, y ∈ p.lots.take i' -> may p f d.bid y = true, fun i _ => p.lots.length - i.toNat, ⟨0, rfl, by omega, Fr.refl, fun y _ hy => by simp at hy⟩, ?_⟩⟩
 rintro i w3 ⟨i, rfl, hi, hf, hin⟩
 unfold z09_b0
 refine ⟨s0, (hf.row hpr fun h => h).at rfl, ?_⟩
 rw [cnd_prop]
 refine ⟨fun hlt => ?_, fun hge => ?_⟩
 ·have hil : i < p.lots.length := by omega
  have hts := take_succ' hil
  intro w4
  have hf4 : Fr F0 w2 w4 := hf.t Fr.drew
  clear_value w4
  have hS : ∀ {u}, Fr F0 w2 u -> (Row u w.heap.size (prC s0 s1 s2 p.most p.budget) /\ Row u w1.heap.size [.int .i64 d.bid, .slice x.p x.l x.c, .int .i64 d.off]) /\ VI u s0 p.lots := fun hu => ⟨⟨hu.row hpr fun h => h, hu.row hdr fun h => h⟩, h.pv.lots.fr (m.1.t hu)⟩
  have hw4 := m.1.t hf4
  refine ⟨fun u => (Row u w.heap.size (prC s0 s1 s2 p.most p.budget) /\ Row u w1.heap.size [.int .i64 d.bid, .slice x.p x.l x.c, .int .i64 d.off]) /\ VI u s0 p.lots, hS hf4, x, fun u hu => hu.1.2.at rfl, s0, fun u hu => hu.1.1.at rfl, ?_⟩
  obtain ⟨ad, hp', _⟩ := (h.pv.lots.fr hw4).at (fun a => ie_length _ _ a) (List.getElem?_eq_getElem hil) (by decide)
  refine nz_iff.2 ⟨ad, hp', ⟨by omega, by omega⟩, p.lots[i], fun u hu => ?_, ?_⟩
  ·obtain ⟨ad', hp'', hc⟩ := hu.2.at (fun a => ie_length _ _ a) (List.getElem?_eq_getElem hil) (by decide)
   rw [hp'] at hp''
   cases hp''
   exact hc 0 _ rfl
  refine contains_spec (hv.fr hw4) (by omega) ⟨hS hf4, ?_⟩
  have hnext : (p.lots[i] ∈ d.lots -> may p f d.bid p.lots[i] = true) -> ∀ y ∈ d.lots, y ∈ p.lots.take (i + 1) -> may p f d.bid y = true := fun q y hy hm => by
   rw [hts, List.mem_append, List.mem_singleton] at hm
   rcases hm with hm | rfl
   ·exact hin y hy hm
   ·exact q hy
  refine cnd_iff.2 ⟨fun hno => ⟨inR64 (by omega) (by omega), ⟨⟨rfl, rfl, rfl, trivial⟩, i + 1, by omega, by omega, hf4, hnext fun hm => ?_⟩, by dsimp only; omega⟩, fun hyes => ?_⟩
  ·simp [hm] at hno
  have hmem : p.lots[i] ∈ d.lots := by simpa using hyes
  have hmay := may_at (f := f) hp hil d.bid
  have hbad : may p f d.bid p.lots[i] = false -> ∀ w', Fr F0 w w' -> K false w' := fun q => hF ⟨_, hmem, q⟩
  rw [cnd_prop]
  refine ⟨fun hlf => ?_, fun hgf => ?_⟩
  ·have hif : i < f.length := by omega
   rw [List.getElem?_eq_getElem hif] at hmay
   simp only at hmay
   intro w5
   have hf5 : Fr F0 w2 w5 := hf4.t Fr.drew
   clear_value w5
   have hw5 := m.1.t hf5
   have h5 := h.fr hw5
   have hp5 := hf5.row hpr fun h => h
   have e1 := h5.pv.ch.len
   obtain ⟨_, hdec⟩ := decs_at hd hif
   refine VI.ld h5.tk i rfl hif ?_
   rw [cnd_prop]
   refine ⟨fun h0 => ⟨s1, hp5.at rfl, VI.ld h5.tk i rfl hif ?_⟩, fun h0 => ?_⟩
   ·have hci : f[i].toNat < p.ch.length := by
     rcases hdec with q | ⟨c, q, _⟩
     ·omega
     ·obtain ⟨_, q2, _⟩ := chAt_some q; exact q2
    rw [chAt_get h0 hci] at hmay
    simp only at hmay
    refine VC.ld h5.pv.ch f[i].toNat (by omega) hci fun a hc => ?_
    obtain ⟨_, c1, _, _⟩ := hc w5 Fr.refl
    refine ⟨_, c1, _, (hf5.row hdr fun h => h).at rfl, possible_k2 (by omega) (fun q => hbad (hmay.trans q) _ hw5) fun q => ⟨⟨⟨rfl, rfl, rfl, trivial⟩, i + 1, by omega, by omega, hf5, hnext fun _ => hmay.trans q⟩, by dsimp only; omega⟩⟩
   ·rw [chAt_neg h0] at hmay
    simp only at hmay
    exact possible_k2 (by omega) (fun _ => hbad hmay _ hw5) fun q => by cases q
  ·rw [List.getElem?_eq_none (by omega)] at hmay
   simp only at hmay
   exact possible_l1 hp h hw4 hil (hf4.row hpr fun h => h) (hf4.row hdr fun h => h) (fun q w' hw => hbad (hmay.trans q) _ (hw4.t hw)) fun q w' hw => ⟨⟨⟨rfl, rfl, rfl, trivial⟩, i + 1, by omega, by omega, hf4.t hw, hnext fun _ => hmay.trans q⟩, by dsimp only; omega⟩
 ·have : i = p.lots.length := by omega
  subst this
  rw [List.take_length] at hin
  have hk := hK w3 (m.1.t hf)
  have e : d.lots.all (may p f d.bid) = true := List.all_eq_true.2 fun y hy => hin y hy ((hp.de d hdm).2.2.1 y hy)
  rwa [e] at hk
theorem refoffs_spec {K : Int -> World -> Prop} (hp : RightPr p) (h : PF w s0 s1 s2 s5 p f) (hd : Decs p p.lots f) (hK : ∀ w', Fr F0 w w' -> K (offs p f) w') : z0o_sh s0 s1 s2 p.most p.budget s5 K w := by
 obtain ⟨dc, hdv, hm, hx⟩ := h.pv.de
 have el := hdv.len
 have hlm : dc.length = p.de.length := by rw [← hm, List.length_map]
 have hdes := hp.des
 refine ⟨?_⟩
 unfold z0o_sd
 intro w1
 have m : Mem w w1 _ := Mem.nil.allocL (cs := prC s0 s1 s2 p.most p.budget)
 clear_value w1
 have hpr := m.row 0 rfl
 refine ⟨⟨fun out i w' => ∃ i' : Nat, i = i' /\ i' <= dc.length /\ out = ((p.de.take i').map (offOf p f)).sum /\ Fr F0 w1 w', fun _ i _ => dc.length - i.toNat, ⟨0, rfl, by omega, by simp, Fr.refl⟩, ?_⟩⟩
 rintro out i w2 ⟨i, rfl, hi, rfl, hf⟩
 unfold z0o_b0
 have hb1 := offs_bound (f := f) hp (List.take_prefix i p.de)
 have hb2 := offs_bound (f := f) hp (List.take_prefix (i + 1) p.de)
 refine ⟨s2, (hf.row hpr fun h => h).at rfl, ?_⟩
 rw [cnd_prop]
 refine ⟨fun hlt => ?_, fun hge => ?_⟩
 ·have hlt : i < dc.length := by omega
  have hlp : i < p.de.length := by omega
  have hts : ((p.de.take (i + 1)).map (offOf p f)).sum = ((p.de.take i).map (offOf p f)).sum + offOf p f p.de[i] := by
   rw [take_succ' hlp, List.map_append, List.sum_append]
   simp
  have hdi : dc[i].1 = p.de[i] := by simp [← hm]
  have hmem : dc[i] ∈ dc := List.getElem_mem hlt
  obtain ⟨hxv, hxl⟩ := hx _ hmem
  intro w3
  have hf3 : Fr F0 w1 w3 := hf.t Fr.drew
  clear_value w3
  have hS : ∀ {u}, Fr F0 w1 u -> Row u w.heap.size (prC s0 s1 s2 p.most p.budget) /\ VD u s2 dc := fun hu => ⟨hu.row hpr fun h => h, hdv.fr (m.1.t hu)⟩
  have hw3 := m.1.t hf3
  refine ⟨fun u => Row u w.heap.size (prC s0 s1 s2 p.most p.budget) /\ VD u s2 dc, hS hf3, s0, fun u hu => hu.1.at rfl, s1, fun u hu => hu.1.at rfl, s2, fun u hu => hu.1.at rfl, _, fun u hu => hu.1.at rfl, _, fun u hu => hu.1.at rfl, s2, fun u hu => hu.1.at rfl, ?_⟩
  obtain ⟨ad, hp', _⟩ := (hdv.fr hw3).at (fun a => encD_length a) (List.getElem?_eq_getElem hlt) (by decide)
  have hat : ∀ u, VD u s2 dc -> ∀ k v, (encD dc[i])[k]? = some v -> u.cell? ((ad.add ((i : Int).toNat * 3)).add k) = some v := fun u hu k v hv => by
   obtain ⟨ad', hp'', hc⟩ := hu.at (fun a => encD_length a) (List.getElem?_eq_getElem hlt) (by decide)
   rw [hp'] at hp''
   cases hp''
   exact hc k v hv
  refine nz_iff.2 ⟨ad, hp', ⟨by omega, by omega⟩, dc[i].1.bid, fun u hu => hat u hu.2 0 _ rfl, dc[i].2, fun u hu => hat u hu.2 1 _ rfl, dc[i].1.off, fun u hu => hat u hu.2 2 _ rfl, ?_⟩
  refine possible_spec hp (h.fr hw3) hd (d := dc[i].1) (hdi ▸ List.getElem_mem hlp) (hxv.fr hw3) hxl fun w15 hf15 => ?_
  have hf15 := hf3.t hf15
  refine ⟨hS hf15, ?_⟩
  have hoff : offOf p f p.de[i] = if dc[i].1.lots.all (may p f dc[i].1.bid) then dc[i].1.off else 0 := by rw [← hdi]; rfl
  refine cnd_iff.2 ⟨fun ht => ⟨s2, (hS hf15).1.at rfl, nz_iff.2 ⟨ad, hp', ⟨by omega, by omega⟩, dc[i].1.off, hat _ (hS hf15).2 2 _ rfl, ?_⟩⟩, fun hfa => ?_⟩
  ·rw [ht, if_pos rfl] at hoff
   rw [hoff] at hts
   exact ⟨inR64 (by omega) (by omega), inR64 (by omega) (by omega), ⟨⟨rfl, rfl, trivial⟩, i + 1, by omega, by omega, hts.symm, hf15⟩, by dsimp only; omega⟩
  ·rw [hfa, if_neg (by decide)] at hoff
   rw [hoff] at hts
   exact ⟨inR64 (by omega) (by omega), ⟨⟨rfl, rfl, trivial⟩, i + 1, by omega, by omega, by omega, hf15⟩, by dsimp only; omega⟩
 ·have : i = p.de.length := by omega
  subst this
  have hk := hK w2 (m.1.t hf)
  rw [List.take_length]
  exact hk
theorem refLeast_spec {K : Int -> World -> Prop} (hp : RightPr p) (h : PF w s0 s1 s2 s5 p f) (hd : Decs p p.lots f) (hK : ∀ w', Fr F0 w w' -> K (leastOf p f) w') : z0k_sh s0 s1 s2 p.most p.budget s5 K w := by
 have el := h.tk.len
 have hl12 := right_len hp hd
 have e1 := h.pv.ch.len
 refine ⟨?_⟩
 unfold z0k_sd
 intro w1
 have m : Mem w w1 _ := Mem.nil.allocL (cs := prC s0 s1 s2 p.most p.budget)
 clear_value w1
 have hpr := m.row 0 rfl
 refine ⟨⟨fun out i w' => ∃ i' : Nat, i = i' /\ i' <= f.length /\ out = costOf p (f.take i') /\ Fr F0 w1 w', fun _ i _ => f.length - i.toNat, ⟨0, rfl, by omega, by simp [costOf, took], Fr.refl⟩, ?_⟩⟩
 rintro out i w2 ⟨i, rfl, hi, rfl, hf⟩
 unfold z0k_b0
 have hb1 := cost_bound hp (decs_take _ f i hd)
 have hb2 := cost_bound hp (decs_take _ f (i + 1) hd)
 have h2 := h.fr (m.1.t hf)
 rw [cnd_prop]
 refine ⟨fun hlt => ?_, fun hge => ?_⟩
 ·have hif : i < f.length := by omega
  obtain ⟨_, hdec⟩ := decs_at hd hif
  have hts : costOf p (f.take (i + 1)) = costOf p (f.take i) + (match chAt p f[i] with | some c => c.price | none => 0) := by
   unfold costOf
   rw [took_succ hif, List.map_append, List.sum_append]
   cases chAt p f[i] <;> simp
  refine VI.ld h2.tk i rfl hif ?_
  rw [cnd_prop]
  refine ⟨fun h0 => ?_, fun h0 => ?_⟩
  ·have hci : f[i].toNat < p.ch.length := by
    rcases hdec with q | ⟨c, q, _⟩
    ·omega
    ·obtain ⟨_, q2, _⟩ := chAt_some q; exact q2
   rw [chAt_get h0 hci] at hts
   simp only at hts
   intro w4
   have hf4 : Fr F0 w1 w4 := hf.t Fr.drew
   clear_value w4
   have h4 := h.fr (m.1.t hf4)
   refine ⟨s1, (hf4.row hpr fun h => h).at rfl, VI.ld h4.tk i rfl hif (VC.ld h4.pv.ch f[i].toNat (by omega) hci fun a hc => ?_)⟩
   obtain ⟨_, _, c2, _⟩ := hc w4 Fr.refl
   exact ⟨_, c2, inR64 (by omega) (by omega), inR64 (by omega) (by omega), ⟨⟨rfl, rfl, trivial⟩, i + 1, by omega, by omega, hts.symm, hf4⟩, by dsimp only; omega⟩
  ·rw [chAt_neg h0] at hts
   simp only at hts
   exact ⟨inR64 (by omega) (by omega), ⟨⟨rfl, rfl, trivial⟩, i + 1, by omega, by omega, by omega, hf⟩, by dsimp only; omega⟩
 ·have : i = f.length := by omega
  subst this
  rw [List.take_length] at hb1 ⊢
  have hp2 := hf.row hpr fun h => h
  refine ⟨s0, hp2.at rfl, s1, hp2.at rfl, s2, hp2.at rfl, _, hp2.at rfl, _, hp2.at rfl, refoffs_spec hp h2 hd fun w4 hf4 => ?_⟩
  have ho := offs_bound (f := f) hp (List.prefix_refl p.de)
  have ho : 0 <= offs p f /\ offs p f <= 100000000000 := ho
  have hk := hK w4 ((m.1.t hf).t hf4)
  unfold leastOf at hk
  exact ⟨inR64 (by omega) (by omega), hk⟩
theorem take_spec {K : Bool -> World -> Prop} (h : PF w s0 s1 s2 s5 p f) (hK : ∀ w', Fr F0 w w' -> K (rightB p && fitsB p f) w') : z0p_sh s0 s1 s2 p.most p.budget s5 K w := by
 have el := h.tk.len
 have e0 := h.pv.lots.len
 refine ⟨?_⟩
 unfold z0p_sd
 intro w1
 have m : Mem w w1 _ := Mem.nil.allocL (cs := prC s0 s1 s2 p.most p.budget)
 clear_value w1
 refine ⟨s0, m.ld 0 rfl rfl, s1, m.ld 0 rfl rfl, s2, m.ld 0 rfl rfl, _, m.ld 0 rfl rfl, _, m.ld 0 rfl rfl, refRight_spec (h.fr m.1).pv fun w7 hf => ?_⟩
 have m := m.fr hf
 refine cnd_iff.2 ⟨fun hr => ?_, fun hr => ?_⟩
 ·refine ⟨s0, m.ld 0 rfl rfl, s1, m.ld 0 rfl rfl, s2, m.ld 0 rfl rfl, _, m.ld 0 rfl rfl, _, m.ld 0 rfl rfl, refPrefix_spec (h.fr m.1) fun w14 hf => ?_⟩
  have m := m.fr hf
  refine cnd_iff.2 ⟨fun hd => ⟨s0, m.ld 0 rfl rfl, ?_⟩, fun hd => ?_⟩
  ·have hk := hK w14 m.1
   unfold fitsB at hk
   rw [hr, hd] at hk
   have e : ((s5.l : Int) == (s0.l : Int)) = (true && (decide (f.length = p.lots.length) && true)) := by
    rw [el, e0, Bool.true_and, Bool.and_true, Bool.eq_iff_iff]
    simp
    omega
   rwa [← e] at hk
  ·have hk := hK w14 m.1
   unfold fitsB at hk
   rw [hd, Bool.and_false, Bool.and_false] at hk
   exact hk
 ·have hk := hK w7 m.1
  rw [hr, Bool.false_and] at hk
  exact hk
theorem fitsB_decs (h : fitsB p f = true) : Decs p p.lots f := by
 unfold fitsB at h
 rw [Bool.and_eq_true] at h
 exact decsB_iff.1 h.2
theorem refPoints_spec {K : Int -> World -> Prop} (h : PF w s0 s1 s2 s5 p f) (hK : ∀ w', Fr F0 w w' -> K (pointsR p (rightB p) (fitsB p f) f) w') : z0f_sh s0 s1 s2 p.most p.budget s5 K w := by
 have el := h.tk.len
 have e1 := h.pv.ch.len
 refine ⟨?_⟩
 unfold z0f_sd
 intro w1
 have m : Mem w w1 _ := Mem.nil.allocL (cs := prC s0 s1 s2 p.most p.budget)
 clear_value w1
 refine ⟨s0, m.ld 0 rfl rfl, s1, m.ld 0 rfl rfl, s2, m.ld 0 rfl rfl, _, m.ld 0 rfl rfl, _, m.ld 0 rfl rfl, take_spec (h.fr m.1) fun w7 hf => ?_⟩
 have m := m.fr hf
 refine cnd_iff.2 ⟨fun hn => ?_, fun hy => ?_⟩
 ·have hk := hK w7 m.1
  have e : (rightB p && fitsB p f) = false := by
   cases hq : (rightB p && fitsB p f) with
   | false => rfl
   | true => rw [hq] at hn; cases hn
  unfold pointsR at hk
  rw [e] at hk
  exact hk
 ·have e : (rightB p && fitsB p f) = true := by simpa using hy
  obtain ⟨er, ef⟩ := Bool.and_eq_true_iff.1 e
  have hp := rightB_iff.1 er
  have hd := fitsB_decs ef
  have hl12 := right_len hp hd
  have hpr := m.row 0 rfl
  refine ⟨⟨fun out i w' => ∃ i' : Nat, i = i' /\ i' <= f.length /\ out = ptsOf p (f.take i') /\ Fr F0 w7 w', fun _ i _ => f.length - i.toNat, ⟨0, rfl, by omega, by simp [ptsOf, took], Fr.refl⟩, ?_⟩⟩
  rintro out i w2 ⟨i, rfl, hi, rfl, hf⟩
  unfold z0f_b0
  have hb1 := pts_bound hp (decs_take _ f i hd)
  have hb2 := pts_bound hp (decs_take _ f (i + 1) hd)
  have h2 := h.fr (m.1.t hf)
  rw [cnd_prop]
  refine ⟨fun hlt => ?_, fun hge => ?_⟩
  ·have hif : i < f.length := by omega
   obtain ⟨_, hdec⟩ := decs_at hd hif
   have hts : ptsOf p (f.take (i + 1)) = ptsOf p (f.take i) + (match chAt p f[i] with | some c => c.pts | none => 0) := by
    unfold ptsOf
    rw [took_succ hif, List.map_append, List.sum_append]
    cases chAt p f[i] <;> simp
   refine VI.ld h2.tk i rfl hif ?_
   rw [cnd_prop]
   refine ⟨fun h0 => ?_, fun h0 => ?_⟩
   ·have hci : f[i].toNat < p.ch.length := by
     rcases hdec with q | ⟨c, q, _⟩
     ·omega
     ·obtain ⟨_, q2, _⟩ := chAt_some q; exact q2
    rw [chAt_get h0 hci] at hts
    simp only at hts
    intro w4
    have hf4 : Fr F0 w7 w4 := hf.t Fr.drew
    clear_value w4
    have h4 := h.fr (m.1.t hf4)
    refine ⟨s1, (hf4.row hpr fun h => h).at rfl, VI.ld h4.tk i rfl hif (VC.ld h4.pv.ch f[i].toNat (by omega) hci fun a hc => ?_)⟩
    obtain ⟨_, _, _, c3⟩ := hc w4 Fr.refl
    exact ⟨_, c3, inR64 (by omega) (by omega), inR64 (by omega) (by omega), ⟨⟨rfl, rfl, trivial⟩, i + 1, by omega, by omega, hts.symm, hf4⟩, by dsimp only; omega⟩
   ·rw [chAt_neg h0] at hts
    simp only at hts
    exact ⟨inR64 (by omega) (by omega), ⟨⟨rfl, rfl, trivial⟩, i + 1, by omega, by omega, by omega, hf⟩, by dsimp only; omega⟩
  ·have : i = f.length := by omega
   subst this
   rw [List.take_length]
   have hk := hK w2 (m.1.t hf)
   unfold pointsR at hk
   rw [e] at hk
   exact hk
end
end Go.Proofs.YtfpobpjandjhjaaDoor











