/- The reference's Prefix, offs, Least, take, Paid and Points. Conditions: none. -/
import Derived.Test.YtmkjcheafdionaaGreatCEY
import Derived.Test.YtmkjcheafdionaaGreatCG6
namespace Go.Proofs.YtmkjcheafdionaaGreat
open Go Pw
section
variable {w wB : World} {s x s0 s1 s2 s5 : Sl} {l dl f : List Int} {p : Pr} {pb db : Nat}
theorem decs_take : ∀ (ls f : List Int) (i : Nat), Decs p ls f -> Decs p ls (f.take i)
  | _, _, 0, _ => by simp [Decs]
  | _, [], _ + 1, _ => by simp [Decs]
  | [], _ :: _, _ + 1, h => h.elim
  | _ :: ls, _ :: f, i + 1, h => by
    rw [List.take_succ_cons]
    exact ⟨h.1, decs_take ls f i h.2⟩
theorem refPrefix_spec {K : Bool -> World -> Prop} (h : PF w s0 s1 s2 s5 p f) (hK : ∀ w', Fr F0 w w' -> K (decsB p p.lots f) w') : z20_sh s0 s1 s2 p.most p.budget s5 K w := by
  have el := h.tk.len
  have hlt := h.lt
  have e0 := h.pv.lots.len
  have e1 := h.pv.ch.len
  have hF : ¬ Decs p p.lots f -> ∀ w', Fr F0 w w' -> K false w' := fun hn w' hw => by
    have := hK w' hw
    cases hb : decsB p p.lots f with
    | false => rwa [hb] at this
    | true => exact absurd (decsB_iff.1 hb) hn
  refine ⟨?_⟩
  unfold z20_sd
  intro w1
  have m : Mem w w1 _ := Mem.nil.allocL (cs := prC s0 s1 s2 p.most p.budget)
  clear_value w1
  have hpr := m.row 0 rfl
  refine ⟨s0, m.ld 0 rfl rfl, ?_⟩
  rw [cnd_prop]
  refine ⟨fun hg => hF (fun hd => by have := decs_len hd; omega) _ m.1, fun hle => ?_⟩
  refine ⟨⟨fun i w' => ∃ i' : Nat, i = i' /\ i' <= f.length /\ Fr F0 w1 w' /\ ∀ j lot n, j < i' -> p.lots[j]? = some lot -> f[j]? = some n -> Dec p lot n, fun i _ => f.length - i.toNat, ⟨0, rfl, by omega, Fr.refl, fun j _ _ hj => by omega⟩, ?_⟩⟩
  rintro i w2 ⟨i, rfl, hi, hf, hin⟩
  unfold z20_b0
  rw [cnd_prop]
  refine ⟨fun hlt => ?_, fun hge => ?_⟩
  . have hif : i < f.length := by omega
    have hil : i < p.lots.length := by omega
    intro w3
    have hf3 : Fr F0 w1 w3 := hf.t Fr.drew
    clear_value w3
    have hfw := m.1.t hf3
    have h3 := h.fr hfw
    have hp3 := hf3.row hpr fun h => h
    have hbad : ¬ Dec p p.lots[i] f[i] -> K false w3 := fun hn => hF (fun hd => hn (by obtain ⟨_, q⟩ := decs_at hd hif; exact q)) _ hfw
    refine VI.ld h3.tk i rfl hif ?_
    rw [cnd_prop]
    refine ⟨fun hc => hbad fun q => ?_, fun hc1 => VI.ld h3.tk i rfl hif ⟨s1, hp3.at rfl, ?_⟩⟩
    . rcases q with q | ⟨c, q, _⟩
      . omega
      . have := (chAt_some q).1; omega
    rw [cnd_prop]
    refine ⟨fun hc => hbad fun q => ?_, fun hc2 => VI.ld h3.tk i rfl hif ?_⟩
    . rcases q with q | ⟨c, q, _⟩
      . omega
      . obtain ⟨_, q2, _⟩ := chAt_some q; omega
    rw [cnd_prop]
    have hnext : Dec p p.lots[i] f[i] -> ∀ j lot n, j < i + 1 -> p.lots[j]? = some lot -> f[j]? = some n -> Dec p lot n := fun q j lot n hj h1 h2 => by
      rcases Nat.lt_succ_iff_lt_or_eq.1 hj with hj | rfl
      . exact hin j lot n hj h1 h2
      . rw [List.getElem?_eq_getElem hil] at h1
        rw [List.getElem?_eq_getElem hif] at h2
        cases h1
        cases h2
        exact q
    refine ⟨fun hc3 => ⟨s1, hp3.at rfl, VI.ld h3.tk i rfl hif ?_⟩, fun hc3 => ⟨inR64 (by omega) (by omega), ⟨⟨rfl, rfl, trivial⟩, i + 1, by omega, by omega, hf3, hnext (.inl (by omega))⟩, by dsimp only; omega⟩⟩
    have hci : f[i].toNat < p.ch.length := by omega
    have hcast : f[i] = (f[i].toNat : Int) := by omega
    refine VC.ld h3.pv.ch f[i].toNat hcast hci fun a hc => ?_
    obtain ⟨c0, _, _, _⟩ := hc w3 Fr.refl
    refine ⟨_, c0, s0, hp3.at rfl, VI.ld h3.pv.lots i rfl hil ?_⟩
    have hca := chAt_get hc3 hci
    rw [cnd_bne]
    refine ⟨fun hne => hbad fun q => ?_, fun he => ⟨inR64 (by omega) (by omega), ⟨⟨rfl, rfl, trivial⟩, i + 1, by omega, by omega, hf3, hnext (.inr ⟨_, hca, he⟩)⟩, by dsimp only; omega⟩⟩
    rcases q with q | ⟨c, q, q2⟩
    . omega
    . rw [hca] at q
      cases q
      exact hne q2
  . have : i = f.length := by omega
    subst this
    have hd : Decs p p.lots f := (decs_get (by omega)).2 fun j lot n h1 h2 => hin j lot n (List.getElem?_eq_some_iff.1 h2).1 h1 h2
    have hk := hK w2 (m.1.t hf)
    rwa [decsB_iff.2 hd] at hk
theorem may_at (hp : RightPr p) {i : Nat} (hi : i < p.lots.length) (b : Int) : may p f b p.lots[i] = match f[i]? with
    | some n => (match chAt p n with | some c => c.bid == b | none => false)
    | none => p.ch.any fun c => c.lot == p.lots[i] && c.bid == b := by
  have e : p.lots.idxOf p.lots[i] = i := by
    have h1 : p.lots.idxOf p.lots[i] < p.lots.length := List.idxOf_lt_length_of_mem (List.getElem_mem hi)
    have h2 : p.lots[p.lots.idxOf p.lots[i]] = p.lots[i] := List.getElem_idxOf h1
    exact (List.getElem_inj hp.diff).1 h2
  unfold may
  rw [e]
  cases f[i]? with
  | none => rfl
  | some n => cases chAt p n <;> rfl
theorem possible_k2 {i : Nat} {b : Bool} {N0 : Sl -> Addr -> Addr -> Int -> World -> Prop} {K : Bool -> World -> Prop} (hi : i < 100) (hF : b = false -> K false w) (hT : b = true -> N0 s5 ⟨pb, 0, none⟩ ⟨db, 0, none⟩ ((i : Int) + 1) w) :
    z13_k2 s5 ⟨pb, 0, none⟩ ⟨db, 0, none⟩ i b N0 K w := by
  refine ⟨?_⟩
  unfold z13_k2d
  exact cnd_iff.2 ⟨fun h => hF (by simpa using h), fun h => ⟨inR64 (by omega) (by omega), hT (by simpa using h)⟩⟩
theorem possible_l1 {i : Nat} {d : De} {N0 : Sl -> Addr -> Addr -> Int -> World -> Prop} {K : Bool -> World -> Prop} (hp : RightPr p) (h : PF wB s0 s1 s2 s5 p f) (hB : Fr F0 wB w) (hi : i < p.lots.length)
    (hpr : Row w pb (prC s0 s1 s2 p.most p.budget)) (hdr : Row w db [.int .i64 d.bid, .slice x.p x.l x.c, .int .i64 d.off])
    (hF : (p.ch.any fun c => c.lot == p.lots[i] && c.bid == d.bid) = false -> ∀ w', Fr F0 w w' -> K false w') (hT : (p.ch.any fun c => c.lot == p.lots[i] && c.bid == d.bid) = true -> ∀ w', Fr F0 w w' -> N0 s5 ⟨pb, 0, none⟩ ⟨db, 0, none⟩ ((i : Int) + 1) w') :
    z13_l1 s5 ⟨pb, 0, none⟩ ⟨db, 0, none⟩ i false 0 N0 K w := by
  have e1 := h.pv.ch.len
  have hch := hp.chs
  have hfew := hp.few
  refine ⟨⟨fun b k w' => ∃ k' : Nat, k = k' /\ k' <= p.ch.length /\ Fr F0 w w' /\ b = (p.ch.take k').any fun c => c.lot == p.lots[i] && c.bid == d.bid, fun _ k _ => p.ch.length - k.toNat, ⟨0, rfl, by omega, Fr.refl, by simp⟩, ?_⟩⟩
  rintro b k w1 ⟨k, rfl, hk, hf, hb⟩
  unfold z13_b1
  refine ⟨s1, (hf.row hpr fun h => h).at rfl, ?_⟩
  rw [cnd_prop]
  refine ⟨fun hlt => ?_, fun hge => ?_⟩
  . have hlt : k < p.ch.length := by omega
    have hts := take_succ' hlt
    intro w2
    have hf2 : Fr F0 w w2 := hf.t Fr.drew
    clear_value w2
    have hp2 := hf2.row hpr fun h => h
    have h2 := h.fr (hB.t hf2)
    have hany : (p.ch.take (k + 1)).any (fun c => c.lot == p.lots[i] && c.bid == d.bid) = (b || (p.ch[k].lot == p.lots[i] && p.ch[k].bid == d.bid)) := by
      rw [hts, List.any_append, ← hb]
      simp
    refine cnd_iff.2 ⟨fun ht => ⟨inR64 (by omega) (by omega), ⟨⟨rfl, rfl, rfl, rfl, trivial⟩, k + 1, by omega, by omega, hf2, by rw [hany, ht]; rfl⟩, by dsimp only; omega⟩, fun hfa => ⟨s1, hp2.at rfl, ?_⟩⟩
    refine VC.ld h2.pv.ch k rfl hlt fun a hc => ?_
    obtain ⟨c0, c1, _, _⟩ := hc w2 Fr.refl
    refine ⟨_, c0, s0, hp2.at rfl, VI.ld h2.pv.lots i rfl hi ?_⟩
    rw [cnd_beq]
    refine ⟨fun he => ⟨s1, hp2.at rfl, VC.ld h2.pv.ch k rfl hlt fun a hc => ?_⟩, fun hne => ⟨inR64 (by omega) (by omega), ⟨⟨rfl, rfl, rfl, rfl, trivial⟩, k + 1, by omega, by omega, hf2, ?_⟩, by dsimp only; omega⟩⟩
    . obtain ⟨_, c1, _, _⟩ := hc w2 Fr.refl
      refine ⟨_, c1, _, (hf2.row hdr fun h => h).at rfl, inR64 (by omega) (by omega), ⟨⟨rfl, rfl, rfl, rfl, trivial⟩, k + 1, by omega, by omega, hf2, ?_⟩, by dsimp only; omega⟩
      rw [hany, hfa, he]
      simp
    . rw [hany, hfa]
      simp [hne]
  . have : k = p.ch.length := by omega
    subst this
    rw [List.take_length] at hb
    exact possible_k2 (by omega) (fun h => hF (hb ▸ h) w1 hf) fun h => hT (hb ▸ h) w1 hf
theorem possible_spec {d : De} {K : Bool -> World -> Prop} (hp : RightPr p) (h : PF w s0 s1 s2 s5 p f) (hd : Decs p p.lots f) (hdm : d ∈ p.de) (hv : VI w x d.lots) (hl : d.lots.length < 2 ^ 40) (hK : ∀ w', Fr F0 w w' -> K (d.lots.all (may p f d.bid)) w') :
    z13_sh s0 s1 s2 p.most p.budget s5 d.bid x d.off K w := by
  have el := h.tk.len
  have hfew := hp.few
  have hfl := decs_len hd
  have e0 := h.pv.lots.len
  have hF : (∃ y ∈ d.lots, may p f d.bid y = false) -> ∀ w', Fr F0 w w' -> K false w' := fun ⟨y, hy, hn⟩ w' hw => by
    have := hK w' hw
    have e : d.lots.all (may p f d.bid) = false := List.all_eq_false.2 ⟨y, hy, by simp [hn]⟩
    rwa [e] at this
  refine ⟨?_⟩
  unfold z13_sd
  intro w1
  have m : Mem w w1 _ := Mem.nil.allocL (cs := prC s0 s1 s2 p.most p.budget)
  clear_value w1
  intro w2
  have m : Mem w w2 _ := m.allocL (cs := [.int .i64 d.bid, .slice x.p x.l x.c, .int .i64 d.off])
  clear_value w2
  have hpr := m.row 1 rfl
  have hdr := m.row 0 rfl
  refine ⟨⟨fun i w' => ∃ i' : Nat, i = i' /\ i' <= p.lots.length /\ Fr F0 w2 w' /\ ∀ y ∈ d.lots, y ∈ p.lots.take i' -> may p f d.bid y = true, fun i _ => p.lots.length - i.toNat, ⟨0, rfl, by omega, Fr.refl, fun y _ hy => by simp at hy⟩, ?_⟩⟩
  rintro i w3 ⟨i, rfl, hi, hf, hin⟩
  unfold z13_b0
  refine ⟨s0, (hf.row hpr fun h => h).at rfl, ?_⟩
  rw [cnd_prop]
  refine ⟨fun hlt => ?_, fun hge => ?_⟩
  . have hil : i < p.lots.length := by omega
    have hts := take_succ' hil
    intro w4
    have hf4 : Fr F0 w2 w4 := hf.t Fr.drew
    clear_value w4
    have hS : ∀ {u}, Fr F0 w2 u -> (Row u w.heap.size (prC s0 s1 s2 p.most p.budget) /\ Row u w1.heap.size [.int .i64 d.bid, .slice x.p x.l x.c, .int .i64 d.off]) /\ VI u s0 p.lots := fun hu => ⟨⟨hu.row hpr fun h => h, hu.row hdr fun h => h⟩, h.pv.lots.fr (m.1.t hu)⟩
    have hw4 := m.1.t hf4
    refine ⟨fun u => (Row u w.heap.size (prC s0 s1 s2 p.most p.budget) /\ Row u w1.heap.size [.int .i64 d.bid, .slice x.p x.l x.c, .int .i64 d.off]) /\ VI u s0 p.lots, hS hf4, x, fun u hu => hu.1.2.at rfl, s0, fun u hu => hu.1.1.at rfl, ?_⟩
    obtain ⟨ad, hp', _⟩ := (h.pv.lots.fr hw4).at (fun a => ie_length _ _ a) (List.getElem?_eq_getElem hil) (by decide)
    refine nz_iff.2 ⟨ad, hp', ⟨by omega, by omega⟩, p.lots[i], fun u hu => ?_, ?_⟩
    . obtain ⟨ad', hp'', hc⟩ := hu.2.at (fun a => ie_length _ _ a) (List.getElem?_eq_getElem hil) (by decide)
      rw [hp'] at hp''
      cases hp''
      exact hc 0 _ rfl
    refine contains_spec (hv.fr hw4) (by omega) ⟨hS hf4, ?_⟩
    have hnext : (p.lots[i] ∈ d.lots -> may p f d.bid p.lots[i] = true) -> ∀ y ∈ d.lots, y ∈ p.lots.take (i + 1) -> may p f d.bid y = true := fun q y hy hm => by
      rw [hts, List.mem_append, List.mem_singleton] at hm
      rcases hm with hm | rfl
      . exact hin y hy hm
      . exact q hy
    refine cnd_iff.2 ⟨fun hno => ⟨inR64 (by omega) (by omega), ⟨⟨rfl, rfl, rfl, trivial⟩, i + 1, by omega, by omega, hf4, hnext fun hm => ?_⟩, by dsimp only; omega⟩, fun hyes => ?_⟩
    . simp [hm] at hno
    have hmem : p.lots[i] ∈ d.lots := by simpa using hyes
    have hmay := may_at (f := f) hp hil d.bid
    have hbad : may p f d.bid p.lots[i] = false -> ∀ w', Fr F0 w w' -> K false w' := fun q => hF ⟨_, hmem, q⟩
    rw [cnd_prop]
    refine ⟨fun hlf => ?_, fun hgf => ?_⟩
    . have hif : i < f.length := by omega
      rw [List.getElem?_eq_getElem hif] at hmay
      simp only at hmay
      intro w5
      have hf5 : Fr F0 w2 w5 := hf4.t Fr.drew
      clear_value w5
      have hw5 := m.1.t hf5
      have h5 := h.fr hw5
      have hp5 := hf5.row hpr fun h => h
      have e1 := h5.pv.ch.len
      obtain ⟨_, hdec⟩ := decs_at hd hif
      refine VI.ld h5.tk i rfl hif ?_
      rw [cnd_prop]
      refine ⟨fun h0 => ⟨s1, hp5.at rfl, VI.ld h5.tk i rfl hif ?_⟩, fun h0 => ?_⟩
      . have hci : f[i].toNat < p.ch.length := by
          rcases hdec with q | ⟨c, q, _⟩
          . omega
          . obtain ⟨_, q2, _⟩ := chAt_some q; exact q2
        rw [chAt_get h0 hci] at hmay
        simp only at hmay
        refine VC.ld h5.pv.ch f[i].toNat (by omega) hci fun a hc => ?_
        obtain ⟨_, c1, _, _⟩ := hc w5 Fr.refl
        refine ⟨_, c1, _, (hf5.row hdr fun h => h).at rfl, possible_k2 (by omega) (fun q => hbad (hmay.trans q) _ hw5) fun q => ⟨⟨⟨rfl, rfl, rfl, trivial⟩, i + 1, by omega, by omega, hf5, hnext fun _ => hmay.trans q⟩, by dsimp only; omega⟩⟩
      . rw [chAt_neg h0] at hmay
        simp only at hmay
        exact possible_k2 (by omega) (fun _ => hbad hmay _ hw5) fun q => by cases q
    . rw [List.getElem?_eq_none (by omega)] at hmay
      simp only at hmay
      exact possible_l1 hp h hw4 hil (hf4.row hpr fun h => h) (hf4.row hdr fun h => h) (fun q w' hw => hbad (hmay.trans q) _ (hw4.t hw)) fun q w' hw => ⟨⟨⟨rfl, rfl, rfl, trivial⟩, i + 1, by omega, by omega, hf4.t hw, hnext fun _ => hmay.trans q⟩, by dsimp only; omega⟩
  . have : i = p.lots.length := by omega
    subst this
    rw [List.take_length] at hin
    have hk := hK w3 (m.1.t hf)
    have e : d.lots.all (may p f d.bid) = true := List.all_eq_true.2 fun y hy => hin y hy ((hp.de d hdm).2.2.1 y hy)
    rwa [e] at hk
theorem refoffs_spec {K : Int -> World -> Prop} (hp : RightPr p) (h : PF w s0 s1 s2 s5 p f) (hd : Decs p p.lots f) (hK : ∀ w', Fr F0 w w' -> K (offs p f) w') : z39_sh s0 s1 s2 p.most p.budget s5 K w := by
  obtain ⟨dc, hdv, hm, hx⟩ := h.pv.de
  have el := hdv.len
  have hlm : dc.length = p.de.length := by rw [← hm, List.length_map]
  have hdes := hp.des
  refine ⟨?_⟩
  unfold z39_sd
  intro w1
  have m : Mem w w1 _ := Mem.nil.allocL (cs := prC s0 s1 s2 p.most p.budget)
  clear_value w1
  have hpr := m.row 0 rfl
  refine ⟨⟨fun out i w' => ∃ i' : Nat, i = i' /\ i' <= dc.length /\ out = ((p.de.take i').map (offOf p f)).sum /\ Fr F0 w1 w', fun _ i _ => dc.length - i.toNat, ⟨0, rfl, by omega, by simp, Fr.refl⟩, ?_⟩⟩
  rintro out i w2 ⟨i, rfl, hi, rfl, hf⟩
  unfold z39_b0
  have hb1 := offs_bound (f := f) hp (List.take_prefix i p.de)
  have hb2 := offs_bound (f := f) hp (List.take_prefix (i + 1) p.de)
  refine ⟨s2, (hf.row hpr fun h => h).at rfl, ?_⟩
  rw [cnd_prop]
  refine ⟨fun hlt => ?_, fun hge => ?_⟩
  . have hlt : i < dc.length := by omega
    have hlp : i < p.de.length := by omega
    have hts : ((p.de.take (i + 1)).map (offOf p f)).sum = ((p.de.take i).map (offOf p f)).sum + offOf p f p.de[i] := by
      rw [take_succ' hlp, List.map_append, List.sum_append]
      simp
    have hdi : dc[i].1 = p.de[i] := by simp [← hm]
    have hmem : dc[i] ∈ dc := List.getElem_mem hlt
    obtain ⟨hxv, hxl⟩ := hx _ hmem
    intro w3
    have hf3 : Fr F0 w1 w3 := hf.t Fr.drew
    clear_value w3
    have hS : ∀ {u}, Fr F0 w1 u -> Row u w.heap.size (prC s0 s1 s2 p.most p.budget) /\ VD u s2 dc := fun hu => ⟨hu.row hpr fun h => h, hdv.fr (m.1.t hu)⟩
    have hw3 := m.1.t hf3
    refine ⟨fun u => Row u w.heap.size (prC s0 s1 s2 p.most p.budget) /\ VD u s2 dc, hS hf3, s0, fun u hu => hu.1.at rfl, s1, fun u hu => hu.1.at rfl, s2, fun u hu => hu.1.at rfl, _, fun u hu => hu.1.at rfl, _, fun u hu => hu.1.at rfl, s2, fun u hu => hu.1.at rfl, ?_⟩
    obtain ⟨ad, hp', _⟩ := (hdv.fr hw3).at (fun a => encD_length a) (List.getElem?_eq_getElem hlt) (by decide)
    have hat : ∀ u, VD u s2 dc -> ∀ k v, (encD dc[i])[k]? = some v -> u.cell? ((ad.add ((i : Int).toNat * 3)).add k) = some v := fun u hu k v hv => by
      obtain ⟨ad', hp'', hc⟩ := hu.at (fun a => encD_length a) (List.getElem?_eq_getElem hlt) (by decide)
      rw [hp'] at hp''
      cases hp''
      exact hc k v hv
    refine nz_iff.2 ⟨ad, hp', ⟨by omega, by omega⟩, dc[i].1.bid, fun u hu => hat u hu.2 0 _ rfl, dc[i].2, fun u hu => hat u hu.2 1 _ rfl, dc[i].1.off, fun u hu => hat u hu.2 2 _ rfl, ?_⟩
    refine possible_spec hp (h.fr hw3) hd (d := dc[i].1) (hdi ▸ List.getElem_mem hlp) (hxv.fr hw3) hxl fun w15 hf15 => ?_
    have hf15 := hf3.t hf15
    refine ⟨hS hf15, ?_⟩
    have hoff : offOf p f p.de[i] = if dc[i].1.lots.all (may p f dc[i].1.bid) then dc[i].1.off else 0 := by rw [← hdi]; rfl
    refine cnd_iff.2 ⟨fun ht => ⟨s2, (hS hf15).1.at rfl, nz_iff.2 ⟨ad, hp', ⟨by omega, by omega⟩, dc[i].1.off, hat _ (hS hf15).2 2 _ rfl, ?_⟩⟩, fun hfa => ?_⟩
    . rw [ht, if_pos rfl] at hoff
      rw [hoff] at hts
      exact ⟨inR64 (by omega) (by omega), inR64 (by omega) (by omega), ⟨⟨rfl, rfl, trivial⟩, i + 1, by omega, by omega, hts.symm, hf15⟩, by dsimp only; omega⟩
    . rw [hfa, if_neg (by decide)] at hoff
      rw [hoff] at hts
      exact ⟨inR64 (by omega) (by omega), ⟨⟨rfl, rfl, trivial⟩, i + 1, by omega, by omega, by omega, hf15⟩, by dsimp only; omega⟩
  . have : i = p.de.length := by omega
    subst this
    have hk := hK w2 (m.1.t hf)
    rw [List.take_length]
    exact hk
theorem refLeast_spec {K : Int -> World -> Prop} (hp : RightPr p) (h : PF w s0 s1 s2 s5 p f) (hd : Decs p p.lots f) (hK : ∀ w', Fr F0 w w' -> K (leastOf p f) w') : z2c_sh s0 s1 s2 p.most p.budget s5 K w := by
  have el := h.tk.len
  have hl12 := right_len hp hd
  have e1 := h.pv.ch.len
  refine ⟨?_⟩
  unfold z2c_sd
  intro w1
  have m : Mem w w1 _ := Mem.nil.allocL (cs := prC s0 s1 s2 p.most p.budget)
  clear_value w1
  have hpr := m.row 0 rfl
  refine ⟨⟨fun out i w' => ∃ i' : Nat, i = i' /\ i' <= f.length /\ out = costOf p (f.take i') /\ Fr F0 w1 w', fun _ i _ => f.length - i.toNat, ⟨0, rfl, by omega, by simp [costOf, took], Fr.refl⟩, ?_⟩⟩
  rintro out i w2 ⟨i, rfl, hi, rfl, hf⟩
  unfold z2c_b0
  have hb1 := cost_bound hp (decs_take _ f i hd)
  have hb2 := cost_bound hp (decs_take _ f (i + 1) hd)
  have h2 := h.fr (m.1.t hf)
  rw [cnd_prop]
  refine ⟨fun hlt => ?_, fun hge => ?_⟩
  . have hif : i < f.length := by omega
    obtain ⟨_, hdec⟩ := decs_at hd hif
    have hts : costOf p (f.take (i + 1)) = costOf p (f.take i) + (match chAt p f[i] with | some c => c.price | none => 0) := by
      unfold costOf
      rw [took_succ hif, List.map_append, List.sum_append]
      cases chAt p f[i] <;> simp
    refine VI.ld h2.tk i rfl hif ?_
    rw [cnd_prop]
    refine ⟨fun h0 => ?_, fun h0 => ?_⟩
    . have hci : f[i].toNat < p.ch.length := by
        rcases hdec with q | ⟨c, q, _⟩
        . omega
        . obtain ⟨_, q2, _⟩ := chAt_some q; exact q2
      rw [chAt_get h0 hci] at hts
      simp only at hts
      intro w4
      have hf4 : Fr F0 w1 w4 := hf.t Fr.drew
      clear_value w4
      have h4 := h.fr (m.1.t hf4)
      refine ⟨s1, (hf4.row hpr fun h => h).at rfl, VI.ld h4.tk i rfl hif (VC.ld h4.pv.ch f[i].toNat (by omega) hci fun a hc => ?_)⟩
      obtain ⟨_, _, c2, _⟩ := hc w4 Fr.refl
      exact ⟨_, c2, inR64 (by omega) (by omega), inR64 (by omega) (by omega), ⟨⟨rfl, rfl, trivial⟩, i + 1, by omega, by omega, hts.symm, hf4⟩, by dsimp only; omega⟩
    . rw [chAt_neg h0] at hts
      simp only at hts
      exact ⟨inR64 (by omega) (by omega), ⟨⟨rfl, rfl, trivial⟩, i + 1, by omega, by omega, by omega, hf⟩, by dsimp only; omega⟩
  . have : i = f.length := by omega
    subst this
    rw [List.take_length] at hb1 ⊢
    have hp2 := hf.row hpr fun h => h
    refine ⟨s0, hp2.at rfl, s1, hp2.at rfl, s2, hp2.at rfl, _, hp2.at rfl, _, hp2.at rfl, refoffs_spec hp h2 hd fun w4 hf4 => ?_⟩
    have ho := offs_bound (f := f) hp (List.prefix_refl p.de)
    have ho : 0 <= offs p f /\ offs p f <= 100000000000 := ho
    have hk := hK w4 ((m.1.t hf).t hf4)
    unfold leastOf at hk
    exact ⟨inR64 (by omega) (by omega), hk⟩
theorem take_spec {K : Bool -> World -> Prop} (h : PF w s0 s1 s2 s5 p f) (hK : ∀ w', Fr F0 w w' -> K (rightB p && fitsB p f) w') : z2w_sh s0 s1 s2 p.most p.budget s5 K w := by
  have el := h.tk.len
  have e0 := h.pv.lots.len
  refine ⟨?_⟩
  unfold z2w_sd
  intro w1
  have m : Mem w w1 _ := Mem.nil.allocL (cs := prC s0 s1 s2 p.most p.budget)
  clear_value w1
  refine ⟨s0, m.ld 0 rfl rfl, s1, m.ld 0 rfl rfl, s2, m.ld 0 rfl rfl, _, m.ld 0 rfl rfl, _, m.ld 0 rfl rfl, refRight_spec (h.fr m.1).pv fun w7 hf => ?_⟩
  have m := m.fr hf
  refine cnd_iff.2 ⟨fun hr => ?_, fun hr => ?_⟩
  . refine ⟨s0, m.ld 0 rfl rfl, s1, m.ld 0 rfl rfl, s2, m.ld 0 rfl rfl, _, m.ld 0 rfl rfl, _, m.ld 0 rfl rfl, refPrefix_spec (h.fr m.1) fun w14 hf => ?_⟩
    have m := m.fr hf
    refine cnd_iff.2 ⟨fun hd => ⟨s0, m.ld 0 rfl rfl, ?_⟩, fun hd => ?_⟩
    . have hk := hK w14 m.1
      unfold fitsB at hk
      rw [hr, hd] at hk
      have e : ((s5.l : Int) == (s0.l : Int)) = (true && (decide (f.length = p.lots.length) && true)) := by
        rw [el, e0, Bool.true_and, Bool.and_true, Bool.eq_iff_iff]
        simp
        omega
      rwa [← e] at hk
    . have hk := hK w14 m.1
      unfold fitsB at hk
      rw [hd, Bool.and_false, Bool.and_false] at hk
      exact hk
  . have hk := hK w7 m.1
    rw [hr, Bool.false_and] at hk
    exact hk
theorem fitsB_decs (h : fitsB p f = true) : Decs p p.lots f := by
  unfold fitsB at h
  rw [Bool.and_eq_true] at h
  exact decsB_iff.1 h.2
theorem refPoints_spec {K : Int -> World -> Prop} (h : PF w s0 s1 s2 s5 p f) (hK : ∀ w', Fr F0 w w' -> K (pointsR p (rightB p) (fitsB p f) f) w') : z1w_sh s0 s1 s2 p.most p.budget s5 K w := by
  have el := h.tk.len
  have e1 := h.pv.ch.len
  refine ⟨?_⟩
  unfold z1w_sd
  intro w1
  have m : Mem w w1 _ := Mem.nil.allocL (cs := prC s0 s1 s2 p.most p.budget)
  clear_value w1
  refine ⟨s0, m.ld 0 rfl rfl, s1, m.ld 0 rfl rfl, s2, m.ld 0 rfl rfl, _, m.ld 0 rfl rfl, _, m.ld 0 rfl rfl, take_spec (h.fr m.1) fun w7 hf => ?_⟩
  have m := m.fr hf
  refine cnd_iff.2 ⟨fun hn => ?_, fun hy => ?_⟩
  . have hk := hK w7 m.1
    have e : (rightB p && fitsB p f) = false := by
      cases hq : (rightB p && fitsB p f) with
      | false => rfl
      | true => rw [hq] at hn; cases hn
    unfold pointsR at hk
    rw [e] at hk
    exact hk
  . have e : (rightB p && fitsB p f) = true := by simpa using hy
    obtain ⟨er, ef⟩ := Bool.and_eq_true_iff.1 e
    have hp := rightB_iff.1 er
    have hd := fitsB_decs ef
    have hl12 := right_len hp hd
    have hpr := m.row 0 rfl
    refine ⟨⟨fun out i w' => ∃ i' : Nat, i = i' /\ i' <= f.length /\ out = ptsOf p (f.take i') /\ Fr F0 w7 w', fun _ i _ => f.length - i.toNat, ⟨0, rfl, by omega, by simp [ptsOf, took], Fr.refl⟩, ?_⟩⟩
    rintro out i w2 ⟨i, rfl, hi, rfl, hf⟩
    unfold z1w_b0
    have hb1 := pts_bound hp (decs_take _ f i hd)
    have hb2 := pts_bound hp (decs_take _ f (i + 1) hd)
    have h2 := h.fr (m.1.t hf)
    rw [cnd_prop]
    refine ⟨fun hlt => ?_, fun hge => ?_⟩
    . have hif : i < f.length := by omega
      obtain ⟨_, hdec⟩ := decs_at hd hif
      have hts : ptsOf p (f.take (i + 1)) = ptsOf p (f.take i) + (match chAt p f[i] with | some c => c.pts | none => 0) := by
        unfold ptsOf
        rw [took_succ hif, List.map_append, List.sum_append]
        cases chAt p f[i] <;> simp
      refine VI.ld h2.tk i rfl hif ?_
      rw [cnd_prop]
      refine ⟨fun h0 => ?_, fun h0 => ?_⟩
      . have hci : f[i].toNat < p.ch.length := by
          rcases hdec with q | ⟨c, q, _⟩
          . omega
          . obtain ⟨_, q2, _⟩ := chAt_some q; exact q2
        rw [chAt_get h0 hci] at hts
        simp only at hts
        intro w4
        have hf4 : Fr F0 w7 w4 := hf.t Fr.drew
        clear_value w4
        have h4 := h.fr (m.1.t hf4)
        refine ⟨s1, (hf4.row hpr fun h => h).at rfl, VI.ld h4.tk i rfl hif (VC.ld h4.pv.ch f[i].toNat (by omega) hci fun a hc => ?_)⟩
        obtain ⟨_, _, _, c3⟩ := hc w4 Fr.refl
        exact ⟨_, c3, inR64 (by omega) (by omega), inR64 (by omega) (by omega), ⟨⟨rfl, rfl, trivial⟩, i + 1, by omega, by omega, hts.symm, hf4⟩, by dsimp only; omega⟩
      . rw [chAt_neg h0] at hts
        simp only at hts
        exact ⟨inR64 (by omega) (by omega), ⟨⟨rfl, rfl, trivial⟩, i + 1, by omega, by omega, by omega, hf⟩, by dsimp only; omega⟩
    . have : i = f.length := by omega
      subst this
      rw [List.take_length]
      have hk := hK w2 (m.1.t hf)
      unfold pointsR at hk
      rw [e] at hk
      exact hk
end
end Go.Proofs.YtmkjcheafdionaaGreat

/- The reference's Crowded, Permitted, Value, Greater, Better, options. Conditions: none. -/
namespace Pw
open Go
theorem Sp.one {α : Type} {n : Nat} {enc : α -> List Value} {w0 w : World} {L : List (Nat × List Value)} {a : α} {e : TypeId} (hn : ∀ a, (enc a).length = n) (h : Mem w0 w L) : Sp w0 (w.alloc (Obj.cells (enc a).toArray e)) L (fun _ => False) (fun _ => True) n enc ⟨some ⟨w.heap.size, 0, none⟩, 1, 1⟩ [a] := by
  refine ⟨h.fr Fr.alloc, Rests.top, trivial, fun _ hb => hb.elim, Row.ow hn (l := [a]) (by simpa using Row.new), fun b ⟨x, ha, hb⟩ => ?_⟩
  cases ha
  subst hb
  exact ⟨h.1.1, fun h => h, fun p hp e => by have := (h.2.1 p hp).lt; simp only at e; omega⟩
end Pw
namespace Go.Proofs.YtmkjcheafdionaaGreat
open Go Pw
section
variable {w wB : World} {s t s0 s1 s2 s5 t5 : Sl} {a b l f g : List Int} {p : Pr} {pb : Nat}
theorem dec_lt {i : Nat} (hd : Decs p p.lots f) (hi : i < f.length) (h0 : 0 <= f[i]) : f[i].toNat < p.ch.length := by
  obtain ⟨_, q⟩ := decs_at hd hi
  rcases q with q | ⟨c, q, _⟩
  . omega
  . obtain ⟨_, q2, _⟩ := chAt_some q; exact q2
def cntB (p : Pr) (f : List Int) (i k : Nat) : Nat := match chAt p (f.getD i 0) with
  | some c => (took p (f.take k)).countP (fun d => d.bid == c.bid)
  | none => 0
theorem cntB_succ {i k : Nat} (hk : k < f.length) : cntB p f i (k + 1) = cntB p f i k + (match chAt p (f.getD i 0), chAt p f[k] with | some c, some d => if c.bid = d.bid then 1 else 0 | _, _ => 0) := by
  unfold cntB
  cases chAt p (f.getD i 0) with
  | none => rfl
  | some c =>
    rw [took_succ hk]
    cases chAt p f[k] with
    | none => simp
    | some d =>
      simp only [List.countP_append, List.countP_cons, List.countP_nil]
      by_cases h : c.bid = d.bid
      . simp [h]
      . have : ¬ d.bid = c.bid := fun e => h e.symm
        simp [h, this]
theorem Crowded_l1 {i : Nat} {N0 : Sl -> Addr -> Int -> World -> Prop} {K : Bool -> World -> Prop} (hp : RightPr p) (h : PF wB s0 s1 s2 s5 p f) (hd : Decs p p.lots f) (hB : Fr F0 wB w) (hi : i < f.length)
    (hpr : Row w pb (prC s0 s1 s2 p.most p.budget)) (hT : 0 < p.most /\ p.most < cntB p f i f.length -> ∀ w', Fr F0 w w' -> K true w') (hF : ¬ (0 < p.most /\ p.most < cntB p f i f.length) -> ∀ w', Fr F0 w w' -> N0 s5 ⟨pb, 0, none⟩ ((i : Int) + 1) w') :
    z1n_l1 s5 ⟨pb, 0, none⟩ i 0 0 N0 K w := by
  have el := h.tk.len
  have hl12 := right_len hp hd
  have e1 := h.pv.ch.len
  have hgi : f.getD i 0 = f[i] := by simp [hi]
  refine ⟨⟨fun n k w' => ∃ k' : Nat, k = k' /\ k' <= f.length /\ n = cntB p f i k' /\ Fr F0 w w', fun _ k _ => f.length - k.toNat, ⟨0, rfl, by omega, by unfold cntB; cases chAt p (f.getD i 0) <;> simp [took], Fr.refl⟩, ?_⟩⟩
  rintro n k w1 ⟨k, rfl, hk, rfl, hf⟩
  have hcb : cntB p f i k <= 12 := by
    unfold cntB
    split
    . exact Nat.le_trans (List.countP_le_length) (Nat.le_trans (took_len _) (by simp; omega))
    . omega
  unfold z1n_b1
  rw [cnd_prop]
  refine ⟨fun hlt => ?_, fun hge => ?_⟩
  . have hkf : k < f.length := by omega
    have hs := cntB_succ (p := p) (i := i) hkf
    rw [hgi] at hs
    intro w2
    have hf2 : Fr F0 w w2 := hf.t Fr.drew
    clear_value w2
    have h2 := h.fr (hB.t hf2)
    have hp2 := hf2.row hpr fun h => h
    refine VI.ld h2.tk i rfl hi ?_
    rw [cnd_prop]
    refine ⟨fun h0 => VI.ld h2.tk k rfl hkf ?_, fun h0 => ?_⟩
    . have hci := dec_lt hd hi h0
      rw [chAt_get h0 hci] at hs
      rw [cnd_prop]
      refine ⟨fun h3 => ?_, fun h3 => ?_⟩
      . have hck := dec_lt hd hkf h3
        rw [chAt_get h3 hck] at hs
        simp only at hs
        refine ⟨s1, hp2.at rfl, VI.ld h2.tk i rfl hi (VC.ld h2.pv.ch f[i].toNat (by omega) hci fun x hc => ?_)⟩
        obtain ⟨_, c1, _, _⟩ := hc w2 Fr.refl
        refine ⟨_, c1, s1, hp2.at rfl, VI.ld h2.tk k rfl hkf (VC.ld h2.pv.ch f[k].toNat (by omega) hck fun y hc' => ?_)⟩
        obtain ⟨_, d1, _, _⟩ := hc' w2 Fr.refl
        refine ⟨_, d1, ?_⟩
        rw [cnd_beq]
        refine ⟨fun he => ?_, fun hne => ?_⟩
        . rw [if_pos he] at hs
          exact ⟨inR64 (by omega) (by omega), inR64 (by omega) (by omega), ⟨⟨rfl, rfl, rfl, trivial⟩, k + 1, by omega, by omega, by omega, hf2⟩, by dsimp only; omega⟩
        . rw [if_neg hne] at hs
          exact ⟨inR64 (by omega) (by omega), ⟨⟨rfl, rfl, rfl, trivial⟩, k + 1, by omega, by omega, by omega, hf2⟩, by dsimp only; omega⟩
      . rw [chAt_neg h3] at hs
        simp only at hs
        exact ⟨inR64 (by omega) (by omega), ⟨⟨rfl, rfl, rfl, trivial⟩, k + 1, by omega, by omega, by omega, hf2⟩, by dsimp only; omega⟩
    . rw [chAt_neg h0] at hs
      simp only at hs
      exact ⟨inR64 (by omega) (by omega), ⟨⟨rfl, rfl, rfl, trivial⟩, k + 1, by omega, by omega, by omega, hf2⟩, by dsimp only; omega⟩
  . have : k = f.length := by omega
    subst this
    have hp2 := hf.row hpr fun h => h
    refine ⟨_, hp2.at rfl, ?_⟩
    rw [cnd_prop]
    refine ⟨fun h1 => ⟨_, hp2.at rfl, ?_⟩, fun h1 => ⟨inR64 (by omega) (by omega), hF (fun q => h1 q.1) w1 hf⟩⟩
    rw [cnd_prop]
    exact ⟨fun h2 => hT ⟨h1, h2⟩ w1 hf, fun h2 => ⟨inR64 (by omega) (by omega), hF (fun q => h2 q.2) w1 hf⟩⟩
theorem refCrowded_spec {K : Bool -> World -> Prop} (hp : RightPr p) (h : PF w s0 s1 s2 s5 p f) (hd : Decs p p.lots f) (hK : ∀ w', Fr F0 w w' -> K (crowdB p f) w') : z1n_sh s0 s1 s2 p.most p.budget s5 K w := by
  have el := h.tk.len
  have hl12 := right_len hp hd
  have hcase : ∀ i, i < f.length -> (0 < p.most /\ p.most < cntB p f i f.length) -> crowdB p f = true := fun i hi q => by
    unfold cntB at q
    have hgi : f.getD i 0 = f[i] := by simp [hi]
    rw [hgi, List.take_length] at q
    cases hc : chAt p f[i] with
    | none => rw [hc] at q; simp at q; omega
    | some c =>
      rw [hc] at q
      exact crowdB_iff.2 ⟨q.1, c.bid, q.2⟩
  refine ⟨?_⟩
  unfold z1n_sd
  intro w1
  have m : Mem w w1 _ := Mem.nil.allocL (cs := prC s0 s1 s2 p.most p.budget)
  clear_value w1
  have hpr := m.row 0 rfl
  refine ⟨⟨fun i w' => ∃ i' : Nat, i = i' /\ i' <= f.length /\ Fr F0 w1 w' /\ ∀ j < i', ¬ (0 < p.most /\ p.most < cntB p f j f.length), fun i _ => f.length - i.toNat, ⟨0, rfl, by omega, Fr.refl, fun j hj => by omega⟩, ?_⟩⟩
  rintro i w2 ⟨i, rfl, hi, hf, hin⟩
  unfold z1n_b0
  rw [cnd_prop]
  refine ⟨fun hlt => ?_, fun hge => ?_⟩
  . have hif : i < f.length := by omega
    refine Crowded_l1 hp h hd (m.1.t hf) hif (hf.row hpr fun h => h) (fun q w' hw => ?_) fun q w' hw => ⟨⟨⟨rfl, rfl, trivial⟩, i + 1, by omega, by omega, hf.t hw, fun j hj => ?_⟩, by dsimp only; omega⟩
    . have hk := hK w' (m.1.t (hf.t hw))
      rwa [hcase i hif q] at hk
    . rcases Nat.lt_succ_iff_lt_or_eq.1 hj with hj | rfl
      . exact hin j hj
      . exact q
  . have : i = f.length := by omega
    subst this
    have hk := hK w2 (m.1.t hf)
    cases hc : crowdB p f with
    | false => rwa [hc] at hk
    | true =>
      exfalso
      obtain ⟨h0, bd, hb⟩ := crowdB_iff.1 hc
      have hpos : 0 < (took p f).countP (fun d => d.bid == bd) := by omega
      obtain ⟨c, hcm, hcb⟩ := List.countP_pos_iff.1 hpos
      obtain ⟨n, hn, hnc⟩ := List.mem_filterMap.1 hcm
      obtain ⟨j, hj, rfl⟩ := List.mem_iff_getElem.1 hn
      refine hin j hj ⟨h0, ?_⟩
      unfold cntB
      have hgj : f.getD j 0 = f[j] := by simp [hj]
      rw [hgj, hnc, List.take_length]
      have : c.bid = bd := by simpa using hcb
      subst this
      exact hb
theorem refPermitted_spec {K : Bool -> World -> Prop} (h : PF w s0 s1 s2 s5 p f) (hK : ∀ w', Fr F0 w w' -> K (rightB p && permB p f) w') : z0v_sh s0 s1 s2 p.most p.budget s5 K w := by
  refine ⟨?_⟩
  unfold z0v_sd
  intro w1
  have m : Mem w w1 _ := Mem.nil.allocL (cs := prC s0 s1 s2 p.most p.budget)
  clear_value w1
  refine ⟨s0, m.ld 0 rfl rfl, s1, m.ld 0 rfl rfl, s2, m.ld 0 rfl rfl, _, m.ld 0 rfl rfl, _, m.ld 0 rfl rfl, take_spec (h.fr m.1) fun w7 hf => ?_⟩
  have m := m.fr hf
  intro w9
  have m : Mem w w9 _ := m.drew
  clear_value w9
  refine ⟨fun u => Row u w.heap.size (prC s0 s1 s2 p.most p.budget), m.row 0 rfl, ?_⟩
  unfold permB at hK
  refine cnd_iff.2 ⟨fun hy => ?_, fun hn => ?_⟩
  . obtain ⟨er, ef⟩ := Bool.and_eq_true_iff.1 hy
    have hp := rightB_iff.1 er
    have hd := fitsB_decs ef
    rw [er, ef, Bool.true_and, Bool.true_and] at hK
    refine ⟨s0, fun u hu => hu.at rfl, s1, fun u hu => hu.at rfl, s2, fun u hu => hu.at rfl, _, fun u hu => hu.at rfl, _, fun u hu => hu.at rfl, _, fun u hu => hu.at rfl, refLeast_spec hp (h.fr m.1) hd fun w17 hf => ?_⟩
    have m := m.fr hf
    refine ⟨m.row 0 rfl, ?_⟩
    rw [cnd_prop]
    refine ⟨fun hle => ?_, fun hgt => ?_⟩
    . rw [decide_eq_true hle, Bool.true_and] at hK
      refine ⟨s0, fun u hu => hu.at rfl, s1, fun u hu => hu.at rfl, s2, fun u hu => hu.at rfl, _, fun u hu => hu.at rfl, _, fun u hu => hu.at rfl, refCrowded_spec hp (h.fr m.1) hd fun w24 hf => ?_⟩
      have m := m.fr hf
      exact ⟨m.row 0 rfl, hK w24 m.1⟩
    . rw [decide_eq_false hgt, Bool.false_and] at hK
      exact hK w17 m.1
  . have hk := hK w9 m.1
    rw [← Bool.and_assoc, hn, Bool.false_and] at hk
    exact hk
theorem refValue_spec {K : Int -> World -> Prop} (hp : RightPr p) (h : PF w s0 s1 s2 s5 p f) (hfit : fitsB p f = true) (hK : ∀ w', Fr F0 w w' -> K (worth p f) w') : z2f_sh s0 s1 s2 p.most p.budget s5 K w := by
  have hd := fitsB_decs hfit
  have hbu := hp.budget
  have ⟨b1, b2⟩ : 0 <= p.budget /\ p.budget <= 1000000000 := hbu
  obtain ⟨q1, q2, q3, q4⟩ := worth_bound hp hd
  have ep : pointsR p (rightB p) (fitsB p f) f = ptsOf p f := by
    unfold pointsR
    rw [rightB_iff.2 hp, hfit]
    rfl
  refine ⟨?_⟩
  unfold z2f_sd
  intro w1
  have m : Mem w w1 _ := Mem.nil.allocL (cs := prC s0 s1 s2 p.most p.budget)
  clear_value w1
  intro w2
  have m : Mem w w2 _ := m.drew
  clear_value w2
  refine ⟨fun u => Row u w.heap.size (prC s0 s1 s2 p.most p.budget), m.row 0 rfl, s0, fun u hu => hu.at rfl, s1, fun u hu => hu.at rfl, s2, fun u hu => hu.at rfl, _, fun u hu => hu.at rfl, _, fun u hu => hu.at rfl, _, fun u hu => hu.at rfl, inR64 (by omega) (by omega), s0, fun u hu => hu.at rfl, s1, fun u hu => hu.at rfl, s2, fun u hu => hu.at rfl, _, fun u hu => hu.at rfl, _, fun u hu => hu.at rfl, refPoints_spec (h.fr m.1) fun w15 hf => ?_⟩
  have m := m.fr hf
  rw [ep]
  refine ⟨m.row 0 rfl, inR64 (by omega) (by omega), refLeast_spec hp (h.fr m.1) hd fun w17 hf => ?_⟩
  have m := m.fr hf
  have hk := hK w17 m.1
  unfold worth at hk q3 q4
  exact ⟨m.row 0 rfl, inR64 (by omega) (by omega), hk⟩
theorem refGreater_spec {K : Bool -> World -> Prop} (ha : VI w s a) (hb : VI w t b) (hla : a.length < 2 ^ 40) (hK : ∀ w', Fr F0 w w' -> K (gtL a b) w') : z1a_sh s t K w := by
  have ea := ha.len
  have eb := hb.len
  refine ⟨?_⟩
  unfold z1a_sd
  refine ⟨⟨fun i w' => ∃ i' : Nat, i = i' /\ i' <= a.length /\ Fr F0 w w' /\ gtL a b = gtL (a.drop i') (b.drop i'), fun i _ => a.length - i.toNat, ⟨0, rfl, by omega, Fr.refl, rfl⟩, ?_⟩⟩
  rintro i w1 ⟨i, rfl, hi, hf, hg⟩
  unfold z1a_b0
  rw [cnd_prop]
  refine ⟨fun hlt => ?_, fun hge => ?_⟩
  . have hia : i < a.length := by omega
    rw [cnd_prop]
    refine ⟨fun hlt2 => ?_, fun hge2 => ?_⟩
    . have hib : i < b.length := by omega
      rw [List.drop_eq_getElem_cons hia, List.drop_eq_getElem_cons hib, gtL] at hg
      intro w2
      have hf2 : Fr F0 w w2 := hf.t Fr.drew
      clear_value w2
      refine VI.ld (ha.fr hf2) i rfl hia (VI.ld (hb.fr hf2) i rfl hib ?_)
      rw [cnd_bne]
      refine ⟨fun hne => ?_, fun he => ?_⟩
      . rw [if_neg hne] at hg
        intro w3
        have hf3 : Fr F0 w w3 := hf2.t Fr.drew
        clear_value w3
        refine VI.ld (ha.fr hf3) i rfl hia (VI.ld (hb.fr hf3) i rfl hib ?_)
        have hk := hK w3 hf3
        rwa [hg] at hk
      . rw [if_pos he] at hg
        exact ⟨inR64 (by omega) (by omega), ⟨⟨rfl, rfl, trivial⟩, i + 1, by omega, by omega, hf2, hg⟩, by dsimp only; omega⟩
    . rw [List.drop_of_length_le (show b.length <= i by omega)] at hg
      have hk := hK w1 hf
      rw [hg] at hk
      have e : gtL (a.drop i) [] = false := by cases a.drop i <;> rfl
      rwa [e] at hk
  . rw [List.drop_of_length_le (show a.length <= i by omega)] at hg
    have hk := hK w1 hf
    rw [hg] at hk
    exact hk
theorem perm_fits {p : Pr} {f : List Int} (h : permB p f = true) : fitsB p f = true := (Bool.and_eq_true_iff.1 h).1
theorem refBetter_spec {K : Bool -> World -> Prop} (ha : PF w s0 s1 s2 s5 p a) (hb : PF w s0 s1 s2 t5 p b) (hK : ∀ w', Fr F0 w w' -> K (betterR p a b) w') : z1u_sh s0 s1 s2 p.most p.budget s5 t5 K w := by
  refine ⟨?_⟩
  unfold z1u_sd
  intro w1
  have m : Mem w w1 _ := Mem.nil.allocL (cs := prC s0 s1 s2 p.most p.budget)
  clear_value w1
  refine ⟨s0, m.ld 0 rfl rfl, s1, m.ld 0 rfl rfl, s2, m.ld 0 rfl rfl, _, m.ld 0 rfl rfl, _, m.ld 0 rfl rfl, refPermitted_spec (ha.fr m.1) fun w7 hf => ?_⟩
  have m := m.fr hf
  refine ⟨s0, m.ld 0 rfl rfl, s1, m.ld 0 rfl rfl, s2, m.ld 0 rfl rfl, _, m.ld 0 rfl rfl, _, m.ld 0 rfl rfl, refPermitted_spec (hb.fr m.1) fun w14 hf => ?_⟩
  have m := m.fr hf
  unfold betterR at hK
  refine cnd_iff.2 ⟨fun hn => ?_, fun hy => ?_⟩
  . have hk := hK w14 m.1
    have e : (rightB p && permB p a) = false := by
      cases hq : (rightB p && permB p a) with
      | false => rfl
      | true => rw [hq] at hn; cases hn
    rw [← Bool.and_assoc, e, Bool.false_and] at hk
    rw [e]
    exact hk
  . have e : (rightB p && permB p a) = true := by
      cases hq : (rightB p && permB p a) with
      | true => rfl
      | false => rw [hq] at hy; cases hy
    obtain ⟨er, ea⟩ := Bool.and_eq_true_iff.1 e
    have hp := rightB_iff.1 er
    rw [er, ea, Bool.true_and, Bool.true_and] at hK
    refine cnd_iff.2 ⟨fun hn => ?_, fun hy2 => ?_⟩
    . have e2 : permB p b = false := by
        cases hq : permB p b with
        | false => rfl
        | true => rw [er, hq] at hn; cases hn
      have hk := hK w14 m.1
      rw [e2] at hk
      rw [er, ea]
      exact hk
    . have e2 : permB p b = true := by
        cases hq : permB p b with
        | true => rfl
        | false => rw [hq, Bool.and_false] at hy2; cases hy2
      rw [e2, Bool.not_true, Bool.false_or] at hK
      refine ⟨s0, m.ld 0 rfl rfl, s1, m.ld 0 rfl rfl, s2, m.ld 0 rfl rfl, _, m.ld 0 rfl rfl, _, m.ld 0 rfl rfl, refValue_spec hp (ha.fr m.1) (perm_fits ea) fun w21 hf => ?_⟩
      have m := m.fr hf
      refine ⟨s0, m.ld 0 rfl rfl, s1, m.ld 0 rfl rfl, s2, m.ld 0 rfl rfl, _, m.ld 0 rfl rfl, _, m.ld 0 rfl rfl, refValue_spec hp (hb.fr m.1) (perm_fits e2) fun w28 hf => ?_⟩
      have m := m.fr hf
      unfold btB at hK
      rw [cnd_prop]
      refine ⟨fun hg => ?_, fun hng => ?_⟩
      . have hk := hK w28 m.1
        rw [decide_eq_true (show worth p b < worth p a from hg), Bool.true_or] at hk
        exact hk
      . rw [decide_eq_false (show ¬ worth p b < worth p a from hng), Bool.false_or] at hK
        rw [cnd_beq]
        refine ⟨fun he => ?_, fun hne => ?_⟩
        . rw [decide_eq_true he, Bool.true_and] at hK
          exact refGreater_spec (hb.fr m.1).tk (ha.fr m.1).tk hb.lt fun w30 hf => hK w30 (m.1.t hf)
        . have hk := hK w28 m.1
          rw [decide_eq_false hne, Bool.false_and] at hk
          exact hk
end
end Go.Proofs.YtmkjcheafdionaaGreat

/- The reference's options, best and Best: what trying all takes answers. Conditions: none. -/
namespace Go.Proofs.YtmkjcheafdionaaGreat
open Go Pw
def bF (p : Pr) : List Int -> List Int -> List Int -> List Int
  | f, [], kn => if betterR p f kn then f else kn
  | f, lot :: ls, kn => (opts p lot).foldl (fun kn o => bF p (f ++ [o]) ls kn) kn
structure BestOf (p : Pr) (S : List Int -> Prop) (kn R : List Int) : Prop where
  one : R = kn \/ (Perm p R /\ S R)
  all : ∀ t, S t -> Perm p t -> Perm p R /\ ¬ Bt p t R
  old : Perm p kn -> Perm p R /\ ¬ Bt p kn R
theorem bt_le {p : Pr} {a b c : List Int} (hb : Perm p b) (h1 : ¬ Bt p a b) (h2 : ¬ Bt p b c) (hc : Perm p c) : ¬ Bt p a c := fun h => by
  by_cases e : b = c
  . exact h1 (e ▸ h)
  . rcases Bt.total (p := p) (show b.length = c.length by rw [hb.1, hc.1]) e with q | q
    . exact h2 q
    . exact h1 (h.trans q)
theorem BestOf.comp {p : Pr} {S1 S2 : List Int -> Prop} {kn R1 R2 : List Int} (h1 : BestOf p S1 kn R1) (h2 : BestOf p S2 R1 R2) : BestOf p (fun t => S1 t \/ S2 t) kn R2 := by
  refine ⟨?_, fun t ht hp => ?_, fun hp => ?_⟩
  . rcases h2.one with e | ⟨q, s⟩
    . rcases h1.one with e1 | ⟨q, s⟩
      . exact .inl (e.trans e1)
      . exact .inr ⟨e ▸ q, .inl (e ▸ s)⟩
    . exact .inr ⟨q, .inr s⟩
  . rcases ht with ht | ht
    . obtain ⟨q1, q2⟩ := h1.all t ht hp
      obtain ⟨q3, q4⟩ := h2.old q1
      exact ⟨q3, bt_le q1 q2 q4 q3⟩
    . exact h2.all t ht hp
  . obtain ⟨q1, q2⟩ := h1.old hp
    obtain ⟨q3, q4⟩ := h2.old q1
    exact ⟨q3, bt_le q1 q2 q4 q3⟩
theorem bF_ok {p : Pr} (hp : RightPr p) : ∀ (ls f kn : List Int), BestOf p (fun t => ∃ r, t = f ++ r /\ r.length = ls.length /\ Decs p ls r) kn (bF p f ls kn)
  | [], f, kn => by
    unfold bF
    cases hb : betterR p f kn with
    | true =>
      unfold betterR at hb
      rw [Bool.and_eq_true, Bool.and_eq_true] at hb
      obtain ⟨_, ha, hb⟩ := hb
      have hpa := permB_iff.1 ha
      rw [if_pos rfl]
      refine ⟨.inr ⟨hpa, [], by simp, rfl, trivial⟩, ?_, fun hk => ⟨hpa, ?_⟩⟩
      . rintro t ⟨r, rfl, hr, _⟩ _
        obtain rfl := List.length_eq_zero_iff.1 hr
        rw [List.append_nil]
        exact ⟨hpa, Bt.irrefl⟩
      . rw [permB_iff.2 hk, Bool.not_true, Bool.false_or] at hb
        exact (btB_iff.1 hb).asymm
    | false =>
      rw [if_neg (by decide)]
      refine ⟨.inl rfl, ?_, fun hk => ⟨hk, Bt.irrefl⟩⟩
      rintro t ⟨r, rfl, hr, _⟩ hpt
      obtain rfl := List.length_eq_zero_iff.1 hr
      rw [List.append_nil] at hpt ⊢
      unfold betterR at hb
      rw [rightB_iff.2 hp, permB_iff.2 hpt, Bool.true_and, Bool.true_and, Bool.or_eq_false_iff] at hb
      obtain ⟨h1, h2⟩ := hb
      refine ⟨permB_iff.1 (by simpa using h1), fun h => ?_⟩
      rw [btB_iff.2 h] at h2
      cases h2
  | lot :: ls, f, kn => by
    unfold bF
    have key : ∀ (os : List Int) (kn : List Int), BestOf p (fun t => ∃ o ∈ os, ∃ r, t = f ++ [o] ++ r /\ r.length = ls.length /\ Decs p ls r) kn (os.foldl (fun kn o => bF p (f ++ [o]) ls kn) kn) := by
      intro os
      induction os with
      | nil => exact fun kn => ⟨.inl rfl, fun t ⟨o, ho, _⟩ => (by cases ho), fun hk => ⟨hk, Bt.irrefl⟩⟩
      | cons o os ih =>
        intro kn
        have h := (bF_ok hp ls (f ++ [o]) kn).comp (ih (bF p (f ++ [o]) ls kn))
        refine ⟨?_, fun t ht => ?_, h.old⟩
        . rcases h.one with e | ⟨q, s⟩
          . exact .inl e
          . refine .inr ⟨q, ?_⟩
            rcases s with ⟨r, s⟩ | ⟨o', ho, s⟩
            . exact ⟨o, List.mem_cons_self .., r, s⟩
            . exact ⟨o', List.mem_cons_of_mem _ ho, s⟩
        . obtain ⟨o', ho, r, s⟩ := ht
          rcases List.mem_cons.1 ho with rfl | ho
          . exact h.all t (.inl ⟨r, s⟩)
          . exact h.all t (.inr ⟨o', ho, r, s⟩)
    have h := key (opts p lot) kn
    refine ⟨?_, ?_, h.old⟩
    . rcases h.one with e | ⟨q, o, ho, r, s1, s2, s3⟩
      . exact .inl e
      . exact .inr ⟨q, o :: r, by rw [s1]; simp, by simp [s2], opts_mem.1 ho, s3⟩
    . rintro t ⟨r, rfl, hr, hd⟩ hpt
      cases r with
      | nil => simp at hr
      | cons o r => exact h.all _ ⟨o, opts_mem.2 hd.1, r, by simp, by simpa using hr, hd.2⟩ hpt
theorem bF_best {p : Pr} (hp : RightPr p) : IsBest p (bF p [] p.lots []) := by
  have h := bF_ok hp p.lots [] []
  have hs : ∀ t, Perm p t -> (∃ r, t = [] ++ r /\ r.length = p.lots.length /\ Decs p p.lots r) := fun t ht => ⟨t, by simp, ht.1, ht.2.1⟩
  have h0 := perm_none hp
  exact ⟨(h.all _ (hs _ h0) h0).1, fun u hu => (h.all u (hs u hu) hu).2⟩
theorem optsFrom_app {lot : Int} {c : Ch} : ∀ (l : List Ch) (i : Nat), optsFrom lot i (l ++ [c]) = optsFrom lot i l ++ (if c.lot = lot then [((i + l.length : Nat) : Int)] else [])
  | [], i => by simp [optsFrom]
  | d :: l, i => by
    rw [List.cons_append, optsFrom, optsFrom, optsFrom_app l (i + 1)]
    have e : i + 1 + l.length = i + (d :: l).length := by simp; omega
    rw [e]
    split <;> simp
section
variable {w wB : World} {s t s0 s1 s2 s5 t5 : Sl} {a b l f g : List Int} {p : Pr} {pb : Nat}
theorem refoptions_spec {k : Nat} {K : Sl -> World -> Prop} (h : PV w s0 s1 s2 p) (hk : k < p.lots.length) (hK : ∀ w' s, Fr F0 w w' -> VI w' s (opts p p.lots[k]) -> K s w') : z1j_sh s0 s1 s2 p.most p.budget k K w := by
  have e0 := h.lots.len
  have e1 := h.ch.len
  have hl1 := h.l1
  have hl0 := h.l0
  refine ⟨?_⟩
  unfold z1j_sd
  intro w1
  have m : Mem w w1 _ := Mem.nil.allocL (cs := prC s0 s1 s2 p.most p.budget)
  clear_value w1
  intro w2
  have h2 : Sp w w2 _ _ _ _ _ _ _ := Sp.one (α := Int) (n := 1) (enc := ie .i64 (id : Int -> Int)) (a := -1) (fun a => ie_length _ _ a) m
  clear_value w2
  refine ⟨⟨fun out i w' => ∃ i' : Nat, i = i' /\ i' <= p.ch.length /\ Sp w w' [(w.heap.size, prC s0 s1 s2 p.most p.budget)] (fun _ => False) (fun _ => True) 1 (ie .i64 (id : Int -> Int)) out (-1 :: optsFrom p.lots[k] 0 (p.ch.take i')), fun _ i _ => p.ch.length - i.toNat, ⟨0, rfl, by omega, h2⟩, ?_⟩⟩
  rintro out i w3 ⟨i, rfl, hi, h3⟩
  unfold z1j_b0
  refine ⟨s1, h3.ld 0 rfl rfl, ?_⟩
  rw [cnd_prop]
  refine ⟨fun hlt => ?_, fun hge => ?_⟩
  . have hic : i < p.ch.length := by omega
    have hts := take_succ' hic
    have hlen : (optsFrom p.lots[k] 0 (p.ch.take i)).length <= i := by
      rw [optsFrom_len]
      have := List.countP_le_length (p := fun c : Ch => c.lot == p.lots[k]) (l := p.ch.take i)
      simp at this
      omega
    have hap : -1 :: optsFrom p.lots[k] 0 (p.ch.take (i + 1)) = (-1 :: optsFrom p.lots[k] 0 (p.ch.take i)) ++ (if p.ch[i].lot = p.lots[k] then [(i : Int)] else []) := by
      rw [hts, optsFrom_app]
      simp only [List.length_take, List.cons_append]
      rw [show 0 + min i p.ch.length = i by omega]
    intro w4
    have h4 : Sp w w4 _ _ _ _ _ _ _ := h3.drew
    clear_value w4
    have hp4 := h.fr h4.m.1
    refine ⟨s1, h4.ld 0 rfl rfl, VC.ld hp4.ch i rfl hic fun x hc => ?_⟩
    obtain ⟨c0, _, _, _⟩ := hc w4 Fr.refl
    refine ⟨_, c0, s0, h4.ld 0 rfl rfl, VI.ld hp4.lots k rfl hk ?_⟩
    rw [cnd_beq]
    refine ⟨fun he => ?_, fun hne => ?_⟩
    . rw [if_pos he] at hap
      intro w5
      refine h4.push (a := (i : Int)) rfl rfl (ie_ok _ _) rfl (by simp; omega) (by simp; omega) fun r w6 h6 => ?_
      rw [← hap] at h6
      exact ⟨inR64 (by omega) (by omega), ⟨⟨rfl, rfl, trivial⟩, i + 1, by omega, by omega, h6⟩, by dsimp only; omega⟩
    . rw [if_neg hne, List.append_nil] at hap
      rw [← hap] at h4
      exact ⟨inR64 (by omega) (by omega), ⟨⟨rfl, rfl, trivial⟩, i + 1, by omega, by omega, h4⟩, by dsimp only; omega⟩
  . have : i = p.ch.length := by omega
    subst this
    rw [List.take_length] at h3
    exact hK w3 out h3.m.1 h3.ow.vw
theorem best_spec (hp : RightPr p) (hP0 : PV wB s0 s1 s2 p) : ∀ (ls ds f kn : List Int) (w : World) (s5 t5 : Sl) (K : Sl -> World -> Prop), Fr F0 wB w -> p.lots = ds ++ ls -> f.length = ds.length -> VI w s5 f -> VI w t5 kn -> kn.length <= 12 ->
    (∀ w' s, Fr F0 w w' -> VI w' s (bF p f ls kn) -> K s w') -> z33_sh s0 s1 s2 p.most p.budget s5 t5 K w := by
  intro ls
  induction ls with
  | nil =>
    intro ds f kn w s5 t5 K hB hl hfl hv hkn hkl hK
    have hP := hP0.fr hB
    have hds : p.lots.length = f.length := by rw [hl, hfl]; simp
    have e0 := hP.lots.len
    have e5 := hv.len
    have hfew := hp.few
    apply z33_mk
    unfold z33_sd
    intro w1
    have m : Mem w w1 _ := Mem.nil.allocL (cs := prC s0 s1 s2 p.most p.budget)
    clear_value w1
    refine ⟨s0, m.ld 0 rfl rfl, ?_⟩
    rw [cnd_beq]
    refine ⟨fun _ => ⟨s0, m.ld 0 rfl rfl, s1, m.ld 0 rfl rfl, s2, m.ld 0 rfl rfl, _, m.ld 0 rfl rfl, _, m.ld 0 rfl rfl, ?_⟩, fun h => absurd (show (s5.l : Int) = (s0.l : Int) by omega) h⟩
    refine refBetter_spec (a := f) (b := kn) ⟨hP.fr m.1, hv.fr m.1, by omega⟩ ⟨hP.fr m.1, hkn.fr m.1, by omega⟩ fun w8 hf => ?_
    have m := m.fr hf
    unfold bF at hK
    refine cnd_iff.2 ⟨fun hb => ?_, fun hb => ?_⟩
    . rw [if_pos hb] at hK
      intro w10
      have h : Sp w w10 _ _ _ _ _ _ _ := Sp.empty (α := Int) (n := 1) (enc := ie .i64 (id : Int -> Int)) (fun a => ie_length _ _ a) m
      clear_value w10
      refine h.app (hv.fr h.m.1) (ie_ok _ _) rfl (by simp; omega) (by simp; omega) fun r w12 h => ?_
      rw [List.nil_append] at h
      exact hK w12 r h.m.1 h.ow.vw
    . rw [if_neg (by rw [hb]; decide)] at hK
      exact hK w8 t5 m.1 (hkn.fr m.1)
  | cons lot ls ih =>
    intro ds f kn w s5 t5 K hB hl hfl hv hkn hkl hK
    have hP := hP0.fr hB
    have hds : p.lots.length = f.length + (ls.length + 1) := by rw [hl, hfl]; simp
    have e0 := hP.lots.len
    have e5 := hv.len
    have hfew := hp.few
    have hch := hp.chs
    have hkf : f.length < p.lots.length := by omega
    have hlot : ∀ (k : Nat) (hk : k < p.lots.length), k = f.length -> p.lots[k] = lot := by
      rintro k hk rfl
      have : p.lots[f.length]? = some lot := by rw [hl, hfl]; simp
      rw [List.getElem?_eq_getElem hkf] at this
      exact Option.some.inj this
    apply z33_mk
    unfold z33_sd
    intro w1
    have m : Mem w w1 _ := Mem.nil.allocL (cs := prC s0 s1 s2 p.most p.budget)
    clear_value w1
    have hpr := m.row 0 rfl
    refine ⟨s0, m.ld 0 rfl rfl, ?_⟩
    rw [cnd_beq]
    refine ⟨fun h => absurd (show (s5.l : Int) = s0.l from h) (by omega), fun _ => ⟨s0, m.ld 0 rfl rfl, s1, m.ld 0 rfl rfl, s2, m.ld 0 rfl rfl, _, m.ld 0 rfl rfl, _, m.ld 0 rfl rfl, ?_⟩⟩
    refine refoptions_spec (k := s5.l) (hP.fr m.1) (by omega) fun w18 sl hf hsl => ?_
    rw [hlot s5.l (by omega) e5] at hsl
    have hf18 := m.1.t hf
    have hol := opts_len p lot
    have esl := hsl.len
    have hbl : ∀ (os kn : List Int), kn.length <= 12 -> (os.foldl (fun kn o => bF p (f ++ [o]) ls kn) kn).length <= 12 := by
      intro os
      induction os with
      | nil => exact fun kn h => h
      | cons o os ih2 =>
        intro kn h
        refine ih2 _ ?_
        show (bF p (f ++ [o]) ls kn).length <= 12
        rcases (bF_ok hp ls (f ++ [o]) kn).one with e | ⟨q, _⟩
        . rw [e]; exact h
        . rw [q.1]; exact hfew
    refine ⟨⟨fun kn' i w' => ∃ i' : Nat, i = i' /\ i' <= (opts p lot).length /\ Fr F0 w18 w' /\ VI w' kn' (((opts p lot).take i').foldl (fun kn o => bF p (f ++ [o]) ls kn) kn), fun _ i _ => (opts p lot).length - i.toNat, ⟨0, rfl, by omega, Fr.refl, hkn.fr hf18⟩, ?_⟩⟩
    rintro kn' i w2 ⟨i, rfl, hi, hf2, hkv⟩
    unfold z33_b0
    rw [cnd_prop]
    refine ⟨fun hlt => ?_, fun hge => ?_⟩
    . have hio : i < (opts p lot).length := by omega
      have hfold : ((opts p lot).take (i + 1)).foldl (fun kn o => bF p (f ++ [o]) ls kn) kn = bF p (f ++ [(opts p lot)[i]]) ls (((opts p lot).take i).foldl (fun kn o => bF p (f ++ [o]) ls kn) kn) := by
        rw [take_succ' hio, List.foldl_append]
        rfl
      have hkl' := hbl ((opts p lot).take i) kn hkl
      intro w20
      have hf20 : Fr F0 w18 w20 := hf2.t Fr.drew
      have hkv : VI w20 kn' _ := hkv.fr Fr.drew
      clear_value w20
      have hS : ∀ {u}, Fr F0 w20 u -> (Row u w.heap.size (prC s0 s1 s2 p.most p.budget) /\ VI u sl (opts p lot)) := fun hu => ⟨(hf.t (hf20.t hu)).row hpr fun h => h, hsl.fr (hf20.t hu)⟩
      refine ⟨fun u => Row u w.heap.size (prC s0 s1 s2 p.most p.budget) /\ VI u sl (opts p lot), hS Fr.refl, s0, fun u hu => hu.1.at rfl, s1, fun u hu => hu.1.at rfl, s2, fun u hu => hu.1.at rfl, _, fun u hu => hu.1.at rfl, _, fun u hu => hu.1.at rfl, ?_⟩
      obtain ⟨ad, hp', _⟩ := hsl.at (fun a => ie_length _ _ a) (List.getElem?_eq_getElem hio) (by decide)
      have hv20 := hv.fr (hf18.t hf20)
      have hrec : ∀ {u : World} {r : Sl} {K' : Sl -> World -> Prop}, Fr F0 w20 u -> VI u r (f ++ [(opts p lot)[i]]) -> (∀ w' s, Fr F0 w20 w' -> VI w' s (((opts p lot).take (i + 1)).foldl (fun kn o => bF p (f ++ [o]) ls kn) kn) -> K' s w') -> z33_sh s0 s1 s2 p.most p.budget r kn' K' u := fun {u r K'} hu hr hk =>
        ih (ds ++ [lot]) (f ++ [(opts p lot)[i]]) _ u r kn' K' (hB.t (hf18.t (hf20.t hu))) (by rw [hl]; simp) (by simp [hfl]) hr (hkv.fr hu) hkl' fun w' s hw hs => hk w' s (hu.t hw) (hfold ▸ hs)
      have hfin : ∀ {w' : World} {r : Sl}, Fr F0 w20 w' -> VI w' r (((opts p lot).take (i + 1)).foldl (fun kn o => bF p (f ++ [o]) ls kn) kn) -> ∃ i' : Nat, (i : Int) + 1 = i' /\ i' <= (opts p lot).length /\ Fr F0 w18 w' /\ VI w' r (((opts p lot).take i').foldl (fun kn o => bF p (f ++ [o]) ls kn) kn) := fun hw hr => ⟨i + 1, by omega, by omega, hf20.t hw, hr⟩
      refine nz_iff.2 ⟨ad, hp', ⟨by omega, by omega⟩, (opts p lot)[i], fun u hu => ?_, ?_, ?_⟩
      . obtain ⟨ad', hp'', hc⟩ := hu.2.at (fun a => ie_length _ _ a) (List.getElem?_eq_getElem hio) (by decide)
        rw [hp'] at hp''
        cases hp''
        exact hc 0 _ rfl
      . intro w29
        have h : Sp w20 w29 [] _ _ _ _ _ _ := Sp.empty (α := Int) (n := 1) (enc := ie .i64 (id : Int -> Int)) (fun a => ie_length _ _ a) Mem.nil
        clear_value w29
        refine ⟨hS h.m.1, ?_, ?_⟩
        . refine h.app (hv20.fr h.m.1) (ie_ok _ _) rfl (by simp; omega) (by simp; omega) fun s30 w31 h => ⟨hS h.m.1, ?_⟩
          rw [List.nil_append] at h
          intro w32
          refine ⟨hS (h.fr (Fr.alloc : Fr F0 w31 w32)).m.1, h.push (a := (opts p lot)[i]) rfl rfl (ie_ok _ _) rfl (by omega) (by omega) fun s33 w34 h => ⟨hS h.m.1, hrec h.m.1 h.ow.vw fun w35 r hw hr => ⟨hS hw, inR64 (by omega) (by omega), ⟨⟨rfl, rfl, rfl, trivial⟩, hfin hw hr⟩, by dsimp only; omega⟩⟩⟩
        . intro w37
          have h : Sp w20 w37 _ _ _ _ _ _ _ := h.allocL (vs := ([(opts p lot)[i]] : List Int).map (Value.int .i64))
          clear_value w37
          refine ⟨hS h.m.1, h.app (hv20.fr h.m.1) (ie_ok _ _) rfl (by simp; omega) (by simp; omega) fun s38 w39 h => ⟨hS h.m.1, ?_⟩⟩
          rw [List.nil_append] at h
          exact h.app (m := [(opts p lot)[i]]) (Ow.row (l := [(opts p lot)[i]]) (h.row 0 rfl)).vw (ie_ok _ _) rfl (by simp; omega) (by simp; omega) fun s40 w41 h => ⟨hS h.m.1, hrec h.m.1 h.ow.vw fun w35 r hw hr => ⟨hS hw, inR64 (by omega) (by omega), ⟨⟨rfl, rfl, rfl, trivial⟩, hfin hw hr⟩, by dsimp only; omega⟩⟩
      . intro w44
        have m : Mem w20 w44 _ := Mem.nil.allocL (cs := ([(opts p lot)[i]] : List Int).map (Value.int .i64))
        clear_value w44
        refine ⟨hS m.1, ?_⟩
        intro w45
        have h : Sp w20 w45 _ _ _ _ _ _ _ := Sp.empty (α := Int) (n := 1) (enc := ie .i64 (id : Int -> Int)) (fun a => ie_length _ _ a) m
        clear_value w45
        refine ⟨hS h.m.1, h.app (hv20.fr h.m.1) (ie_ok _ _) rfl (by simp; omega) (by simp; omega) fun s46 w47 h => ⟨hS h.m.1, ?_⟩⟩
        rw [List.nil_append] at h
        exact h.app (m := [(opts p lot)[i]]) (Ow.row (l := [(opts p lot)[i]]) (h.row 0 rfl)).vw (ie_ok _ _) rfl (by simp; omega) (by simp; omega) fun s48 w49 h => ⟨hS h.m.1, hrec h.m.1 h.ow.vw fun w35 r hw hr => ⟨hS hw, inR64 (by omega) (by omega), ⟨⟨rfl, rfl, rfl, trivial⟩, hfin hw hr⟩, by dsimp only; omega⟩⟩
    . have : i = (opts p lot).length := by omega
      subst this
      rw [List.take_length] at hkv
      exact hK w2 kn' (hf18.t hf2) hkv
theorem refBest_spec {K : Sl -> World -> Prop} (hp : RightPr p) (h : PV w s0 s1 s2 p) (hK : ∀ w' s, Fr F0 w w' -> VI w' s (bF p [] p.lots []) -> K s w') : z36_sh s0 s1 s2 p.most p.budget K w := by
  refine ⟨?_⟩
  unfold z36_sd
  intro w1
  have m : Mem w w1 _ := Mem.nil.allocL (cs := prC s0 s1 s2 p.most p.budget)
  clear_value w1
  exact ⟨s0, m.ld 0 rfl rfl, s1, m.ld 0 rfl rfl, s2, m.ld 0 rfl rfl, _, m.ld 0 rfl rfl, _, m.ld 0 rfl rfl, best_spec hp h p.lots [] [] [] w1 _ _ _ m.1 rfl rfl Vw.nil Vw.nil (by simp) fun w' s hw hs => hK w' s (m.1.t hw) hs⟩
end
end Go.Proofs.YtmkjcheafdionaaGreat

/- CombineSolves. Conditions: none. -/
namespace Go.Proofs.YtmkjcheafdionaaGreat
open Go Pw
section
variable {w wB wM : World} {s t s0 s1 s2 n1 : Sl} {l a : List Int} {p : Pr} {pb rb : Nat} {bnd : Int}
theorem Solves_k0 {K : Bool -> World -> Prop} {B : Nat -> Prop} (hp : RightPr p) (hP : PV wM s0 s1 s2 p) (hA : IsBest p a) (hbnd : bnd = ptsOf p a)
    (h : Sp wM wB [(rb, reC t (ptsOf p a) bnd n1), (pb, prC s0 s1 s2 p.most p.budget)] B (fun w => Ow 1 (ie .i64 (id : Int -> Int)) w t a) 1 (ie .i64 (id : Int -> Int)) s l) (hK : ∀ w', Fr F0 wM w' -> K true w') : z0d_k0 true ⟨pb, 0, none⟩ ⟨rb, 0, none⟩ 0 K wB := by
  subst hbnd
  refine ⟨?_⟩
  unfold z0d_k0d
  have hfew := hp.few
  have hal : a.length <= 12 := by rw [hA.1.1]; exact hfew
  have hb : bF p [] p.lots [] = a := (bF_best hp).uniq hA
  have hP' := hP.fr h.m.1
  have hpr := h.row 1 rfl
  have hrr := h.row 0 rfl
  have hfit : fitsB p a = true := perm_fits (permB_iff.2 hA.1)
  have ep : pointsR p (rightB p) (fitsB p a) a = ptsOf p a := by
    unfold pointsR
    rw [rightB_iff.2 hp, hfit]
    rfl
  refine ⟨s0, hpr.at rfl, s1, hpr.at rfl, s2, hpr.at rfl, _, hpr.at rfl, _, hpr.at rfl, refBest_spec hp hP' fun w43 sw hf hsw => ?_⟩
  rw [hb] at hsw
  have hpr1 := hf.row hpr fun h => h
  refine ⟨s0, hpr1.at rfl, s1, hpr1.at rfl, s2, hpr1.at rfl, _, hpr1.at rfl, _, hpr1.at rfl, refPoints_spec (f := a) ⟨hP'.fr hf, hsw, by omega⟩ fun w50 hf50 => ?_⟩
  rw [ep]
  have hf2 := hf.t hf50
  have hr2 := hf2.row hrr fun h => h
  refine cnd_iff.2 ⟨fun _ => cnd_beq.2 ⟨fun _ => ⟨t, hr2.at rfl, Ints_spec (h.q.vw.fr hf2) (hsw.fr hf50) (by omega) fun w53 hf53 => ?_⟩, fun h => absurd rfl h⟩, fun h => (by cases h)⟩
  have hf3 := hf2.t hf53
  have hr3 := hf3.row hrr fun h => h
  rw [decide_eq_true rfl]
  refine cnd_iff.2 ⟨fun _ => ⟨_, hr3.at rfl, cnd_beq.2 ⟨fun _ => ⟨_, hr3.at rfl, ?_⟩, fun h => absurd rfl h⟩⟩, fun h => (by cases h)⟩
  rw [show (ptsOf p a == ptsOf p a) = true from beq_self_eq_true _]
  exact hK _ (h.m.1.t hf3)
theorem Solves_spec {K : Bool -> World -> Prop} (hv : VI w s l) (hl : l.length < 2 ^ 63) (hK : ∀ w', Fr F0 w w' -> K true w') : z0d_sh s K w := by
  have hpn := made_prefN l
  have hp := madeP_right l
  have hwk : Wi (prefN (madeP l) (madeP l).lots : Nat) 1048576 := ⟨by omega, by omega⟩
  refine ⟨?_⟩
  unfold z0d_sd
  refine sanity_spec fun w1 hf1 => ?_
  refine Made_spec (hv.fr hf1) hl fun w3 s0 s1 s2 hf3 hP => ?_
  have hK3 : ∀ w', Fr F0 w3 w' -> K true w' := fun w' h => hK w' ((hf1.t hf3).t h)
  refine stN_new (w0 := w3) (l := []) rfl Mem.nil fun w6 m => ?_
  intro w7
  have m : Mem w3 w7 _ := m.drew
  clear_value w7
  refine ⟨fun u => Row u w3.heap.size (prC s0 s1 s2 (madeP l).most (madeP l).budget), m.row 0 rfl, s0, fun u hu => hu.at rfl, s1, fun u hu => hu.at rfl, s2, fun u hu => hu.at rfl, _, fun u hu => hu.at rfl, _, fun u hu => hu.at rfl,
    s0, fun u hu => hu.at rfl, s1, fun u hu => hu.at rfl, s2, fun u hu => hu.at rfl, _, fun u hu => hu.at rfl, _, fun u hu => hu.at rfl, ?_, ?_⟩
  . refine Prefixes_spec (hP.fr m.1) (by omega) fun w19 hf => ?_
    have m := m.fr hf
    refine ⟨m.row 0 rfl, ?_, ?_⟩
    . refine Solve_full hp (hP.fr m.1) hwk (Int.le_refl _) fun w21 t bnd ns T cs N hV hT hbd _ => ?_
      have h := Sp.ofV (α := Int) (n := 1) (enc := ie .i64 (id : Int -> Int)) m hV
      refine ⟨h.row 0 rfl, ?_⟩
      intro w24
      have h : Sp w3 w24 _ _ _ _ _ _ _ := h.allocL (vs := [.slice none 0 0, .int .i64 0, .int .i64 0, .slice none 0 0])
      clear_value w24
      refine ⟨h.row 1 rfl, stN_sp h 0 rfl rfl fun w25 h => ?_⟩
      exact Solves_k0 hp hP hT hbd h hK3
    . intro w26
      have m : Mem w3 w26 _ := m.allocL (cs := [.slice none 0 0, .int .i64 0, .int .i64 0, .slice none 0 0])
      clear_value w26
      refine ⟨m.row 1 rfl, Solve_full hp (hP.fr m.1) hwk (Int.le_refl _) fun w21 t bnd ns T cs N hV hT hbd _ => ?_⟩
      have h := Sp.ofV (α := Int) (n := 1) (enc := ie .i64 (id : Int -> Int)) m hV
      refine ⟨h.row 1 rfl, stN_sp h 0 rfl rfl fun w25 h => ?_⟩
      exact Solves_k0 hp hP hT hbd h hK3
  . intro w26
    have m : Mem w3 w26 _ := m.allocL (cs := [.slice none 0 0, .int .i64 0, .int .i64 0, .slice none 0 0])
    clear_value w26
    refine ⟨m.row 1 rfl, Prefixes_spec (hP.fr m.1) (by omega) fun w19 hf => ?_⟩
    have m := m.fr hf
    refine ⟨m.row 1 rfl, Solve_full hp (hP.fr m.1) hwk (Int.le_refl _) fun w21 t bnd ns T cs N hV hT hbd _ => ?_⟩
    have h := Sp.ofV (α := Int) (n := 1) (enc := ie .i64 (id : Int -> Int)) m hV
    refine ⟨h.row 1 rfl, stN_sp h 0 rfl rfl fun w25 h => ?_⟩
    exact Solves_k0 hp hP hT hbd h hK3
end
end Go.Proofs.YtmkjcheafdionaaGreat

