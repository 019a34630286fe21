/- combine: what can be saved, what is paid, points. Conditions: none. -/
import Derived.Test.YtmkjcheafdionaaCD3
namespace Go.Proofs.Ytmkjcheafdionaa
open Go Pw

theorem map_take_fst {dc : List (De × Sl)} {p : Pr} (h : dc.map (·.1) = p.de) (i : Nat) : (dc.take i).map (·.1) = p.de.take i := by rw [List.map_take, h]

theorem Mp.fr {w w' : World} {r : Nat} {k : IntKind} {l : List (Int × Value)} (h : Mp w r k l) (hf : Fr F0 w w') : Mp w' r k l := by
  obtain ⟨es, clock, h1, h2⟩ := h
  refine ⟨es, clock, ?_, h2⟩
  rw [hf.2.1 r (Array.getElem?_eq_some_iff.1 h1).1 fun h => h]
  exact h1

theorem mset_frB {w : World} {r : Nat} {k : IntKind} {n : Int} {v : Value} : Fr (fun b => b = r) w (w.mset r k n v) := by
  refine ⟨by simp [World.mset], fun b _ hn => ?_, rfl, rfl, rfl⟩
  unfold World.mset
  simp only [Array.getElem?_modify]
  rw [if_neg (fun h => hn h.symm)]

section
variable {w w' w0 : World} {s s0 s1 s2 s5 : Sl} {p : Pr} {f : List Int}

theorem idxI_mem {v : Int} {l : List Int} (h : v ∈ l) : idxI v l = (l.idxOf v : Int) := if_pos h

theorem may_spec {lot b : Int} {K : Bool -> World -> Prop} (h : PF w s0 s1 s2 s5 p f) (hd : Decs p p.lots f) (hl : lot ∈ p.lots) (hK : ∀ w', Fr F0 w w' -> K (may p f b lot) w') : Cp_may_sh s0 s1 s2 p.most p.budget s5 lot b K w := by
  refine ⟨?_⟩
  unfold Cp_may_sd
  have l0 := h.pv.l0; have l1 := h.pv.l1; have l5 := h.lt
  have e1 := h.pv.ch.len; have e5 := h.tk.len
  intro w1
  have m : Mem w w1 [(w.heap.size, pfC s0 s1 s2 p.most p.budget s5)] := Mem.nil.alloc
  clear_value w1
  intro w2
  have m : Mem w w2 [(w1.heap.size, [.int .i64 lot]), (w.heap.size, pfC s0 s1 s2 p.most p.budget s5)] := m.alloc
  clear_value w2
  intro w3
  have m : Mem w w3 [(w2.heap.size, [.int .i64 b]), (w1.heap.size, [.int .i64 lot]), (w.heap.size, pfC s0 s1 s2 p.most p.budget s5)] := m.alloc
  clear_value w3
  refine ⟨s0, m.ld 2 rfl rfl, _, m.ld 1 rfl rfl, Index_spec (h.fr m.1).pv.lots (by omega) ?_⟩
  rw [idxI_mem hl]
  have hix : p.lots.idxOf lot < p.lots.length := List.idxOf_lt_length_of_mem hl
  refine ⟨s5, m.ld 2 rfl rfl, ?_⟩
  rw [cnd_prop]
  refine ⟨fun hlt => ?_, fun hge => ?_⟩
  · have hlt : p.lots.idxOf lot < f.length := by omega
    have hmay : may p f b lot = (match chAt p f[p.lots.idxOf lot] with | some c => c.bid == b | none => false) := by
      unfold may
      rw [List.getElem?_eq_getElem hlt]
      rfl
    intro w4
    have m : Mem w w4 _ := m.drew
    clear_value w4
    refine ⟨s5, m.ld 2 rfl rfl, ?_⟩
    refine VI.ld (h.fr m.1).tk (p.lots.idxOf lot) rfl hlt ?_
    have hKm := hK w4 m.1
    rw [hmay] at hKm
    rw [cnd_prop]
    refine ⟨fun hpos => ?_, fun hneg => ?_⟩
    · obtain ⟨_, hdi⟩ := decs_at hd hlt
      rcases hdi with hdi | ⟨c, hdi, _⟩
      · omega
      obtain ⟨_, hcx, hce⟩ := chAt_some hdi
      rw [hdi] at hKm
      refine ⟨s1, m.ld 2 rfl rfl, s5, m.ld 2 rfl rfl, ?_⟩
      refine VI.ld (h.fr m.1).tk (p.lots.idxOf lot) rfl hlt ?_
      refine VC.ld (h.fr m.1).pv.ch f[p.lots.idxOf lot].toNat (by omega) hcx fun a hc => ?_
      refine ⟨_, (hc w4 Fr.refl).2.1, _, m.ld 0 rfl rfl, ?_⟩
      rw [hce]
      exact hKm
    · rw [chAt_neg (by omega)] at hKm
      exact hKm
  · have hmay : may p f b lot = p.ch.any (fun c => c.lot == lot && c.bid == b) := by
      unfold may
      rw [List.getElem?_eq_none (by omega)]
    refine ⟨s1, m.ld 2 rfl rfl, ?_⟩
    refine ContainsFuncC_spec (f := fnv (idOf Cp_may_1_ok) [w1.heap.size, w2.heap.size]) (t := fun c => c.lot == lot && c.bid == b) (h.fr m.1).pv.ch (by omega) (fun c _ w5 hw5 K5 hK5 => ?_) fun w5 hf5 => by rw [← hmay]; exact hK w5 (m.1.t hf5)
    refine callV_of Cp_may_1_ok ⟨?_⟩
    unfold Cp_may_1_sd
    intro w6
    have hf6 : Fr F0 w5 w6 := Fr.alloc
    have hm : Row w6 w5.heap.size (encC c) := Row.new
    clear_value w6
    have m6 := m.fr (hw5.t hf6)
    refine ⟨_, hm.at rfl, _, m6.ld 1 rfl rfl, ?_⟩
    have hK6 : K5 (.bool (c.lot == lot && c.bid == b)) w6 := hK5 w6 hf6
    refine cnd_and (K := fun b => K5 (.bool b) w6) hK6 fun _ hK7 => ?_
    exact ⟨_, hm.at rfl, _, m6.ld 0 rfl rfl, hK7⟩

theorem offs_spec {K : Int -> World -> Prop} (hp : RightPr p) (h : PF w s0 s1 s2 s5 p f) (hd : Decs p p.lots f) (hK : ∀ w', Fr F0 w w' -> K (offs p f) w') : Cp_offs_sh s0 s1 s2 p.most p.budget s5 K w := by
  refine ⟨?_⟩
  unfold Cp_offs_sd
  have l2 := h.pv.l2
  obtain ⟨dc, hdv, hdm, hds⟩ := h.pv.de
  have e2 := hdv.len
  have e3 : dc.length = p.de.length := by rw [← hdm, List.length_map]
  intro w1
  have hf1 : Fr F0 w w1 := Fr.alloc
  have hr : Row w1 w.heap.size (pfC s0 s1 s2 p.most p.budget s5) := Row.new
  clear_value w1
  refine ⟨s2, hr.at rfl, ⟨⟨fun sum i w' => ∃ i' : Nat, i = i' /\ i' <= dc.length /\ sum = ((p.de.take i').map (offOf p f)).sum /\ Fr F0 w1 w', fun _ i _ => dc.length - i.toNat, ⟨0, rfl, by omega, by simp, Fr.refl⟩, ?_⟩⟩⟩
  rintro sum i w2 ⟨i, rfl, hi, rfl, hf2⟩
  unfold Cp_offs_b0
  rw [cnd_prop]
  refine ⟨fun hlt => ?_, fun hge => ?_⟩
  · have hlt : i < dc.length := by omega
    have hx := List.getElem_mem hlt
    obtain ⟨hdl, hd40⟩ := hds _ hx
    have hdi : p.de[i]'(by omega) = dc[i].1 := by simp [← hdm]
    have hde := hp.de dc[i].1 (by rw [← hdm]; exact List.mem_map_of_mem hx)
    have hts : p.de.take (i + 1) = p.de.take i ++ [dc[i].1] := by rw [take_succ' (by omega), hdi]
    have hsum : ((p.de.take (i + 1)).map (offOf p f)).sum = ((p.de.take i).map (offOf p f)).sum + offOf p f dc[i].1 := by rw [hts]; simp
    have hb1 := offs_bound (f := f) hp (List.take_prefix i p.de)
    have hb2 := offs_bound (f := f) hp (List.take_prefix (i + 1) p.de)
    refine VD.ld (hdv.fr (hf1.t hf2)) i rfl hlt fun a hc => ?_
    obtain ⟨c0, c1, c2⟩ := hc w2 Fr.refl
    refine ⟨_, c0, _, c1, _, c2, ?_⟩
    refine stN_new rfl Mem.nil fun w3 m3 => ?_
    have hf3 := m3.1
    have hr3 : Row w3 w2.heap.size (encD dc[i]) := m3.2.1 _ (List.mem_singleton.2 rfl)
    have hf13 := hf2.t hf3
    have el := hdl.len
    refine ⟨dc[i].2, hr3.at rfl, ?_⟩
    refine all_spec (f := fnv (idOf Cp_offs_1_ok) [w.heap.size, w2.heap.size]) (t := may p f dc[i].1.bid) (hdl.fr (hf1.t hf13)) (by omega) rfl (fun id hid w4 hw4 K4 hK4 => ?_) fun w4 hf4 => ?_
    · refine callV_of Cp_offs_1_ok ⟨?_⟩
      unfold Cp_offs_1_sd
      have hr4 := (hf13.t hw4).row hr fun h => h
      refine ⟨s0, hr4.at rfl, s1, hr4.at rfl, s2, hr4.at rfl, _, hr4.at rfl, _, hr4.at rfl, s5, hr4.at rfl, _, (hw4.row hr3 fun h => h).at rfl, ?_⟩
      exact may_spec (h.fr (hf1.t (hf13.t hw4))) hd (hde.2.2.1 id hid) fun w5 hf5 => hK4 w5 hf5
    · have hoff : offOf p f dc[i].1 = if dc[i].1.lots.all (may p f dc[i].1.bid) then dc[i].1.off else 0 := rfl
      rw [cnd_iff]
      refine ⟨fun ht => ?_, fun hfa => ?_⟩
      · rw [if_pos ht] at hoff
        refine ⟨_, (hf4.row hr3 fun h => h).at rfl, inR64 (by omega) (by omega), inR64 (by omega) (by omega), ⟨⟨rfl, rfl, rfl, trivial⟩, i + 1, by omega, by omega, by rw [hsum, hoff], hf13.t hf4⟩, by dsimp only; omega⟩
      · rw [if_neg (by rw [hfa]; decide)] at hoff
        refine ⟨inR64 (by omega) (by omega), ⟨⟨rfl, rfl, rfl, trivial⟩, i + 1, by omega, by omega, by rw [hsum, hoff, Int.add_zero], hf13.t hf4⟩, by dsimp only; omega⟩
  · have : i = p.de.length := by omega
    subst this
    have := hK w2 (hf1.t hf2)
    unfold offs at this
    rwa [List.take_length]

theorem sum_take_succ (g : Ch -> Int) {l : List Ch} {i : Nat} (hi : i < l.length) : ((l.take (i + 1)).map g).sum = ((l.take i).map g).sum + g l[i] := by
  rw [take_succ' hi, List.map_append, List.sum_append, List.map_cons, List.map_nil, List.sum_cons, List.sum_nil, Int.add_zero]

theorem least_spec {K : Int -> World -> Prop} (hp : RightPr p) (h : PF w s0 s1 s2 s5 p f) (hd : Decs p p.lots f) (hK : ∀ w', Fr F0 w w' -> K (leastOf p f) w') : Cp_least_sh s0 s1 s2 p.most p.budget s5 K w := by
  refine ⟨?_⟩
  unfold Cp_least_sd
  intro w1
  have hf1 : Fr F0 w w1 := Fr.alloc
  have hr : Row w1 w.heap.size (pfC s0 s1 s2 p.most p.budget s5) := Row.new
  clear_value w1
  refine ⟨s0, hr.at rfl, s1, hr.at rfl, s2, hr.at rfl, _, hr.at rfl, _, hr.at rfl, s5, hr.at rfl, ?_⟩
  refine taken_spec (h.fr hf1) hd fun t w2 hm => ?_
  have hv := hm.vw
  have el := hm.len
  have hl12 := right_len hp hd
  have hlt0 := took_len (p := p) f
  refine ⟨⟨fun sum i w' => ∃ i' : Nat, i = i' /\ i' <= (took p f).length /\ sum = (((took p f).take i').map (·.price)).sum /\ Fr F0 w2 w', fun _ i _ => (took p f).length - i.toNat, ⟨0, rfl, by omega, by simp, Fr.refl⟩, ?_⟩⟩
  rintro sum i w3 ⟨i, rfl, hi, rfl, hf3⟩
  unfold Cp_least_b0
  have hb := fun j => took_sum hp (·.price) 1000000000 (fun c hc => (hp.ch c hc).2.1) hd (by decide) (List.take_prefix j (took p f))
  have hb1 := hb i
  have hb2 := hb (i + 1)
  rw [cnd_prop]
  refine ⟨fun hlt => ?_, fun hge => ?_⟩
  · have hlt : i < (took p f).length := by omega
    have hs := sum_take_succ (·.price) hlt
    refine VC.ld (hv.fr hf3) i rfl hlt fun a hc => ?_
    obtain ⟨c0, c1, c2, c3⟩ := hc w3 Fr.refl
    refine ⟨_, c0, _, c1, _, c2, _, c3, ?_⟩
    refine stN_new rfl Mem.nil fun w4 m4 => ?_
    have hf4 := m4.1
    have hr4 : Row w4 w3.heap.size (encC (took p f)[i]) := m4.2.1 _ (List.mem_singleton.2 rfl)
    refine ⟨_, hr4.at rfl, inR64 (by omega) (by omega), inR64 (by omega) (by omega), ⟨⟨rfl, rfl, rfl, trivial⟩, i + 1, by omega, by omega, hs.symm, hf3.t hf4⟩, by dsimp only; omega⟩
  · have : i = (took p f).length := by omega
    subst this
    rw [List.take_length] at hb1 ⊢
    have hf13 := hm.fr0.t hf3
    have hr3 := hf13.row hr fun h => h
    refine ⟨s0, hr3.at rfl, s1, hr3.at rfl, s2, hr3.at rfl, _, hr3.at rfl, _, hr3.at rfl, s5, hr3.at rfl, ?_⟩
    refine offs_spec hp (h.fr (hf1.t hf13)) hd fun w4 hf4 => ?_
    have ho := offs_bound (f := f) hp (List.prefix_refl p.de)
    have ho : 0 <= offs p f /\ offs p f <= 100000000000 := ho
    have := hK w4 (hf1.t (hf13.t hf4))
    unfold leastOf costOf at this
    exact ⟨inR64 (by omega) (by omega), this⟩

theorem points_spec {K : Int -> World -> Prop} (hp : RightPr p) (h : PF w s0 s1 s2 s5 p f) (hd : Decs p p.lots f) (hK : ∀ w', Fr F0 w w' -> K (ptsOf p f) w') : Cp_points_sh s0 s1 s2 p.most p.budget s5 K w := by
  refine ⟨?_⟩
  unfold Cp_points_sd
  intro w1
  have hf1 : Fr F0 w w1 := Fr.alloc
  have hr : Row w1 w.heap.size (pfC s0 s1 s2 p.most p.budget s5) := Row.new
  clear_value w1
  refine ⟨s0, hr.at rfl, s1, hr.at rfl, s2, hr.at rfl, _, hr.at rfl, _, hr.at rfl, s5, hr.at rfl, ?_⟩
  refine taken_spec (h.fr hf1) hd fun t w2 hm => ?_
  have hv := hm.vw
  have el := hm.len
  have hl12 := right_len hp hd
  have hlt0 := took_len (p := p) f
  refine ⟨⟨fun sum i w' => ∃ i' : Nat, i = i' /\ i' <= (took p f).length /\ sum = (((took p f).take i').map (·.pts)).sum /\ Fr F0 w2 w', fun _ i _ => (took p f).length - i.toNat, ⟨0, rfl, by omega, by simp, Fr.refl⟩, ?_⟩⟩
  rintro sum i w3 ⟨i, rfl, hi, rfl, hf3⟩
  unfold Cp_points_b0
  have hb := fun j => took_sum hp (·.pts) 1000000 (fun c hc => (hp.ch c hc).2.2) hd (by decide) (List.take_prefix j (took p f))
  have hb1 := hb i
  have hb2 := hb (i + 1)
  rw [cnd_prop]
  refine ⟨fun hlt => ?_, fun hge => ?_⟩
  · have hlt : i < (took p f).length := by omega
    have hs := sum_take_succ (·.pts) hlt
    refine VC.ld (hv.fr hf3) i rfl hlt fun a hc => ?_
    obtain ⟨c0, c1, c2, c3⟩ := hc w3 Fr.refl
    refine ⟨_, c0, _, c1, _, c2, _, c3, ?_⟩
    refine stN_new rfl Mem.nil fun w4 m4 => ?_
    have hf4 := m4.1
    have hr4 : Row w4 w3.heap.size (encC (took p f)[i]) := m4.2.1 _ (List.mem_singleton.2 rfl)
    refine ⟨_, hr4.at rfl, inR64 (by omega) (by omega), inR64 (by omega) (by omega), ⟨⟨rfl, rfl, trivial⟩, i + 1, by omega, by omega, hs.symm, hf3.t hf4⟩, by dsimp only; omega⟩
  · have : i = (took p f).length := by omega
    subst this
    rw [List.take_length]
    exact hK w3 (hf1.t (hm.fr0.t hf3))

/-- Counts of bidders in the map. -/
def cntL (l : List Ch) (b : Int) : Int := (l.countP (fun c => c.bid == b) : Int)

theorem crowded_spec {K : Bool -> World -> Prop} (hp : RightPr p) (h : PF w s0 s1 s2 s5 p f) (hd : Decs p p.lots f) (hK : ∀ w', Fr F0 w w' -> K (crowdB p f) w') : Cp_crowded_sh s0 s1 s2 p.most p.budget s5 K w := by
  refine ⟨?_⟩
  unfold Cp_crowded_sd
  intro w1
  have m : Mem w w1 [(w.heap.size, pfC s0 s1 s2 p.most p.budget s5)] := Mem.nil.alloc
  clear_value w1
  intro w2
  have hf2 : Fr F0 w1 w2 := Fr.alloc
  have hm2 : Mp w2 w1.heap.size .i64 [] := Mp.made w1 .i64
  have hsz : w2.heap.size = w1.heap.size + 1 := by simp [w2]
  clear_value w2
  have m2 := m.fr hf2
  refine ⟨s0, m2.ld 0 rfl rfl, s1, m2.ld 0 rfl rfl, s2, m2.ld 0 rfl rfl, _, m2.ld 0 rfl rfl, _, m2.ld 0 rfl rfl, s5, m2.ld 0 rfl rfl, ?_⟩
  refine taken_spec (h.fr m2.1) hd fun t w3 hm => ?_
  have hv := hm.vw
  have el := hm.len
  have hl12 := right_len hp hd
  have hlt0 := took_len (p := p) f
  have hr3 : Row w3 w.heap.size (pfC s0 s1 s2 p.most p.budget s5) := hm.fr0.row (m2.2.1 _ (List.mem_singleton.2 rfl)) fun h => h
  have hwlt : w.heap.size < w1.heap.size := (m.2.1 _ (List.mem_singleton.2 rfl)).lt
  refine ⟨⟨fun i w' => ∃ (i' : Nat) (l : List (Int × Int)), i = i' /\ i' <= (took p f).length /\ Mp w' w1.heap.size .i64 (l.map fun q => (q.1, .int .i64 q.2)) /\ (∀ b, mgetD 0 b l = cntL ((took p f).take i') b) /\ (0 < p.most -> ∀ b, cntL ((took p f).take i') b <= p.most) /\ Fr (fun b => b = w1.heap.size) w3 w', fun i _ => (took p f).length - i.toNat,
    ⟨0, [], rfl, by omega, Mp.fr hm2 hm.fr0, fun b => by simp [mgetD, cntL], fun h0 b => by simp [cntL]; omega, Fr.refl⟩, ?_⟩⟩
  rintro i w4 ⟨i, l, rfl, hi, hmp, hget, hcnt, hf4⟩
  unfold Cp_crowded_b0
  have hwf : ∀ {w'}, Fr (fun b => b = w1.heap.size) w3 w' -> Fr F0 w w' := fun {w'} hf => ((m.1.t hf2).t hm.fr0).trans hf fun b hb hlt => by omega
  rw [cnd_prop]
  refine ⟨fun hlt => ?_, fun hge => ?_⟩
  · have hlt : i < (took p f).length := by omega
    have hv4 : VC w4 t (took p f) := hv.frF hf4 fun b hb he => by have := hm.nw b hb; omega
    refine VC.ld hv4 i rfl hlt fun a hc => ?_
    obtain ⟨c0, c1, c2, c3⟩ := hc w4 Fr.refl
    refine ⟨_, c0, _, c1, _, c2, _, c3, ?_⟩
    refine stN_new rfl Mem.nil fun w5 m5 => ?_
    have hf5 := m5.1
    have hr5 : Row w5 w4.heap.size (encC (took p f)[i]) := m5.2.1 _ (List.mem_singleton.2 rfl)
    have hmp5 := Mp.fr hmp hf5
    refine ⟨_, hr5.at rfl, l, hmp5, ?_⟩
    have hts := take_succ' hlt
    have hc1 : ∀ b, cntL ((took p f).take (i + 1)) b = cntL ((took p f).take i) b + if (took p f)[i].bid = b then 1 else 0 := by
      intro b
      unfold cntL
      rw [hts, List.countP_append, List.countP_cons, List.countP_nil]
      by_cases hb : (took p f)[i].bid = b
      · simp [hb]
      · simp [hb]
    have hle : ∀ b, cntL ((took p f).take i) b <= 12 := by
      intro b
      unfold cntL
      have := List.countP_le_length (p := fun c : Ch => c.bid == b) (l := (took p f).take i)
      rw [List.length_take] at this
      omega
    have hle0 : ∀ b, 0 <= cntL ((took p f).take i) b := fun b => by unfold cntL; omega
    rw [hget]
    have hxb := hle (took p f)[i].bid
    have hxb0 := hle0 (took p f)[i].bid
    refine ⟨inR64 (by omega) (by omega), ⟨_, hmp5⟩, ?_⟩
    intro w6
    have hf6 : Fr (fun b => b = w1.heap.size) w5 w6 := mset_frB
    have hmp6 := hmp5.set (took p f)[i].bid (.int .i64 (cntL ((took p f).take i) (took p f)[i].bid + 1))
    rw [mput_map (Value.int .i64)] at hmp6
    have hmp6 : Mp w6 w1.heap.size .i64 _ := hmp6
    clear_value w6
    have hf36 : Fr (fun b => b = w1.heap.size) w3 w6 := (hf4.trans hf5 fun _ h _ => h.elim).trans hf6 fun _ h _ => h
    have hget6 : ∀ b, mgetD 0 b (mput (took p f)[i].bid (cntL ((took p f).take i) (took p f)[i].bid + 1) l) = cntL ((took p f).take (i + 1)) b := by
      intro b
      rw [mget_put, hget, hc1]
      by_cases hb : b = (took p f)[i].bid
      · subst hb; rw [if_pos rfl, if_pos rfl]
      · rw [if_neg hb, if_neg (Ne.symm hb), Int.add_zero]
    have hnext : (0 < p.most -> ∀ b, cntL ((took p f).take (i + 1)) b <= p.most) -> inR .i64 ((i : Int) + 1) /\ ((((⟨w.heap.size, 0, none⟩ : Addr) = ⟨w.heap.size, 0, none⟩ /\ w1.heap.size = w1.heap.size /\ t = t /\ (t.l : Int) = t.l /\ True) /\
        ∃ (i' : Nat) (l : List (Int × Int)), (i : Int) + 1 = i' /\ i' <= (took p f).length /\ Mp w6 w1.heap.size .i64 (l.map fun q => (q.1, .int .i64 q.2)) /\ (∀ b, mgetD 0 b l = cntL ((took p f).take i') b) /\ (0 < p.most -> ∀ b, cntL ((took p f).take i') b <= p.most) /\ Fr (fun b => b = w1.heap.size) w3 w6) /\
        (took p f).length - ((i : Int) + 1).toNat < (took p f).length - (i : Int).toNat) := fun hq =>
      ⟨inR64 (by omega) (by omega), ⟨⟨rfl, rfl, rfl, rfl, trivial⟩, i + 1, _, by omega, by omega, hmp6, hget6, hq, hf36⟩, by omega⟩
    have hr6 : Row w6 w.heap.size (pfC s0 s1 s2 p.most p.budget s5) := hf36.row hr3 (by omega)
    refine ⟨_, hr6.at rfl, ?_⟩
    rw [cnd_prop]
    refine ⟨fun hpos => ?_, fun hneg => hnext fun h0 => absurd h0 (by omega)⟩
    have hr5' : Row w6 w4.heap.size (encC (took p f)[i]) := hf6.row hr5 (by have := hf4.1; have := hm.fr0.1; omega)
    refine ⟨_, hr5'.at rfl, _, hmp6, _, hr6.at rfl, ?_⟩
    rw [hget6]
    rw [cnd_prop]
    refine ⟨fun hgt => ?_, fun hle' => hnext fun h0 b => ?_⟩
    · have := hK w6 (hwf hf36)
      rwa [show crowdB p f = true from crowdB_iff.2 ⟨by omega, _, Int.lt_of_lt_of_le (by exact hgt) (Int.ofNat_le.2 ((List.take_sublist (i + 1) (took p f)).countP_le ..))⟩] at this
    · by_cases hb : (took p f)[i].bid = b
      · subst hb; omega
      · rw [hc1, if_neg hb, Int.add_zero]; exact hcnt h0 b
  · have : i = (took p f).length := by omega
    subst this
    rw [List.take_length] at hcnt
    have := hK w4 (hwf hf4)
    rwa [show crowdB p f = false from Bool.eq_false_iff.2 fun hb => by
      obtain ⟨h0, b, hb⟩ := crowdB_iff.1 hb
      have := hcnt h0 b
      unfold cntL at this
      omega] at this
end
end Go.Proofs.Ytmkjcheafdionaa
