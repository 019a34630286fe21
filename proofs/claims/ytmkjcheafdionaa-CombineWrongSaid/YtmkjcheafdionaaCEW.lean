/- The reference's Right. Conditions: none. -/
import Derived.Test.YtmkjcheafdionaaCEN
namespace Go.Proofs.Ytmkjcheafdionaa
open Go Pw

section
variable {w wB : World} {s x s0 s1 s2 : Sl} {l dl : List Int} {p : Pr} {pb db : Nat}

theorem contains_spec {n : Int} {K : Bool -> World -> Prop} (hv : VI w s l) (hl : l.length < 2 ^ 62) (hK : K (decide (n ∈ l)) w) : Rf_contains_sh s n K w := by
  have hlen := hv.len
  refine ⟨?_⟩
  unfold Rf_contains_sd
  refine ⟨⟨fun i w' => ∃ i' : Nat, i = i' /\ i' <= l.length /\ w' = w /\ n ∉ l.take i', fun i _ => l.length - i.toNat, ⟨0, rfl, by omega, rfl, by simp⟩, ?_⟩⟩
  rintro i w1 ⟨i, rfl, hi, rfl, hno⟩
  unfold Rf_contains_b0
  rw [cnd_prop]
  refine ⟨fun hlt => ?_, fun hge => ?_⟩
  · have hlt : i < l.length := by omega
    refine VI.ld hv i rfl hlt ?_
    rw [cnd_beq]
    refine ⟨fun he => ?_, fun hne => ⟨inR64 (by omega) (by omega), ⟨⟨rfl, rfl, trivial⟩, i + 1, by omega, by omega, rfl, ?_⟩, by dsimp only; omega⟩⟩
    · rwa [decide_eq_true (he ▸ List.getElem_mem hlt)] at hK
    · rw [take_succ' hlt, List.mem_append, List.mem_singleton]
      rintro (h | h)
      · exact hno h
      · exact hne h.symm
  · have : i = l.length := by omega
    subst this
    rw [List.take_length] at hno
    rwa [decide_eq_false hno] at hK

theorem different_spec {K : Bool -> World -> Prop} (hv : VI w s l) (hl : l.length < 2 ^ 62) (hK : ∀ w', Fr F0 w w' -> K (decide l.Nodup) w') : Rf_different_sh s K w := by
  have hlen := hv.len
  have hcap := hv.cap
  refine ⟨?_⟩
  unfold Rf_different_sd
  refine ⟨⟨fun i w' => ∃ i' : Nat, i = i' /\ i' <= l.length /\ Fr F0 w w' /\ (l.take i').Nodup, fun i _ => l.length - i.toNat, ⟨0, rfl, by omega, Fr.refl, by simp⟩, ?_⟩⟩
  rintro i w1 ⟨i, rfl, hi, hf, hnd⟩
  unfold Rf_different_b0
  rw [cnd_prop]
  refine ⟨fun hlt => ?_, fun hge => ?_⟩
  · have hlt : i < l.length := by omega
    intro w2
    have hf2 : Fr F0 w w2 := hf.t Fr.drew
    clear_value w2
    have hts := take_succ' hlt
    refine ⟨fun u => VI u s l, hv.fr hf2, ⟨by omega, by omega, by omega⟩, ?_⟩
    obtain ⟨ad, hp, _⟩ := hv.at (fun a => ie_length _ _ a) (List.getElem?_eq_getElem hlt) (by decide)
    refine nz_iff.2 ⟨ad, hp, ⟨by omega, by omega⟩, l[i], fun u hu => ?_, ?_⟩
    · obtain ⟨ad', hp', hc⟩ := hu.at (fun a => ie_length _ _ a) (List.getElem?_eq_getElem hlt) (by decide)
      rw [hp] at hp'
      cases hp'
      exact hc 0 _ rfl
    · refine contains_spec (l := l.take (i : Int).toNat) ((hv.fr hf2).take (fun a => ie_length _ _ a) (j := (i : Int).toNat) (by omega)) (by simp; omega) ?_
      rw [Int.toNat_natCast]
      refine cnd_iff.2 ⟨fun h => ?_, fun h => ⟨inR64 (by omega) (by omega), ⟨⟨rfl, trivial⟩, i + 1, by omega, by omega, hf2, ?_⟩, by dsimp only; omega⟩⟩
      · have hk := hK w2 hf2
        rwa [decide_eq_false] at hk
        intro hn
        have hn' : (l.take (i + 1)).Nodup := hn.sublist (List.take_sublist _ _)
        rw [hts, List.nodup_append] at hn'
        exact hn'.2.2 _ (of_decide_eq_true h) _ (List.mem_singleton.2 rfl) rfl
      · rw [hts, List.nodup_append]
        refine ⟨hnd, by simp, fun a ha b hb => ?_⟩
        rw [List.mem_singleton] at hb
        subst hb
        rintro rfl
        exact of_decide_eq_false h ha
  · have : i = l.length := by omega
    subst this
    rw [List.take_length] at hnd
    have hk := hK w1 hf
    rwa [decide_eq_true hnd] at hk

theorem rwithin_spec {n m : Int} {K : Bool -> World -> Prop} (hK : K (wiB n m) w) : Rf_within_sh n m K w := by
  refine ⟨?_⟩
  unfold Rf_within_sd
  rw [cnd_prop]
  refine ⟨fun h => ?_, fun h => ?_⟩
  · have e : wiB n m = decide (n <= m) := by simp [wiB, h]
    rwa [e] at hK
  · have e : wiB n m = false := by
      cases hb : wiB n m with
      | false => rfl
      | true => exact absurd (wiB_iff.1 hb).1 h
    rwa [e] at hK

/-- The lots of a deal are the problem's. -/
theorem Right_l2 {i : Int} {A B : Value} {N1 : Addr -> Int -> World -> Prop} {K : Bool -> World -> Prop} (hP : PV wB s0 s1 s2 p) (hpr : Row w pb (prC s0 s1 s2 p.most p.budget)) (hdr : Row w db [A, .slice x.p x.l x.c, B]) (hv : VI w x dl) (hl : dl.length < 2 ^ 40) (hB : Fr F0 wB w)
    (hF : (∃ y ∈ dl, y ∉ p.lots) -> ∀ w', Fr F0 w w' -> K false w') (hT : (∀ y ∈ dl, y ∈ p.lots) -> ∀ w', Fr F0 w w' -> inR .i64 (i + 1) /\ N1 ⟨pb, 0, none⟩ (i + 1) w') : Rf_Right_l2 ⟨pb, 0, none⟩ i ⟨db, 0, none⟩ 0 N1 K w := by
  have hlen := hv.len
  have hl0 := hP.l0
  refine ⟨⟨fun k w' => ∃ k' : Nat, k = k' /\ k' <= dl.length /\ Fr F0 w w' /\ ∀ y ∈ dl.take k', y ∈ p.lots, fun k _ => dl.length - k.toNat, ⟨0, rfl, by omega, Fr.refl, by simp⟩, ?_⟩⟩
  rintro k w1 ⟨k, rfl, hk, hf, hin⟩
  unfold Rf_Right_b2
  refine ⟨x, (hf.row hdr fun h => h).at rfl, ?_⟩
  rw [cnd_prop]
  refine ⟨fun hlt => ?_, fun hge => ?_⟩
  · have hlt : k < dl.length := by omega
    intro w2
    have hf2 : Fr F0 w w2 := hf.t Fr.drew
    clear_value w2
    have hS : ∀ {u}, Fr F0 w u -> (Row u pb (prC s0 s1 s2 p.most p.budget) /\ Row u db [A, .slice x.p x.l x.c, B]) /\ VI u x dl := fun hu => ⟨⟨hu.row hpr fun h => h, hu.row hdr fun h => h⟩, hv.fr hu⟩
    refine ⟨fun u => (Row u pb (prC s0 s1 s2 p.most p.budget) /\ Row u db [A, .slice x.p x.l x.c, B]) /\ VI u x dl, hS hf2, s0, fun u hu => hu.1.1.at rfl, x, fun u hu => hu.1.2.at rfl, ?_⟩
    obtain ⟨ad, hp, _⟩ := hv.at (fun a => ie_length _ _ a) (List.getElem?_eq_getElem hlt) (by decide)
    refine nz_iff.2 ⟨ad, hp, ⟨by omega, by omega⟩, dl[k], fun u hu => ?_, ?_⟩
    · obtain ⟨ad', hp', hc⟩ := hu.2.at (fun a => ie_length _ _ a) (List.getElem?_eq_getElem hlt) (by decide)
      rw [hp] at hp'
      cases hp'
      exact hc 0 _ rfl
    · refine contains_spec (hP.fr (hB.t hf2)).lots (by omega) ⟨hS hf2, ?_⟩
      refine cnd_iff.2 ⟨fun h => ?_, fun h => ⟨inR64 (by omega) (by omega), ⟨⟨rfl, rfl, rfl, trivial⟩, k + 1, by omega, by omega, hf2, ?_⟩, by dsimp only; omega⟩⟩
      · exact hF ⟨dl[k], List.getElem_mem hlt, by simpa using h⟩ w2 hf2
      · rw [take_succ' hlt]
        intro y hy
        rcases List.mem_append.1 hy with hy | hy
        · exact hin y hy
        · rw [List.mem_singleton] at hy
          subst hy
          simpa using h
  · have : k = dl.length := by omega
    subst this
    rw [List.take_length] at hin
    exact hT hin w1 hf

theorem Right_l1 {K : Bool -> World -> Prop} (hP : PV wB s0 s1 s2 p) (hB : Fr F0 wB w) (hpr : Row w pb (prC s0 s1 s2 p.most p.budget)) (hl2 : p.de.length <= 100)
    (hF : (∃ d ∈ p.de, deB p d = false) -> ∀ w', Fr F0 w w' -> K false w') (hT : (∀ d ∈ p.de, deB p d = true) -> ∀ w', Fr F0 w w' -> K true w') : Rf_Right_l1 ⟨pb, 0, none⟩ 0 K w := by
  obtain ⟨dc, hd, hm, hx⟩ := hP.de
  have hdl := hd.len
  have hlm : dc.length = p.de.length := by rw [← hm, List.length_map]
  refine ⟨⟨fun i w' => ∃ i' : Nat, i = i' /\ i' <= dc.length /\ Fr F0 w w' /\ ∀ x ∈ dc.take i', deB p x.1 = true, fun i _ => dc.length - i.toNat, ⟨0, rfl, by omega, Fr.refl, by simp⟩, ?_⟩⟩
  rintro i w1 ⟨i, rfl, hi, hf, hin⟩
  unfold Rf_Right_b1
  have hpr1 := hf.row hpr fun h => h
  refine ⟨s2, hpr1.at rfl, ?_⟩
  rw [cnd_prop]
  refine ⟨fun hlt => ?_, fun hge => ?_⟩
  · have hlt : i < dc.length := by omega
    refine ⟨s2, hpr1.at rfl, ?_⟩
    have hdv := hd.fr (hB.t hf)
    obtain ⟨ad, hp, hc⟩ := hdv.at (fun a => encD_length a) (List.getElem?_eq_getElem hlt) (by decide)
    refine nz_iff.2 ⟨ad, hp, ⟨by omega, by omega⟩, _, hc 0 _ rfl, dc[i].2, hc 1 _ rfl, _, hc 2 _ rfl, ?_⟩
    have hmem : dc[i] ∈ dc := List.getElem_mem hlt
    have hmemp : dc[i].1 ∈ p.de := hm ▸ List.mem_map_of_mem hmem
    obtain ⟨hxv, hxl⟩ := hx _ hmem
    have hbad : deB p dc[i].1 = false -> ∀ w', Fr F0 w1 w' -> K false w' := fun h w' hw => hF ⟨_, hmemp, h⟩ w' (hf.t hw)
    refine stN_new (w0 := w1) (l := []) rfl Mem.nil fun w41 m => ?_
    refine ⟨dc[i].2, m.ld 0 rfl rfl, ?_⟩
    have hvl := (hxv.fr ((hB.t hf).t m.1)).len
    rw [cnd_beq]
    refine ⟨fun h => hbad ?_ _ m.1, fun h => ⟨dc[i].2, m.ld 0 rfl rfl, different_spec (hxv.fr ((hB.t hf).t m.1)) (by omega) fun w44 hf44 => ?_⟩⟩
    · have : dc[i].1.lots.length = 0 := by omega
      unfold deB
      rw [this]
      rfl
    have m := m.fr hf44
    have hne : 0 < dc[i].1.lots.length := by omega
    refine cnd_iff.2 ⟨fun h => hbad ?_ _ m.1, fun h => ⟨_, m.ld 0 rfl rfl, rwithin_spec ?_⟩⟩
    · have h' : decide dc[i].1.lots.Nodup = false := by simpa using h
      unfold deB
      rw [h']
      simp
    have hnd : decide dc[i].1.lots.Nodup = true := by simpa using h
    refine cnd_iff.2 ⟨fun h => hbad ?_ _ m.1, fun h => ?_⟩
    · have h' : wiB dc[i].1.off 1000000000 = false := by simpa using h
      unfold deB
      rw [h']
      simp
    have hwi : wiB dc[i].1.off 1000000000 = true := by simpa using h
    refine Right_l2 (hP.fr ((hB.t hf).t m.1)) ((hf.t m.1).row hpr fun h => h) (m.row 0 rfl) (hxv.fr ((hB.t hf).t m.1)) hxl Fr.refl (fun ⟨y, hy, hno⟩ w' hw => hbad ?_ _ (m.1.t hw)) fun hall w' hw => ⟨inR64 (by omega) (by omega), ⟨⟨rfl, trivial⟩, i + 1, by omega, by omega, hf.t (m.1.t hw), ?_⟩, by dsimp only; omega⟩
    · have : dc[i].1.lots.all (fun x => decide (x ∈ p.lots)) = false := by
        rw [List.all_eq_false]
        exact ⟨y, hy, by simpa using hno⟩
      unfold deB
      rw [this]
      simp
    · rw [take_succ' hlt]
      intro z hz
      rcases List.mem_append.1 hz with hz | hz
      · exact hin z hz
      · rw [List.mem_singleton] at hz
        subst hz
        have : dc[i].1.lots.all (fun x => decide (x ∈ p.lots)) = true := by
          rw [List.all_eq_true]
          exact fun y hy => decide_eq_true (hall y hy)
        unfold deB
        rw [this, hnd, hwi]
        simp [hne]
  · have : i = dc.length := by omega
    subst this
    rw [List.take_length] at hin
    refine hT (fun d hd' => ?_) w1 hf
    rw [← hm] at hd'
    obtain ⟨y, hy, rfl⟩ := List.mem_map.1 hd'
    exact hin y hy

theorem Right_l0 {K : Bool -> World -> Prop} (hP : PV wB s0 s1 s2 p) (hB : Fr F0 wB w) (hpr : Row w pb (prC s0 s1 s2 p.most p.budget)) (hl1 : p.ch.length <= 480) (hl2 : p.de.length <= 100)
    (hF : (∃ c ∈ p.ch, chB p c = false) \/ (∃ d ∈ p.de, deB p d = false) -> ∀ w', Fr F0 w w' -> K false w') (hT : (∀ c ∈ p.ch, chB p c = true) -> (∀ d ∈ p.de, deB p d = true) -> ∀ w', Fr F0 w w' -> K true w') : Rf_Right_l0 ⟨pb, 0, none⟩ 0 K w := by
  have hcl := hP.ch.len
  have hl0 := hP.l0
  refine ⟨⟨fun i w' => ∃ i' : Nat, i = i' /\ i' <= p.ch.length /\ Fr F0 w w' /\ ∀ x ∈ p.ch.take i', chB p x = true, fun i _ => p.ch.length - i.toNat, ⟨0, rfl, by omega, Fr.refl, by simp⟩, ?_⟩⟩
  rintro i w1 ⟨i, rfl, hi, hf, hin⟩
  unfold Rf_Right_b0
  have hpr1 := hf.row hpr fun h => h
  refine ⟨s1, hpr1.at rfl, ?_⟩
  rw [cnd_prop]
  refine ⟨fun hlt => ?_, fun hge => ?_⟩
  · have hlt : i < p.ch.length := by omega
    refine ⟨s1, hpr1.at rfl, ?_⟩
    refine VC.ld (hP.fr (hB.t hf)).ch i rfl hlt fun a hc => ?_
    obtain ⟨c0, c1, c2, c3⟩ := hc w1 Fr.refl
    refine ⟨_, c0, _, c1, _, c2, _, c3, ?_⟩
    have hmem : p.ch[i] ∈ p.ch := List.getElem_mem hlt
    have hbad : chB p p.ch[i] = false -> ∀ w', Fr F0 w1 w' -> K false w' := fun h w' hw => hF (.inl ⟨_, hmem, h⟩) w' (hf.t hw)
    refine stN_new (w0 := w1) (l := []) rfl Mem.nil fun w23 m => ?_
    refine ⟨s0, (m.1.row hpr1 fun h => h).at rfl, _, m.ld 0 rfl rfl, contains_spec (hP.fr ((hB.t hf).t m.1)).lots (by omega) ?_⟩
    refine cnd_iff.2 ⟨fun h => hbad ?_ _ m.1, fun h => ⟨_, m.ld 0 rfl rfl, rwithin_spec ?_⟩⟩
    · have h' : decide (p.ch[i].lot ∈ p.lots) = false := by simpa using h
      unfold chB
      rw [h']
      rfl
    have h1 : decide (p.ch[i].lot ∈ p.lots) = true := by simpa using h
    refine cnd_iff.2 ⟨fun h => hbad ?_ _ m.1, fun h => ⟨_, m.ld 0 rfl rfl, rwithin_spec ?_⟩⟩
    · have h' : wiB p.ch[i].price 1000000000 = false := by simpa using h
      unfold chB
      rw [h']
      simp
    have h2 : wiB p.ch[i].price 1000000000 = true := by simpa using h
    refine cnd_iff.2 ⟨fun h => hbad ?_ _ m.1, fun h => ⟨inR64 (by omega) (by omega), ⟨⟨rfl, trivial⟩, i + 1, by omega, by omega, hf.t m.1, ?_⟩, by dsimp only; omega⟩⟩
    · have h' : wiB p.ch[i].pts 1000000 = false := by simpa using h
      unfold chB
      rw [h']
      simp
    · rw [take_succ' hlt]
      intro z hz
      rcases List.mem_append.1 hz with hz | hz
      · exact hin z hz
      · rw [List.mem_singleton] at hz
        subst hz
        have h3 : wiB p.ch[i].pts 1000000 = true := by simpa using h
        unfold chB
        rw [h1, h2, h3]
        rfl
  · have : i = p.ch.length := by omega
    subst this
    rw [List.take_length] at hin
    exact Right_l1 hP (hB.t hf) hpr1 hl2 (fun h w' hw => hF (.inr h) w' (hf.t hw)) fun h w' hw => hT hin h w' (hf.t hw)

theorem refRight_spec {K : Bool -> World -> Prop} (hP : PV w s0 s1 s2 p) (hK : ∀ w', Fr F0 w w' -> K (rightB p) w') : Rf_Right_sh s0 s1 s2 p.most p.budget K w := by
  have e0 := hP.lots.len
  have e1 := hP.ch.len
  obtain ⟨dc, hd, hm, _⟩ := hP.de
  have e2 := hd.len
  have hlm : dc.length = p.de.length := by rw [← hm, List.length_map]
  have hl0 := hP.l0
  have hF : ¬ RightPr p -> ∀ w', Fr F0 w w' -> K false w' := fun h w' hw => by
    have := hK w' hw
    cases hb : rightB p with
    | false => rwa [hb] at this
    | true => exact absurd (rightB_iff.1 hb) h
  refine ⟨?_⟩
  unfold Rf_Right_sd
  intro w1
  have m : Mem w w1 _ := Mem.nil.allocL (cs := prC s0 s1 s2 p.most p.budget)
  clear_value w1
  refine ⟨s0, m.ld 0 rfl rfl, ?_⟩
  rw [cnd_prop]
  refine ⟨fun h => hF (fun r => by have := r.some; omega) _ m.1, fun h1 => ⟨s0, m.ld 0 rfl rfl, ?_⟩⟩
  rw [cnd_prop]
  refine ⟨fun h => hF (fun r => by have := r.few; omega) _ m.1, fun h2 => ⟨s0, m.ld 0 rfl rfl, different_spec (hP.fr m.1).lots (by omega) fun w5 hf => ?_⟩⟩
  have m := m.fr hf
  refine cnd_iff.2 ⟨fun h => hF (fun r => by have := r.diff; simp [this] at h) _ m.1, fun h3 => ⟨s1, m.ld 0 rfl rfl, ?_⟩⟩
  rw [cnd_prop]
  refine ⟨fun h => hF (fun r => by have := r.chs; omega) _ m.1, fun h4 => ⟨s2, m.ld 0 rfl rfl, ?_⟩⟩
  rw [cnd_prop]
  refine ⟨fun h => hF (fun r => by have := r.des; omega) _ m.1, fun h5 => ⟨_, m.ld 0 rfl rfl, rwithin_spec ?_⟩⟩
  refine cnd_iff.2 ⟨fun h => hF (fun r => by have := wiB_iff.2 r.most; simp [this] at h) _ m.1, fun h6 => ⟨_, m.ld 0 rfl rfl, rwithin_spec ?_⟩⟩
  refine cnd_iff.2 ⟨fun h => hF (fun r => by have := wiB_iff.2 r.budget; simp [this] at h) _ m.1, fun h7 => ?_⟩
  refine Right_l0 (hP.fr m.1) Fr.refl (m.row 0 rfl) (by omega) (by omega) (fun h w' hw => hF (fun r => ?_) _ (m.1.t hw)) fun hc hd w' hw => ?_
  · have hr := rightB_iff.2 r
    unfold rightB at hr
    simp only [Bool.and_eq_true, List.all_eq_true] at hr
    obtain ⟨_, _, _, _, _, _, _, hcs, hds⟩ := hr
    rcases h with ⟨c, hc, h⟩ | ⟨d, hd, h⟩
    · rw [hcs c hc] at h; cases h
    · rw [hds d hd] at h; cases h
  · have : rightB p = true := by
      unfold rightB
      simp only [Bool.and_eq_true, List.all_eq_true, decide_eq_true_eq]
      exact ⟨by omega, by omega, by simpa using h3, by omega, by omega, by simpa using h6, by simpa using h7, hc, hd⟩
    have hk := hK w' (m.1.t hw)
    rwa [this] at hk
end
end Go.Proofs.Ytmkjcheafdionaa

/- The reference's Spoiled: some problem. Conditions: none. -/
namespace Pw
open Go

section
variable {α : Type} {n : Nat} {enc : α -> List Value} {w0 w : World} {s : Sl} {l : List α} {L : List (Nat × List Value)} {B : Nat -> Prop} {Q : World -> Prop}

/-- Another slice, empty in a block of its own, is the one that grows. -/
theorem Sp.nextE {β : Type} {n' : Nat} {enc' : β -> List Value} {e : TypeId} (hn : ∀ a, (enc' a).length = n') (h : Sp w0 w L B Q n enc s l) :
    Sp w0 (w.alloc (Obj.cells #[] e)) L (fun b => B b \/ inB s b) (fun w => Q w /\ Ow n enc w s l) n' enc' ⟨some ⟨w.heap.size, 0, none⟩, 0, 0⟩ ([] : List β) := by
  have h0 : Sp w0 w L (fun b => B b \/ inB s b) (fun w => Q w /\ Ow n enc w s l) n' enc' ⟨none, 0, 0⟩ ([] : List β) := h.next
  have h1 := h0.fr (Fr.alloc (o := Obj.cells #[] e))
  refine ⟨h1.m, h1.rs, h1.q, h1.ap, Row.ow hn (l := ([] : List β)) Row.new, fun b ⟨a, ha, hb⟩ => ?_⟩
  cases ha
  subst hb
  exact ⟨h.m.1.1, fun hB => by have := (h0.ap _ hB).1; simp only at this; omega, fun p hp e => by have := (h.m.2.1 p hp).lt; simp only at e; omega⟩

theorem addr0 (b k : Nat) : (⟨b, 0, none⟩ : Addr).add k = ⟨b, k, none⟩ := by
  by_cases h0 : k = 0
  · subst h0; rfl
  · simp [Addr.add, h0]
end
end Pw
namespace Go.Proofs.Ytmkjcheafdionaa
open Go Pw

section
variable {w w0 : World} {s sL sC sD s0 s1 s2 : Sl} {l0 : List Int} {l1 : List Ch} {dc : List (De × Sl)} {p : Pr} {pb tb qb nb : Nat} {m b n : Int} {L : List (Nat × List Value)}

abbrev IE : Int -> List Value := ie .i64 (id : Int -> Int)

theorem toC (h : Sp w0 w L (fun b => inB sL b \/ inB sC b) (fun u => Ow 1 IE u sL l0 /\ Ow 4 encC u sC l1) 3 encD sD dc) (hd : ∀ b, inB sC b -> ¬ inB sL b) :
    Sp w0 w L (fun b => inB sL b \/ inB sD b) (fun u => Ow 1 IE u sL l0 /\ Ow 3 encD u sD dc) 4 encC sC l1 := h.back (Rests.ow sL l0) hd

theorem toL (h : Sp w0 w L (fun b => inB sL b \/ inB sC b) (fun u => Ow 1 IE u sL l0 /\ Ow 4 encC u sC l1) 3 encD sD dc) (hd : ∀ b, inB sC b -> ¬ inB sL b) :
    Sp w0 w L (fun b => inB sC b \/ inB sD b) (fun u => Ow 4 encC u sC l1 /\ Ow 3 encD u sD dc) 1 IE sL l0 :=
  Sp.back (B := inB sC) (Q := fun u => Ow 4 encC u sC l1) (h.say (C := fun b => inB sC b \/ inB sL b) (Q' := fun u => Ow 4 encC u sC l1 /\ Ow 1 IE u sL l0) ((Rests.ow sC l1).and (Rests.ow sL l0)) (fun _ hb => hb.symm) fun q => ⟨q.2, q.1⟩) (Rests.ow sC l1) fun b hL hC => hd b hC hL

theorem mkPV (h0 : VI w sL l0) (h1 : VC w sC l1) (h2 : VD w sD dc) (hx : ∀ x ∈ dc, VI w x.2 x.1.lots /\ x.1.lots.length < 2 ^ 40) (k0 : l0.length < 2 ^ 40) (k1 : l1.length < 2 ^ 40) (k2 : dc.length < 2 ^ 40) : PV w sL sC sD ⟨l0, l1, dc.map (·.1), m, b⟩ :=
  ⟨h0, h1, ⟨dc, h2, rfl, hx⟩, k0, k1, by simpa using k2⟩

theorem Sk1 {α : Type} {k : Nat} {enc : α -> List Value} {l : List α} {B : Nat -> Prop} {Q : World -> Prop} {jp jt : Nat} {v1 v2 v3 v4 v5 : Value} {K : Sl -> Sl -> Sl -> Int -> Int -> World -> Prop} (h : Sp w0 w L B Q k enc s l) (hp : L[jp]? = some (pb, prC sL sC sD m b)) (ht : L[jt]? = some (tb, [v1, v2, v3, v4, v5]))
    (hK : ∀ u, Sp w0 u (L.set jt (tb, prC sL sC sD m b)) B Q k enc s l -> K sL sC sD m b u) : Rf_Spoiled_k1 ⟨pb, 0, none⟩ ⟨tb, 0, none⟩ K w := by
  refine ⟨?_⟩
  unfold Rf_Spoiled_k1d
  refine ⟨sL, h.ld jp hp rfl, sC, h.ld jp hp rfl, sD, h.ld jp hp rfl, _, h.ld jp hp rfl, _, h.ld jp hp rfl, stN_sp h jt ht rfl fun u h => ?_⟩
  have hlt : jt < L.length := (List.getElem?_eq_some_iff.1 ht).1
  have ht' : (L.set jt (tb, prC sL sC sD m b))[jt]? = some (tb, prC sL sC sD m b) := by simp [hlt]
  exact ⟨sL, h.ld jt ht' rfl, sC, h.ld jt ht' rfl, sD, h.ld jt ht' rfl, _, h.ld jt ht' rfl, _, h.ld jt ht' rfl, hK u h⟩

theorem Spoiled_l0 {q2 : Int} {R Rq : List Value} {v1 v2 v3 v4 v5 : Value} {K : Sl -> Sl -> Sl -> Int -> Int -> World -> Prop} (hl0 : l0.length <= 12) (hl1 : l1.length < 2 ^ 40) (hl2 : dc.length < 2 ^ 40) (hx : ∀ x ∈ dc, VI w0 x.2 x.1.lots /\ x.1.lots.length < 2 ^ 40)
    (h : Sp w0 w [(nb, R), (tb, [v1, v2, v3, v4, v5]), (qb, Rq), (pb, prC sL sC sD m b)] (fun b => inB sC b \/ inB sD b) (fun u => Ow 4 encC u sC l1 /\ Ow 3 encD u sD dc) 1 IE sL l0)
    (hK : ∀ w' s0' s1' s2' (p' : Pr), Fr F0 w0 w' -> PV w' s0' s1' s2' p' -> K s0' s1' s2' p'.most p'.budget w') : Rf_Spoiled_l0 ⟨pb, 0, none⟩ ⟨tb, 0, none⟩ q2 0 K w := by
  refine ⟨⟨fun i w' => ∃ (i' : Nat) (sL : Sl) (l0 : List Int), i = i' /\ i' <= 20 /\ l0.length <= 12 + i' /\ Sp w0 w' [(nb, R), (tb, [v1, v2, v3, v4, v5]), (qb, Rq), (pb, prC sL sC sD m b)] (fun b => inB sC b \/ inB sD b) (fun u => Ow 4 encC u sC l1 /\ Ow 3 encD u sD dc) 1 IE sL l0,
    fun i _ => 20 - i.toNat, ⟨0, sL, l0, rfl, by omega, by omega, h⟩, ?_⟩⟩
  clear h hl0
  rintro i w1 ⟨i, sL, l0, rfl, hi, hl0, h⟩
  unfold Rf_Spoiled_b0
  intro w2
  have h : Sp w0 w2 _ _ _ _ _ _ _ := h.drew
  clear_value w2
  have hlen := h.ow.vw.len
  refine ⟨fun u => Row u pb (prC sL sC sD m b), h.row 3 rfl, sL, fun u hu => hu.at rfl, Mod_spec (by decide) (by decide) ?_⟩
  have r1 := Int.emod_nonneg q2 (show (3 : Int) ≠ 0 by decide)
  have r2 := Int.emod_lt_of_pos q2 (show (0 : Int) < 3 by decide)
  refine ⟨h.row 3 rfl, inR64 (by omega) (by omega), inR64 (by omega) (by omega), inR64 (by omega) (by omega), ?_⟩
  rw [cnd_prop]
  refine ⟨fun hlt => ⟨sL, h.ld 3 rfl rfl, inR64 (by omega) (by omega), ?_⟩, fun hge => ?_⟩
  · intro w3
    refine h.push (a := 100 + (i : Int)) rfl rfl (ie_ok _ _) rfl (by omega) (by omega) fun r w4 h => ?_
    refine ⟨h.wr 3 rfl rfl, ?_⟩
    intro w5
    have h : Sp w0 w5 [(nb, R), (tb, [v1, v2, v3, v4, v5]), (qb, Rq), (pb, prC r sC sD m b)] _ _ _ _ _ _ := h.set (i := 0) (v := .slice r.p r.l r.c) 3 rfl
    clear_value w5
    exact ⟨inR64 (by omega) (by omega), ⟨⟨rfl, rfl, rfl, trivial⟩, i + 1, r, _, by omega, by omega, by simp; omega, h⟩, by dsimp only; omega⟩
  · exact Sk1 (jp := 3) (jt := 1) h rfl rfl fun u h => hK u _ _ _ ⟨l0, l1, dc.map (·.1), m, b⟩ h.m.1 (mkPV h.ow.vw h.q.1.vw h.q.2.vw (fun x hx' => ⟨(hx x hx').1.fr h.m.1, (hx x hx').2⟩) (by omega) hl1 hl2)

theorem Spoiled_spec {q0 q1 q2 : Int} {K : Sl -> Sl -> Sl -> Int -> Int -> World -> Prop} (hp : RightPr p) (hP : PV w s0 s1 s2 p)
    (hK : ∀ w' s0' s1' s2' (p' : Pr), Fr F0 w w' -> PV w' s0' s1' s2' p' -> K s0' s1' s2' p'.most p'.budget w') : Rf_Spoiled_sh s0 s1 s2 p.most p.budget q0 q1 q2 K w := by
  have g0 := hp.few
  have g0' := hp.some
  have g1 := hp.chs
  have g2 := hp.des
  obtain ⟨dc, hd, hm, hx⟩ := hP.de
  have hlm : dc.length = p.de.length := by rw [← hm, List.length_map]
  refine ⟨?_⟩
  unfold Rf_Spoiled_sd
  intro w1
  have M : Mem w w1 _ := Mem.nil.allocL (cs := prC s0 s1 s2 p.most p.budget)
  clear_value w1
  intro w2
  have M : Mem w w2 _ := M.allocL (cs := [.int .i64 q0, .int .i64 q1, .int .i64 q2])
  clear_value w2
  intro w3
  have M : Mem w w3 _ := M.allocL (cs := [.slice none 0 0, .slice none 0 0, .slice none 0 0, .int .i64 0, .int .i64 0])
  clear_value w3
  intro w4
  have h : Sp w w4 _ _ _ _ _ _ _ := Sp.empty (α := Int) (n := 1) (enc := IE) (fun a => ie_length _ _ a) M
  clear_value w4
  refine ⟨s0, h.ld 2 rfl rfl, h.app (hP.lots.fr h.m.1) (ie_ok _ _) rfl (by simp; omega) (by simp; omega) fun sL w7 h => ?_⟩
  rw [List.nil_append] at h
  refine ⟨h.wr 2 rfl rfl, ?_⟩
  intro w8
  have h : Sp w w8 [(w2.heap.size, [.slice none 0 0, .slice none 0 0, .slice none 0 0, .int .i64 0, .int .i64 0]), (w1.heap.size, [.int .i64 q0, .int .i64 q1, .int .i64 q2]), (w.heap.size, prC sL s1 s2 p.most p.budget)] _ _ _ _ _ _ := h.set (i := 0) (v := .slice sL.p sL.l sL.c) 2 rfl
  clear_value w8
  intro w9
  have h : Sp w w9 _ _ _ _ _ _ _ := h.nextE (β := Ch) (n' := 4) (enc' := encC) (fun a => encC_length a)
  clear_value w9
  refine ⟨s1, h.ld 2 rfl rfl, h.app (hP.ch.fr h.m.1) encC_ok rfl (by simp; omega) (by simp; omega) fun sC w12 h => ?_⟩
  rw [List.nil_append] at h
  have hCL : ∀ b, inB sC b -> ¬ inB sL b := fun b hb hb' => (h.os b hb).2.1 (.inr hb')
  refine ⟨h.wr 2 rfl rfl, ?_⟩
  intro w13
  have h : Sp w w13 [(w2.heap.size, [.slice none 0 0, .slice none 0 0, .slice none 0 0, .int .i64 0, .int .i64 0]), (w1.heap.size, [.int .i64 q0, .int .i64 q1, .int .i64 q2]), (w.heap.size, prC sL sC s2 p.most p.budget)] _ _ _ _ _ _ := h.set (i := 1) (v := .slice sC.p sC.l sC.c) 2 rfl
  clear_value w13
  intro w14
  have h : Sp w w14 _ _ _ _ _ _ _ := h.nextE (β := De × Sl) (n' := 3) (enc' := encD) (fun a => encD_length a)
  clear_value w14
  refine ⟨s2, h.ld 2 rfl rfl, h.app (hd.fr h.m.1) encD_ok rfl (by simp; omega) (by simp; omega) fun sD w17 h => ?_⟩
  rw [List.nil_append] at h
  refine ⟨h.wr 2 rfl rfl, ?_⟩
  intro w18
  have h : Sp w w18 [(w2.heap.size, [.slice none 0 0, .slice none 0 0, .slice none 0 0, .int .i64 0, .int .i64 0]), (w1.heap.size, [.int .i64 q0, .int .i64 q1, .int .i64 q2]), (w.heap.size, prC sL sC sD p.most p.budget)] _ _ _ _ _ _ := h.set (i := 2) (v := .slice sD.p sD.l sD.c) 2 rfl
  clear_value w18
  intro w19
  have h : Sp w w19 ((w18.heap.size, ([-1, 0, 1, 1000000000, 1000000001, 1000001, 10] : List Int).map (Value.int .i64)) :: _) _ _ _ _ _ _ := h.allocL (vs := ([-1, 0, 1, 1000000000, 1000000001, 1000001, 10] : List Int).map (Value.int .i64))
  clear_value w19
  have h : Sp w w19 [(w18.heap.size, ([-1, 0, 1, 1000000000, 1000000001, 1000001, 10] : List Int).map (Value.int .i64)), (w2.heap.size, [.slice none 0 0, .slice none 0 0, .slice none 0 0, .int .i64 0, .int .i64 0]), (w1.heap.size, [.int .i64 q0, .int .i64 q1, .int .i64 q2]), (w.heap.size, prC sL sC sD p.most p.budget)] (fun b => inB sL b \/ inB sC b) (fun u => Ow 1 IE u sL p.lots /\ Ow 4 encC u sC p.ch) 3 encD sD dc :=
    h.say ((Rests.ow sL _).and (Rests.ow sC _)) (fun b hb => hb.elim (fun h => .inl (.inr h)) .inr) fun q => ⟨q.1.2, q.2⟩
  refine ⟨by decide, _, h.ld 2 rfl rfl, Mod_spec (by decide) (by decide) ?_⟩
  have r1 := Int.emod_nonneg q1 (show (7 : Int) ≠ 0 by decide)
  have r2 := Int.emod_lt_of_pos q1 (show (0 : Int) < 7 by decide)
  generalize q1 % 7 = k at r1 r2 ⊢
  have hk : k.toNat < ([-1, 0, 1, 1000000000, 1000000001, 1000001, 10] : List Int).length := by simp; omega
  obtain ⟨n, hn⟩ : ∃ n, ([-1, 0, 1, 1000000000, 1000000001, 1000001, 10] : List Int)[k.toNat]? = some n := ⟨_, List.getElem?_eq_getElem hk⟩
  refine ⟨⟨r1, r2⟩, n, ?_, by decide, _, h.ld 2 rfl rfl, by decide, _, h.ld 2 rfl rfl, Mod_spec (by decide) (by decide) ?_⟩
  · rw [Nat.mul_one, addr0]
    exact h.ld 0 rfl (by rw [List.getElem?_map, hn]; rfl)
  have hx' : ∀ {u}, Fr F0 w u -> ∀ x ∈ dc, VI u x.2 x.1.lots /\ x.1.lots.length < 2 ^ 40 := fun hf x hx' => ⟨(hx x hx').1.fr hf, (hx x hx').2⟩
  have hC := toC h hCL
  have hL := toL h hCL
  have hnz : ∀ {u}, VI u sL p.lots -> ∃ ad lot, sL.p = some ad /\ sL.l = p.lots.length /\ ∀ v, VI v sL p.lots -> v.cell? (ad.add ((0 : Int).toNat * 1)) = some (.int .i64 lot) := fun {u} hu => by
    obtain ⟨ad, hp, _⟩ := hu.at (fun a => ie_length _ _ a) (List.getElem?_eq_getElem g0') (by decide)
    refine ⟨ad, p.lots[0], hp, hu.len, fun v hv => ?_⟩
    obtain ⟨ad', hp', hc⟩ := hv.at (fun a => ie_length _ _ a) (List.getElem?_eq_getElem g0') (by decide)
    rw [hp] at hp'
    cases hp'
    exact hc 0 _ rfl
  obtain ⟨ad, lot, had, hadl, hlot⟩ := hnz h.q.1.vw
  refine cnd_beq.2 ⟨fun _ => ⟨h.wr 3 rfl rfl, ?_⟩, fun _ => cnd_beq.2 ⟨fun _ => ⟨h.wr 3 rfl rfl, ?_⟩, fun _ => cnd_beq.2 ⟨fun _ => ⟨sL, hL.ld 3 rfl rfl, ?_⟩, fun _ => cnd_beq.2 ⟨fun _ => ⟨sC, hC.ld 3 rfl rfl, ?_⟩, fun _ => cnd_beq.2 ⟨fun _ => ?_, fun _ => cnd_beq.2 ⟨fun _ => ?_, fun _ => cnd_beq.2 ⟨fun _ => ?_, fun _ => cnd_beq.2 ⟨fun _ => ?_, fun _ => cnd_beq.2 ⟨fun _ => ?_, fun _ => cnd_beq.2 ⟨fun _ => ⟨h.wr 3 rfl rfl, ?_⟩, fun _ => cnd_beq.2 ⟨fun _ => ?_, fun _ => ?_⟩⟩⟩⟩⟩⟩⟩⟩⟩⟩⟩
  · intro u0
    have h : Sp w u0 [_, (w2.heap.size, [.slice none 0 0, .slice none 0 0, .slice none 0 0, .int .i64 0, .int .i64 0]), _, (w.heap.size, prC sL sC sD p.most n)] _ _ _ _ _ _ := h.set (i := 4) (v := .int .i64 n) 3 rfl
    clear_value u0
    exact Sk1 (jp := 3) (jt := 1) h rfl rfl fun u h => hK u _ _ _ ⟨p.lots, p.ch, dc.map (·.1), p.most, n⟩ h.m.1 (mkPV h.q.1.vw h.q.2.vw h.ow.vw (hx' h.m.1) (by omega) (by omega) (by omega))
  · intro u0
    have h : Sp w u0 [_, (w2.heap.size, [.slice none 0 0, .slice none 0 0, .slice none 0 0, .int .i64 0, .int .i64 0]), _, (w.heap.size, prC sL sC sD n p.budget)] _ _ _ _ _ _ := h.set (i := 3) (v := .int .i64 n) 3 rfl
    clear_value u0
    exact Sk1 (jp := 3) (jt := 1) h rfl rfl fun u h => hK u _ _ _ ⟨p.lots, p.ch, dc.map (·.1), n, p.budget⟩ h.m.1 (mkPV h.q.1.vw h.q.2.vw h.ow.vw (hx' h.m.1) (by omega) (by omega) (by omega))
  · intro u0
    refine hL.push (a := n) rfl rfl (ie_ok _ _) rfl (by omega) (by omega) fun r u1 h => ⟨h.wr 3 rfl rfl, ?_⟩
    intro u2
    have h : Sp w u2 [_, (w2.heap.size, [.slice none 0 0, .slice none 0 0, .slice none 0 0, .int .i64 0, .int .i64 0]), _, (w.heap.size, prC r sC sD p.most p.budget)] _ _ _ _ _ _ := h.set (i := 0) (v := .slice r.p r.l r.c) 3 rfl
    clear_value u2
    exact Sk1 (jp := 3) (jt := 1) h rfl rfl fun u h => hK u _ _ _ ⟨p.lots ++ [n], p.ch, dc.map (·.1), p.most, p.budget⟩ h.m.1 (mkPV h.ow.vw h.q.1.vw h.q.2.vw (hx' h.m.1) (by simp; omega) (by omega) (by omega))
  · intro u0
    refine hC.push (a := ⟨n, 1, 0, 0⟩) rfl rfl encC_ok rfl (by omega) (by omega) fun r u1 h => ⟨h.wr 3 rfl rfl, ?_⟩
    intro u2
    have h : Sp w u2 [_, (w2.heap.size, [.slice none 0 0, .slice none 0 0, .slice none 0 0, .int .i64 0, .int .i64 0]), _, (w.heap.size, prC sL r sD p.most p.budget)] _ _ _ _ _ _ := h.set (i := 1) (v := .slice r.p r.l r.c) 3 rfl
    clear_value u2
    exact Sk1 (jp := 3) (jt := 1) h rfl rfl fun u h => hK u _ _ _ ⟨p.lots, p.ch ++ [⟨n, 1, 0, 0⟩], dc.map (·.1), p.most, p.budget⟩ h.m.1 (mkPV h.q.1.vw h.ow.vw h.q.2.vw (hx' h.m.1) (by omega) (by simp; omega) (by omega))
  · intro u0
    have h : Sp w u0 _ _ _ _ _ _ _ := hC.drew
    clear_value u0
    refine ⟨fun u => Row u w.heap.size (prC sL sC sD p.most p.budget) /\ VI u sL p.lots, ⟨h.row 3 rfl, h.q.1.vw⟩, sC, fun u hu => hu.1.at rfl, sL, fun u hu => hu.1.at rfl, nz_iff.2 ⟨ad, had, ⟨by decide, by omega⟩, lot, fun u hu => hlot u hu.2, ?_⟩⟩
    intro u1
    have h' := h.fr (Fr.alloc : Fr F0 u0 u1)
    refine ⟨⟨h'.row 3 rfl, h'.q.1.vw⟩, h.push (a := ⟨lot, n, n, 0⟩) rfl rfl encC_ok rfl (by omega) (by omega) fun r u1 h => ⟨⟨h.row 3 rfl, h.q.1.vw⟩, h.wr 3 rfl rfl, ?_⟩⟩
    intro u2
    have h : Sp w u2 [_, (w2.heap.size, [.slice none 0 0, .slice none 0 0, .slice none 0 0, .int .i64 0, .int .i64 0]), _, (w.heap.size, prC sL r sD p.most p.budget)] _ _ _ _ _ _ := h.set (i := 1) (v := .slice r.p r.l r.c) 3 rfl
    clear_value u2
    exact Sk1 (jp := 3) (jt := 1) h rfl rfl fun u h => hK u _ _ _ ⟨p.lots, p.ch ++ [⟨lot, n, n, 0⟩], dc.map (·.1), p.most, p.budget⟩ h.m.1 (mkPV h.q.1.vw h.ow.vw h.q.2.vw (hx' h.m.1) (by omega) (by simp; omega) (by omega))
  · intro u0
    have h : Sp w u0 _ _ _ _ _ _ _ := hC.drew
    clear_value u0
    refine ⟨fun u => Row u w.heap.size (prC sL sC sD p.most p.budget) /\ VI u sL p.lots, ⟨h.row 3 rfl, h.q.1.vw⟩, sC, fun u hu => hu.1.at rfl, sL, fun u hu => hu.1.at rfl, nz_iff.2 ⟨ad, had, ⟨by decide, by omega⟩, lot, fun u hu => hlot u hu.2, ?_⟩⟩
    intro u1
    have h' := h.fr (Fr.alloc : Fr F0 u0 u1)
    refine ⟨⟨h'.row 3 rfl, h'.q.1.vw⟩, h.push (a := ⟨lot, 0, 0, n⟩) rfl rfl encC_ok rfl (by omega) (by omega) fun r u1 h => ⟨⟨h.row 3 rfl, h.q.1.vw⟩, h.wr 3 rfl rfl, ?_⟩⟩
    intro u2
    have h : Sp w u2 [_, (w2.heap.size, [.slice none 0 0, .slice none 0 0, .slice none 0 0, .int .i64 0, .int .i64 0]), _, (w.heap.size, prC sL r sD p.most p.budget)] _ _ _ _ _ _ := h.set (i := 1) (v := .slice r.p r.l r.c) 3 rfl
    clear_value u2
    exact Sk1 (jp := 3) (jt := 1) h rfl rfl fun u h => hK u _ _ _ ⟨p.lots, p.ch ++ [⟨lot, 0, 0, n⟩], dc.map (·.1), p.most, p.budget⟩ h.m.1 (mkPV h.q.1.vw h.ow.vw h.q.2.vw (hx' h.m.1) (by omega) (by simp; omega) (by omega))
  · intro u0
    have h : Sp w u0 _ _ _ _ _ _ _ := h.drew
    clear_value u0
    refine ⟨fun u => Row u w.heap.size (prC sL sC sD p.most p.budget) /\ VI u sL p.lots, ⟨h.row 3 rfl, h.q.1.vw⟩, sD, fun u hu => hu.1.at rfl, sL, fun u hu => hu.1.at rfl, nz_iff.2 ⟨ad, had, ⟨by decide, by omega⟩, lot, fun u hu => hlot u hu.2, ?_⟩⟩
    intro u1
    have h : Sp w u1 ((u0.heap.size, ([lot, n] : List Int).map (Value.int .i64)) :: _) _ _ _ _ _ _ := h.allocL (vs := ([lot, n] : List Int).map (Value.int .i64))
    clear_value u1
    refine ⟨⟨h.row 4 rfl, h.q.1.vw⟩, ?_⟩
    intro u2
    have h' := h.fr (Fr.alloc : Fr F0 u1 u2)
    refine ⟨⟨h'.row 4 rfl, h'.q.1.vw⟩, h.push (a := ((⟨1, [lot, n], 0⟩ : De), (⟨some ⟨u0.heap.size, 0, none⟩, 2, 2⟩ : Sl))) rfl rfl encD_ok rfl (by omega) (by omega) fun r u1 h => ⟨⟨h.row 4 rfl, h.q.1.vw⟩, h.wr 4 rfl rfl, ?_⟩⟩
    intro u3
    have h : Sp w u3 [(u0.heap.size, ([lot, n] : List Int).map (Value.int .i64)), _, (w2.heap.size, [.slice none 0 0, .slice none 0 0, .slice none 0 0, .int .i64 0, .int .i64 0]), _, (w.heap.size, prC sL sC r p.most p.budget)] _ _ _ _ _ _ := h.set (i := 2) (v := .slice r.p r.l r.c) 4 rfl
    clear_value u3
    refine Sk1 (jp := 4) (jt := 2) h rfl rfl fun u h => hK u _ _ _ ⟨p.lots, p.ch, (dc ++ [((⟨1, [lot, n], 0⟩ : De), (⟨some ⟨u0.heap.size, 0, none⟩, 2, 2⟩ : Sl))]).map (·.1), p.most, p.budget⟩ h.m.1 (mkPV h.q.1.vw h.q.2.vw h.ow.vw (fun x hx1 => ?_) (by omega) (by omega) (by simp; omega))
    rcases List.mem_append.1 hx1 with hx1 | hx1
    · exact hx' h.m.1 x hx1
    · rw [List.mem_singleton] at hx1
      subst hx1
      exact ⟨(Ow.row (l := [lot, n]) (h.row 0 rfl)).vw, by simp⟩
  · intro u0
    have h : Sp w u0 _ _ _ _ _ _ _ := h.drew
    clear_value u0
    have e1 := Int.emod_nonneg q2 (show (2 : Int) ≠ 0 by decide)
    have e2 := Int.emod_lt_of_pos q2 (show (0 : Int) < 2 by decide)
    have hcap := h.q.1.vw.cap
    refine ⟨fun u => Row u w.heap.size (prC sL sC sD p.most p.budget) /\ VI u sL p.lots, ⟨h.row 3 rfl, h.q.1.vw⟩, sD, fun u hu => hu.1.at rfl, sL, fun u hu => hu.1.at rfl, Mod_spec (by decide) (by decide) ⟨⟨h.row 3 rfl, h.q.1.vw⟩, ⟨by decide, by omega, by omega⟩, ?_⟩⟩
    intro u2
    have h' := h.fr (Fr.alloc : Fr F0 u0 u2)
    refine ⟨⟨h'.row 3 rfl, h'.q.1.vw⟩, h.push (a := ((⟨1, p.lots.take (q2 % 2).toNat, n⟩ : De), (⟨subP sL.p 0 sL.c 1, (q2 % 2).toNat - 0, sL.c - 0⟩ : Sl))) rfl rfl encD_ok rfl (by omega) (by omega) fun r u1 h => ⟨⟨h.row 3 rfl, h.q.1.vw⟩, h.wr 3 rfl rfl, ?_⟩⟩
    intro u3
    have h : Sp w u3 [_, (w2.heap.size, [.slice none 0 0, .slice none 0 0, .slice none 0 0, .int .i64 0, .int .i64 0]), _, (w.heap.size, prC sL sC r p.most p.budget)] _ _ _ _ _ _ := h.set (i := 2) (v := .slice r.p r.l r.c) 3 rfl
    clear_value u3
    refine Sk1 (jp := 3) (jt := 1) h rfl rfl fun u h => hK u _ _ _ ⟨p.lots, p.ch, (dc ++ [((⟨1, p.lots.take (q2 % 2).toNat, n⟩ : De), (⟨subP sL.p 0 sL.c 1, (q2 % 2).toNat - 0, sL.c - 0⟩ : Sl))]).map (·.1), p.most, p.budget⟩ h.m.1 (mkPV h.q.1.vw h.q.2.vw h.ow.vw (fun x hx1 => ?_) (by omega) (by omega) (by simp; omega))
    rcases List.mem_append.1 hx1 with hx1 | hx1
    · exact hx' h.m.1 x hx1
    · rw [List.mem_singleton] at hx1
      subst hx1
      exact ⟨h.q.1.vw.take (fun a => ie_length _ _ a) (by omega), by simp; omega⟩
  · intro u0
    have h : Sp w u0 _ _ _ _ _ _ _ := h.drew
    clear_value u0
    refine ⟨fun u => Row u w.heap.size (prC sL sC sD p.most p.budget) /\ VI u sL p.lots, ⟨h.row 3 rfl, h.q.1.vw⟩, sD, fun u hu => hu.1.at rfl, sL, fun u hu => hu.1.at rfl, nz_iff.2 ⟨ad, had, ⟨by decide, by omega⟩, lot, fun u hu => hlot u hu.2, ?_⟩⟩
    intro u1
    have h : Sp w u1 ((u0.heap.size, ([lot] : List Int).map (Value.int .i64)) :: _) _ _ _ _ _ _ := h.allocL (vs := ([lot] : List Int).map (Value.int .i64))
    clear_value u1
    refine ⟨⟨h.row 4 rfl, h.q.1.vw⟩, ?_⟩
    intro u2
    have h' := h.fr (Fr.alloc : Fr F0 u1 u2)
    refine ⟨⟨h'.row 4 rfl, h'.q.1.vw⟩, h.push (a := ((⟨1, [lot], n⟩ : De), (⟨some ⟨u0.heap.size, 0, none⟩, 1, 1⟩ : Sl))) rfl rfl encD_ok rfl (by omega) (by omega) fun r u1 h => ⟨⟨h.row 4 rfl, h.q.1.vw⟩, h.wr 4 rfl rfl, ?_⟩⟩
    intro u3
    have h : Sp w u3 [(u0.heap.size, ([lot] : List Int).map (Value.int .i64)), _, (w2.heap.size, [.slice none 0 0, .slice none 0 0, .slice none 0 0, .int .i64 0, .int .i64 0]), _, (w.heap.size, prC sL sC r p.most p.budget)] _ _ _ _ _ _ := h.set (i := 2) (v := .slice r.p r.l r.c) 4 rfl
    clear_value u3
    refine Sk1 (jp := 4) (jt := 2) h rfl rfl fun u h => hK u _ _ _ ⟨p.lots, p.ch, (dc ++ [((⟨1, [lot], n⟩ : De), (⟨some ⟨u0.heap.size, 0, none⟩, 1, 1⟩ : Sl))]).map (·.1), p.most, p.budget⟩ h.m.1 (mkPV h.q.1.vw h.q.2.vw h.ow.vw (fun x hx1 => ?_) (by omega) (by omega) (by simp; omega))
    rcases List.mem_append.1 hx1 with hx1 | hx1
    · exact hx' h.m.1 x hx1
    · rw [List.mem_singleton] at hx1
      subst hx1
      exact ⟨(Ow.row (l := [lot]) (h.row 0 rfl)).vw, by simp⟩
  · intro u0
    have h : Sp w u0 [_, (w2.heap.size, [.slice none 0 0, .slice none 0 0, .slice none 0 0, .int .i64 0, .int .i64 0]), _, (w.heap.size, prC ⟨none, 0, 0⟩ sC sD p.most p.budget)] _ _ _ _ _ _ := h.set (i := 0) (v := .slice none 0 0) 3 rfl
    clear_value u0
    exact Sk1 (jp := 3) (jt := 1) h rfl rfl fun u h => hK u _ _ _ ⟨[], p.ch, dc.map (·.1), p.most, p.budget⟩ h.m.1 (mkPV Vw.nil h.q.2.vw h.ow.vw (hx' h.m.1) (by simp) (by omega) (by omega))
  · exact Spoiled_l0 g0 (by omega) (by omega) hx hL hK
  · exact Sk1 (jp := 3) (jt := 1) h rfl rfl fun u h => hK u _ _ _ ⟨p.lots, p.ch, dc.map (·.1), p.most, p.budget⟩ h.m.1 (mkPV h.q.1.vw h.q.2.vw h.ow.vw (hx' h.m.1) (by omega) (by omega) (by omega))
end
end Go.Proofs.Ytmkjcheafdionaa

/- CombineWrong. Conditions: none. -/
namespace Go.Proofs.Ytmkjcheafdionaa
open Go Pw

section
variable {w w0 wM : World} {s s0 s1 s2 t0 t1 t2 : Sl} {l : List Int} {p q : Pr} {pb qb : Nat}

/-- What an error number of Solve says. -/
theorem Solve_err {work : Int} {K : Sl -> Int -> Int -> Sl -> Int -> World -> Prop} (h : PV w s0 s1 s2 p)
    (hK : ∀ w' t a b ns e, Fr F0 w w' -> (e = 1 ↔ rightB p = false \/ wiB work 1048576 = false) -> (e = 1 -> t = ⟨none, 0, 0⟩ /\ a = 0 /\ b = 0 /\ ns = ⟨none, 0, 0⟩) -> K t a b ns e w') : Cb_Solve_sh s0 s1 s2 p.most p.budget work K w := by
  refine Solve_spec h (fun hb w' hf => hK w' _ _ _ _ _ hf ⟨fun _ => hb, fun _ => rfl⟩ fun _ => ⟨rfl, rfl, rfl, rfl⟩) fun hr hw w' t a b ns e T cs N hV hS => hK w' t a b ns e hV.m.1 ?_ ?_
  · have h1 := rightB_iff.2 hr
    have h2 := wiB_iff.2 hw
    rw [h1, h2]
    rcases hS with ⟨rfl, _⟩ | ⟨rfl, _⟩ <;> simp
  · rcases hS with ⟨rfl, _⟩ | ⟨rfl, _⟩ <;> intro h <;> cases h

theorem Wrong_k2 {f g h : Int} {K : Bool -> World -> Prop} (hf : f = 1) (hg : g = 1) (hh : h ≠ 1) (hK : K true w) : Lw_CombineWrong_k2 true f g h K w := by
  subst hf
  subst hg
  refine ⟨?_⟩
  unfold Lw_CombineWrong_k2d
  refine cnd_iff.2 ⟨fun _ => cnd_beq.2 ⟨fun _ => cnd_beq.2 ⟨fun _ => ?_, fun h => absurd rfl h⟩, fun h => absurd rfl h⟩, fun h => by cases h⟩
  rw [show (h != 1) = true by simpa using hh]
  exact hK

theorem Wrong_k1 {work : Int} {K : Bool -> World -> Prop} (hp : RightPr p) (hP : PV w s0 s1 s2 p) (hpr : Row w pb (prC s0 s1 s2 p.most p.budget)) (hK : ∀ w', Fr F0 w w' -> K true w') : Lw_CombineWrong_k1 work true ⟨pb, 0, none⟩ K w := by
  have r1 := Int.emod_nonneg work (show (50 : Int) ≠ 0 by decide)
  have r2 := Int.emod_lt_of_pos work (show (0 : Int) < 50 by decide)
  have hwi : wiB (work % 50) 1048576 = true := wiB_iff.2 ⟨r1, by omega⟩
  have hri := rightB_iff.2 hp
  have hh : ∀ {e : Int}, (e = 1 ↔ rightB p = false \/ wiB (work % 50) 1048576 = false) -> e ≠ 1 := fun h he => by
    rcases h.1 he with h | h
    · rw [hri] at h; cases h
    · rw [hwi] at h; cases h
  refine ⟨?_⟩
  unfold Lw_CombineWrong_k1d
  refine ⟨s0, hpr.at rfl, s1, hpr.at rfl, s2, hpr.at rfl, _, hpr.at rfl, _, hpr.at rfl, Solve_err hP fun w53 a1 a2 a3 a4 f hf he _ => ?_⟩
  have hf1 : f = 1 := he.2 (.inr (by decide))
  have m : Mem w w53 [] := (Mem.nil).fr hf
  refine stN_new rfl m fun w57 m => ?_
  have hpr1 := m.1.row hpr fun h => h
  refine ⟨s0, hpr1.at rfl, s1, hpr1.at rfl, s2, hpr1.at rfl, _, hpr1.at rfl, _, hpr1.at rfl, Solve_err (hP.fr m.1) fun w63 b1 b2 b3 b4 g hf he _ => ?_⟩
  have hg1 : g = 1 := he.2 (.inr (by decide))
  have m := m.fr hf
  refine stN_new rfl m fun w67 m => ?_
  intro w68
  have m : Mem w w68 _ := m.drew
  clear_value w68
  refine ⟨fun u => Row u pb (prC s0 s1 s2 p.most p.budget), m.1.row hpr fun h => h, s0, fun u hu => hu.at rfl, s1, fun u hu => hu.at rfl, s2, fun u hu => hu.at rfl, _, fun u hu => hu.at rfl, _, fun u hu => hu.at rfl, ?_, ?_⟩
  · refine Mod_spec (by decide) (by decide) ⟨m.1.row hpr fun h => h, ?_, ?_⟩
    · refine Solve_err (hP.fr m.1) fun w77 c1 c2 c3 c4 e hf he _ => ?_
      have m := m.fr hf
      refine ⟨m.1.row hpr fun h => h, ?_⟩
      intro w80
      have m : Mem w w80 _ := m.allocL (cs := [.slice none 0 0, .int .i64 0, .int .i64 0, .slice none 0 0])
      clear_value w80
      exact ⟨m.1.row hpr fun h => h, stN_at m 0 rfl rfl fun w81 m => Wrong_k2 hf1 hg1 (hh he) (hK _ m.1)⟩
    · intro w80
      have m : Mem w w80 _ := m.allocL (cs := [.slice none 0 0, .int .i64 0, .int .i64 0, .slice none 0 0])
      clear_value w80
      refine ⟨m.1.row hpr fun h => h, Solve_err (hP.fr m.1) fun w77 c1 c2 c3 c4 e hf he _ => ?_⟩
      have m := m.fr hf
      exact stN_at m 0 rfl rfl fun w81 m => Wrong_k2 hf1 hg1 (hh he) (hK _ m.1)
  · intro w80
    have m : Mem w w80 _ := m.allocL (cs := [.slice none 0 0, .int .i64 0, .int .i64 0, .slice none 0 0])
    clear_value w80
    refine ⟨m.1.row hpr fun h => h, Mod_spec (by decide) (by decide) ⟨m.1.row hpr fun h => h, Solve_err (hP.fr m.1) fun w77 c1 c2 c3 c4 e hf he _ => ?_⟩⟩
    have m := m.fr hf
    exact stN_at m 0 rfl rfl fun w81 m => Wrong_k2 hf1 hg1 (hh he) (hK _ m.1)

theorem Wrong_k0 {work e : Int} {K : Bool -> World -> Prop} (hp : RightPr p) (hP : PV w s0 s1 s2 p) (hpr : Row w pb (prC s0 s1 s2 p.most p.budget)) (hQ : PV w t0 t1 t2 q) (hqr : Row w qb (prC t0 t1 t2 q.most q.budget)) (he : e = 1 -> rightB q = false) (hK : ∀ w', Fr F0 w w' -> K true w') :
    Lw_CombineWrong_k0 work true ⟨pb, 0, none⟩ ⟨qb, 0, none⟩ e K w := by
  refine ⟨?_⟩
  unfold Lw_CombineWrong_k0d
  refine ⟨t0, hqr.at rfl, t1, hqr.at rfl, t2, hqr.at rfl, _, hqr.at rfl, _, hqr.at rfl, refRight_spec hQ fun w46 hf => ?_⟩
  have hk1 := Wrong_k1 (work := work) hp (hP.fr hf) (hf.row hpr fun h => h) fun w' h => hK w' (hf.t h)
  refine cnd_iff.2 ⟨fun hr => cnd_beq.2 ⟨fun h => ?_, fun _ => hk1⟩, fun _ => hk1⟩
  rw [he h] at hr
  cases hr

theorem Wrong_spec {a b c work : Int} {K : Bool -> World -> Prop} (hv : VI w s l) (hl : l.length < 2 ^ 63) (hK : ∀ w', Fr F0 w w' -> K true w') : Lw_CombineWrong_sh s a b c work K w := by
  have hp := madeP_right l
  refine ⟨?_⟩
  unfold Lw_CombineWrong_sd
  intro w1
  have m : Mem w w1 _ := Mem.nil.allocL (cs := [.int .i64 a, .int .i64 b, .int .i64 c])
  clear_value w1
  refine sanity_spec fun w2 hf => ?_
  have m := m.fr hf
  refine Made_spec (hv.fr m.1) hl fun w4 s0 s1 s2 hf hP => ?_
  have hA := (m.fr hf).row 0 rfl
  have hf0 := (m.fr hf).1
  refine stN_new (w0 := w4) (l := []) rfl Mem.nil fun w7 m => ?_
  have hA1 := m.1.row hA fun h => h
  refine ⟨s0, m.ld 0 rfl rfl, s1, m.ld 0 rfl rfl, s2, m.ld 0 rfl rfl, _, m.ld 0 rfl rfl, _, m.ld 0 rfl rfl, _, hA1.at rfl, _, hA1.at rfl, _, hA1.at rfl, Spoiled_spec hp (hP.fr m.1) fun w16 t0 t1 t2 q hf hQ => ?_⟩
  have m := m.fr hf
  have hpr := m.row 0 rfl
  have hP := hP.fr m.1
  have hf1 := hf0.t m.1
  refine stN_new (w0 := w16) (l := []) rfl Mem.nil fun w19 m => ?_
  refine ⟨t0, m.ld 0 rfl rfl, t1, m.ld 0 rfl rfl, t2, m.ld 0 rfl rfl, _, m.ld 0 rfl rfl, _, m.ld 0 rfl rfl, Solve_err (hQ.fr m.1) fun w25 x1 x2 x3 x4 e hf he hz => ?_⟩
  have m := m.fr hf
  refine stN_new rfl m fun w29 m => ?_
  have hq := m.row 1 rfl
  refine ⟨t0, hq.at rfl, t1, hq.at rfl, t2, hq.at rfl, _, hq.at rfl, _, hq.at rfl, refRight_spec (hQ.fr m.1) fun w35 hf => ?_⟩
  have m := m.fr hf
  have hwi : wiB 4 1048576 = true := by decide
  have hk0 : (e = 1 -> rightB q = false) -> Lw_CombineWrong_k0 work true ⟨w4.heap.size, 0, none⟩ ⟨w16.heap.size, 0, none⟩ e K w35 := fun h1 =>
    Wrong_k0 hp (hP.fr m.1) (m.1.row hpr fun h => h) (hQ.fr m.1) (m.row 1 rfl) h1 fun w' h => hK w' (hf1.t (m.1.t h))
  refine cnd_iff.2 ⟨fun hr => ?_, fun hr => ?_⟩
  · have hr' : rightB q = false := by simpa using hr
    have he1 := he.2 (.inl hr')
    obtain ⟨rfl, rfl, rfl, rfl⟩ := hz he1
    subst he1
    refine cnd_bne.2 ⟨fun h => absurd rfl h, fun _ => ⟨⟨none, 0, 0⟩, m.ld 0 rfl rfl, ⟨none, 0, 0⟩, m.ld 0 rfl rfl, inR64 (by decide) (by decide), _, m.ld 0 rfl rfl, inR64 (by decide) (by decide), _, m.ld 0 rfl rfl, inR64 (by decide) (by decide), ?_⟩⟩
    exact cnd_bne.2 ⟨fun h => absurd rfl h, fun _ => hk0 fun _ => hr'⟩
  · have hr' : rightB q = true := by simpa using hr
    refine hk0 fun h => ?_
    rcases he.1 h with h | h
    · exact h
    · rw [hwi] at h; cases h
end
end Go.Proofs.Ytmkjcheafdionaa

