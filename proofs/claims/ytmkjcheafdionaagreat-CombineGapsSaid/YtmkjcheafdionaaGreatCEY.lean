/- The examples of the chapter, and what Solve answers on them. Conditions: none. -/
import Derived.Test.YtmkjcheafdionaaGreatCEX
import Derived.Test.YtmkjcheafdionaaGreatCDY
import Derived.Test.YtmkjcheafdionaaGreatCG6
namespace Pw
open Go
def exP (budget most off : Int) : Pr := ⟨[1, 2], [⟨1, 5, 10, 8⟩, ⟨1, 6, 7, 6⟩, ⟨2, 5, 9, 7⟩], if 0 < off then [⟨5, [1, 2], off⟩] else [], most, budget⟩
def takesL (p : Pr) : List Int -> List (List Int)
 | [] => [[]]
 | lot :: ls => (opts p lot).flatMap fun n => (takesL p ls).map (n :: ·)
theorem takesL_mem {p : Pr} : ∀ (ls t : List Int), t.length = ls.length -> Decs p ls t -> t ∈ takesL p ls
 | [], [], _, _ => by simp [takesL]
 | [], _ :: _, h, _ => by simp at h
 | _ :: _, [], h, _ => by simp at h
 | lot :: ls, n :: t, h, hd => by
  refine List.mem_flatMap.2 ⟨n, opts_mem.2 hd.1, List.mem_map.2 ⟨t, takesL_mem ls t (by simpa using h) hd.2, rfl⟩⟩
def bestB (p : Pr) (t : List Int) : Bool := permB p t && (takesL p p.lots).all fun u => !permB p u || !btB p u t
theorem bestB_ok {p : Pr} {t : List Int} (h : bestB p t = true) : IsBest p t := by
 unfold bestB at h
 rw [Bool.and_eq_true, List.all_eq_true] at h
 refine ⟨permB_iff.1 h.1, fun u hu hb => ?_⟩
 have := h.2 u (takesL_mem _ _ hu.1 hu.2.1)
 rw [permB_iff.2 hu, btB_iff.2 hb] at this
 cases this
theorem Row.ow {α : Type} {n : Nat} {enc : α -> List Value} {w : World} {b : Nat} {l : List α} (hn : ∀ a, (enc a).length = n) (h : Row w b (l.flatMap enc)) : Ow n enc w ⟨some ⟨b, 0, none⟩, l.length, l.length⟩ l := by
 refine ⟨rfl, ?_, .inr ⟨b, _, rfl, h, ?_, Nat.le_refl _, ?_⟩⟩
 ·simp [fm_length hn]
 ·rw [fm_length hn]
 ·exact List.take_of_length_le (by rw [fm_length hn]; exact Nat.le_refl _)
end Pw
namespace Go.Proofs.YtmkjcheafdionaaGreat
open Go Pw
section
variable {w w' w0 : World} {s t s0 s1 s2 : Sl} {p : Pr} {a b : List Int}
theorem example_spec {budget most off : Int} {K : Sl -> Sl -> Sl -> Int -> Int -> World -> Prop} (hK : ∀ w' s0 s1 s2, Fr F0 w w' -> PV w' s0 s1 s2 (exP budget most off) -> K s0 s1 s2 most budget w') : z0x_sh budget most off K w := by
 refine ⟨?_⟩
 unfold z0x_sd
 intro w1
 have m1 : Mem w w1 _ := Mem.nil.allocL (cs := [.slice none 0 0, .slice none 0 0, .slice none 0 0, .int .i64 0, .int .i64 0])
 clear_value w1
 intro w2
 have m2 : Mem w w2 _ := m1.allocL (cs := [.int .i64 1, .int .i64 2])
 clear_value w2
 refine stN_new rfl m2 fun w4 m4 => ?_
 intro w5
 have m5 : Mem w w5 _ := m4.allocL (cs := [.int .i64 1, .int .i64 5, .int .i64 10, .int .i64 8, .int .i64 1, .int .i64 6, .int .i64 7, .int .i64 6, .int .i64 2, .int .i64 5, .int .i64 9, .int .i64 7])
 clear_value w5
 refine ⟨m5.wr 1 rfl rfl, ?_⟩
 intro w6
 have m6 : Mem w w6 _ := m5.set (i := 1) (v := .slice (some ⟨w4.heap.size, 0, none⟩) 3 3) 1 rfl
 clear_value w6
 simp only [List.set_cons_zero, List.set_cons_succ] at m6
 rw [cnd_prop]
 refine ⟨fun hlt => ?_, fun hge => ?_⟩
 ·intro w7
  have m7 : Mem w w7 _ := m6.allocL (cs := [.int .i64 1, .int .i64 2])
  clear_value w7
  intro w8
  have m8 : Mem w w8 _ := m7.allocL (cs := [.int .i64 5, .slice (some ⟨w6.heap.size, 0, none⟩) 2 2, .int .i64 off])
  clear_value w8
  refine ⟨m8.wr 3 rfl rfl, ?_⟩
  intro w9
  have m9 : Mem w w9 _ := m8.set (i := 2) (v := .slice (some ⟨w7.heap.size, 0, none⟩) 1 1) 3 rfl
  clear_value w9
  simp only [List.set_cons_zero, List.set_cons_succ] at m9
  refine ⟨?_⟩
  unfold z0x_k0d
  refine ⟨⟨some ⟨w1.heap.size, 0, none⟩, 2, 2⟩, m9.ld 3 rfl rfl, ⟨some ⟨w4.heap.size, 0, none⟩, 3, 3⟩, m9.ld 3 rfl rfl, ⟨some ⟨w7.heap.size, 0, none⟩, 1, 1⟩, m9.ld 3 rfl rfl, _, m9.ld 3 rfl rfl, _, m9.ld 3 rfl rfl, stN_at m9 5 rfl rfl fun w10 m10 => ?_⟩
  simp only [List.set_cons_zero, List.set_cons_succ] at m10
  refine ⟨⟨some ⟨w1.heap.size, 0, none⟩, 2, 2⟩, m10.ld 5 rfl rfl, ⟨some ⟨w4.heap.size, 0, none⟩, 3, 3⟩, m10.ld 5 rfl rfl, ⟨some ⟨w7.heap.size, 0, none⟩, 1, 1⟩, m10.ld 5 rfl rfl, _, m10.ld 5 rfl rfl, _, m10.ld 5 rfl rfl, hK w10 _ _ _ m10.1 ?_⟩
  have hd : (exP budget most off).de = [⟨5, [1, 2], off⟩] := by simp [exP, hlt]
  refine ⟨?_, ?_, ⟨[(⟨5, [1, 2], off⟩, ⟨some ⟨w6.heap.size, 0, none⟩, 2, 2⟩)], ?_, hd.symm, fun x hx => ?_⟩, ?_, ?_, ?_⟩
  ·exact (Row.ow (fun a => ie_length _ _ a) (l := [(1 : Int), 2]) (m10.row 4 rfl)).vw
  ·exact (Row.ow (fun a => encC_length a) (l := (exP budget most off).ch) (m10.row 2 rfl)).vw
  ·exact (Row.ow (fun a => encD_length a) (l := [((⟨5, [1, 2], off⟩ : De), (⟨some ⟨w6.heap.size, 0, none⟩, 2, 2⟩ : Sl))]) (m10.row 0 rfl)).vw
  ·rw [List.mem_singleton] at hx
   subst hx
   exact ⟨(Row.ow (fun a => ie_length _ _ a) (l := [(1 : Int), 2]) (m10.row 1 rfl)).vw, by simp⟩
  ·simp [exP]
  ·simp [exP]
  ·rw [hd]; simp
 ·refine ⟨?_⟩
  unfold z0x_k0d
  refine ⟨⟨some ⟨w1.heap.size, 0, none⟩, 2, 2⟩, m6.ld 1 rfl rfl, ⟨some ⟨w4.heap.size, 0, none⟩, 3, 3⟩, m6.ld 1 rfl rfl, ⟨none, 0, 0⟩, m6.ld 1 rfl rfl, _, m6.ld 1 rfl rfl, _, m6.ld 1 rfl rfl, stN_at m6 3 rfl rfl fun w10 m10 => ?_⟩
  simp only [List.set_cons_zero, List.set_cons_succ] at m10
  refine ⟨⟨some ⟨w1.heap.size, 0, none⟩, 2, 2⟩, m10.ld 3 rfl rfl, ⟨some ⟨w4.heap.size, 0, none⟩, 3, 3⟩, m10.ld 3 rfl rfl, ⟨none, 0, 0⟩, m10.ld 3 rfl rfl, _, m10.ld 3 rfl rfl, _, m10.ld 3 rfl rfl, hK w10 _ _ _ m10.1 ?_⟩
  have hd : (exP budget most off).de = [] := by simp [exP, hge]
  refine ⟨?_, ?_, ⟨[], Vw.nil, hd.symm, fun x hx => by cases hx⟩, ?_, ?_, ?_⟩
  ·exact (Row.ow (fun a => ie_length _ _ a) (l := [(1 : Int), 2]) (m10.row 2 rfl)).vw
  ·exact (Row.ow (fun a => encC_length a) (l := (exP budget most off).ch) (m10.row 0 rfl)).vw
  ·simp [exP]
  ·simp [exP]
  ·rw [hd]; simp
theorem Solve_full {work : Int} {K : Sl -> Int -> Int -> Sl -> Int -> World -> Prop} (hp : RightPr p) (h : PV w s0 s1 s2 p) (hw : Wi work 1048576) (hn : (prefN p p.lots : Int) <= work)
  (hK : ∀ w' t bnd ns T cs N, V w w' [] [] [] ns t T cs N -> IsBest p T -> bnd = ptsOf p T -> (Tree (upB p) p T N p.lots [] 0 N.length /\ (N.length : Int) <= work) -> K t (ptsOf p T) bnd ns 0 w') : z33_sh s0 s1 s2 p.most p.budget work K w := by
 refine Solve_spec h (fun hbad => ?_) fun _ _ w' t pts bnd ns e T cs N hV hS => ?_
 ·rcases hbad with hb | hb
  ·rw [rightB_iff.2 hp] at hb; cases hb
  ·exfalso
   have : wiB work 1048576 = true := by simpa [wiB, Wi] using hw
   rw [this] at hb; cases hb
 ·rcases hS with ⟨rfl, h1, rfl, rfl, h2⟩ | ⟨_, _, _, _, _, h2⟩
  ·exact hK w' t _ ns T cs N hV h1 rfl h2
  ·omega
theorem takes_spec {pts : Int} {K : Bool -> World -> Prop} (hp : RightPr p) (h : PV w s0 s1 s2 p) (ht : VI w t a) (hl : a.length < 2 ^ 63) (hn : prefN p p.lots <= 1000) (hb : IsBest p a) (hpt : ptsOf p a = pts)
  (hK : ∀ w', Fr F0 w w' -> K true w') : z1k_sh s0 s1 s2 p.most p.budget t pts K w := by
 refine ⟨?_⟩
 unfold z1k_sd
 intro w1
 have m1 : Mem w w1 _ := Mem.nil.allocL (cs := prC s0 s1 s2 p.most p.budget)
 clear_value w1
 refine ⟨s0, m1.ld 0 rfl rfl, s1, m1.ld 0 rfl rfl, s2, m1.ld 0 rfl rfl, _, m1.ld 0 rfl rfl, _, m1.ld 0 rfl rfl, ?_⟩
 refine Solve_full hp (h.fr m1.1) ⟨by decide, by decide⟩ (by omega) fun w' t' bnd ns T cs N hV hT hbd _ => ?_
 subst hbd
 have : T = a := hT.uniq hb
 subst this
 subst hpt
 have hf : Fr F0 w w' := m1.1.t hV.m.1
 refine stN_new (w0 := w') (l := []) rfl Mem.nil fun w2 m2 => ?_
 rw [cnd_beq]
 refine ⟨fun _ => ⟨t', m2.ld 0 rfl rfl, ?_⟩, fun h => absurd rfl h⟩
 refine Ints_spec (hV.tv.vw.fr m2.1) (ht.fr (hf.t m2.1)) hl fun w3 hf3 => ?_
 have m3 := m2.fr hf3
 rw [decide_eq_true rfl]
 refine cnd_iff.2 ⟨fun _ => ⟨_, m3.ld 0 rfl rfl, ?_⟩, fun h => by cases h⟩
 rw [cnd_beq]
 refine ⟨fun _ => ⟨_, m3.ld 0 rfl rfl, ?_⟩, fun h => absurd rfl h⟩
 rw [show (ptsOf p T == ptsOf p T) = true from beq_self_eq_true _]
 exact hK w3 (hf.t m3.1)
end
end Go.Proofs.YtmkjcheafdionaaGreat
namespace Go.Proofs.YtmkjcheafdionaaGreat
open Go Pw
section
variable {w : World}
theorem one_spec {budget most off pts : Int} {x y : Int} {K : Bool -> World -> Prop} (hr : rightB (exP budget most off) = true) (hn : prefN (exP budget most off) [1, 2] <= 1000) (hb : bestB (exP budget most off) [x, y] = true) (hpt : ptsOf (exP budget most off) [x, y] = pts)
  (hK : ∀ w', Fr F0 w w' -> K true w') :
  z0x_sh budget most off (fun r0 r1 r2 r3 r4 w1 => let w2 : World := w1.alloc (Obj.cells #[.int .i64 x, .int .i64 y] 3)
   z1k_sh r0 r1 r2 r3 r4 ⟨some ⟨w1.heap.size, 0, none⟩, 2, 2⟩ pts K w2) w := by
 refine example_spec fun w1 s0 s1 s2 hf h => ?_
 intro w2
 have m2 : Mem w1 w2 _ := Mem.nil.allocL (cs := [.int .i64 x, .int .i64 y])
 clear_value w2
 exact takes_spec (p := exP budget most off) (a := [x, y]) (rightB_iff.1 hr) (h.fr m2.1) (Row.ow (fun a => ie_length _ _ a) (l := [x, y]) (m2.row 0 rfl)).vw (by simp) hn (bestB_ok hb) hpt fun w' hf' => hK w' (hf.t (m2.1.t hf'))
theorem sanity_spec {K : Bool -> World -> Prop} (hK : ∀ w', Fr F0 w w' -> K true w') : z17_sh K w := by
 refine ⟨?_⟩
 unfold z17_sd
 refine one_spec (by decide +kernel) (by decide +kernel) (by decide +kernel) (by decide +kernel) fun w1 h1 => cnd_iff.2 ⟨fun _ => ?_, fun h => by cases h⟩
 refine one_spec (by decide +kernel) (by decide +kernel) (by decide +kernel) (by decide +kernel) fun w2 h2 => cnd_iff.2 ⟨fun _ => ?_, fun h => by cases h⟩
 refine one_spec (by decide +kernel) (by decide +kernel) (by decide +kernel) (by decide +kernel) fun w3 h3 => ⟨?_⟩
 unfold z17_k0d
 refine one_spec (by decide +kernel) (by decide +kernel) (by decide +kernel) (by decide +kernel) fun w4 h4 => cnd_iff.2 ⟨fun _ => ?_, fun h => by cases h⟩
 refine one_spec (by decide +kernel) (by decide +kernel) (by decide +kernel) (by decide +kernel) fun w5 h5 => ⟨?_⟩
 unfold z17_k1d
 refine example_spec fun w6 s0 s1 s2 h6 h => ?_
 intro w7
 have m7 : Mem w6 w7 _ := Mem.nil.allocL (cs := [.int .i64 0, .int .i64 2])
 clear_value w7
 refine Paid_spec (p := exP 18 0 1) (f := [0, 2]) (h.fr m7.1) (Row.ow (fun a => ie_length _ _ a) (l := [(0 : Int), 2]) (m7.row 0 rfl)).vw (by simp) fun w8 h8 => ?_
 rw [show paidR (exP 18 0 1) (rightB (exP 18 0 1)) (fitsB (exP 18 0 1) [0, 2]) [0, 2] = (18, true) by decide +kernel]
 refine cnd_iff.2 ⟨fun _ => cnd_iff.2 ⟨fun _ => ?_, fun h => by cases h⟩, fun h => by cases h⟩
 exact cnd_iff.2 ⟨fun _ => hK w8 (h1.t (h2.t (h3.t (h4.t (h5.t (h6.t (m7.1.t h8))))))), fun h => by cases h⟩
end
end Go.Proofs.YtmkjcheafdionaaGreat

namespace Pw
open Go
section
variable {α : Type} {n : Nat} {enc : α -> List Value} {w w' : World} {s : Sl} {l : List α}
theorem Sp.empty {w0 : World} {L : List (Nat × List Value)} {e : TypeId} (hn : ∀ a, (enc a).length = n) (h : Mem w0 w L) : Sp w0 (w.alloc (Obj.cells #[] e)) L (fun _ => False) (fun _ => True) n enc ⟨some ⟨w.heap.size, 0, none⟩, 0, 0⟩ ([] : List α) := by
 refine ⟨h.fr Fr.alloc, Rests.top, trivial, fun _ hb => hb.elim, Row.ow hn (l := ([] : List α)) Row.new, fun b ⟨a, ha, hb⟩ => ?_⟩
 cases ha
 subst hb
 exact ⟨h.1.1, fun h => h, fun p hp e => by have := (h.2.1 p hp).lt; simp only at e; omega⟩
end
end Pw
namespace Go.Proofs.YtmkjcheafdionaaGreat
open Go Pw
section
variable {w wB : World} {s x s0 s1 s2 : Sl} {l dl : List Int} {p : Pr} {pb db : Nat}
theorem contains_spec {n : Int} {K : Bool -> World -> Prop} (hv : VI w s l) (hl : l.length < 2 ^ 62) (hK : K (decide (n ∈ l)) w) : z0o_sh s n K w := by
 have hlen := hv.len
 refine ⟨?_⟩
 unfold z0o_sd
 refine ⟨⟨fun i w' => ∃ i' : Nat, i = i' /\ i' <= l.length /\ w' = w /\ n ∉ l.take i', fun i _ => l.length - i.toNat, ⟨0, rfl, by omega, rfl, by simp⟩, ?_⟩⟩
 rintro i w1 ⟨i, rfl, hi, rfl, hno⟩
 unfold z0o_b0
 rw [cnd_prop]
 refine ⟨fun hlt => ?_, fun hge => ?_⟩
 ·have hlt : i < l.length := by omega
  refine VI.ld hv i rfl hlt ?_
  rw [cnd_beq]
  refine ⟨fun he => ?_, fun hne => ⟨inR64 (by omega) (by omega), ⟨⟨rfl, rfl, trivial⟩, i + 1, by omega, by omega, rfl, ?_⟩, by dsimp only; omega⟩⟩
  ·rwa [decide_eq_true (he ▸ List.getElem_mem hlt)] at hK
  ·rw [take_succ' hlt, List.mem_append, List.mem_singleton]
   rintro (h | h)
   ·exact hno h
   ·exact hne h.symm
 ·have : i = l.length := by omega
  subst this
  rw [List.take_length] at hno
  rwa [decide_eq_false hno] at hK
theorem different_spec {K : Bool -> World -> Prop} (hv : VI w s l) (hl : l.length < 2 ^ 62) (hK : ∀ w', Fr F0 w w' -> K (decide l.Nodup) w') : z0i_sh s K w := by
 have hlen := hv.len
 have hcap := hv.cap
 refine ⟨?_⟩
 unfold z0i_sd
 refine ⟨⟨fun i w' => ∃ i' : Nat, i = i' /\ i' <= l.length /\ Fr F0 w w' /\ (l.take i').Nodup, fun i _ => l.length - i.toNat, ⟨0, rfl, by omega, Fr.refl, by simp⟩, ?_⟩⟩
 rintro i w1 ⟨i, rfl, hi, hf, hnd⟩
 unfold z0i_b0
 rw [cnd_prop]
 refine ⟨fun hlt => ?_, fun hge => ?_⟩
 ·have hlt : i < l.length := by omega
  intro w2
  have hf2 : Fr F0 w w2 := hf.t Fr.drew
  clear_value w2
  have hts := take_succ' hlt
  refine ⟨fun u => VI u s l, hv.fr hf2, ⟨by omega, by omega, by omega⟩, ?_⟩
  obtain ⟨ad, hp, _⟩ := hv.at (fun a => ie_length _ _ a) (List.getElem?_eq_getElem hlt) (by decide)
  refine nz_iff.2 ⟨ad, hp, ⟨by omega, by omega⟩, l[i], fun u hu => ?_, ?_⟩
  ·obtain ⟨ad', hp', hc⟩ := hu.at (fun a => ie_length _ _ a) (List.getElem?_eq_getElem hlt) (by decide)
   rw [hp] at hp'
   cases hp'
   exact hc 0 _ rfl
  ·refine contains_spec (l := l.take (i : Int).toNat) ((hv.fr hf2).take (fun a => ie_length _ _ a) (j := (i : Int).toNat) (by omega)) (by simp; omega) ?_
   rw [Int.toNat_natCast]
   refine cnd_iff.2 ⟨fun h => ?_, fun h => ⟨inR64 (by omega) (by omega), ⟨⟨rfl, trivial⟩, i + 1, by omega, by omega, hf2, ?_⟩, by dsimp only; omega⟩⟩
   ·have hk := hK w2 hf2
    rwa [decide_eq_false] at hk
    intro hn
    have hn' : (l.take (i + 1)).Nodup := hn.sublist (List.take_sublist _ _)
    rw [hts, List.nodup_append] at hn'
    exact hn'.2.2 _ (of_decide_eq_true h) _ (List.mem_singleton.2 rfl) rfl
   ·rw [hts, List.nodup_append]
    refine ⟨hnd, by simp, fun a ha b hb => ?_⟩
    rw [List.mem_singleton] at hb
    subst hb
    rintro rfl
    exact of_decide_eq_false h ha
 ·have : i = l.length := by omega
  subst this
  rw [List.take_length] at hnd
  have hk := hK w1 hf
  rwa [decide_eq_true hnd] at hk
theorem rwithin_spec {n m : Int} {K : Bool -> World -> Prop} (hK : K (wiB n m) w) : z1e_sh n m K w := by
 refine ⟨?_⟩
 unfold z1e_sd
 rw [cnd_prop]
 refine ⟨fun h => ?_, fun h => ?_⟩
 ·have e : wiB n m = decide (n <= m) := by simp [wiB, h]
  rwa [e] at hK
 ·have e : wiB n m = false := by
   cases hb : wiB n m with
   | false => rfl
   | true => exact absurd (wiB_iff.1 hb).1 h
  rwa [e] at hK
theorem Right_l2 {i : Int} {A B : Value} {N1 : Addr -> Int -> World -> Prop} {K : Bool -> World -> Prop} (hP : PV wB s0 s1 s2 p) (hpr : Row w pb (prC s0 s1 s2 p.most p.budget)) (hdr : Row w db [A, .slice x.p x.l x.c, B]) (hv : VI w x dl) (hl : dl.length < 2 ^ 40) (hB : Fr F0 wB w)
  (hF : (∃ y ∈ dl, y ∉ p.lots) -> ∀ w', Fr F0 w w' -> K false w') (hT : (∀ y ∈ dl, y ∈ p.lots) -> ∀ w', Fr F0 w w' -> inR .i64 (i + 1) /\ N1 ⟨pb, 0, none⟩ (i + 1) w') : z1t_l2 ⟨pb, 0, none⟩ i ⟨db, 0, none⟩ 0 N1 K w := by
 have hlen := hv.len
 have hl0 := hP.l0
 refine ⟨⟨fun k w' => ∃ k' : Nat, k = k' /\ k' <= dl.length /\ Fr F0 w w' /\ ∀ y ∈ dl.take k', y ∈ p.lots, fun k _ => dl.length - k.toNat, ⟨0, rfl, by omega, Fr.refl, by simp⟩, ?_⟩⟩
 rintro k w1 ⟨k, rfl, hk, hf, hin⟩
 unfold z1t_b2
 refine ⟨x, (hf.row hdr fun h => h).at rfl, ?_⟩
 rw [cnd_prop]
 refine ⟨fun hlt => ?_, fun hge => ?_⟩
 ·have hlt : k < dl.length := by omega
  intro w2
  have hf2 : Fr F0 w w2 := hf.t Fr.drew
  clear_value w2
  have hS : ∀ {u}, Fr F0 w u -> (Row u pb (prC s0 s1 s2 p.most p.budget) /\ Row u db [A, .slice x.p x.l x.c, B]) /\ VI u x dl := fun hu => ⟨⟨hu.row hpr fun h => h, hu.row hdr fun h => h⟩, hv.fr hu⟩
  refine ⟨fun u => (Row u pb (prC s0 s1 s2 p.most p.budget) /\ Row u db [A, .slice x.p x.l x.c, B]) /\ VI u x dl, hS hf2, s0, fun u hu => hu.1.1.at rfl, x, fun u hu => hu.1.2.at rfl, ?_⟩
  obtain ⟨ad, hp, _⟩ := hv.at (fun a => ie_length _ _ a) (List.getElem?_eq_getElem hlt) (by decide)
  refine nz_iff.2 ⟨ad, hp, ⟨by omega, by omega⟩, dl[k], fun u hu => ?_, ?_⟩
  ·obtain ⟨ad', hp', hc⟩ := hu.2.at (fun a => ie_length _ _ a) (List.getElem?_eq_getElem hlt) (by decide)
   rw [hp] at hp'
   cases hp'
   exact hc 0 _ rfl
  ·refine contains_spec (hP.fr (hB.t hf2)).lots (by omega) ⟨hS hf2, ?_⟩
   refine cnd_iff.2 ⟨fun h => ?_, fun h => ⟨inR64 (by omega) (by omega), ⟨⟨rfl, rfl, rfl, trivial⟩, k + 1, by omega, by omega, hf2, ?_⟩, by dsimp only; omega⟩⟩
   ·exact hF ⟨dl[k], List.getElem_mem hlt, by simpa using h⟩ w2 hf2
   ·rw [take_succ' hlt]
    intro y hy
    rcases List.mem_append.1 hy with hy | hy
    ·exact hin y hy
    ·rw [List.mem_singleton] at hy
     subst hy
     simpa using h
 ·have : k = dl.length := by omega
  subst this
  rw [List.take_length] at hin
  exact hT hin w1 hf
theorem Right_l1 {K : Bool -> World -> Prop} (hP : PV wB s0 s1 s2 p) (hB : Fr F0 wB w) (hpr : Row w pb (prC s0 s1 s2 p.most p.budget)) (hl2 : p.de.length <= 100)
  (hF : (∃ d ∈ p.de, deB p d = false) -> ∀ w', Fr F0 w w' -> K false w') (hT : (∀ d ∈ p.de, deB p d = true) -> ∀ w', Fr F0 w w' -> K true w') : z1t_l1 ⟨pb, 0, none⟩ 0 K w := by
 obtain ⟨dc, hd, hm, hx⟩ := hP.de
 have hdl := hd.len
 have hlm : dc.length = p.de.length := by rw [← hm, List.length_map]
 refine ⟨⟨fun i w' => ∃ i' : Nat, i = i' /\ i' <= dc.length /\ Fr F0 w w' /\ ∀ x ∈ dc.take i', deB p x.1 = true, fun i _ => dc.length - i.toNat, ⟨0, rfl, by omega, Fr.refl, by simp⟩, ?_⟩⟩
 rintro i w1 ⟨i, rfl, hi, hf, hin⟩
 unfold z1t_b1
 have hpr1 := hf.row hpr fun h => h
 refine ⟨s2, hpr1.at rfl, ?_⟩
 rw [cnd_prop]
 refine ⟨fun hlt => ?_, fun hge => ?_⟩
 ·have hlt : i < dc.length := by omega
  refine ⟨s2, hpr1.at rfl, ?_⟩
  have hdv := hd.fr (hB.t hf)
  obtain ⟨ad, hp, hc⟩ := hdv.at (fun a => encD_length a) (List.getElem?_eq_getElem hlt) (by decide)
  refine nz_iff.2 ⟨ad, hp, ⟨by omega, by omega⟩, _, hc 0 _ rfl, dc[i].2, hc 1 _ rfl, _, hc 2 _ rfl, ?_⟩
  have hmem : dc[i] ∈ dc := List.getElem_mem hlt
  have hmemp : dc[i].1 ∈ p.de := hm ▸ List.mem_map_of_mem hmem
  obtain ⟨hxv, hxl⟩ := hx _ hmem
  have hbad : deB p dc[i].1 = false -> ∀ w', Fr F0 w1 w' -> K false w' := fun h w' hw => hF ⟨_, hmemp, h⟩ w' (hf.t hw)
  refine stN_new (w0 := w1) (l := []) rfl Mem.nil fun w41 m => ?_
  refine ⟨dc[i].2, m.ld 0 rfl rfl, ?_⟩
  have hvl := (hxv.fr ((hB.t hf).t m.1)).len
  rw [cnd_beq]
  refine ⟨fun h => hbad ?_ _ m.1, fun h => ⟨dc[i].2, m.ld 0 rfl rfl, different_spec (hxv.fr ((hB.t hf).t m.1)) (by omega) fun w44 hf44 => ?_⟩⟩
  ·have : dc[i].1.lots.length = 0 := by omega
   unfold deB
   rw [this]
   rfl
  have m := m.fr hf44
  have hne : 0 < dc[i].1.lots.length := by omega
  refine cnd_iff.2 ⟨fun h => hbad ?_ _ m.1, fun h => ⟨_, m.ld 0 rfl rfl, rwithin_spec ?_⟩⟩
  ·have h' : decide dc[i].1.lots.Nodup = false := by simpa using h
   unfold deB
   rw [h']
   simp
  have hnd : decide dc[i].1.lots.Nodup = true := by simpa using h
  refine cnd_iff.2 ⟨fun h => hbad ?_ _ m.1, fun h => ?_⟩
  ·have h' : wiB dc[i].1.off 1000000000 = false := by simpa using h
   unfold deB
   rw [h']
   simp
  have hwi : wiB dc[i].1.off 1000000000 = true := by simpa using h
  refine Right_l2 (hP.fr ((hB.t hf).t m.1)) ((hf.t m.1).row hpr fun h => h) (m.row 0 rfl) (hxv.fr ((hB.t hf).t m.1)) hxl Fr.refl (fun ⟨y, hy, hno⟩ w' hw => hbad ?_ _ (m.1.t hw)) fun hall w' hw => ⟨inR64 (by omega) (by omega), ⟨⟨rfl, trivial⟩, i + 1, by omega, by omega, hf.t (m.1.t hw), ?_⟩, by dsimp only; omega⟩
  ·have : dc[i].1.lots.all (fun x => decide (x ∈ p.lots)) = false := by
    rw [List.all_eq_false]
    exact ⟨y, hy, by simpa using hno⟩
   unfold deB
   rw [this]
   simp
  ·rw [take_succ' hlt]
   intro z hz
   rcases List.mem_append.1 hz with hz | hz
   ·exact hin z hz
   ·rw [List.mem_singleton] at hz
    subst hz
    have : dc[i].1.lots.all (fun x => decide (x ∈ p.lots)) = true := by
     rw [List.all_eq_true]
     exact fun y hy => decide_eq_true (hall y hy)
    unfold deB
    rw [this, hnd, hwi]
    simp [hne]
 ·have : i = dc.length := by omega
  subst this
  rw [List.take_length] at hin
  refine hT (fun d hd' => ?_) w1 hf
  rw [← hm] at hd'
  obtain ⟨y, hy, rfl⟩ := List.mem_map.1 hd'
  exact hin y hy
theorem Right_l0 {K : Bool -> World -> Prop} (hP : PV wB s0 s1 s2 p) (hB : Fr F0 wB w) (hpr : Row w pb (prC s0 s1 s2 p.most p.budget)) (hl1 : p.ch.length <= 480) (hl2 : p.de.length <= 100)
  (hF : (∃ c ∈ p.ch, chB p c = false) \/ (∃ d ∈ p.de, deB p d = false) -> ∀ w', Fr F0 w w' -> K false w') (hT : (∀ c ∈ p.ch, chB p c = true) -> (∀ d ∈ p.de, deB p d = true) -> ∀ w', Fr F0 w w' -> K true w') : z1t_l0 ⟨pb, 0, none⟩ 0 K w := by
 have hcl := hP.ch.len
 have hl0 := hP.l0
 refine ⟨⟨fun i w' => ∃ i' : Nat, i = i' /\ i' <= p.ch.length /\ Fr F0 w w' /\ ∀ x ∈ p.ch.take i', chB p x = true, fun i _ => p.ch.length - i.toNat, ⟨0, rfl, by omega, Fr.refl, by simp⟩, ?_⟩⟩
 rintro i w1 ⟨i, rfl, hi, hf, hin⟩
 unfold z1t_b0
 have hpr1 := hf.row hpr fun h => h
 refine ⟨s1, hpr1.at rfl, ?_⟩
 rw [cnd_prop]
 refine ⟨fun hlt => ?_, fun hge => ?_⟩
 ·have hlt : i < p.ch.length := by omega
  refine ⟨s1, hpr1.at rfl, ?_⟩
  refine VC.ld (hP.fr (hB.t hf)).ch i rfl hlt fun a hc => ?_
  obtain ⟨c0, c1, c2, c3⟩ := hc w1 Fr.refl
  refine ⟨_, c0, _, c1, _, c2, _, c3, ?_⟩
  have hmem : p.ch[i] ∈ p.ch := List.getElem_mem hlt
  have hbad : chB p p.ch[i] = false -> ∀ w', Fr F0 w1 w' -> K false w' := fun h w' hw => hF (.inl ⟨_, hmem, h⟩) w' (hf.t hw)
  refine stN_new (w0 := w1) (l := []) rfl Mem.nil fun w23 m => ?_
  refine ⟨s0, (m.1.row hpr1 fun h => h).at rfl, _, m.ld 0 rfl rfl, contains_spec (hP.fr ((hB.t hf).t m.1)).lots (by omega) ?_⟩
  refine cnd_iff.2 ⟨fun h => hbad ?_ _ m.1, fun h => ⟨_, m.ld 0 rfl rfl, rwithin_spec ?_⟩⟩
  ·have h' : decide (p.ch[i].lot ∈ p.lots) = false := by simpa using h
   unfold chB
   rw [h']
   rfl
  have h1 : decide (p.ch[i].lot ∈ p.lots) = true := by simpa using h
  refine cnd_iff.2 ⟨fun h => hbad ?_ _ m.1, fun h => ⟨_, m.ld 0 rfl rfl, rwithin_spec ?_⟩⟩
  ·have h' : wiB p.ch[i].price 1000000000 = false := by simpa using h
   unfold chB
   rw [h']
   simp
  have h2 : wiB p.ch[i].price 1000000000 = true := by simpa using h
  refine cnd_iff.2 ⟨fun h => hbad ?_ _ m.1, fun h => ⟨inR64 (by omega) (by omega), ⟨⟨rfl, trivial⟩, i + 1, by omega, by omega, hf.t m.1, ?_⟩, by dsimp only; omega⟩⟩
  ·have h' : wiB p.ch[i].pts 1000000 = false := by simpa using h
   unfold chB
   rw [h']
   simp
  ·rw [take_succ' hlt]
   intro z hz
   rcases List.mem_append.1 hz with hz | hz
   ·exact hin z hz
   ·rw [List.mem_singleton] at hz
    subst hz
    have h3 : wiB p.ch[i].pts 1000000 = true := by simpa using h
    unfold chB
    rw [h1, h2, h3]
    rfl
 ·have : i = p.ch.length := by omega
  subst this
  rw [List.take_length] at hin
  exact Right_l1 hP (hB.t hf) hpr1 hl2 (fun h w' hw => hF (.inr h) w' (hf.t hw)) fun h w' hw => hT hin h w' (hf.t hw)
theorem refRight_spec {K : Bool -> World -> Prop} (hP : PV w s0 s1 s2 p) (hK : ∀ w', Fr F0 w w' -> K (rightB p) w') : z1t_sh s0 s1 s2 p.most p.budget K w := by
 have e0 := hP.lots.len
 have e1 := hP.ch.len
 obtain ⟨dc, hd, hm, _⟩ := hP.de
 have e2 := hd.len
 have hlm : dc.length = p.de.length := by rw [← hm, List.length_map]
 have hl0 := hP.l0
 have hF : ¬ RightPr p -> ∀ w', Fr F0 w w' -> K false w' := fun h w' hw => by
  have := hK w' hw
  cases hb : rightB p with
  | false => rwa [hb] at this
  | true => exact absurd (rightB_iff.1 hb) h
 refine ⟨?_⟩
 unfold z1t_sd
 intro w1
 have m : Mem w w1 _ := Mem.nil.allocL (cs := prC s0 s1 s2 p.most p.budget)
 clear_value w1
 refine ⟨s0, m.ld 0 rfl rfl, ?_⟩
 rw [cnd_prop]
 refine ⟨fun h => hF (fun r => by have := r.some; omega) _ m.1, fun h1 => ⟨s0, m.ld 0 rfl rfl, ?_⟩⟩
 rw [cnd_prop]
 refine ⟨fun h => hF (fun r => by have := r.few; omega) _ m.1, fun h2 => ⟨s0, m.ld 0 rfl rfl, different_spec (hP.fr m.1).lots (by omega) fun w5 hf => ?_⟩⟩
 have m := m.fr hf
 refine cnd_iff.2 ⟨fun h => hF (fun r => by have := r.diff; simp [this] at h) _ m.1, fun h3 => ⟨s1, m.ld 0 rfl rfl, ?_⟩⟩
 rw [cnd_prop]
 refine ⟨fun h => hF (fun r => by have := r.chs; omega) _ m.1, fun h4 => ⟨s2, m.ld 0 rfl rfl, ?_⟩⟩
 rw [cnd_prop]
 refine ⟨fun h => hF (fun r => by have := r.des; omega) _ m.1, fun h5 => ⟨_, m.ld 0 rfl rfl, rwithin_spec ?_⟩⟩
 refine cnd_iff.2 ⟨fun h => hF (fun r => by have := wiB_iff.2 r.most; simp [this] at h) _ m.1, fun h6 => ⟨_, m.ld 0 rfl rfl, rwithin_spec ?_⟩⟩
 refine cnd_iff.2 ⟨fun h => hF (fun r => by have := wiB_iff.2 r.budget; simp [this] at h) _ m.1, fun h7 => ?_⟩
 refine Right_l0 (hP.fr m.1) Fr.refl (m.row 0 rfl) (by omega) (by omega) (fun h w' hw => hF (fun r => ?_) _ (m.1.t hw)) fun hc hd w' hw => ?_
 ·have hr := rightB_iff.2 r
  unfold rightB at hr
  simp only [Bool.and_eq_true, List.all_eq_true] at hr
  obtain ⟨_, _, _, _, _, _, _, hcs, hds⟩ := hr
  rcases h with ⟨c, hc, h⟩ | ⟨d, hd, h⟩
  ·rw [hcs c hc] at h; cases h
  ·rw [hds d hd] at h; cases h
 ·have : rightB p = true := by
   unfold rightB
   simp only [Bool.and_eq_true, List.all_eq_true, decide_eq_true_eq]
   exact ⟨by omega, by omega, by simpa using h3, by omega, by omega, by simpa using h6, by simpa using h7, hc, hd⟩
  have hk := hK w' (m.1.t hw)
  rwa [this] at hk
end
end Go.Proofs.YtmkjcheafdionaaGreat
