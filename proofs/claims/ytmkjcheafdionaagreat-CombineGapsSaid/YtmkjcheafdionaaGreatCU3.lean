/- The reference's walk through the nodes of a result, and what it answers. Conditions: none. -/
import Derived.Test.YtmkjcheafdionaaGreatCU2
import Derived.Test.YtmkjcheafdionaaGreatCF3
import Derived.Test.YtmkjcheafdionaaGreatCDZ
namespace Go.Proofs.YtmkjcheafdionaaGreat
open Go Pw
def NdV (w : World) (c : NdC) (n : Nd) : Prop := (c.lot = n.lot /\ c.num = n.num /\ c.den = n.den) /\ VI w c.nx n.next /\ I64 n.num /\ I64 n.den
structure NV (w : World) (s : Sl) (N : List Nd) : Prop where
 nds : ∃ cs : List NdC, Vw 4 encN w s cs /\ cs.length = N.length /\ ∀ (i : Nat) c n, cs[i]? = some c -> N[i]? = some n -> NdV w c n
 lt : N.length < 2 ^ 47
theorem NV.fr {w w' : World} {s : Sl} {N : List Nd} (h : NV w s N) (hf : Fr F0 w w') : NV w' s N := by
 obtain ⟨⟨cs, h1, h2, h3⟩, h4⟩ := h
 exact ⟨⟨cs, h1.fr hf, h2, fun i c n hc hn => ⟨(h3 i c n hc hn).1, (h3 i c n hc hn).2.1.fr hf, (h3 i c n hc hn).2.2⟩⟩, h4⟩
theorem NV.len {w : World} {s : Sl} {N : List Nd} (h : NV w s N) : s.l = N.length := by
 obtain ⟨⟨cs, h1, h2, _⟩, _⟩ := h
 rw [h1.len, h2]
def be : Bool -> List Value := fun b => [.bool b]
@[simp] theorem be_length (b : Bool) : (be b).length = 1 := rfl
def kidsB (W : List Int -> Int -> List Bool -> Bool × List Bool) (n : Int) (f : List Int) : List Int -> List Int -> List Bool -> Bool × List Bool
 | o :: os, k :: ks, seen => if k <= n then (false, seen) else
   if (W (f ++ [o]) k seen).1 then kidsB W n f os ks (W (f ++ [o]) k seen).2 else (false, (W (f ++ [o]) k seen).2)
 | _, _, seen => (true, seen)
def walkB (p : Pr) (N : List Nd) (T : List Int) : List Int -> List Int -> Int -> List Bool -> Bool × List Bool
 | ls, f, n, seen => match (if 0 <= n then N[n.toNat]? else none) with
  | none => (false, seen)
  | some x => if seen.getD n.toNat true then (false, seen) else
   if x.next = [] then (closedB p f x.num x.den T, seen.set n.toNat true) else
   match ls with
   | [] => (false, seen.set n.toNat true)
   | lot :: ls => if x.lot ≠ f.length \/ x.next.length ≠ (opts p lot).length then (false, seen.set n.toNat true)
    else kidsB (walkB p N T ls) n f (opts p lot) x.next (seen.set n.toNat true)
end Go.Proofs.YtmkjcheafdionaaGreat
namespace Pw
open Go
theorem Fr.any {F : Nat -> Prop} {w w' : World} (h : Fr F0 w w') : Fr F w w' := ⟨h.1, fun b hb _ => h.2.1 b hb fun h => h, h.2.2⟩
theorem Sp.mk'' {α : Type} {n : Nat} {enc : α -> List Value} {w0 w : World} {s : Sl} {l : List α} {L : List (Nat × List Value)} {B : Nat -> Prop} {Q : World -> Prop} (h : Sp w0 w L B Q n enc s l) : Mk w0 n enc w s l := ⟨h.m.1, h.ow, fun b hb => (h.os b hb).1⟩
theorem Fr.comp {F : Nat -> Prop} {w w' w2 : World} (h : Fr F w w') (h' : Fr F w' w2) : Fr F w w2 := h.trans h' fun _ hb _ => hb
end Pw
namespace Go.Proofs.YtmkjcheafdionaaGreat
open Go Pw
section
variable {w w' w0 : World} {s : Sl} {l : List Bool} {N : List Nd}
theorem be_ld {i : Int} {K : Bool -> Prop} (h : Vw 1 be w s l) (i' : Nat) (hi : i = (i' : Int)) (h1 : i' < l.length) (hK : K l[i']) :
  nz s.p fun a => (0 <= i /\ i < (s.l : Nat)) /\ ∃ x : Bool, w.cell? (a.add (i.toNat * 1)) = some (Value.bool x) /\ K x := by
 subst hi
 obtain ⟨ad, hp, hc⟩ := h.at be_length (List.getElem?_eq_getElem h1) (by decide)
 have hl := h.len
 rw [hp]
 exact ⟨⟨by omega, by omega⟩, _, hc 0 _ rfl, hK⟩
theorem be_st {i : Int} (h : Mk w0 1 be w s l) (i' : Nat) (hi : i = (i' : Int)) (h1 : i' < l.length) :
  ∃ ad, s.p = some ad /\ (0 <= i /\ i < (s.l : Nat)) /\ wrOk w (ad.add (i.toNat * 1)) /\ ∀ a, Mk w0 1 be (w.setCell (ad.add (i.toNat * 1)) (Value.bool a)) s (l.set i' a) /\ Fr (inB s) w (w.setCell (ad.add (i.toNat * 1)) (Value.bool a)) := by
 subst hi
 obtain ⟨hl, hown⟩ := h.ow
 obtain ⟨hlen, hnil | ⟨b, cs, hp, hrow, hcs, hle, ht⟩⟩ := hown
 ·omega
 ·refine ⟨_, hp, ⟨by omega, by omega⟩, ?_⟩
  simp only [add_mk, Nat.mul_one, Nat.zero_add, Int.toNat_natCast]
  rw [fm_length be_length] at ht hlen
  have hi : i' < cs.length := by omega
  refine ⟨hrow.wr hi, fun a => ?_⟩
  have hfr : Fr (inB s) w (w.setCell ⟨b, i', none⟩ (Value.bool a)) := Fr.set ⟨_, hp, rfl⟩
  refine ⟨⟨h.fr0.trans hfr fun c hc hlt => absurd (h.nw c hc) (by omega), ⟨by simp [hl], ?_, .inr ⟨b, _, hp, hrow.set i' (Value.bool a), by simp [hcs], hle, ?_⟩⟩, h.nw⟩, hfr⟩
  ·rw [fm_length be_length]; simp [hl]
  ·rw [fm_length be_length]
   simp only [List.length_set, Nat.mul_one] at ht ⊢
   rw [List.take_set, ht]
   exact map_set_fm (fun a => Value.bool a) l i' a
theorem NV.ld {i : Int} {K : Addr -> Prop} (h : NV w0 s N) (hf : Fr F0 w0 w) (i' : Nat) (hi : i = (i' : Int)) (h1 : i' < N.length)
  (hK : ∀ (a : Addr) (nx : Sl), VI w0 nx N[i'].next -> (w.cell? (a.add (i.toNat * 4)) = some (.int .i64 N[i'].lot) /\ w.cell? ((a.add (i.toNat * 4)).add 1) = some (.int .i64 N[i'].num) /\ w.cell? ((a.add (i.toNat * 4)).add 2) = some (.int .i64 N[i'].den) /\ w.cell? ((a.add (i.toNat * 4)).add 3) = some (.slice nx.p nx.l nx.c)) -> K a) :
  nz s.p fun a => (0 <= i /\ i < (s.l : Nat)) /\ K a := by
 subst hi
 have hl := h.len
 obtain ⟨⟨cs, hv, hcl, hn⟩, _⟩ := h
 have h2 : i' < cs.length := by omega
 obtain ⟨⟨e1, e2, e3⟩, hx, _⟩ := hn i' _ _ (List.getElem?_eq_getElem h2) (List.getElem?_eq_getElem h1)
 obtain ⟨ad, hp, hc⟩ := (hv.fr hf).at (fun a => encN_length a) (List.getElem?_eq_getElem h2) (by decide)
 rw [hp]
 refine ⟨⟨by omega, by omega⟩, hK _ cs[i'].nx hx ⟨?_, ?_, ?_, ?_⟩⟩
 ·rw [← e1]; exact hc 0 _ rfl
 ·rw [← e2]; exact hc 1 _ rfl
 ·rw [← e3]; exact hc 2 _ rfl
 ·exact hc 3 _ rfl
theorem NV.i64 (h : NV w s N) {x : Nd} (hx : x ∈ N) : I64 x.num /\ I64 x.den := by
 obtain ⟨⟨cs, hv, hcl, hn⟩, _⟩ := h
 obtain ⟨i, hi, rfl⟩ := List.mem_iff_getElem.1 hx
 obtain ⟨_, _, h2, h3⟩ := hn i _ _ (List.getElem?_eq_getElem (by omega)) (List.getElem?_eq_getElem hi)
 exact ⟨h2, h3⟩
theorem kidsB_len {W : List Int -> Int -> List Bool -> Bool × List Bool} {n : Int} {f : List Int} {c : Nat} (hW : ∀ g k seen, seen.length = c -> (W g k seen).2.length = c) : ∀ (os ks : List Int) (seen : List Bool), seen.length = c -> (kidsB W n f os ks seen).2.length = c
 | [], [], _, h => h
 | [], _ :: _, _, h => h
 | _ :: _, [], _, h => h
 | o :: os, k :: ks, seen, h => by
  unfold kidsB
  split
  ·exact h
  ·split
   ·exact kidsB_len hW os ks _ (hW _ _ _ h)
   ·exact hW _ _ _ h
theorem walkB_len {p : Pr} {T : List Int} {c : Nat} : ∀ (ls f : List Int) (n : Int) (seen : List Bool), seen.length = c -> (walkB p N T ls f n seen).2.length = c := by
 intro ls
 induction ls with
 | nil =>
  intro f n seen h
  unfold walkB
  split
  ·exact h
  ·split
   ·exact h
   ·split <;> simpa using h
 | cons lot ls ih =>
  intro f n seen h
  unfold walkB
  split
  ·exact h
  ·split
   ·exact h
   ·split
    ·simpa using h
    ·simp only
     split
     ·simpa using h
     ·exact kidsB_len ih _ _ _ (by simpa using h)
end
section
variable {w w' w0 : World} {s0 s1 s2 t5 ns : Sl} {p : Pr} {T : List Int} {N : List Nd} {pts bnd : Int}
abbrev rsC (t5 : Sl) (pts bnd : Int) (ns : Sl) : List Value := [.slice t5.p t5.l t5.c, .int .i64 pts, .int .i64 bnd, .slice ns.p ns.l ns.c]
def WalkOk (w0 : World) (s0 s1 s2 : Sl) (p : Pr) (t5 : Sl) (T : List Int) (pts bnd : Int) (ns : Sl) (N : List Nd) (ls : List Int) : Prop :=
 ∀ (ds f : List Int) (n : Int) (seen : List Bool) (w : World) (s5 sn : Sl) (K : Bool -> World -> Prop), Mk w0 1 be w sn seen -> seen.length = N.length -> p.lots = ds ++ ls -> f.length = ds.length -> Decs p p.lots f -> VI w s5 f -> (∀ b, inB s5 b -> ¬ inB sn b) ->
  (∀ w', Mk w0 1 be w' sn (walkB p N T ls f n seen).2 -> Fr (inB sn) w w' -> K (walkB p N T ls f n seen).1 w') -> z29_sh s0 s1 s2 p.most p.budget t5 pts bnd ns n s5 sn K w
theorem decs_snoc {p : Pr} : ∀ {ds ls f : List Int} {lot o : Int}, Decs p (ds ++ lot :: ls) f -> f.length = ds.length -> Dec p lot o -> Decs p (ds ++ lot :: ls) (f ++ [o])
 | [], ls, [], lot, o, _, _, ho => ⟨ho, by cases ls <;> trivial⟩
 | [], _, _ :: _, _, _, _, h, _ => by simp at h
 | _ :: _, _, [], _, _, _, h, _ => by simp at h
 | d :: ds, ls, x :: f, lot, o, h, hl, ho => ⟨h.1, decs_snoc h.2 (by simpa using hl) ho⟩
theorem walk_step (hp : RightPr p) (hP0 : PV w0 s0 s1 s2 p) (hT0 : VI w0 t5 T) (hfit : fitsB p T = true) (hN0 : NV w0 ns N) (ls : List Int)
  (hIH : ∀ lot ls', ls = lot :: ls' -> WalkOk w0 s0 s1 s2 p t5 T pts bnd ns N ls') : WalkOk w0 s0 s1 s2 p t5 T pts bnd ns N ls := by
 intro ds f n seen w s5 sn K hm hsl hlots hfl hd hv hdj hK
 have e0 := hP0.lots.len
 have e5 := hv.len
 have en := hN0.len
 have hNl := hN0.lt
 have hfew := hp.few
 have hTl : T.length < 2 ^ 63 := by have := fitsB_decs hfit; have := decs_len this; omega
 have hsb : ∀ {b}, inB sn b -> b < w.heap.size := fun hb => hm.ow.lt' hb
 have hend : ∀ {u : World} {r : Bool × List Bool}, walkB p N T ls f n seen = r -> Mk w0 1 be u sn r.2 -> Fr (inB sn) w u -> K r.1 u := fun {u r} e hu hf => by
  have := hK u (e ▸ hu) hf
  rwa [e] at this
 apply z29_mk
 unfold z29_sd
 intro w1
 have m : Mem w0 w1 _ := (Mem.nil.fr hm.fr0).allocL (cs := prC s0 s1 s2 p.most p.budget)
 have hf1 : Fr F0 w w1 := Fr.alloc
 clear_value w1
 intro w2
 have m : Mem w0 w2 [(w1.heap.size, rsC t5 pts bnd ns), (w.heap.size, prC s0 s1 s2 p.most p.budget)] := m.allocL (cs := rsC t5 pts bnd ns)
 have hf2 : Fr F0 w w2 := hf1.t Fr.alloc
 have hsz1 : w.heap.size <= w1.heap.size := hf1.1
 clear_value w2
 have hm2 := hm.fr hf2
 refine cnd_prop.2 ⟨fun hneg => hend (r := (false, seen)) ?_ hm2 hf2.any, fun hpos => ?_⟩
 ·unfold walkB
  rw [if_neg (by omega)]
 refine ⟨ns, m.ld 0 rfl rfl, cnd_prop.2 ⟨fun hge => hend (r := (false, seen)) ?_ hm2 hf2.any, fun hlt => ?_⟩⟩
 ·unfold walkB
  rw [if_pos (by omega), List.getElem?_eq_none (by omega)]
 obtain ⟨n, rfl⟩ := Int.eq_ofNat_of_zero_le (show 0 <= n by omega)
 have hnN : n < N.length := by omega
 have hns : n < seen.length := by omega
 have hw : walkB p N T ls f (n : Int) seen = if seen[n] then (false, seen) else
   if N[n].next = [] then (closedB p f N[n].num N[n].den T, seen.set n true) else
   match (generalizing := false) ls with
   | [] => (false, seen.set n true)
   | lot :: ls => if N[n].lot ≠ f.length \/ N[n].next.length ≠ (opts p lot).length then (false, seen.set n true)
    else kidsB (walkB p N T ls) n f (opts p lot) N[n].next (seen.set n true) := by
  have h0 : (0 : Int) <= (n : Int) := by omega
  rw [walkB.eq_def]
  simp only [h0, if_true, Int.toNat_natCast, List.getElem?_eq_getElem hnN, List.getD_eq_getElem?_getD, List.getElem?_eq_getElem hns, Option.getD_some]
 refine be_ld hm2.vw n rfl hns (cnd_iff.2 ⟨fun hs => hend (r := (false, seen)) ?_ hm2 hf2.any, fun hs => ?_⟩)
 ·rw [hw, if_pos hs]
 rw [hw, if_neg (by rw [hs]; decide)] at hend
 obtain ⟨ad, hsp, hb, hwr, hst⟩ := be_st hm2 n rfl hns
 refine nz_iff.2 ⟨ad, hsp, hb, hwr, ?_⟩
 intro w7
 obtain ⟨hm7, hf7⟩ : Mk w0 1 be w7 sn (seen.set n true) /\ Fr (inB sn) w2 w7 := hst true
 have hrows : ∀ q ∈ [(w1.heap.size, rsC t5 pts bnd ns), (w.heap.size, prC s0 s1 s2 p.most p.budget)], ¬ inB sn q.1 := fun q hq hb => by
  have := hsb hb
  simp only [List.mem_cons, List.not_mem_nil, or_false] at hq
  rcases hq with rfl | rfl <;> simp only at this <;> omega
 have m : Mem w0 w7 _ := m.frF hf7 hrows hm.nw
 have hF7 : Fr (inB sn) w w7 := (hf2.any).comp hf7
 have hv7 : VI w7 s5 f := (hv.fr hf2).frF hf7 hdj
 clear_value w7
 refine ⟨ns, m.ld 0 rfl rfl, hN0.ld hm7.fr0 n rfl hnN fun a nx hnx hc => ?_⟩
 obtain ⟨c0, c1, c2, c3⟩ := hc
 obtain ⟨i1, i2⟩ := hN0.i64 (List.getElem_mem hnN)
 have enx := hnx.len
 refine ⟨_, c0, _, c1, _, c2, nx, c3, ?_⟩
 have hF8 : Fr F0 w7 w7 := Fr.refl
 refine stN_new (w0 := w7) (l := []) rfl Mem.nil fun w15 m15 => ?_
 have m : Mem w0 w15 [(w7.heap.size, [.int .i64 N[n].lot, .int .i64 N[n].num, .int .i64 N[n].den, .slice nx.p nx.l nx.c]), (w1.heap.size, rsC t5 pts bnd ns), (w.heap.size, prC s0 s1 s2 p.most p.budget)] := by
  refine ⟨m.1.t m15.1, fun q hq => ?_, ?_, fun q hq => ?_⟩
  ·rcases List.mem_cons.1 hq with rfl | hq
   ·exact m15.row 0 rfl
   ·exact m15.1.row (m.2.1 q hq) fun h => h
  ·have := m.2.2.1
   simp only [List.map_cons, List.pairwise_cons] at this ⊢
   refine ⟨fun b hb => ?_, this⟩
   have h1 := (m.row 0 rfl).lt
   have h2 := (m.row 1 rfl).lt
   simp only [List.mem_cons, List.map_nil, List.not_mem_nil, or_false] at hb
   rcases hb with rfl | rfl <;> omega
  ·rcases List.mem_cons.1 hq with rfl | hq
   ·exact m.1.1
   ·exact m.2.2.2 q hq
 have hm15 := hm7.fr m15.1
 have hF15 : Fr (inB sn) w w15 := hF7.comp m15.1.any
 have hv15 := hv7.fr m15.1
 have hm0 := hP0
 have pf15 : ∀ {u}, Fr F0 w15 u -> PF u s0 s1 s2 s5 p f := fun hu => ⟨hP0.fr (m.1.t hu), hv15.fr hu, by have := decs_len hd; omega⟩
 refine ⟨nx, m.ld 0 rfl rfl, cnd_beq.2 ⟨fun hz => ?_, fun hnz => ?_⟩⟩
 ·have hz' : N[n].next = [] := List.length_eq_zero_iff.1 (by omega)
  refine ⟨s0, m.ld 2 rfl rfl, s1, m.ld 2 rfl rfl, s2, m.ld 2 rfl rfl, _, m.ld 2 rfl rfl, _, m.ld 2 rfl rfl, _, m.ld 0 rfl rfl, _, m.ld 0 rfl rfl, t5, m.ld 1 rfl rfl, ?_⟩
  exact closed_spec hp (pf15 Fr.refl) hd ⟨hP0.fr m.1, hT0.fr m.1, hTl⟩ hfit i1 i2 fun w25 hf => hend (r := (_, seen.set n true)) (if_pos hz') (hm15.fr hf) (hF15.comp hf.any)
 rw [if_neg (fun h => hnz (by rw [enx, h]; rfl))] at hend
 have hl2 : p.lots.length = ds.length + ls.length := by rw [hlots]; simp
 refine ⟨s0, m.ld 2 rfl rfl, cnd_prop.2 ⟨fun hge => ?_, fun hlt2 => ?_⟩⟩
 ·have hge : (s5.l : Int) >= (s0.l : Int) := hge
  have : ls = [] := List.length_eq_zero_iff.1 (by omega)
  subst this
  exact hend (r := (false, seen.set n true)) rfl hm15 hF15
 have hlt2 : ¬ (s5.l : Int) >= (s0.l : Int) := hlt2
 cases ls with
 | nil => simp at hl2; omega
 | cons lot ls =>
 have ih := hIH lot ls rfl
 simp only at hend
 refine ⟨_, m.ld 0 rfl rfl, cnd_bne.2 ⟨fun hne => hend (r := (false, seen.set n true)) (if_pos (.inl (by have hne : N[n].lot ≠ (s5.l : Int) := hne; omega))) hm15 hF15, fun hloteq => ?_⟩⟩
 have hloteq : N[n].lot = (s5.l : Int) := hloteq
 refine ⟨s0, m.ld 2 rfl rfl, s1, m.ld 2 rfl rfl, s2, m.ld 2 rfl rfl, _, m.ld 2 rfl rfl, _, m.ld 2 rfl rfl, ?_⟩
 refine refoptions_mk (k := s5.l) (hP0.fr m.1) (by omega) fun w34 sl hsl34 => ?_
 have hlot : p.lots[s5.l]'(by omega) = lot := by
  have : p.lots[s5.l]? = some lot := by rw [hlots, e5, hfl]; simp
  rw [List.getElem?_eq_getElem (by omega)] at this
  exact Option.some.inj this
 rw [hlot] at hsl34
 have hf34 := hsl34.fr0
 have m := m.fr hf34
 have hm34 := hm15.fr hf34
 have hF34 : Fr (inB sn) w w34 := hF15.comp hf34.any
 have hv34 := hv15.fr hf34
 have esl := hsl34.vw.len
 have hol := opts_len p lot
 have hchs := hp.chs
 have hslj : ∀ b, inB sl b -> ¬ inB sn b := fun b hb hb' => by have := hsl34.nw b hb; have := hsb hb'; have := hF15.1; omega
 refine ⟨nx, m.ld 0 rfl rfl, cnd_bne.2 ⟨fun hne => hend (r := (false, seen.set n true)) (if_pos (.inr (by omega))) hm34 hF34, fun hleneq => ?_⟩⟩
 rw [if_neg (by rintro (q | q) <;> omega)] at hend
 have hln : N[n].next.length = (opts p lot).length := by omega
 generalize hos : opts p lot = os at *
 generalize hks : N[n].next = ks at *
 have hx0 : w.heap.size <= w34.heap.size := hF34.1
 have hrows34 : ∀ q ∈ [(w7.heap.size, [Value.int .i64 N[n].lot, .int .i64 N[n].num, .int .i64 N[n].den, .slice nx.p nx.l nx.c]), (w1.heap.size, rsC t5 pts bnd ns), (w.heap.size, prC s0 s1 s2 p.most p.budget)], ¬ inB sn q.1 := fun q hq hb => by
  have := hsb hb
  have := hF7.1
  simp only [List.mem_cons, List.not_mem_nil, or_false] at hq
  rcases hq with rfl | rfl | rfl <;> simp only at this <;> omega
 have hS : ∀ {u}, Fr F0 w0 u -> Fr (inB sn) w34 u -> Rs u [(w7.heap.size, [.int .i64 N[n].lot, .int .i64 N[n].num, .int .i64 N[n].den, .slice nx.p nx.l nx.c]), (w1.heap.size, rsC t5 pts bnd ns), (w.heap.size, prC s0 s1 s2 p.most p.budget)] /\ VI u sl os /\ VI u nx ks :=
  fun {u} h0 hu => ⟨fun q hq => hu.row (m.2.1 q hq) (hrows34 q hq), hsl34.vw.frF hu hslj, hnx.fr h0⟩
 refine ⟨⟨fun i u => ∃ (i' : Nat) (sq : List Bool), i = i' /\ i' <= os.length /\ sq.length = N.length /\ Mk w0 1 be u sn sq /\ Fr (inB sn) w34 u /\ kidsB (walkB p N T ls) n f (os.drop i') (ks.drop i') sq = kidsB (walkB p N T ls) n f os ks (seen.set n true), fun i _ => os.length - i.toNat,
  ⟨0, seen.set n true, rfl, by omega, by simp [hsl], hm34, Fr.refl, rfl⟩, ?_⟩⟩
 rintro i u1 ⟨i, sq, rfl, hi, hsq, hmq, hFq, he⟩
 unfold z29_b0
 refine cnd_prop.2 ⟨fun hlt3 => ?_, fun hge3 => ?_⟩
 ·have hio : i < os.length := by omega
  have hik : i < ks.length := by omega
  rw [List.drop_eq_getElem_cons hio, List.drop_eq_getElem_cons hik, kidsB] at he
  intro w37
  have hm37 : Mk w0 1 be w37 sn sq := hmq.fr Fr.drew
  have hF37 : Fr (inB sn) w34 w37 := hFq.comp Fr.drew
  clear_value w37
  refine ⟨fun u => Rs u [(w7.heap.size, [.int .i64 N[n].lot, .int .i64 N[n].num, .int .i64 N[n].den, .slice nx.p nx.l nx.c]), (w1.heap.size, rsC t5 pts bnd ns), (w.heap.size, prC s0 s1 s2 p.most p.budget)] /\ VI u sl os /\ VI u nx ks, hS hm37.fr0 hF37, nx, fun u hu => hu.1.ld 0 rfl rfl, ?_⟩
  obtain ⟨ka, hkp, _⟩ := (hS hm37.fr0 hF37).2.2.at (fun a => ie_length _ _ a) (List.getElem?_eq_getElem hik) (by decide)
  obtain ⟨oa, hop, _⟩ := (hS hm37.fr0 hF37).2.1.at (fun a => ie_length _ _ a) (List.getElem?_eq_getElem hio) (by decide)
  have hkc : ∀ u, VI u nx ks -> u.cell? (ka.add ((i : Int).toNat * 1)) = some (.int .i64 ks[i]) := fun u hu => by
   obtain ⟨ad', hp'', hc⟩ := hu.at (fun a => ie_length _ _ a) (List.getElem?_eq_getElem hik) (by decide)
   rw [hkp] at hp''
   cases hp''
   exact hc 0 _ rfl
  have hoc : ∀ u, VI u sl os -> u.cell? (oa.add ((i : Int).toNat * 1)) = some (.int .i64 os[i]) := fun u hu => by
   obtain ⟨ad', hp'', hc⟩ := hu.at (fun a => ie_length _ _ a) (List.getElem?_eq_getElem hio) (by decide)
   rw [hop] at hp''
   cases hp''
   exact hc 0 _ rfl
  refine nz_iff.2 ⟨ka, hkp, ⟨by omega, by omega⟩, ks[i], fun u hu => hkc u hu.2.2, cnd_prop.2 ⟨fun hle => ?_, fun hgt => ?_⟩⟩
  ·rw [if_pos hle] at he
   exact hend (r := (false, sq)) he.symm hm37 (hF34.comp hF37)
  rw [if_neg hgt] at he
  refine ⟨s0, fun u hu => hu.1.ld 2 rfl rfl, s1, fun u hu => hu.1.ld 2 rfl rfl, s2, fun u hu => hu.1.ld 2 rfl rfl, _, fun u hu => hu.1.ld 2 rfl rfl, _, fun u hu => hu.1.ld 2 rfl rfl, t5, fun u hu => hu.1.ld 1 rfl rfl, _, fun u hu => hu.1.ld 1 rfl rfl, _, fun u hu => hu.1.ld 1 rfl rfl, ns, fun u hu => hu.1.ld 1 rfl rfl, nx, fun u hu => hu.1.ld 0 rfl rfl, ?_⟩
  have hdo : Dec p lot os[i] := opts_mem.1 (by rw [hos]; exact List.getElem_mem hio)
  have hv37 : VI w37 s5 f := hv34.frF hF37 hdj
  have hal : ∀ {u}, Fr F0 w37 u -> Rs u _ /\ VI u sl os /\ VI u nx ks := fun hu => hS (hm37.fr0.t hu) (hF37.comp hu.any)
  have hsb37 : ∀ {b}, inB sn b -> b < w37.heap.size := fun hb => hm37.ow.lt' hb
  have hrec : ∀ {u : World} {r : Sl} {K' : Bool -> World -> Prop}, Mk w37 1 (ie .i64 (id : Int -> Int)) u r (f ++ [os[i]]) -> (∀ w' b, (Rs w' [(w7.heap.size, [.int .i64 N[n].lot, .int .i64 N[n].num, .int .i64 N[n].den, .slice nx.p nx.l nx.c]), (w1.heap.size, rsC t5 pts bnd ns), (w.heap.size, prC s0 s1 s2 p.most p.budget)] /\ VI w' sl os /\ VI w' nx ks) -> Mk w0 1 be w' sn (walkB p N T ls (f ++ [os[i]]) ks[i] sq).2 -> Fr (inB sn) w34 w' -> b = (walkB p N T ls (f ++ [os[i]]) ks[i] sq).1 -> K' b w') -> z29_sh s0 s1 s2 p.most p.budget t5 pts bnd ns ks[i] r sn K' u := fun {u r K'} hr hk =>
   ih (ds ++ [lot]) (f ++ [os[i]]) ks[i] sq u r sn K' (hm37.fr hr.fr0) hsq (by rw [hlots]; simp) (by simp [hfl]) (by rw [hlots]; exact decs_snoc (hlots ▸ hd) hfl hdo) hr.vw (fun b hb hb' => by have := hr.nw b hb; have := hsb37 hb'; omega) fun w' hm' hf' =>
    hk w' _ (hS hm'.fr0 ((hF37.comp hr.fr0.any).comp hf')) hm' ((hF37.comp hr.fr0.any).comp hf') rfl
  have hfin : ∀ {w' : World} {b : Bool}, Mk w0 1 be w' sn (walkB p N T ls (f ++ [os[i]]) ks[i] sq).2 -> Fr (inB sn) w34 w' -> b = (walkB p N T ls (f ++ [os[i]]) ks[i] sq).1 -> ((!b) = true -> K false w') /\ ((!b) = false -> inR .i64 ((i : Int) + 1) /\ (((n : Int) = n /\ s5 = s5 /\ sn = sn /\ (⟨w.heap.size, 0, none⟩ : Addr) = ⟨w.heap.size, 0, none⟩ /\ (⟨w1.heap.size, 0, none⟩ : Addr) = ⟨w1.heap.size, 0, none⟩ /\ (⟨w7.heap.size, 0, none⟩ : Addr) = ⟨w7.heap.size, 0, none⟩ /\ sl = sl /\ True) /\
    ∃ (i' : Nat) (sq : List Bool), (i : Int) + 1 = i' /\ i' <= os.length /\ sq.length = N.length /\ Mk w0 1 be w' sn sq /\ Fr (inB sn) w34 w' /\ kidsB (walkB p N T ls) n f (os.drop i') (ks.drop i') sq = kidsB (walkB p N T ls) n f os ks (seen.set n true)) /\ os.length - ((i : Int) + 1).toNat < os.length - (i : Int).toNat) := fun {w' b} hm' hF' hb => by
   refine ⟨fun hnb => ?_, fun hyb => ⟨inR64 (by omega) (by omega), ⟨⟨rfl, rfl, rfl, rfl, rfl, rfl, rfl, trivial⟩, i + 1, _, by omega, by omega, walkB_len _ _ _ _ hsq, hm', hF', ?_⟩, by omega⟩⟩
   ·rw [if_neg (by rw [← hb]; cases b; decide; cases hnb)] at he
    exact hend (r := (false, _)) he.symm hm' (hF34.comp hF')
   ·rw [if_pos (by rw [← hb]; cases b; cases hyb; rfl)] at he
    exact he
  refine nz_iff.2 ⟨ka, hkp, ⟨by omega, by omega⟩, ks[i], fun u hu => hkc u hu.2.2, nz_iff.2 ⟨oa, hop, ⟨by omega, by omega⟩, os[i], fun u hu => hoc u hu.2.1, ?_, ?_⟩⟩
  ·intro w56
   have h : Sp w37 w56 [] _ _ _ _ _ _ := Sp.empty (α := Int) (n := 1) (enc := ie .i64 (id : Int -> Int)) (fun a => ie_length _ _ a) Mem.nil
   clear_value w56
   refine ⟨hal h.m.1, ?_, ?_⟩
   ·refine h.app (hv37.fr h.m.1) (ie_ok _ _) rfl (by simp; omega) (by simp; omega) fun s30 w31 h => ⟨hal h.m.1, ?_⟩
    rw [List.nil_append] at h
    intro w32
    refine ⟨hal (h.fr (Fr.alloc : Fr F0 w31 w32)).m.1, h.push (a := os[i]) rfl rfl (ie_ok _ _) rfl (by omega) (by omega) fun s33 w34' h => ⟨hal h.m.1, hrec h.mk'' fun w' b hs hm' hF' hb => ⟨hs, ?_⟩⟩⟩
    obtain ⟨g1, g2⟩ := hfin hm' hF' hb
    exact cnd_iff.2 ⟨g1, g2⟩
   ·intro w37'
    have h : Sp w37 w37' _ _ _ _ _ _ _ := h.allocL (vs := ([os[i]] : List Int).map (Value.int .i64))
    clear_value w37'
    refine ⟨hal h.m.1, h.app (hv37.fr h.m.1) (ie_ok _ _) rfl (by simp; omega) (by simp; omega) fun s38 w39 h => ⟨hal h.m.1, ?_⟩⟩
    rw [List.nil_append] at h
    refine h.app (m := [os[i]]) (Ow.row (l := [os[i]]) (h.row 0 rfl)).vw (ie_ok _ _) rfl (by simp; omega) (by simp; omega) fun s40 w41 h => ⟨hal h.m.1, hrec h.mk'' fun w' b hs hm' hF' hb => ⟨hs, ?_⟩⟩
    obtain ⟨g1, g2⟩ := hfin hm' hF' hb
    exact cnd_iff.2 ⟨g1, g2⟩
  ·intro w44
   have m : Mem w37 w44 _ := Mem.nil.allocL (cs := ([os[i]] : List Int).map (Value.int .i64))
   clear_value w44
   refine ⟨hal m.1, ?_⟩
   intro w45
   have h : Sp w37 w45 _ _ _ _ _ _ _ := Sp.empty (α := Int) (n := 1) (enc := ie .i64 (id : Int -> Int)) (fun a => ie_length _ _ a) m
   clear_value w45
   refine ⟨hal h.m.1, h.app (hv37.fr h.m.1) (ie_ok _ _) rfl (by simp; omega) (by simp; omega) fun s46 w47 h => ⟨hal h.m.1, ?_⟩⟩
   rw [List.nil_append] at h
   refine h.app (m := [os[i]]) (Ow.row (l := [os[i]]) (h.row 0 rfl)).vw (ie_ok _ _) rfl (by simp; omega) (by simp; omega) fun s48 w49 h => ⟨hal h.m.1, hrec h.mk'' fun w' b hs hm' hF' hb => ⟨hs, ?_⟩⟩
   obtain ⟨g1, g2⟩ := hfin hm' hF' hb
   exact cnd_iff.2 ⟨g1, g2⟩
 ·have : i = os.length := by omega
  subst this
  rw [List.drop_length, kidsB.eq_def] at he
  simp only at he
  exact hend (r := (true, sq)) he.symm hmq (hF34.comp hFq)
end
end Go.Proofs.YtmkjcheafdionaaGreat
