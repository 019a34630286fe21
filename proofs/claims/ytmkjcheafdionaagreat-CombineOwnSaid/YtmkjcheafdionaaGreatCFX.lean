/- CombineProofs and CombineGaps. Conditions: none. -/
import Derived.Test.YtmkjcheafdionaaGreatCU4
import Derived.Test.YtmkjcheafdionaaGreatCEY
import Derived.Test.YtmkjcheafdionaaGreatCF3
import Derived.Test.YtmkjcheafdionaaGreatCG6
namespace Go.Proofs.YtmkjcheafdionaaGreat
open Go Pw
section
variable {w wB wM : World} {s t s0 s1 s2 n1 ns : Sl} {l a T : List Int} {p : Pr} {pb rb : Nat} {bnd work : Int} {cs : List NdC} {N : List Nd} {L : List (Nat × List Value)}
theorem V.reb (m : Mem wM wB L) (h : V wB w [] [] [] ns t T cs N) : V wM w L [] [] ns t T cs N := by
 have hlt : ∀ q ∈ L, q.1 < wB.heap.size := fun q hq => (m.2.1 q hq).lt
 exact ⟨m.fr h.m.1, fun _ hx => (by cases hx), h.ow, h.tv, h.nv, fun q hq => ⟨fun hb => by have := h.n0 _ hb; have := hlt q hq; omega, fun hb => by have := h.n1 _ hb; have := hlt q hq; omega, fun c hc hb => by have := h.n2 c hc _ hb; have := hlt q hq; omega⟩,
  fun _ hx => (by cases hx), h.a3, fun b hb => Nat.le_trans m.1.1 (h.n0 b hb), fun b hb => Nat.le_trans m.1.1 (h.n1 b hb), fun c hc b hb => Nat.le_trans m.1.1 (h.n2 c hc b hb), h.a4, fun _ ho => (by cases ho)⟩
end
end Go.Proofs.YtmkjcheafdionaaGreat
namespace Pw
open Go
def Xw (w : World) (s : Sl) : Prop := s.l = 0 \/ ∃ b vs, s.p = some ⟨b, 0, none⟩ /\ Row w b vs /\ s.l <= vs.length
theorem Xw.ofOw {w : World} {s : Sl} {l : List Int} (h : Ow 1 (ie .i64 (id : Int -> Int)) w s l) : Xw w s := by
 obtain ⟨hl, hown⟩ := h
 obtain ⟨hlen, hnil | ⟨b, cs, hp, hrow, hcs, hle, ht⟩⟩ := hown
 ·exact .inl hnil.2.1
 ·exact .inr ⟨b, cs, hp, hrow, by omega⟩
theorem Xw.set {w : World} {s : Sl} {b i : Nat} {v : Value} (h : Xw w s) : Xw (w.setCell ⟨b, i, none⟩ v) s := by
 rcases h with h | ⟨c, vs, hp, hrow, hle⟩
 ·exact .inl h
 ·by_cases e : b = c
  ·subst e
   exact .inr ⟨b, _, hp, hrow.set i v, by simpa using hle⟩
  ·exact .inr ⟨c, vs, hp, hrow.congr (heap_set_ne e), hle⟩
end Pw
namespace Go.Proofs.YtmkjcheafdionaaGreat
open Go Pw
section
variable {w wB wM w0 : World} {s t s0 s1 s2 ns sw : Sl} {l T : List Int} {p : Pr} {pb rb : Nat} {x1 x2 : Int} {cs : List NdC} {N : List Nd}
structure OwI (wB u : World) (t ns : Sl) (cs : List NdC) : Prop where
 fr : Fr (fun b => inB t b \/ ∃ c ∈ cs, inB c.nx b) wB u
 xt : Xw u t
 xn : ∀ c ∈ cs, Xw u c.nx
theorem OwI.set {b i : Nat} {v : Value} {u : World} (h : OwI wB u t ns cs) (hb : inB t b \/ ∃ c ∈ cs, inB c.nx b) : OwI wB (u.setCell ⟨b, i, none⟩ v) t ns cs :=
 ⟨h.fr.comp (Fr.set hb), h.xt.set, fun c hc => (h.xn c hc).set⟩
theorem Own_l0 {K : Bool -> World -> Prop} (hv : VI w0 s l) (hl : l.length < 2 ^ 63) (hP : PV w0 s0 s1 s2 (madeP l)) (hB : Fr F0 w0 wB) (hpr : Row wB pb (prC s0 s1 s2 (madeP l).most (madeP l).budget)) (hrr : Row wB rb (rsC t x1 x2 ns)) (hw : VI wB sw T)
  (hA : IsBest (madeP l) T) (htl : t.l = T.length) (hns : Vw 4 encN wB ns cs) (hcl : cs.length < 2 ^ 40) (hnl : ∀ c ∈ cs, c.nx.l < 2 ^ 40) (hX : OwI wB wB t ns cs)
  (hF : ∀ b, (inB t b \/ ∃ c ∈ cs, inB c.nx b) -> w0.heap.size <= b /\ b ≠ pb /\ b ≠ rb /\ ¬ inB sw b /\ ¬ inB ns b) (hK : ∀ w', Fr F0 w0 w' -> K true w') :
  z0d_l0 s true ⟨pb, 0, none⟩ (prefN (madeP l) (madeP l).lots : Nat) ⟨rb, 0, none⟩ sw 0 K wB := by
 have hpn := made_prefN l
 have hp := madeP_right l
 have hfew := hp.few
 have hT12 : T.length <= 12 := by rw [hA.1.1]; exact hfew
 have hwk : Wi (prefN (madeP l) (madeP l).lots : Nat) 1048576 := ⟨by omega, by omega⟩
 have gF : ∀ {u}, OwI wB u t ns cs -> Fr F0 w0 u := fun {u} h => hB.trans h.fr fun b hb hlt => absurd (hF b hb).1 (by omega)
 have gp : ∀ {u}, OwI wB u t ns cs -> Row u pb (prC s0 s1 s2 (madeP l).most (madeP l).budget) := fun {u} h => h.fr.row hpr fun hb => (hF _ hb).2.1 rfl
 have gr : ∀ {u}, OwI wB u t ns cs -> Row u rb (rsC t x1 x2 ns) := fun {u} h => h.fr.row hrr fun hb => (hF _ hb).2.2.1 rfl
 have gw : ∀ {u}, OwI wB u t ns cs -> VI u sw T := fun {u} h => hw.frF h.fr fun b hb hf => (hF _ hf).2.2.2.1 hb
 have gn : ∀ {u}, OwI wB u t ns cs -> Vw 4 encN u ns cs := fun {u} h => hns.frF h.fr fun b hb hf => (hF _ hf).2.2.2.2 hb
 have el := hns.len
 have hst : ∀ {u : World} {q : Sl} {i : Nat}, OwI wB u t ns cs -> Xw u q -> i < q.l -> (∀ b, inB q b -> inB t b \/ ∃ c ∈ cs, inB c.nx b) -> ∃ ad, q.p = some ad /\ wrOk u (ad.add ((i : Int).toNat * 1)) /\ ∀ v, OwI wB (u.setCell (ad.add ((i : Int).toNat * 1)) v) t ns cs := by
  intro u q i h hq hi hb
  rcases hq with hq | ⟨c, vs, hqp, hrow, hle⟩
  ·omega
  ·refine ⟨_, hqp, ?_⟩
   simp only [add_mk, Nat.mul_one, Nat.zero_add, Int.toNat_natCast]
   exact ⟨hrow.wr (by omega), fun v => h.set (hb c ⟨_, hqp, rfl⟩)⟩
 have hend : ∀ {u}, OwI wB u t ns cs -> Fr F0 w0 u := gF
 refine ⟨⟨fun i u => ∃ i' : Nat, i = i' /\ i' <= T.length /\ OwI wB u t ns cs, fun i _ => T.length - i.toNat, ⟨0, rfl, by omega, hX⟩, ?_⟩⟩
 rintro i u ⟨i, rfl, hi, h⟩
 unfold z0d_b0
 refine ⟨t, (gr h).at rfl, cnd_prop.2 ⟨fun hlt => ?_, fun hge => ?_⟩⟩
 ·obtain ⟨ad, hap, hwr, hset⟩ := hst h h.xt (i := i) (by omega) fun b hb => .inl hb
  refine ⟨t, (gr h).at rfl, nz_iff.2 ⟨ad, hap, ⟨by omega, by omega⟩, hwr, ?_⟩⟩
  exact ⟨inR64 (by omega) (by omega), ⟨⟨rfl, rfl, rfl, rfl, rfl, rfl, trivial⟩, i + 1, by omega, by omega, hset _⟩, by dsimp only; omega⟩
 refine ⟨⟨fun i u => ∃ i' : Nat, i = i' /\ i' <= cs.length /\ OwI wB u t ns cs, fun i _ => cs.length - i.toNat, ⟨0, rfl, by omega, h⟩, ?_⟩⟩
 clear h hge hi i
 rintro i u ⟨i, rfl, hi, h⟩
 unfold z0d_b1
 refine ⟨ns, (gr h).at rfl, cnd_prop.2 ⟨fun hlt => ?_, fun hge => ?_⟩⟩
 ·have hic : i < cs.length := by omega
  have hcm : cs[i] ∈ cs := List.getElem_mem hic
  have hcl2 := hnl _ hcm
  have hnd : ∀ {u}, OwI wB u t ns cs -> ∃ ad, ns.p = some ad /\ u.cell? ((ad.add ((i : Int).toNat * 4)).add 3) = some (.slice cs[i].nx.p cs[i].nx.l cs[i].nx.c) := fun {u} h => by
   obtain ⟨ad, hap, hc⟩ := (gn h).at (fun a => encN_length a) (List.getElem?_eq_getElem hic) (by decide)
   exact ⟨ad, hap, hc 3 _ rfl⟩
  refine ⟨⟨fun k u => ∃ k' : Nat, k = k' /\ k' <= cs[i].nx.l /\ OwI wB u t ns cs, fun k _ => cs[i].nx.l - k.toNat, ⟨0, rfl, by omega, h⟩, ?_⟩⟩
  clear h
  rintro k u ⟨k, rfl, hk, h⟩
  unfold z0d_b2
  obtain ⟨ad, hap, hc⟩ := hnd h
  refine ⟨ns, (gr h).at rfl, nz_iff.2 ⟨ad, hap, ⟨by omega, by omega⟩, cs[i].nx, hc, cnd_prop.2 ⟨fun hlt2 => ?_, fun hge2 => ⟨inR64 (by omega) (by omega), ⟨⟨rfl, rfl, rfl, rfl, rfl, rfl, trivial⟩, i + 1, by omega, by omega, h⟩, by dsimp only; omega⟩⟩⟩⟩
  obtain ⟨a2, hap2, hwr, hset⟩ := hst h (h.xn _ hcm) (i := k) (by omega) fun b hb => .inr ⟨_, hcm, hb⟩
  refine ⟨ns, (gr h).at rfl, nz_iff.2 ⟨ad, hap, ⟨by omega, by omega⟩, cs[i].nx, hc, nz_iff.2 ⟨a2, hap2, ⟨by omega, by omega⟩, hwr, ?_⟩⟩⟩
  exact ⟨inR64 (by omega) (by omega), ⟨⟨rfl, rfl, rfl, rfl, rfl, rfl, rfl, trivial⟩, k + 1, by omega, by omega, hset _⟩, by dsimp only; omega⟩
 have hu := gF h
 refine ⟨s0, (gp h).at rfl, s1, (gp h).at rfl, s2, (gp h).at rfl, _, (gp h).at rfl, _, (gp h).at rfl, ?_⟩
 refine Solve_full hp (hP.fr hu) hwk (Int.le_refl _) fun w46 t' bnd ns' T' cs' N' hV hT' hbd hTr => ?_
 have hTT : T' = T := hT'.uniq hA
 subst hTT
 have v := V.reb Mem.nil hV
 intro w49
 have v : V u w49 _ _ _ _ _ _ _ _ := v.allocL (vs := [.slice none 0 0, .int .i64 0, .int .i64 0, .slice none 0 0])
 clear_value w49
 refine stN_atV v 0 rfl rfl fun w50 v => ?_
 intro w51
 have v : V u w51 [(w46.heap.size, rsC t' (ptsOf (madeP l) T') bnd ns')] [] [] ns' t' T' cs' N' := v.drew
 clear_value w51
 have hS : ∀ {x}, Fr F0 w51 x -> Row x w46.heap.size (rsC t' (ptsOf (madeP l) T') bnd ns') /\ Row x pb (prC s0 s1 s2 (madeP l).most (madeP l).budget) := fun hx => ⟨hx.row (v.row 0 rfl) fun h => h, (v.m.1.t hx).row (gp h) fun h => h⟩
 have hNV : NV w51 ns' N' := by
  refine ⟨⟨cs', v.ow.vw, v.nv.len, fun i c n hc hn => ?_⟩, by have := hTr.2; omega⟩
  have := v.nv.at hc hn
  exact ⟨⟨this.lot, this.num, this.den⟩, this.nx.vw, this.i1, this.i2⟩
 refine ⟨fun x => Row x w46.heap.size (rsC t' (ptsOf (madeP l) T') bnd ns') /\ Row x pb (prC s0 s1 s2 (madeP l).most (madeP l).budget), hS Fr.refl, cnd_iff.2 ⟨fun _ => cnd_beq.2 ⟨fun _ => ⟨t', fun x hx => hx.1.at rfl, ?_⟩, fun h => absurd rfl h⟩, fun h => (by cases h)⟩⟩
 refine Ints_spec v.tv.vw ((gw h).fr v.m.1) (by omega) fun w54 hf54 => ⟨hS hf54, ?_⟩
 rw [decide_eq_true rfl]
 have hu51 : Fr F0 w0 w51 := hu.t v.m.1
 refine cnd_iff.2 ⟨fun _ => ⟨s0, fun x hx => hx.2.at rfl, s1, fun x hx => hx.2.at rfl, s2, fun x hx => hx.2.at rfl, _, fun x hx => hx.2.at rfl, _, fun x hx => hx.2.at rfl, t', fun x hx => hx.1.at rfl, _, fun x hx => hx.1.at rfl, _, fun x hx => hx.1.at rfl, ns', fun x hx => hx.1.at rfl, ?_⟩, fun h => (by cases h)⟩
 refine Proof_spec (hP.fr (hu51.t hf54)) (v.tv.vw.fr hf54) (by omega) (hNV.fr hf54) fun w65 hf65 => ⟨hS (hf54.t hf65), ?_⟩
 have hf65 := hf54.t hf65
 rw [proof_true hp hA.1 hTr.1]
 refine cnd_iff.2 ⟨fun _ => ⟨t', fun x hx => hx.1.at rfl, _, fun x hx => hx.1.at rfl, _, fun x hx => hx.1.at rfl, ns', fun x hx => hx.1.at rfl, ?_⟩, fun h => (by cases h)⟩
 refine Made_spec (hv.fr (hu51.t hf65)) hl fun w71 r0 r1 r2 hf71 hP2 => ⟨hS (hf65.t hf71), ?_⟩
 have hf71 := hf65.t hf71
 refine Proof_spec hP2 (v.tv.vw.fr hf71) (by omega) (hNV.fr hf71) fun w73 hf73 => ⟨hS (hf71.t hf73), ?_⟩
 rw [proof_true hp hA.1 hTr.1]
 exact hK _ (hu51.t (hf71.t hf73))
theorem Own_law {K : Bool -> World -> Prop} (hv : VI w s l) (hl : l.length < 2 ^ 63) (hK : ∀ w', Fr F0 w w' -> K true w') : z0d_sh s K w := by
 have hpn := made_prefN l
 have hp := madeP_right l
 have hfew := hp.few
 have hwk : Wi (prefN (madeP l) (madeP l).lots : Nat) 1048576 := ⟨by omega, by omega⟩
 refine ⟨?_⟩
 unfold z0d_sd
 refine sanity_spec fun w1 hf1 => ?_
 refine Made_spec (hv.fr hf1) hl fun w3 s0 s1 s2 hf3 hP => ?_
 have hf13 := hf1.t hf3
 refine stN_new (w0 := w3) (l := []) rfl Mem.nil fun w6 m => ?_
 refine ⟨s0, m.ld 0 rfl rfl, s1, m.ld 0 rfl rfl, s2, m.ld 0 rfl rfl, _, m.ld 0 rfl rfl, _, m.ld 0 rfl rfl, Prefixes_spec (hP.fr m.1) (by omega) fun w12 hf => ?_⟩
 have m := m.fr hf
 refine ⟨s0, m.ld 0 rfl rfl, s1, m.ld 0 rfl rfl, s2, m.ld 0 rfl rfl, _, m.ld 0 rfl rfl, _, m.ld 0 rfl rfl, Solve_full hp (hP.fr m.1) hwk (Int.le_refl _) fun w19 t bnd ns T cs N hV hT hbd hTr => ?_⟩
 have hw12 : w3.heap.size < w12.heap.size := (m.row 0 rfl).lt
 have hT12 : T.length <= 12 := by rw [hT.1.1]; exact hfew
 have v := V.reb m hV
 have hlt : ∀ b, (inB t b \/ ∃ c ∈ cs, inB c.nx b) -> w12.heap.size <= b /\ b < w19.heap.size /\ ¬ inB ns b := fun b hb => by
  rcases hb with hb | ⟨c, hc, hb⟩
  ·exact ⟨hV.n1 b hb, hV.tv.lt hb, fun h => (hV.a3 b h).1 hb⟩
  ·exact ⟨hV.n2 c hc b hb, hV.nxlt hc hb, fun h => (hV.a3 b h).2 c hc hb⟩
 intro w22
 have v : V w3 w22 _ _ _ _ _ _ _ _ := v.allocL (vs := [.slice none 0 0, .int .i64 0, .int .i64 0, .slice none 0 0])
 have hsz22 : w19.heap.size < w22.heap.size := by simp [w22]
 clear_value w22
 refine stN_atV v 0 rfl rfl fun w23 v => ?_
 have v : V w3 w23 [(w19.heap.size, rsC t (ptsOf (madeP l) T) bnd ns), (w3.heap.size, prC s0 s1 s2 (madeP l).most (madeP l).budget)] [] [] ns t T cs N := v
 have hsz23 : w19.heap.size < w23.heap.size := (v.row 0 rfl).lt
 intro w24
 have h : Sp w23 w24 [] _ _ _ _ _ _ := Sp.empty (α := Int) (n := 1) (enc := ie .i64 (id : Int -> Int)) (fun a => ie_length _ _ a) Mem.nil
 clear_value w24
 have v24 := v.fr h.m.1
 refine ⟨t, v24.ld 0 rfl rfl, h.app v24.tv.vw (ie_ok _ _) rfl (by simp; omega) (by simp; omega) fun sw w27 h => ?_⟩
 rw [List.nil_append] at h
 have v := v.fr h.m.1
 refine Own_l0 (cs := cs) (T := T) (hv.fr hf13) hl hP v.m.1 (v.row 1 rfl) (v.row 0 rfl) h.ow.vw hT v.tv.len v.ow.vw (by have := v.nv.len; have := hTr.2; omega) (fun c hc => ?_) ⟨Fr.refl, .ofOw v.tv, fun c hc => ?_⟩ (fun b hb => ?_) fun w' hw => hK w' (hf13.t hw)
 ·obtain ⟨i, hi, rfl⟩ := List.mem_iff_getElem.1 hc
  have e := v.nv.len
  have := v.nv.at (List.getElem?_eq_getElem hi) (List.getElem?_eq_getElem (show i < N.length by omega))
  rw [this.nx.len]
  exact this.ln
 ·obtain ⟨i, hi, rfl⟩ := List.mem_iff_getElem.1 hc
  have e := v.nv.len
  exact .ofOw (v.nv.at (List.getElem?_eq_getElem hi) (List.getElem?_eq_getElem (show i < N.length by omega))).nx
 ·obtain ⟨g1, g2, g3⟩ := hlt b hb
  have g0 := m.1.1
  exact ⟨by omega, by omega, by omega, fun hs => by have := (h.os b hs).1; omega, g3⟩
end
end Go.Proofs.YtmkjcheafdionaaGreat
