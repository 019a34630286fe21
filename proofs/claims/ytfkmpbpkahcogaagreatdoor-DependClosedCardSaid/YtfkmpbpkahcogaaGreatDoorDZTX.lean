/- The laws' own: is, the example's tender. Conditions: none. -/
import Derived.Test.YtfkmpbpkahcogaaGreatDoorDYTX
import Derived.Test.YtfkmpbpkahcogaaGreatDoorDG5
namespace Pw
open Go
theorem stN_frGo {b : Nat} {K : World -> Prop} : ∀ (vs : List Value) (i : Nat) (w : World) (cs : List Value), Row w b cs -> i + vs.length <= cs.length -> (∀ w', Fr (fun c => c = b) w w' -> Row w' b (splice cs i vs) -> K w') -> stN.go ⟨b, 0, none⟩ K vs i w
 | [], i, w, cs, hr, _, hK => hK w Fr.refl (by rw [splice_nil]; exact hr)
 | v :: vs, i, w, cs, hr, hi, hK => by
  simp only [List.length_cons] at hi
  refine ⟨by rw [add_mk, Nat.zero_add]; exact hr.wr (by omega), ?_⟩
  rw [add_mk, Nat.zero_add]
  refine stN_frGo vs (i + 1) _ _ (hr.set i v) (by rw [List.length_set]; omega) fun w' hf hr' => hK w' ((Fr.set (F := fun c => c = b) rfl).trans hf fun _ h _ => h) ?_
  rw [splice_cons _ _ _ _ (by omega)] at hr'
  exact hr'
theorem stN_fr {b : Nat} {K : World -> Prop} {w : World} {cs vs : List Value} (hr : Row w b cs) (hl : cs.length = vs.length) (hK : ∀ w', Fr (fun c => c = b) w w' -> Row w' b vs -> K w') : stN w ⟨b, 0, none⟩ vs K := by
 refine stN_frGo vs 0 w cs hr (by omega) fun w' hf hr' => hK w' hf ?_
 have e : splice cs 0 vs = vs := by simp [splice, ← hl]
 rw [e] at hr'
 exact hr'
end Pw
namespace Go.Proofs.YtfkmpbpkahcogaaGreatDoor
open Go Pw Dp
section
variable {w w' u : World} {s s' : Sl} {x : T43}
theorem Same_spec {l m : List B} {K : Bool -> World -> Prop} (hv : Vw 1 encB w s l) (hv' : Vw 1 encB w s' m) (hl : l.length < 2 ^ 62) (hK : ∀ w', Fr F0 w w' -> K (decide (l = m)) w') : z1k_sh s s' K w := by
 have el := hv.len
 have el' := hv'.len
 refine ⟨?_⟩
 unfold z1k_sd
 refine cnd_bne.2 ⟨fun hne => ?_, fun he => ?_⟩
 ·have : decide (l = m) = false := decide_eq_false fun e => hne (by rw [el, el', e])
  rw [this] at hK
  exact hK w Fr.refl
 have he : l.length = m.length := by omega
 refine ⟨⟨fun i u => ∃ i' : Nat, i = i' /\ i' <= l.length /\ Fr F0 w u /\ ∀ j (h : j < l.length) (h' : j < m.length), j < i' -> l[j] = m[j], fun i _ => l.length - i.toNat, ⟨0, rfl, by omega, Fr.refl, fun j _ _ h => by omega⟩, ?_⟩⟩
 rintro i u ⟨i, rfl, hi, hf, hb⟩
 unfold z1k_b0
 refine cnd_prop.2 ⟨fun hlt => ?_, fun hge => ?_⟩
 ·have hil : i < l.length := by omega
  intro u1
  have hf : Fr F0 w u1 := hf.t Fr.drew
  clear_value u1
  refine ldB (hv.fr hf) i rfl hil (ldB (hv'.fr hf) i rfl (by omega) ?_)
  rw [ofL_dec]
  refine cnd_iff.2 ⟨fun h => ?_, fun h => ?_⟩
  ·have : decide (l = m) = false := decide_eq_false fun e => by subst e; simp at h
   rw [this] at hK
   exact hK _ hf
  ·refine ⟨inR64 (by omega) (by omega), ⟨⟨rfl, rfl, trivial⟩, i + 1, by omega, by omega, hf, fun j h1 h2 hj => ?_⟩, by dsimp only; omega⟩
   rcases Nat.lt_or_ge j i with h' | h'
   ·exact hb j h1 h2 h'
   ·have : j = i := by omega
    subst this
    simpa using h
 ·have : decide (l = m) = true := decide_eq_true (lists_eq he fun j h1 h2 => hb j h1 h2 (by omega))
  rw [this] at hK
  exact hK _ hf
theorem is_spec {l m : List B} {K : Bool -> World -> Prop} (hv : Vw 1 encB w s l) (hv' : Vw 1 encB w s' m) (hl : l.length < 2 ^ 62) (hK : ∀ w', Fr F0 w w' -> K (decide (l = m)) w') : z26_sh s s' K w := ⟨Same_spec hv hv' hl hK⟩
def XN (lo : Nat) (w : World) : Fm -> XC -> Prop
 | .op o a b, c => ∃ ca cb, (c.op = ofL (opB o) /\ c.n = 0 /\ c.d = 0 /\ c.nm = ofL []) /\ Vw 5 encX w c.a [ca, cb] /\ (∀ b, inB c.a b -> lo <= b) /\ XN lo w a ca /\ XN lo w b cb
 | .num n d, c => XP w (.num n d) c
 | .name s, c => XP w (.name s) c
theorem XN.xp {lo : Nat} {w : World} : ∀ {e : Fm} {c : XC}, XN lo w e c -> XP w e c
 | .num _ _, _, h => h
 | .name _, _, h => h
 | .op _ _ _, _, ⟨ca, cb, h1, h2, _, h3, h4⟩ => ⟨ca, cb, h1, h2, h3.xp, h4.xp⟩
theorem XN.frF {lo : Nat} {F : Nat -> Prop} {w w' : World} (hf : Fr F w w') (hF : ∀ b, F b -> b < lo) : ∀ {e : Fm} {c : XC}, XN lo w e c -> XN lo w' e c
 | .num _ _, _, h => h
 | .name _, _, h => h
 | .op _ _ _, _, ⟨ca, cb, h1, h2, h5, h3, h4⟩ => ⟨ca, cb, h1, h2.frF hf fun b hb h => by have := h5 b hb; have := hF b h; omega, h5, h3.frF hf hF, h4.frF hf hF⟩
theorem XN.fr {lo : Nat} {w w' : World} (hf : Fr F0 w w') {e : Fm} {c : XC} (h : XN lo w e c) : XN lo w' e c := h.frF hf fun _ h => h.elim
theorem ex1_spec {n : B} {K : ByteArray -> Int -> Int -> ByteArray -> Sl -> World -> Prop} (h20 : n.length <= 2 ^ 20) (hK : ∀ w' c, Fr F0 w w' -> XP w' (.name n) c -> K c.op c.n c.d c.nm c.a w') : z07_sh (ofL n) K w := by
 refine ⟨?_⟩
 unfold z07_sd
 refine stN_new (vs := encX ⟨ofL wName, 0, 0, ofL n, ⟨none, 0, 0⟩⟩) rfl Mem.nil fun w2 m => ?_
 refine ⟨_, m.ld 0 rfl rfl, _, m.ld 0 rfl rfl, _, m.ld 0 rfl rfl, _, m.ld 0 rfl rfl, ⟨none, 0, 0⟩, m.ld 0 rfl rfl, ?_⟩
 exact hK w2 ⟨ofL wName, 0, 0, ofL n, ⟨none, 0, 0⟩⟩ m.1 ⟨rfl, h20⟩
theorem ex2_spec {o : Fin 6} {a b : Fm} {ca cb : XC} {lo : Nat} {K : ByteArray -> Int -> Int -> ByteArray -> Sl -> World -> Prop} (hlo : lo <= w.heap.size) (ha : XN lo w a ca) (hb : XN lo w b cb) (hK : ∀ w' c, Fr F0 w w' -> XN lo w' (.op o a b) c -> K c.op c.n c.d c.nm c.a w') :
  z08_sh (ofL (opB o)) ca.op ca.n ca.d ca.nm ca.a cb.op cb.n cb.d cb.nm cb.a K w := by
 refine ⟨?_⟩
 unfold z08_sd
 intro w1
 have m : Mem w w1 [(w.heap.size, encX ca)] := Mem.nil.allocL
 clear_value w1
 intro w2
 have m : Mem w w2 [(w1.heap.size, encX cb), (w.heap.size, encX ca)] := m.allocL
 clear_value w2
 intro w3
 have m : Mem w w3 [(w2.heap.size, encX ⟨ofL [], 0, 0, ofL [], ⟨none, 0, 0⟩⟩), (w1.heap.size, encX cb), (w.heap.size, encX ca)] := m.allocL
 clear_value w3
 refine ⟨_, m.ld 2 rfl rfl, _, m.ld 2 rfl rfl, _, m.ld 2 rfl rfl, _, m.ld 2 rfl rfl, ca.a, m.ld 2 rfl rfl, _, m.ld 1 rfl rfl, _, m.ld 1 rfl rfl, _, m.ld 1 rfl rfl, _, m.ld 1 rfl rfl, cb.a, m.ld 1 rfl rfl, ?_⟩
 intro w4
 have m : Mem w w4 ((w3.heap.size, [ca, cb].flatMap encX) :: _) := m.allocL (cs := [ca, cb].flatMap encX)
 clear_value w4
 refine stN_at (vs := encX ⟨ofL (opB o), 0, 0, ofL [], ⟨some ⟨w3.heap.size, 0, none⟩, 2, 2⟩⟩) m 1 rfl rfl fun w5 m => ?_
 refine ⟨_, m.ld 1 rfl rfl, _, m.ld 1 rfl rfl, _, m.ld 1 rfl rfl, _, m.ld 1 rfl rfl, ⟨some ⟨w3.heap.size, 0, none⟩, 2, 2⟩, m.ld 1 rfl rfl, ?_⟩
 exact hK w5 ⟨ofL (opB o), 0, 0, ofL [], ⟨some ⟨w3.heap.size, 0, none⟩, 2, 2⟩⟩ m.1 ⟨ca, cb, ⟨rfl, rfl, rfl, rfl⟩, (Row.ow encX_length (l := [ca, cb]) (m.row 0 rfl)).vw, fun b ⟨a, ha, hb⟩ => by
  cases ha
  subst hb
  have h3 := m.2.2.2 (w3.heap.size, [ca, cb].flatMap encX) (by simp)
  simp only at h3 ⊢
  omega, ha.fr m.1, hb.fr m.1⟩
def wQual : B := [113, 117, 97, 108, 105, 116, 121]
def wDays : B := [100, 97, 121, 115]
def exF : Fm := .op 0 (.name wQual) (.op 3 (.op 2 (.num 60 1) (.name wLow)) (.name wPrice))
def exT (lm ch hi : Int) : Td := ⟨[], [(1, 100), (2, lm)], [⟨wQual, 1, 0, 10, false⟩, ⟨wDays, 2, 1, ch, false⟩], [⟨wDays, [60, 61], 30⟩], 1, hi, exF, [wPrice, wQual], 0, [], 0, 0, 0, 0, 0, 0⟩
structure EX (w0 w : World) (x : T43) (lb cb : Nat) (lm ch hi : Int) : Prop where
 xe : ∃ c : XC, ∃ rb tb : Nat, x = ⟨ofL [], ⟨some ⟨lb, 0, none⟩, 2, 2⟩, ⟨some ⟨cb, 0, none⟩, 2, 2⟩, ⟨some ⟨rb, 0, none⟩, 1, 1⟩, 1, hi, c.op, c.n, c.d, c.nm, c.a, ⟨some ⟨tb, 0, none⟩, 2, 2⟩, 0, ⟨none, 0, 0⟩, 0, 0, 0, 0, 0, 0⟩ /\
  XP w exF c /\ Row w rb ([(⟨wDays, [60, 61], 30⟩ : Rq)].flatMap encR) /\ Row w tb ([wPrice, wQual].flatMap encB)
 rl : Row w lb ([((1 : Int), (100 : Int)), (2, lm)].flatMap encL)
 rc : Row w cb ([(⟨wQual, 1, 0, 10, false⟩ : Cr), ⟨wDays, 2, 1, ch, false⟩].flatMap encC)
 l0 : w0.heap.size <= lb
 c0 : w0.heap.size <= cb
theorem EX.fr {w0 : World} {lb cb : Nat} {lm ch hi : Int} (h : EX w0 w x lb cb lm ch hi) (hf : Fr F0 w w') : EX w0 w' x lb cb lm ch hi := by
 obtain ⟨⟨c, rb, tb, hx, h1, h2, h3⟩, h4, h5, h6, h7⟩ := h
 exact ⟨⟨c, rb, tb, hx, h1.fr hf, hf.row h2 fun h => h, hf.row h3 fun h => h⟩, hf.row h4 fun h => h, hf.row h5 fun h => h, h6, h7⟩
theorem EX.tp {w0 : World} {lb cb : Nat} {lm ch hi : Int} (h : EX w0 w x lb cb lm ch hi) : TP w x (exT lm ch hi) := by
 obtain ⟨⟨c, rb, tb, rfl, h1, h2, h3⟩, h4, h5, _, _⟩ := h
 exact ⟨rfl, (Row.ow encL_length (l := [((1 : Int), (100 : Int)), (2, lm)]) h4).vw, (Row.ow encC_length (l := [(⟨wQual, 1, 0, 10, false⟩ : Cr), ⟨wDays, 2, 1, ch, false⟩]) h5).vw, (Row.ow encR_length (l := [(⟨wDays, [60, 61], 30⟩ : Rq)]) h2).vw, rfl, rfl, h1,
  (Row.ow encB_length (l := [wPrice, wQual]) h3).vw, rfl, ⟨[], Vw.nil, rfl, fun i h => by simp at h⟩, rfl, rfl, rfl, rfl, rfl, rfl⟩
theorem example_spec {K : T43 -> World -> Prop} (hK : ∀ w' x lb cb, Fr F0 w w' -> EX w w' x lb cb 100 60 100 -> K x w') : z0e_sh K w := by
 refine ⟨?_⟩
 unfold z0e_sd
 intro w1
 have m : Mem w w1 [(w.heap.size, T43.cs ⟨ofL [], ⟨none, 0, 0⟩, ⟨none, 0, 0⟩, ⟨none, 0, 0⟩, 0, 0, ofL [], 0, 0, ofL [], ⟨none, 0, 0⟩, ⟨none, 0, 0⟩, 0, ⟨none, 0, 0⟩, 0, 0, 0, 0, 0, 0⟩)] := Mem.nil.allocL
 clear_value w1
 refine stN_new (vs := encX ⟨ofL wNum, 60, 1, ofL [], ⟨none, 0, 0⟩⟩) rfl m fun w3 m => ?_
 intro w4
 have m : Mem w w4 _ := m.drew
 clear_value w4
 have hS : ∀ {u : World}, Fr F0 w4 u -> Mem w u _ := fun h => m.fr h
 refine ⟨fun u => Fr F0 w4 u, Fr.refl, _, fun u hu => (hS hu).ld 0 rfl rfl, _, fun u hu => (hS hu).ld 0 rfl rfl, _, fun u hu => (hS hu).ld 0 rfl rfl, _, fun u hu => (hS hu).ld 0 rfl rfl, ⟨none, 0, 0⟩, fun u hu => (hS hu).ld 0 rfl rfl, fun u u' h hs => hs.t h.f0, ⟨fun u => ExtL.alloc, fun u => ExtL.alloc, fun u => ExtL.alloc, fun u => ExtL.alloc, trivial⟩, fun w11 e11 => ?_⟩
 have hn : ∀ {u : World}, XN w4.heap.size u (.num 60 1) ⟨ofL wNum, 60, 1, ofL [], ⟨none, 0, 0⟩⟩ := fun {u} => ⟨rfl, by unfold I64; omega, by unfold I64; omega⟩
 refine ex1_spec (n := wQual) (by decide) fun w12 cq hf12 hq => ⟨hf12.ext, fun w14 e14 => ?_⟩
 refine ex1_spec (n := wLow) (by decide) fun w15 cl hf15 hl => ⟨hf15.ext, fun w17 e17 => ?_⟩
 have k17 : w4.heap.size <= w17.heap.size := (e11.f0.t (hf12.t (e14.f0.t (hf15.t e17.f0)))).1
 refine ex2_spec (lo := w4.heap.size) (o := 2) (ca := ⟨ofL wNum, 60, 1, ofL [], ⟨none, 0, 0⟩⟩) k17 hn (show XN _ _ (.name wLow) cl from hl.fr e17.f0) fun w18 cm hf18 hm => ⟨hf18.ext, fun w20 e20 => ?_⟩
 refine ex1_spec (n := wPrice) (by decide) fun w21 cp hf21 hp => ⟨hf21.ext, fun w23 e23 => ?_⟩
 have k23 : w4.heap.size <= w23.heap.size := Nat.le_trans k17 (hf18.t (e20.f0.t (hf21.t e23.f0))).1
 refine ex2_spec (o := 3) k23 (hm.fr (e20.f0.t (hf21.t e23.f0))) (show XN _ _ (.name wPrice) cp from hp.fr e23.f0) fun w24 cd hf24 hd => ⟨hf24.ext, fun w26 e26 => ?_⟩
 have fq : Fr F0 w12 w26 := e14.f0.t (hf15.t (e17.f0.t (hf18.t (e20.f0.t (hf21.t (e23.f0.t (hf24.t e26.f0)))))))
 refine ex2_spec (o := 0) (Nat.le_trans k23 (hf24.t e26.f0).1) (show XN _ _ (.name wQual) cq from hq.fr fq) (hd.fr e26.f0) fun w27 cs hf27 hs => ⟨hf27.ext, fun w29 e29 w30 e30 _ g30 w31 e31 _ g31 w32 e32 _ g32 w33 e33 _ g33 => ?_⟩
 have f29 : Fr F0 w4 w29 := e11.f0.t (hf12.t (fq.t (hf27.t e29.f0)))
 have m29 := m.fr f29
 have r30 := g30.f0.row (Row.new (cs := [((1 : Int), (100 : Int)), (2, 100)].flatMap encL)) fun h => h
 have r31 := g31.f0.row (Row.new (cs := [(⟨wQual, 1, 0, 10, false⟩ : Cr), ⟨wDays, 2, 1, 60, false⟩].flatMap encC)) fun h => h
 have r32 := g32.f0.row (Row.new (cs := [(⟨wDays, [60, 61], 30⟩ : Rq)].flatMap encR)) fun h => h
 have r33 := g33.f0.row (Row.new (cs := [wPrice, wQual].flatMap encB)) fun h => h
 have z := m.2.2.2
 have z4 : w.heap.size < w4.heap.size := (m.row 1 rfl).lt
 refine stN_fr (m29.row 1 rfl) rfl fun w34 hf34 hr34 => T43.ld_row hr34 ?_
 have n30 := e30.1; have n31 := e31.1; have n32 := e32.1; have n33 := e33.1
 have hs34 : XP w34 exF cs := ((hs.fr e29.f0).frF hf34 fun b h => by omega).xp
 refine hK w34 _ w30.heap.size w31.heap.size (m29.1.nb hf34 fun b h => by omega) ⟨⟨cs, w32.heap.size, w33.heap.size, rfl, hs34, hf34.row r32 (by omega), hf34.row r33 (by omega)⟩, hf34.row r30 (by omega), hf34.row r31 (by omega), by omega, by omega⟩
end
end Go.Proofs.YtfkmpbpkahcogaaGreatDoor
namespace Pw
open Go
theorem Row.uniq2 {w : World} {b : Nat} {cs ds : List Value} (h : Row w b cs) (h' : Row w b ds) : cs.length = ds.length := by
 obtain ⟨e, f, h1, _⟩ := h
 obtain ⟨e', f', h2, _⟩ := h'
 rw [h1] at h2
 have := congrArg (fun o => match o with | some (Obj.cells c _ _) => c.toList.length | _ => 0) h2
 simpa using this
end Pw
namespace Go.Proofs.YtfkmpbpkahcogaaGreatDoor
open Go Pw Dp
theorem cnd_no {X Y : Prop} (h : Y) : cnd (!true) X Y := h
theorem cnd_no' {X Y : Prop} (h : X) : cnd (!false) X Y := h
theorem cnd_yes {X Y : Prop} (h : X) : cnd true X Y := h
def LC (w : World) (b : Nat) : Prop := (∃ lm : Int, Row w b ([((1 : Int), (100 : Int)), (2, lm)].flatMap encL)) \/ ∃ ch : Int, Row w b ([(⟨wQual, 1, 0, 10, false⟩ : Cr), ⟨wDays, 2, 1, ch, false⟩].flatMap encC)
section
variable {w w' u : World} {s s' : Sl} {x : T43}
theorem LC.no {b o : Nat} {s s' : ByteArray} (h : LC w b) (h0 : w.cell? ⟨b, o, none⟩ = some (.string s)) (h3 : w.cell? ⟨b, o + 3, none⟩ = some (.string s')) : False := by
 rcases h with ⟨lm, hr⟩ | ⟨ch, hr⟩
 ·rw [hr.cell] at h0
  rcases o with _ | _ | _ | _ | o <;> cases h0
 ·rw [hr.cell] at h0 h3
  rcases o with _ | _ | _ | _ | _ | _ | _ | _ | _ | _ | o <;> first | cases h0; done | cases h3
theorem LC.spot {b : Nat} {a : Addr} {v : Value} (h : LC w b) (hb : a.block = b) (hc : w.cell? a = some v) : a.spot = none := by
 obtain ⟨bb, off, fz⟩ := a
 subst hb
 cases fz with
 | none => rfl
 | some z => rcases h with ⟨_, e, f, hh, _⟩ | ⟨_, e, f, hh, _⟩ <;> simp [World.cell?, hh] at hc
theorem XP.frLC {F : Nat -> Prop} (hr : ∀ b, F b -> LC w b) (hf : Fr F w w') : ∀ {e : Fm} {c : XC}, XP w e c -> XP w' e c
 | .num _ _, _, h => h
 | .name _, _, h => h
 | .op _ _ _, c, ⟨ca, cb, h1, h2, h3, h4⟩ => ⟨ca, cb, h1, h2.frF hf fun b' hb h => by
   obtain ⟨ad, ha, he⟩ := hb
   obtain ⟨ad', ha', hc⟩ := h2.at encX_length (i := 0) (a := ca) rfl (by decide)
   rw [ha] at ha'
   cases ha'
   have c0 := hc 0 _ rfl
   have c3 := hc 3 _ rfl
   have hL := hr _ h
   have hs := hL.spot (by simp [Addr.add]; exact he) c0
   obtain ⟨bb, off, fz⟩ := ad
   simp only at he
   subst he
   have : fz = none := by
    simp [Addr.add] at hs
    exact hs
   subst this
   simp only [add_mk, Nat.zero_mul, Nat.add_zero] at c0 c3
   exact hL.no c0 c3, h3.frLC hr hf, h4.frLC hr hf⟩
def XE (w : World) (x : T43) (lb cb : Nat) (hi : Int) : Prop :=
 ∃ c : XC, ∃ rb tb : Nat, x = ⟨ofL [], ⟨some ⟨lb, 0, none⟩, 2, 2⟩, ⟨some ⟨cb, 0, none⟩, 2, 2⟩, ⟨some ⟨rb, 0, none⟩, 1, 1⟩, 1, hi, c.op, c.n, c.d, c.nm, c.a, ⟨some ⟨tb, 0, none⟩, 2, 2⟩, 0, ⟨none, 0, 0⟩, 0, 0, 0, 0, 0, 0⟩ /\
  XP w exF c /\ Row w rb ([(⟨wDays, [60, 61], 30⟩ : Rq)].flatMap encR) /\ Row w tb ([wPrice, wQual].flatMap encB)
theorem XE.frLC {F : Nat -> Prop} {lb cb : Nat} {hi : Int} (h : XE w x lb cb hi) (hr : ∀ b, F b -> LC w b) (hf : Fr F w w') : XE w' x lb cb hi := by
 obtain ⟨c, rb, tb, hx, h1, h2, h3⟩ := h
 refine ⟨c, rb, tb, hx, h1.frLC hr hf, hf.row h2 fun h => ?_, hf.row h3 fun h => ?_⟩
 ·rcases hr _ h with ⟨_, h⟩ | ⟨_, h⟩ <;> exact absurd (h.uniq2 h2) (by simp)
 ·rcases hr _ h with ⟨_, h⟩ | ⟨_, h⟩ <;> exact absurd (h.uniq2 h3) (by simp)
theorem XE.tp {lb cb : Nat} {lm ch hi : Int} (h : XE w x lb cb hi) (h4 : Row w lb ([((1 : Int), (100 : Int)), (2, lm)].flatMap encL)) (h5 : Row w cb ([(⟨wQual, 1, 0, 10, false⟩ : Cr), ⟨wDays, 2, 1, ch, false⟩].flatMap encC)) : TP w x (exT lm ch hi) :=
 EX.tp (w0 := ⟨#[], w.tape, 0, w.os, w.output⟩) ⟨h, h4, h5, Nat.zero_le _, Nat.zero_le _⟩
theorem I64.lit {n : Int} (h : -9223372036854775808 <= n /\ n < 9223372036854775808) : I64 n := by unfold I64; omega
theorem exT_fit {lm ch hi : Int} (h1 : I64 lm) (h2 : I64 ch) (h3 : I64 hi) : Fit (exT lm ch hi) := by
 refine ⟨by show (7 : Nat) <= _; decide, by show (0 : Nat) <= _; decide, by show (2 : Nat) <= _; decide, by show (2 : Nat) <= _; decide, by show (1 : Nat) <= _; decide, by show (2 : Nat) <= _; decide, by show (0 : Nat) <= _; decide, ?_, ?_, ?_, ?_, ?_, I64.lit (n := 1) (by decide), h3, I64.lit (n := 0) (by decide), I64.lit (n := 0) (by decide), I64.lit (n := 0) (by decide), I64.lit (n := 0) (by decide), I64.lit (n := 0) (by decide), I64.lit (n := 0) (by decide), I64.lit (n := 0) (by decide)⟩
 ·intro l hl
  simp only [exT, List.mem_cons, List.not_mem_nil, or_false] at hl
  rcases hl with rfl | rfl
  ·exact ⟨I64.lit (by decide), I64.lit (by decide)⟩
  ·exact ⟨I64.lit (n := 2) (by decide), h1⟩
 ·intro l hl
  simp only [exT, List.mem_cons, List.not_mem_nil, or_false] at hl
  rcases hl with rfl | rfl
  ·exact ⟨by decide, I64.lit (by decide), I64.lit (by decide), I64.lit (by decide)⟩
  ·exact ⟨by show (4 : Nat) <= _; decide, I64.lit (n := 2) (by decide), I64.lit (n := 1) (by decide), h2⟩
 ·intro l hl
  simp only [exT, List.mem_cons, List.not_mem_nil, or_false] at hl
  subst hl
  exact ⟨by decide, by decide, I64.lit (by decide)⟩
 ·intro l hl
  simp only [exT, List.mem_cons, List.not_mem_nil, or_false] at hl
  rcases hl with rfl | rfl <;> decide
 ·intro l hl
  simp [exT] at hl
def wL1 : B := [108, 111, 116, 32, 49]
def wL2 : B := [108, 111, 116, 32, 50]
def wCQ : B := [99, 114, 105, 116, 101, 114, 105, 111, 110, 32, 113, 117, 97, 108, 105, 116, 121]
def wCD : B := [99, 114, 105, 116, 101, 114, 105, 111, 110, 32, 100, 97, 121, 115]
def wR1 : B := [114, 101, 113, 117, 105, 114, 101, 32, 49]
def zT : List Value := T43.cs ⟨ofL [], ⟨none, 0, 0⟩, ⟨none, 0, 0⟩, ⟨none, 0, 0⟩, 0, 0, ofL [], 0, 0, ofL [], ⟨none, 0, 0⟩, ⟨none, 0, 0⟩, 0, ⟨none, 0, 0⟩, 0, 0, 0, 0, 0, 0⟩
theorem r_cl : clauses (exT 100 60 100) = [wName, wL1, wL2, wCQ, wCD, wR1, wRange, wForm, wTies, wMost, wCombos, wBudget, wTimes] := by decide +kernel
theorem r_u1 : uses (exT 100 60 100) wForm = [wCQ, wRange] := by decide +kernel
theorem r_u2 : uses (exT 100 60 100) wTies = [wCQ, wRange] := by decide +kernel
theorem r_u3 : uses (exT 100 60 100) wR1 = [wCD] := by decide +kernel
theorem r_ch : changed (exT 100 60 100) (exT 100 90 100) = [wCD] := by decide +kernel
theorem r_a1 : affected (exT 100 60 100) (exT 100 90 100) = [wCD, wR1] := by decide +kernel
theorem r_a2 : affected (exT 100 60 100) (exT 100 60 200) = [wRange, wForm, wTies] := by decide +kernel
theorem r_t1 : touches (exT 100 60 100) (exT 50 60 100) [1] = false := by decide +kernel
theorem r_t2 : touches (exT 100 60 100) (exT 50 60 100) [1, 2] = true := by decide +kernel
theorem is_lit {l m : List B} {e : TypeId} {K : Bool -> World -> Prop} (hv : Vw 1 encB w s l) (hl : l.length < 2 ^ 62) (hK : ∀ w', Fr F0 w w' -> K (decide (l = m)) w') : z26_sh s ⟨some ⟨w.heap.size, 0, none⟩, m.length, m.length⟩ K (w.alloc (Obj.cells (m.flatMap encB).toArray e)) :=
 is_spec (hv.fr Fr.alloc) (Row.ow encB_length Row.new).vw hl fun _ hf => hK _ (Fr.alloc.t hf)
theorem sanity_spec (g : GlT w) {K : Bool -> World -> Prop} (hK : ∀ w', Fr F0 w w' -> K true w') : z0o_sh K w := by
 refine ⟨?_⟩
 unfold z0o_sd
 refine example_spec fun w1 x1 lb1 cb1 f1 e1 => ?_
 refine example_spec fun w3 x2 lb2 cb2 f3 e2 => ?_
 refine example_spec fun w5 x3 lb3 cb3 f5 e3 => ?_
 refine example_spec fun w7 x4 lb4 cb4 f7 e4 => ?_
 have k1 := f1.1; have k3 := f3.1; have k5 := f5.1; have k7 := f7.1
 have a1 := e1.rl.lt; have b1 := e1.rc.lt; have a1' := e1.l0; have b1' := e1.c0
 have a2 := e2.rl.lt; have b2 := e2.rc.lt; have a2' := e2.l0; have b2' := e2.c0
 have a3 := e3.rl.lt; have b3 := e3.rc.lt; have a3' := e3.l0; have b3' := e3.c0
 have a4 := e4.rl.lt; have b4 := e4.rc.lt; have a4' := e4.l0; have b4' := e4.c0
 have e1 := e1.fr (f3.t (f5.t f7)); have e2 := e2.fr (f5.t f7); have e3 := e3.fr f7
 have ne2 : lb2 ≠ cb2 := fun h => by have := e2.rl; rw [h] at this; exact absurd (this.uniq2 e2.rc) (by simp)
 have ne4 : lb4 ≠ cb4 := fun h => by have := e4.rl; rw [h] at this; exact absurd (this.uniq2 e4.rc) (by simp)
 intro w9
 have m : Mem w7 w9 [(w7.heap.size, zT)] := Mem.nil.allocL
 have h9 : w7.heap.size < w9.heap.size := by show w7.heap.size < (w7.alloc _).heap.size; simp
 clear_value w9
 intro w10
 have m : Mem w7 w10 [(w9.heap.size, zT), (w7.heap.size, zT)] := m.allocL
 have h10 : w9.heap.size < w10.heap.size := by show w9.heap.size < (w9.alloc _).heap.size; simp
 clear_value w10
 intro w11
 have m : Mem w7 w11 [(w10.heap.size, zT), (w9.heap.size, zT), (w7.heap.size, zT)] := m.allocL
 have h11 : w10.heap.size < w11.heap.size := by show w10.heap.size < (w10.alloc _).heap.size; simp
 clear_value w11
 intro w12
 have m : Mem w7 w12 [(w11.heap.size, zT), (w10.heap.size, zT), (w9.heap.size, zT), (w7.heap.size, zT)] := m.allocL
 have h12 : w11.heap.size < w12.heap.size := by show w11.heap.size < (w11.alloc _).heap.size; simp
 clear_value w12
 refine stN_at m 3 rfl rfl fun w13 m => ?_
 refine stN_at m 2 rfl rfl fun w14 m => ?_
 refine stN_at m 1 rfl rfl fun w15 m => ?_
 refine stN_at m 0 rfl rfl fun w16 m => ?_
 have q1 := m.row 3 rfl
 have q2 := m.row 2 rfl
 have q3 := m.row 1 rfl
 have q4 := m.row 0 rfl
 have f16 := m.1
 clear m
 have y2 := e2.rc
 have y4 := e4.rl
 obtain ⟨X1, l1, c1, -, -⟩ := e1
 obtain ⟨X2, l2, c2, -, -⟩ := e2
 obtain ⟨X3, l3, c3, -, -⟩ := e3
 obtain ⟨X4, l4, c4, -, -⟩ := e4
 obtain ⟨p2, rb2, tb2, rfl, X2⟩ := X2
 obtain ⟨p3, rb3, tb3, rfl, X3⟩ := X3
 obtain ⟨p4, rb4, tb4, rfl, X4⟩ := X4
 have hA2 : ((⟨cb2, 0, none⟩ : Addr).add ((1 : Int).toNat * 5)).add 3 = ⟨cb2, 8, none⟩ := by rw [add_mk, add_mk]; rfl
 have hA4 : ((⟨lb4, 0, none⟩ : Addr).add ((1 : Int).toNat * 2)).add 1 = ⟨lb4, 3, none⟩ := by rw [add_mk, add_mk]; rfl
 refine ⟨⟨some ⟨cb2, 0, none⟩, 2, 2⟩, q2.at rfl, ⟨by decide, by show (1 : Int) < 2; decide⟩, ?_⟩
 rw [hA2]
 have z2 := f16.row c2 fun h => h
 refine ⟨z2.wr (by simp), ?_⟩
 intro w19
 have z2 : Row w19 cb2 _ := z2.set 8 (.int .i64 90)
 have f19 : Fr (fun b => b = cb2) w16 w19 := Fr.set rfl
 clear_value w19
 have q1 := f19.row q1 (by omega); have q2 := f19.row q2 (by omega); have q3 := f19.row q3 (by omega); have q4 := f19.row q4 (by omega)
 refine ⟨q3.wr (by show 5 < 20; decide), ?_⟩
 intro w20
 have f20 : Fr (fun b => b = w10.heap.size) w19 w20 := Fr.set rfl
 have q3 : Row w20 _ _ := q3.set 5 (.int .i64 200)
 clear_value w20
 have q1 := f20.row q1 (by omega); have q2 := f20.row q2 (by omega); have q4 := f20.row q4 (by omega)
 have z2 := f20.row z2 (by omega)
 refine ⟨⟨some ⟨lb4, 0, none⟩, 2, 2⟩, q4.at rfl, ⟨by decide, by show (1 : Int) < 2; decide⟩, ?_⟩
 rw [hA4]
 have z4 := f20.row (f19.row (f16.row l4 fun h => h) (by omega)) (by omega)
 refine ⟨z4.wr (by simp), ?_⟩
 intro w23
 have z4 : Row w23 lb4 _ := z4.set 3 (.int .i64 50)
 have f23 : Fr (fun b => b = lb4) w20 w23 := Fr.set rfl
 clear_value w23
 have q1 := f23.row q1 (by omega); have q2 := f23.row q2 (by omega); have q3 := f23.row q3 (by omega); have q4 := f23.row q4 (by omega)
 have z2 := f23.row z2 (by omega)
 have F : Fr (fun b => b = cb2 \/ b = lb4) w7 w23 := (((Fr.trans (F := fun b => b = cb2 \/ b = lb4) (f16.mono fun _ h => h.elim) f19 fun b h _ => .inl h)).trans f20 fun b h hb => by omega).trans f23 fun b h _ => .inr h
 have hL : ∀ b, b = cb2 \/ b = lb4 -> LC w7 b := by
  rintro b (rfl | rfl)
  ·exact .inr ⟨_, y2⟩
  ·exact .inl ⟨_, y4⟩
 have F0' : Fr F0 w w23 := (f1.t (f3.t (f5.t f7))).trans F fun b h hb => by omega
 have T1 : TP w23 x1 (exT 100 60 100) := (XE.frLC X1 hL F).tp (F.row l1 (by omega)) (F.row c1 (by omega))
 have T2 : TP w23 _ (exT 100 90 100) := (XE.frLC ⟨p2, rb2, tb2, rfl, X2⟩ hL F).tp (F.row l2 (by omega)) z2
 have T3 : TP w23 (T43.mk (ofL []) ⟨some ⟨lb3, 0, none⟩, 2, 2⟩ ⟨some ⟨cb3, 0, none⟩, 2, 2⟩ ⟨some ⟨rb3, 0, none⟩, 1, 1⟩ 1 200 p3.op p3.n p3.d p3.nm p3.a ⟨some ⟨tb3, 0, none⟩, 2, 2⟩ 0 ⟨none, 0, 0⟩ 0 0 0 0 0 0) (exT 100 60 200) := (XE.frLC ⟨p3, rb3, tb3, rfl, X3⟩ hL F).tp (F.row l3 (by omega)) (F.row c3 (by omega))
 have T4 : TP w23 _ (exT 50 60 100) := (XE.frLC ⟨p4, rb4, tb4, rfl, X4⟩ hL F).tp z4 (F.row c4 (by omega))
 have G := g.fr F0'
 have A1 := exT_fit (lm := 100) (ch := 60) (hi := 100) (.lit (by decide)) (.lit (by decide)) (.lit (by decide))
 have A2 := exT_fit (lm := 100) (ch := 90) (hi := 100) (.lit (by decide)) (.lit (by decide)) (.lit (by decide))
 have A3 := exT_fit (lm := 100) (ch := 60) (hi := 200) (.lit (by decide)) (.lit (by decide)) (.lit (by decide))
 have A4 := exT_fit (lm := 50) (ch := 60) (hi := 100) (.lit (by decide)) (.lit (by decide)) (.lit (by decide))
 have hK : ∀ w', Fr F0 w23 w' -> K true w' := fun w' h => hK w' (F0'.t h)
 clear hL F0' F f1 f3 f5 f7 f16 f19 f20 f23 y2 y4 X1 X2 X3 X4 z2 z4
 have d : ∀ {m l : List B}, m = l -> decide (m = l) = true := fun h => decide_eq_true h
 refine T43.ld_row q1 (Clauses_spec T1 A1 G fun w25 s m => is_lit (m := [wName, wL1, wL2, wCQ, wCD, wR1, wRange, wForm, wTies, wMost, wCombos, wBudget, wTimes]) m.vw (by rw [r_cl]; decide) fun w28 f => ?_)
 rw [d r_cl]
 refine cnd_no ?_
 have f28 : Fr F0 w23 w28 := m.fr0.t f
 refine T43.ld_row (f28.row q1 fun h => h) (Uses_spec (c := wForm) (T1.fr f28) A1 (G.fr f28) fun w s m => is_lit (m := [wCQ, wRange]) m.vw (by rw [r_u1]; decide) fun w34 f => ?_)
 rw [d r_u1]
 refine cnd_no ?_
 have f34 : Fr F0 w23 w34 := f28.t (m.fr0.t f)
 refine T43.ld_row (f34.row q1 fun h => h) (Uses_spec (c := wTies) (T1.fr f34) A1 (G.fr f34) fun w s m => is_lit (m := [wCQ, wRange]) m.vw (by rw [r_u2]; decide) fun w40 f => ?_)
 rw [d r_u2]
 refine cnd_no ?_
 have f40 : Fr F0 w23 w40 := f34.t (m.fr0.t f)
 refine T43.ld_row (f40.row q1 fun h => h) (Uses_spec (c := wR1) (T1.fr f40) A1 (G.fr f40) fun w s m => is_lit (m := [wCD]) m.vw (by rw [r_u3]; decide) fun w46 f => ?_)
 rw [d r_u3]
 refine cnd_no ?_
 have f46 : Fr F0 w23 w46 := f40.t (m.fr0.t f)
 refine T43.ld_row (f46.row q1 fun h => h) (T43.ld_row (f46.row q2 fun h => h) (Changed_spec (T1.fr f46) (T2.fr f46) A1 A2 (G.fr f46) fun w s m => is_lit (m := [wCD]) m.vw (by rw [r_ch]; decide) fun w53 f => ?_))
 rw [d r_ch]
 refine cnd_yes ?_
 have f53 : Fr F0 w23 w53 := f46.t (m.fr0.t f)
 refine T43.ld_row (f53.row q1 fun h => h) (T43.ld_row (f53.row q2 fun h => h) (Affected_spec (T1.fr f53) (T2.fr f53) A1 A2 (G.fr f53) fun w s m => is_lit (m := [wCD, wR1]) m.vw (by rw [r_a1]; decide) fun w60 f => ?_))
 rw [d r_a1]
 refine cnd_yes ?_
 have f60 : Fr F0 w23 w60 := f53.t (m.fr0.t f)
 refine T43.ld_row (f60.row q1 fun h => h) (T43.ld_row (f60.row (b := w10.heap.size) (cs := T43.cs (T43.mk (ofL []) ⟨some ⟨lb3, 0, none⟩, 2, 2⟩ ⟨some ⟨cb3, 0, none⟩, 2, 2⟩ ⟨some ⟨rb3, 0, none⟩, 1, 1⟩ 1 200 p3.op p3.n p3.d p3.nm p3.a ⟨some ⟨tb3, 0, none⟩, 2, 2⟩ 0 ⟨none, 0, 0⟩ 0 0 0 0 0 0)) q3 fun h => h) (Affected_spec (T1.fr f60) (T3.fr f60) A1 A3 (G.fr f60) fun w s m => is_lit (m := [wRange, wForm, wTies]) m.vw (by rw [r_a2]; decide) fun w67 f => ?_))
 rw [d r_a2]
 refine cnd_yes ?_
 have f67 : Fr F0 w23 w67 := f60.t (m.fr0.t f)
 refine T43.ld_row (f67.row q1 fun h => h) (T43.ld_row (f67.row q4 fun h => h) ?_)
 refine Touches_spec (lots := [1]) ((T1.fr f67).fr Fr.alloc) ((T4.fr f67).fr Fr.alloc) A1 A4 ((G.fr f67).fr Fr.alloc) (Row.ow encI_length (l := [(1 : Int)]) Row.new).vw (by decide) (fun i h => by rw [List.mem_singleton.1 h]; exact .lit (by decide)) fun w72 f => ?_
 rw [r_t1]
 refine cnd_no' ?_
 have f72 : Fr F0 w23 w72 := f67.t (Fr.alloc.t f)
 refine T43.ld_row (f72.row q1 fun h => h) (T43.ld_row (f72.row q4 fun h => h) ?_)
 refine Touches_spec (lots := [1, 2]) ((T1.fr f72).fr Fr.alloc) ((T4.fr f72).fr Fr.alloc) A1 A4 ((G.fr f72).fr Fr.alloc) (Row.ow encI_length (l := [(1 : Int), 2]) Row.new).vw (by decide) (fun i h => by rcases List.mem_cons.1 h with rfl | h; exact .lit (by decide); rw [List.mem_singleton.1 h]; exact .lit (by decide)) fun w77 f => ?_
 rw [r_t2]
 exact hK w77 (f72.t (Fr.alloc.t f))
end
end Go.Proofs.YtfkmpbpkahcogaaGreatDoor
