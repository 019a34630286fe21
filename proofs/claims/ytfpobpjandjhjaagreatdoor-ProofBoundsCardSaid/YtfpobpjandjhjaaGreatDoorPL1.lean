/- ProofBounds. Conditions: none. -/
import Derived.Test.YtfpobpjandjhjaaGreatDoorPEX
namespace Go.Proofs.YtfpobpjandjhjaaGreatDoor
open Go Pw
section
variable {w w' w0 : World} {s s0 s1 s2 s5 x0 x1 x2 y : Sl} {p : Pr} {f l T : List Int} {q0 q1 q2 q3 q4 : Int} {db xb yb : Nat}
theorem Bounds_q {K : Bool -> World -> Prop} {M : World -> Prop} (hP : PV w x0 x1 x2 p) (hxr : Row w xb (prC x0 x1 x2 p.most p.budget)) (hd : Row w db [.int .i64 q3, .int .i64 q4]) (hT : VI w y T) (hTl : T.length < 2 ^ 63) (h3 : I64 q3) (h4 : I64 q4)
  (hM : ∀ u, Fr F0 w u -> M u) : ∃ x49 : Sl, w.cell? (⟨xb, 0, none⟩ : Addr) = some (Value.slice x49.p x49.l x49.c) /\ ∃ x50 : Sl, w.cell? ((⟨xb, 0, none⟩ : Addr).add 1) = some (Value.slice x50.p x50.l x50.c) /\ ∃ x51 : Sl, w.cell? ((⟨xb, 0, none⟩ : Addr).add 2) = some (Value.slice x51.p x51.l x51.c) /\ ∃ x52 : Int, w.cell? ((⟨xb, 0, none⟩ : Addr).add 3) = some (Value.int .i64 x52) /\ ∃ x53 : Int, w.cell? ((⟨xb, 0, none⟩ : Addr).add 4) = some (Value.int .i64 x53) /\ ∃ x54 : Int, w.cell? (⟨db, 0, none⟩ : Addr) = some (Value.int .i64 x54) /\ ∃ x55 : Int, w.cell? ((⟨db, 0, none⟩ : Addr).add 1) = some (Value.int .i64 x55) /\ z3r_sh x49 x50 x51 x52 x53 y x54 x55 (fun (r57 : Int) (r58 : Bool) (w56 : World) => ∃ x59 : Sl, w56.cell? (⟨xb, 0, none⟩ : Addr) = some (Value.slice x59.p x59.l x59.c) /\ ∃ x60 : Sl, w56.cell? ((⟨xb, 0, none⟩ : Addr).add 1) = some (Value.slice x60.p x60.l x60.c) /\ ∃ x61 : Sl, w56.cell? ((⟨xb, 0, none⟩ : Addr).add 2) = some (Value.slice x61.p x61.l x61.c) /\ ∃ x62 : Int, w56.cell? ((⟨xb, 0, none⟩ : Addr).add 3) = some (Value.int .i64 x62) /\ ∃ x63 : Int, w56.cell? ((⟨xb, 0, none⟩ : Addr).add 4) = some (Value.int .i64 x63) /\ ∃ x64 : Int, w56.cell? (⟨db, 0, none⟩ : Addr) = some (Value.int .i64 x64) /\ ∃ x65 : Int, w56.cell? ((⟨db, 0, none⟩ : Addr).add 1) = some (Value.int .i64 x65) /\ z1t_sh x59 x60 x61 x62 x63 y x64 x65 (fun (r67 : Int) (r68 : Bool) (w66 : World) => cnd (r57 != r67)
  (K false w66)
  (cnd (!(r58 == r68))
  (K false w66)
  (M w66))) w56) w := by
 refine ⟨x0, hxr.at rfl, x1, hxr.at rfl, x2, hxr.at rfl, _, hxr.at rfl, _, hxr.at rfl, _, hd.at rfl, _, hd.at rfl, pBound_spec ⟨hP, hT, hTl⟩ h3 h4 fun w1 f1 => ?_⟩
 have hx := f1.row hxr fun h => h
 have hd := f1.row hd fun h => h
 refine ⟨x0, hx.at rfl, x1, hx.at rfl, x2, hx.at rfl, _, hx.at rfl, _, hx.at rfl, _, hd.at rfl, _, hd.at rfl, rBound_spec ⟨hP.fr f1, hT.fr f1, hTl⟩ h3 h4 fun w2 f2 => ?_⟩
 exact cnd_bne.2 ⟨fun h => absurd rfl h, fun _ => cnd_iff.2 ⟨fun h => by simp at h, fun _ => hM w2 (f1.t f2)⟩⟩
theorem Bounds_l1 {t40 : Sl} {t41 t42 : Int} {N0 : Sl -> Bool -> Addr -> Sl -> Sl -> Int -> Int -> World -> Prop} {K : Bool -> World -> Prop} (hP : PV w x0 x1 x2 p) (hxr : Row w xb (prC x0 x1 x2 p.most p.budget)) (hd : Row w db [.int .i64 q3, .int .i64 q4])
  (hyr : Row w yb [.slice y.p y.l y.c, .slice s5.p s5.l s5.c]) (hT : VI w y T) (hTl : T.length < 2 ^ 63) (hf : VI w s5 f) (hfl : f.length < 2 ^ 63) (h3 : I64 q3) (h4 : I64 q4) (h42 : inR .i64 (t42 + 1)) (hN : ∀ u, Fr F0 w u -> N0 s5 true ⟨db, 0, none⟩ y t40 t41 (t42 + 1) u) :
  z06_l1 s5 true ⟨db, 0, none⟩ y ⟨xb, 0, none⟩ t40 t41 t42 ⟨some ⟨yb, 0, none⟩, 2, 2⟩ 2 0 N0 K w := by
 refine ⟨⟨fun i u => ∃ i' : Nat, i = i' /\ i' <= 2 /\ Fr F0 w u, fun i _ => 2 - i.toNat, ⟨0, rfl, by omega, Fr.refl⟩, ?_⟩⟩
 rintro i u ⟨i, rfl, hi, hu⟩
 unfold z06_b1
 have hy := hu.row hyr fun h => h
 refine cnd_prop.2 ⟨fun hlt => ?_, fun _ => ⟨h42, hN u hu⟩⟩
 have hi2 : i < 2 := by omega
 have hfin : ∀ v, Fr F0 u v -> inR .i64 ((i : Int) + 1) /\ ((s5 = s5 /\ true = true /\ (⟨db, 0, none⟩ : Addr) = ⟨db, 0, none⟩ /\ y = y /\ (⟨xb, 0, none⟩ : Addr) = ⟨xb, 0, none⟩ /\ t40 = t40 /\ t41 = t41 /\ t42 = t42 /\ (⟨some ⟨yb, 0, none⟩, 2, 2⟩ : Sl) = ⟨some ⟨yb, 0, none⟩, 2, 2⟩ /\ (2 : Int) = 2 /\ True) /\ ∃ i' : Nat, (i : Int) + 1 = i' /\ i' <= 2 /\ Fr F0 w v) /\ 2 - ((i : Int) + 1).toNat < 2 - (i : Int).toNat := fun v hv =>
  ⟨inR64 (by omega) (by omega), ⟨⟨rfl, rfl, rfl, rfl, rfl, rfl, rfl, rfl, rfl, rfl, trivial⟩, i + 1, by omega, by omega, hu.t hv⟩, by omega⟩
 match i, hi2, hfin with
 | 0, _, hfin => exact nz_iff.2 ⟨_, rfl, ⟨by decide, by show ((0 : Nat) : Int) < ((2 : Nat) : Int); decide⟩, y, hy.at rfl, Bounds_q (hP.fr hu) (hu.row hxr fun h => h) (hu.row hd fun h => h) (hT.fr hu) hTl h3 h4 hfin⟩
 | 1, _, hfin => exact nz_iff.2 ⟨_, rfl, ⟨by decide, by show ((1 : Nat) : Int) < ((2 : Nat) : Int); decide⟩, s5, hy.at rfl, Bounds_q (hP.fr hu) (hu.row hxr fun h => h) (hu.row hd fun h => h) (hf.fr hu) hfl h3 h4 hfin⟩
theorem Bounds_law {K : Bool -> World -> Prop} (hv : VI w s l) (hl : l.length < 2 ^ 63) (hf : VI w s5 f) (hfl : f.length < 2 ^ 63) (h3 : I64 q3) (h4 : I64 q4) (g : GlT w) (hK : ∀ w', Fr F0 w w' -> K true w') : z06_sh s s5 q0 q1 q2 q3 q4 K w := by
 have hp := madeP_right l
 refine ⟨?_⟩
 unfold z06_sd
 intro w1
 have m : Mem w w1 _ := Mem.nil.allocL (cs := [.int .i64 q0, .int .i64 q1, .int .i64 q2, .int .i64 q3, .int .i64 q4])
 clear_value w1
 refine sanity_spec (g.fr m.1) fun w2 f2 => ?_
 have m := m.fr f2
 refine Made_spec (hv.fr m.1) hl fun w4 s0 s1 s2 f4 hP => ?_
 have m := m.fr f4
 have hq := m.row 0 rfl
 have hw4 := m.1
 clear m
 refine stN_new (w0 := w4) (l := []) rfl Mem.nil fun w7 m => ?_
 have hq7 := m.1.row hq fun h => h
 refine ⟨⟨by decide, by decide⟩, _, hq7.at (i := 3) rfl, ⟨by decide, by decide⟩, _, hq7.at (i := 4) rfl, ?_⟩
 intro w10
 have m : Mem w4 w10 _ := m.allocL (cs := [.int .i64 0, .int .i64 0])
 clear_value w10
 refine ⟨m.wr 0 rfl rfl, ?_⟩
 intro w11
 have m : Mem w4 w11 [(w7.heap.size, [.int .i64 q3, .int .i64 0]), (w4.heap.size, prC s0 s1 s2 (madeP l).most (madeP l).budget)] := m.set 0 rfl
 clear_value w11
 refine ⟨m.wr 0 rfl rfl, ?_⟩
 intro w12
 have m : Mem w4 w12 [(w7.heap.size, [.int .i64 q3, .int .i64 q4]), (w4.heap.size, prC s0 s1 s2 (madeP l).most (madeP l).budget)] := m.set 0 rfl
 clear_value w12
 refine ⟨s0, m.ld 1 rfl rfl, s1, m.ld 1 rfl rfl, s2, m.ld 1 rfl rfl, _, m.ld 1 rfl rfl, _, m.ld 1 rfl rfl, prefix22_spec hp (hP.fr m.1) (hf.fr (hw4.t m.1)) fun w18 y T f18 hT hTl => ?_⟩
 have m := m.fr f18
 intro w20
 have m : Mem w4 w20 _ := m.drew
 have hT : VI w20 y T := hT.fr Fr.drew
 clear_value w20
 have hq20 := m.1.row hq fun h => h
 have hSS : ∀ {u}, Fr F0 w20 u -> Row u w4.heap.size (prC s0 s1 s2 (madeP l).most (madeP l).budget) /\ Row u w.heap.size [.int .i64 q0, .int .i64 q1, .int .i64 q2, .int .i64 q3, .int .i64 q4] := fun h => ⟨h.row (m.row 1 rfl) fun h => h, h.row hq20 fun h => h⟩
 refine ⟨fun u => Row u w4.heap.size (prC s0 s1 s2 (madeP l).most (madeP l).budget) /\ Row u w.heap.size [.int .i64 q0, .int .i64 q1, .int .i64 q2, .int .i64 q3, .int .i64 q4], hSS Fr.refl, s0, fun u hu => hu.1.at rfl, s1, fun u hu => hu.1.at rfl, s2, fun u hu => hu.1.at rfl, _, fun u hu => hu.1.at rfl, _, fun u hu => hu.1.at rfl, s0, fun u hu => hu.1.at rfl, s1, fun u hu => hu.1.at rfl, s2, fun u hu => hu.1.at rfl, _, fun u hu => hu.1.at rfl, _, fun u hu => hu.1.at rfl,
  ⟨by decide, by decide⟩, _, fun u hu => hu.2.at (i := 0) rfl, ⟨by decide, by decide⟩, _, fun u hu => hu.2.at (i := 1) rfl, ⟨by decide, by decide⟩, _, fun u hu => hu.2.at (i := 2) rfl, ?_⟩
 refine Spoiled_spec hp (hP.fr m.1) fun w35 t0 t1 t2 p' f35 hP' => ⟨hSS f35, ?_⟩
 have m := m.fr f35
 intro w37
 have f37 : Fr F0 w35 w37 := Fr.alloc
 have m : Mem w4 w37 [(w35.heap.size, [.slice s0.p s0.l s0.c, .slice s1.p s1.l s1.c, .slice s2.p s2.l s2.c, .int .i64 (madeP l).most, .int .i64 (madeP l).budget, .slice t0.p t0.l t0.c, .slice t1.p t1.l t1.c, .slice t2.p t2.l t2.c, .int .i64 p'.most, .int .i64 p'.budget]), (w7.heap.size, [.int .i64 q3, .int .i64 q4]), (w4.heap.size, prC s0 s1 s2 (madeP l).most (madeP l).budget)] :=
  m.allocL (cs := [.slice s0.p s0.l s0.c, .slice s1.p s1.l s1.c, .slice s2.p s2.l s2.c, .int .i64 (madeP l).most, .int .i64 (madeP l).budget, .slice t0.p t0.l t0.c, .slice t1.p t1.l t1.c, .slice t2.p t2.l t2.c, .int .i64 p'.most, .int .i64 p'.budget])
 clear_value w37
 refine ⟨hSS (f35.t f37), ?_⟩
 have hT := hT.fr (f35.t f37)
 have hP37 := hP.fr m.1
 have hP' := hP'.fr f37
 have hf37 := hf.fr (hw4.t m.1)
 have hK37 : ∀ u, Fr F0 w37 u -> K true u := fun u hu => hK u (hw4.t (m.1.t hu))
 refine ⟨⟨fun i u => ∃ i' : Nat, i = i' /\ i' <= 2 /\ Fr F0 w37 u, fun i _ => 2 - i.toNat, ⟨0, rfl, by omega, Fr.refl⟩, ?_⟩⟩
 rintro i u ⟨i, rfl, hi, hu⟩
 unfold z06_b0
 have hab := hu.row (m.row 0 rfl) fun h => h
 have hdb := hu.row (m.row 1 rfl) fun h => h
 refine cnd_prop.2 ⟨fun hlt => ?_, fun _ => hK37 u hu⟩
 have hi2 : i < 2 := by omega
 have hfin : ∀ v, Fr F0 u v -> ((s5 = s5 /\ true = true /\ (⟨w7.heap.size, 0, none⟩ : Addr) = ⟨w7.heap.size, 0, none⟩ /\ y = y /\ (⟨some ⟨w35.heap.size, 0, none⟩, 2, 2⟩ : Sl) = ⟨some ⟨w35.heap.size, 0, none⟩, 2, 2⟩ /\ (2 : Int) = 2 /\ True) /\ ∃ i' : Nat, (i : Int) + 1 = i' /\ i' <= 2 /\ Fr F0 w37 v) /\ 2 - ((i : Int) + 1).toNat < 2 - (i : Int).toNat := fun v hv =>
  ⟨⟨⟨rfl, rfl, rfl, rfl, rfl, rfl, trivial⟩, i + 1, by omega, by omega, hu.t hv⟩, by omega⟩
 match i, hi2, hfin with
 | 0, _, hfin =>
  refine nz_iff.2 ⟨_, rfl, ⟨by decide, by show ((0 : Nat) : Int) < ((2 : Nat) : Int); decide⟩, s0, hab.at (i := 0) rfl, s1, hab.at (i := 1) rfl, s2, hab.at (i := 2) rfl, _, hab.at (i := 3) rfl, _, hab.at (i := 4) rfl, ?_⟩
  refine stN_new (w0 := u) (l := []) rfl Mem.nil fun w45 n => ?_
  intro w46
  have n : Mem u w46 [(w45.heap.size, [.slice y.p y.l y.c, .slice s5.p s5.l s5.c]), (u.heap.size, prC s0 s1 s2 (madeP l).most (madeP l).budget)] := n.allocL (cs := [.slice y.p y.l y.c, .slice s5.p s5.l s5.c])
  clear_value w46
  exact Bounds_l1 (hP37.fr (hu.t n.1)) (n.row 1 rfl) (n.1.row hdb fun h => h) (n.row 0 rfl) (hT.fr (hu.t n.1)) (by omega) (hf37.fr (hu.t n.1)) hfl h3 h4 (inR64 (by omega) (by omega)) fun v hv => hfin v (n.1.t hv)
 | 1, _, hfin =>
  refine nz_iff.2 ⟨_, rfl, ⟨by decide, by show ((1 : Nat) : Int) < ((2 : Nat) : Int); decide⟩, t0, hab.at (i := 5) rfl, t1, hab.at (i := 6) rfl, t2, hab.at (i := 7) rfl, _, hab.at (i := 8) rfl, _, hab.at (i := 9) rfl, ?_⟩
  refine stN_new (w0 := u) (l := []) rfl Mem.nil fun w45 n => ?_
  intro w46
  have n : Mem u w46 [(w45.heap.size, [.slice y.p y.l y.c, .slice s5.p s5.l s5.c]), (u.heap.size, prC t0 t1 t2 p'.most p'.budget)] := n.allocL (cs := [.slice y.p y.l y.c, .slice s5.p s5.l s5.c])
  clear_value w46
  exact Bounds_l1 (hP'.fr (hu.t n.1)) (n.row 1 rfl) (n.1.row hdb fun h => h) (n.row 0 rfl) (hT.fr (hu.t n.1)) (by omega) (hf37.fr (hu.t n.1)) hfl h3 h4 (inR64 (by omega) (by omega)) fun v hv => hfin v (n.1.t hv)
theorem Bounds_fr {K : Bool -> World -> Prop} (g : GlT w) (hv : VI w s l) (hl : l.length < 2 ^ 63) (hf : VI w s5 f) (hfl : f.length < 2 ^ 63) (hq : I64 q0 /\ I64 q1 /\ I64 q2 /\ I64 q3 /\ I64 q4) (hK : ∀ w', Fr F0 w w' -> K true w') : z06_sh s s5 q0 q1 q2 q3 q4 K w :=
 Bounds_law hv hl hf hfl hq.2.2.2.1 hq.2.2.2.2 g hK
end
end Go.Proofs.YtfpobpjandjhjaaGreatDoor
