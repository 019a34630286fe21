/- A slice of ints among the arguments, with what it weighs. Conditions: none. -/
import Derived.Test.YtfpobpjandjhjaaGreatDoorCEA
import Derived.SizedLaws
import Derived.Test.YtfpobpjandjhjaaGreatDoorPE2
namespace Pw
open Go Go.ChangeShapes Go.WideShapes Go.ChangeAt Go.RowKit
section
variable {H : Type} {enc : TypeId × Value -> H} {P : Program} {W : World}
theorem cell_viR {k : IntKind} {t e : TypeId} {cs : List Value} {x : DataW H × List MemPlace} {fuel : Nat} (ht : P.underlying t = some (.slice e)) (he : P.underlying e = some (.int k)) (hc : P.cellsOf e = 1)
  (h : DataW.trod enc P W 0 (fun _ => true) true fuel t cs = some x) :
  ∃ (q : Sl) (l : List Int), cs = [.slice q.p q.l q.c] /\ Vw 1 (ie k id) W q l /\ (∀ n ∈ l, (Lit.int k n).wf = true) /\ l.length < 2 ^ 63 /\ ∀ R b, P.bytesOf e = b -> (∀ n ∈ x.1.weights P t, n <= R) -> l.length * b <= R := by
 rcases open_ints ht he hc h with ⟨rfl, _⟩ | ⟨a, len, cap, zs, rfl, _, hle, hm, hz, hx, hcell, hwf⟩
 ·exact ⟨⟨none, 0, 0⟩, [], rfl, Vw.nil, by simp, by simp, fun R b _ _ => by simp⟩
 ·simp only [if_true] at hz
  have hlen : (zs.take len).length = len := by simp; omega
  refine ⟨⟨some a, len, cap⟩, zs.take len, rfl, ⟨hlen.symm, hle, ?_⟩, fun n hn => hwf n (List.mem_of_mem_take hn), ?_, fun R b hb hw => ?_⟩
  ·rw [show (zs.take len).flatMap (ie k id) = (zs.take len).map (fun n => Value.int k n) from fm_one (fun n => Value.int k n) _]
   refine ⟨by simp; omega, fun i hi => ?_⟩
   simp at hi
   rw [hcell i (by omega)]
   have : i < zs.length := by omega
   simp [this]
  ·rw [hlen]
   have : maxLen = 2 ^ 63 - 1 := rfl
   omega
  ·rw [hx] at hw
   have := hw ((lits (H := H) k (zs.take len)).length * b + (lits (H := H) k (zs.drop len)).length * b) (by
    simp only [DataW.weights, ht, hb]
    rw [← Nat.add_mul]
    exact List.mem_cons_self ..)
   have e : (lits (H := H) k (zs.take len)).length = (zs.take len).length := by simp [lits]
   rw [e] at this
   omega
theorem arg_viR {k : IntKind} {r : Reach} {b0 : Nat} {t e : TypeId} {v : Value} {d : DataW H} {ps : List MemPlace} (ht : P.underlying t = some (.slice e)) (he : P.underlying e = some (.int k)) (hc : P.cellsOf e = 1)
  (hval : Value.okWide P W r b0 t v) (h : DataW.Trod enc P W 0 (fun _ => true) true t v d ps) :
  ∃ (q : Sl) (l : List Int), v = .slice q.p q.l q.c /\ Vw 1 (ie k id) W q l /\ (∀ n ∈ l, (Lit.int k n).wf = true) /\ l.length < 2 ^ 63 /\ ∀ R b, P.bytesOf e = b -> (∀ n ∈ d.weights P t, n <= R) -> l.length * b <= R := by
 obtain ⟨a, len, cap, rfl⟩ := okWide_slice ht hval
 obtain ⟨fuel, hf⟩ := h
 obtain ⟨q, l, hcs, h1, h2, h3, h4⟩ := cell_viR ht he hc hf
 simp only [Value.cells, List.cons.injEq, and_true] at hcs
 exact ⟨q, l, hcs, h1, h2, h3, h4⟩
end
end Pw
namespace Go.Proofs.YtfpobpjandjhjaaGreatDoor
open Go Pw
section
variable {w w' w0 : World} {t5 ns : Sl} {T : List Int} {N : List Nd} {pts bnd : Int} {b : Nat}
structure FitR (T : List Int) (pts bnd : Int) (N : List Nd) : Prop where
 t : ∀ n ∈ T, I64 n
 pts : I64 pts
 bnd : I64 bnd
 n : ∀ x ∈ N, I64 x.lot /\ ∀ n ∈ x.next, I64 n
theorem flat_bound {N : List Nd} {i : Nat} (hi : i < N.length) : ((N.take i).flatMap nodeT).length + (nodeT N[i]).length <= (N.flatMap nodeT).length := by
 have e : N.flatMap nodeT = (N.take i).flatMap nodeT ++ (nodeT N[i] ++ (N.drop (i + 1)).flatMap nodeT) := by
  rw [← List.flatMap_cons, ← List.drop_eq_getElem_cons hi, ← List.flatMap_append, List.take_append_drop]
 rw [e, List.length_append, List.length_append]
 omega
theorem bl_ofL_map (l : List Int) : (l.map fun n => ofL (Lib.itoa n)).map bl = l.map Lib.itoa := by
 rw [List.map_map]
 exact List.map_congr_left fun n _ => bl_ofL _
theorem Encode_spec {K : ByteArray -> World -> Prop} (hT : VI w t5 T) (hN : NV w ns N) (hs : SmR T N) (hx43 : ∀ x ∈ N, x.next.length < 2 ^ 42) (hT43 : T.length < 2 ^ 42) (hF : FitR T pts bnd N) (g : GlT w) (hlen : (encT T pts bnd N).length <= 140737488355328)
  (hK : ∀ w', Fr F0 w w' -> K (ofL (encT T pts bnd N)) w') : z3j_sh t5 pts bnd ns K w := by
 have e5 := hT.len
 have en := hN.len
 have hn1 := hs.n
 unfold encT at hlen
 rw [List.length_append, List.length_append] at hlen
 refine ⟨?_⟩
 unfold z3j_sd
 intro w1
 have m : Mem w w1 _ := Mem.nil.allocL (cs := rsC t5 pts bnd ns)
 have n1 : NU w1 w.heap.size := NU.new (by decide)
 clear_value w1
 have hrow := m.row 0 rfl
 have hwb : w.heap.size < w1.heap.size := n1.1
 intro w2
 have hb2 : Bld w1.heap.size [] w2 := Bld.new
 have hf2 : Fr F0 w w2 := m.1.t Fr.alloc
 have hrow : Row w2 w.heap.size (rsC t5 pts bnd ns) := (Fr.alloc : Fr F0 w1 w2).row hrow fun h => h
 have n1 : NU w2 w.heap.size := n1.fr (Fr.alloc : Fr F0 w1 w2)
 clear_value w2
 refine ⟨t5, hrow.at rfl, texts_spec (hT.fr hf2) hF.t (by omega) (g.fr hf2) fun w4 r5 hm5 hn5 => ?_⟩
 have hb4 := hb2.fr hm5.fr0
 have hr4 := hm5.fr0.row hrow fun h => h
 have n4 := n1.fr hm5.fr0
 have hlt2 := hb2.lt
 have hwt : bl (str [116, 97, 107, 101]) = takeW := by rw [bl_str]; rfl
 have hwp : bl (str [112, 111, 105, 110, 116, 115]) = pointsW := by rw [bl_str]; rfl
 have hwn : bl (str [110, 111, 100, 101]) = nodeW := by rw [bl_str]; rfl
 refine write_spec hb4 hm5.vw (fun k hk => ⟨by have := hm5.nw k hk; omega, hn5 k hk⟩) (by rw [hwt, bl_ofL_map]; simp only [List.length_nil]; omega) fun w6 hb6 hf6 => ?_
 rw [hwt, bl_ofL_map, List.nil_append] at hb6
 have hr6 := hf6.row (by omega) n4 hr4
 have n6 := hf6.nu (by omega) n4
 have hF6 : Fr F0 w w6 := hf6.fr0 (hf2.t hm5.fr0) (by omega)
 refine ⟨_, hr6.at rfl, _, hr6.at rfl, ?_⟩
 intro w9
 have m9 : Mem w6 w9 _ := Mem.nil.allocL (cs := ([pts, bnd] : List Int).map (Value.int .i64))
 clear_value w9
 have hF9 : Fr F0 w w9 := hF6.t m9.1
 refine texts_spec (l := [pts, bnd]) (Row.ow (fun a => ie_length _ _ a) (l := [pts, bnd]) (m9.row 0 rfl)).vw (fun n hn => (List.mem_cons.1 hn).elim (fun h => h ▸ hF.pts) fun h => (List.mem_singleton.1 h) ▸ hF.bnd) (by simp) (g.fr hF9) fun w10 r11 hm11 hn11 => ?_
 have hf10 : Fr F0 w6 w10 := m9.1.t hm11.fr0
 have hb10 := hb6.fr hf10
 have hlt6 := hb6.lt
 have hm9s := m9.1.1
 refine write_spec hb10 hm11.vw (fun k hk => ⟨by have := hm11.nw k hk; omega, hn11 k hk⟩) (by rw [hwp, bl_ofL_map]; simp only [List.map_cons, List.map_nil]; omega) fun w12 hb12 hf12 => ?_
 rw [hwp, bl_ofL_map] at hb12
 simp only [List.map_cons, List.map_nil] at hb12
 have hr12 := hf12.row (by omega) (n6.fr hf10) (hf10.row hr6 fun h => h)
 have hF12 : Fr F0 w w12 := hf12.fr0 (hF6.t hf10) (by omega)
 refine ⟨ns, hr12.at rfl, ?_⟩
 refine ⟨⟨fun i u => ∃ i' : Nat, i = i' /\ i' <= N.length /\ Bld w1.heap.size (lineT takeW (T.map Lib.itoa) ++ lineT pointsW [Lib.itoa pts, Lib.itoa bnd] ++ (N.take i').flatMap nodeT) u /\ Fr F0 w u, fun i _ => N.length - i.toNat, ⟨0, rfl, by omega, by simpa using hb12, hF12⟩, ?_⟩⟩
 clear hb12 hF12 hr12 hf12 hb10 hf10 hn11 hm11 m9 hF9 hr6 n6 hF6 hb6 hf6 hr4 n4 hb4 hm5 hn5 hb2 hf2 hrow n1
 rintro i u ⟨i, rfl, hi, hb, hf⟩
 unfold z3j_b0
 refine cnd_prop.2 ⟨fun hlt => ?_, fun hge => ?_⟩
 ·have hiN : i < N.length := by omega
  obtain ⟨i1, i2⟩ := hN.i64 (List.getElem_mem hiN)
  obtain ⟨i3, i4⟩ := hF.n _ (List.getElem_mem hiN)
  have hx := hx43 _ (List.getElem_mem hiN)
  have hfb := flat_bound hiN
  have hblt := hb.lt
  refine hN.ld hf i rfl hiN fun a nx hnx hc => ?_
  obtain ⟨c0, c1, c2, c3⟩ := hc
  refine ⟨_, c0, _, c1, _, c2, nx, c3, ?_⟩
  refine stN_nu _ _ _ (K := fun w20 => Mem u w20 [(u.heap.size, [.int .i64 N[i].lot, .int .i64 N[i].num, .int .i64 N[i].den, .slice nx.p nx.l nx.c])]) (stN_new (w0 := u) (l := []) rfl Mem.nil fun w20 m20 => m20) (NU.new (by decide)) fun w20 n20 m20 => ?_
  intro w21
  have m : Mem u w21 _ := m20.drew
  have n21 : NU w21 u.heap.size := n20.fr Fr.drew
  clear_value w21
  have hgl := fun {v : World} (h : Fr F0 u v) => g.fr (hf.t h)
  have hxs : ∀ {v : World}, Fr F0 w21 v -> Rs v [(u.heap.size, [.int .i64 N[i].lot, .int .i64 N[i].num, .int .i64 N[i].den, .slice nx.p nx.l nx.c])] := fun h => (m.fr h).sub 0 rfl
  have l1 := itoa_len' i1
  have l2 := itoa_len' i2
  have e47 : bl (str [47]) = [47] := by rw [bl_str]; rfl
  have s47 : (str [47]).size = 1 := by decide
  have so : ∀ l : List UInt8, (ofL l).size = l.length := fun l => by rw [← bl_length, bl_ofL]
  have hdual : bl ((ofL (Lib.itoa N[i].num) ++ str [47]) ++ ofL (Lib.itoa N[i].den)) = dualT N[i] := by
   unfold dualT
   rw [bl_append, bl_append, bl_ofL, bl_ofL, e47, List.append_assoc]
   rfl
  refine ⟨fun v => Rs v [(u.heap.size, [.int .i64 N[i].lot, .int .i64 N[i].num, .int .i64 N[i].den, .slice nx.p nx.l nx.c])], hxs Fr.refl, _, fun _ h => h.ld 0 rfl rfl, _, fun _ h => h.ld 0 rfl rfl, ?_⟩
  refine Itoa_spec i1 (hgl m.1) fun w25 f25 => ⟨hxs f25, ?_, Itoa_spec i2 (hgl (m.1.t f25)) fun w27 f27 => ⟨hxs (f25.t f27), ?_, ?_⟩⟩
  ·rw [so, s47]; unfold maxI; omega
  ·rw [ByteArray.size_append, so, so, s47]; unfold maxI; omega
  intro w29
  have f29 : Fr F0 w21 w29 := (f25.t f27).t Fr.drew
  clear_value w29
  have hbu : ∀ {v : World}, Fr F0 w21 v -> Bld w1.heap.size (lineT takeW (T.map Lib.itoa) ++ lineT pointsW [Lib.itoa pts, Lib.itoa bnd] ++ (N.take i).flatMap nodeT) v := fun h => hb.fr (m.1.t h)
  have hfin : ∀ {v : World} {s38 : Sl} {K' : World -> Prop}, Fr F0 w21 v -> Vw 1 encS v s38 (ofL (Lib.itoa N[i].lot) :: ((ofL (Lib.itoa N[i].num) ++ str [47]) ++ ofL (Lib.itoa N[i].den)) :: N[i].next.map (fun n => ofL (Lib.itoa n))) -> (∀ k, inB s38 k -> u.heap.size <= k /\ NU v k) ->
    (∀ v', Rs v' [(u.heap.size, [.int .i64 N[i].lot, .int .i64 N[i].num, .int .i64 N[i].den, .slice nx.p nx.l nx.c])] -> Bld w1.heap.size (lineT takeW (T.map Lib.itoa) ++ lineT pointsW [Lib.itoa pts, Lib.itoa bnd] ++ (N.take (i + 1)).flatMap nodeT) v' -> Fr F0 w v' -> K' v') -> z41_sh (some ⟨w1.heap.size, 0, none⟩) (str [110, 111, 100, 101]) s38 K' v := fun {v s38 K'} hv hvw hk hK' => by
   have hm : (ofL (Lib.itoa N[i].lot) :: ((ofL (Lib.itoa N[i].num) ++ str [47]) ++ ofL (Lib.itoa N[i].den)) :: N[i].next.map (fun n => ofL (Lib.itoa n))).map bl = Lib.itoa N[i].lot :: dualT N[i] :: N[i].next.map Lib.itoa := by
    rw [List.map_cons, List.map_cons, bl_ofL, hdual, bl_ofL_map]
   refine write_spec (hbu hv) hvw (fun k hk' => ⟨by have := (hk k hk').1; omega, (hk k hk').2⟩) ?_ fun v' hb' hf' => hK' v' ?_ ?_ (hf'.fr0 (hf.t (m.1.t hv)) (by omega))
   ·rw [hm, hwn, List.length_append, List.length_append]
    have : (lineT nodeW (Lib.itoa N[i].lot :: dualT N[i] :: N[i].next.map Lib.itoa)).length = (nodeT N[i]).length := rfl
    omega
   ·intro q hq
    rw [List.mem_singleton] at hq
    subst hq
    exact hf'.row (by omega) (n21.fr hv) (hxs hv _ (List.mem_singleton.2 rfl))
   ·rw [hm, hwn] at hb'
    rw [take_succ' hiN, List.flatMap_append]
    rw [List.append_assoc] at hb'
    simpa [nodeT] using hb'
  have hN0 : ∀ {v' : World}, Rs v' [(u.heap.size, [.int .i64 N[i].lot, .int .i64 N[i].num, .int .i64 N[i].den, .slice nx.p nx.l nx.c])] -> Bld w1.heap.size (lineT takeW (T.map Lib.itoa) ++ lineT pointsW [Lib.itoa pts, Lib.itoa bnd] ++ (N.take (i + 1)).flatMap nodeT) v' -> Fr F0 w v' ->
    Rs v' [(u.heap.size, [.int .i64 N[i].lot, .int .i64 N[i].num, .int .i64 N[i].den, .slice nx.p nx.l nx.c])] /\ inR .i64 ((i : Int) + 1) /\ (((⟨w1.heap.size, 0, none⟩ : Addr) = ⟨w1.heap.size, 0, none⟩ /\ ns = ns /\ (ns.l : Int) = ns.l /\ True) /\ ∃ i' : Nat, (i : Int) + 1 = i' /\ i' <= N.length /\ Bld w1.heap.size (lineT takeW (T.map Lib.itoa) ++ lineT pointsW [Lib.itoa pts, Lib.itoa bnd] ++ (N.take i').flatMap nodeT) v' /\ Fr F0 w v') /\ N.length - ((i : Int) + 1).toNat < N.length - (i : Int).toNat :=
   fun h1 h2 h3 => ⟨h1, inR64 (by omega) (by omega), ⟨⟨rfl, rfl, rfl, trivial⟩, i + 1, by omega, by omega, h2, h3⟩, by omega⟩
  refine ⟨fun v => Rs v [(u.heap.size, [.int .i64 N[i].lot, .int .i64 N[i].num, .int .i64 N[i].den, .slice nx.p nx.l nx.c])], hxs f29, _, fun _ h => h.ld 0 rfl rfl, nx, fun _ h => h.ld 0 rfl rfl, Itoa_spec i3 (hgl (m.1.t f29)) fun w33 f33 => ⟨hxs (f29.t f33), ?_, ?_⟩⟩
  ·intro w35
   have m35 : Mem w33 w35 _ := Mem.nil.allocL (cs := ([ofL (Lib.itoa N[i].lot), (ofL (Lib.itoa N[i].num) ++ str [47]) ++ ofL (Lib.itoa N[i].den)] : List ByteArray).flatMap encS)
   have n35 : NU w35 w33.heap.size := NU.new (by decide)
   clear_value w35
   have f35 := (f29.t f33).t m35.1
   refine ⟨hxs f35, texts_spec (hnx.fr (hf.t (m.1.t f35))) i4 (by omega) (hgl (m.1.t f35)) fun w36 r37 hm37 hn37 => ⟨hxs (f35.t hm37.fr0), ?_⟩⟩
   have f36 := f35.t hm37.fr0
   have hsl : Mk w33 1 encS w36 ⟨some ⟨w33.heap.size, 0, none⟩, 2, 2⟩ [ofL (Lib.itoa N[i].lot), (ofL (Lib.itoa N[i].num) ++ str [47]) ++ ofL (Lib.itoa N[i].den)] :=
    ⟨m35.1.t hm37.fr0, (Row.ow encS_length (m35.row 0 rfl)).fr hm37.fr0, fun b ⟨a, ha, hb⟩ => by cases ha; subst hb; exact Nat.le_refl _⟩
   refine apS_plus (K := fun s w' => Mk w33 1 encS w' s (([ofL (Lib.itoa N[i].lot), (ofL (Lib.itoa N[i].num) ++ str [47]) ++ ofL (Lib.itoa N[i].den)] : List ByteArray) ++ N[i].next.map (fun n => ofL (Lib.itoa n)))) (hsl.app hm37.vw encS_ok rfl (by simp; omega) (by simp; omega) fun r w' h _ => h) (fun b ⟨a, ha, hb⟩ => by cases ha; subst hb; exact n35.fr hm37.fr0) (by decide) fun s38 w39 h hn => ?_
   have f39 := (f29.t f33).t h.fr0
   have hsz := (m.1.t (f29.t f33)).1
   exact ⟨hxs f39, hfin f39 h.vw (fun k hk => ⟨by have := h.nw k hk; omega, hn k hk⟩) fun v' h1 h2 h3 => hN0 h1 h2 h3⟩
  ·refine texts_spec (hnx.fr (hf.t (m.1.t (f29.t f33)))) i4 (by omega) (hgl (m.1.t (f29.t f33))) fun w41 r42 hm42 hn42 => ⟨hxs ((f29.t f33).t hm42.fr0), ?_⟩
   have f41 := (f29.t f33).t hm42.fr0
   intro w43
   have m43 : Mem w41 w43 _ := Mem.nil.allocL (cs := ([ofL (Lib.itoa N[i].lot), (ofL (Lib.itoa N[i].num) ++ str [47]) ++ ofL (Lib.itoa N[i].den)] : List ByteArray).flatMap encS)
   have n43 : NU w43 w41.heap.size := NU.new (by decide)
   clear_value w43
   have f43 := f41.t m43.1
   refine ⟨hxs f43, ?_⟩
   have hsl : Mk w41 1 encS w43 ⟨some ⟨w41.heap.size, 0, none⟩, 2, 2⟩ [ofL (Lib.itoa N[i].lot), (ofL (Lib.itoa N[i].num) ++ str [47]) ++ ofL (Lib.itoa N[i].den)] :=
    ⟨m43.1, Row.ow encS_length (m43.row 0 rfl), fun b ⟨a, ha, hb⟩ => by cases ha; subst hb; exact Nat.le_refl _⟩
   refine apS_plus (K := fun s w' => Mk w41 1 encS w' s (([ofL (Lib.itoa N[i].lot), (ofL (Lib.itoa N[i].num) ++ str [47]) ++ ofL (Lib.itoa N[i].den)] : List ByteArray) ++ N[i].next.map (fun n => ofL (Lib.itoa n)))) (hsl.app (hm42.vw.fr m43.1) encS_ok rfl (by simp; omega) (by simp; omega) fun r w' h _ => h) (fun b ⟨a, ha, hb⟩ => by cases ha; subst hb; exact n43) (by decide) fun s44 w45 h hn => ?_
   have f45 := f41.t h.fr0
   have hsz := (m.1.t f41).1
   exact ⟨hxs f45, hfin f45 h.vw (fun k hk => ⟨by have := h.nw k hk; omega, hn k hk⟩) fun v' h1 h2 h3 => hN0 h1 h2 h3⟩
 ·have : i = N.length := by omega
  subst this
  rw [List.take_length] at hb
  refine String_spec hb fun w47 f47 => ?_
  have hk := hK w47 (f47.fr0 hf (by omega))
  unfold encT at hk
  rw [← List.append_assoc] at hk
  exact hk
end
end Go.Proofs.YtfpobpjandjhjaaGreatDoor
