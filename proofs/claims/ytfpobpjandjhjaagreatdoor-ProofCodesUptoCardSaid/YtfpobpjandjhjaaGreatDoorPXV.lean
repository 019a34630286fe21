/- ProofCodes: what is written is read again, and both readers agree. Conditions: none. -/
import Derived.Test.YtfpobpjandjhjaaGreatDoorPXZ
import Derived.Test.YtfpobpjandjhjaaGreatDoorPV3
import Derived.Test.YtfpobpjandjhjaaGreatDoorPG9
namespace Go.Proofs.YtfpobpjandjhjaaGreatDoor
open Go Pw
section
variable {w w' w0 u v : World} {a b t t' ns ns' : Sl} {T : List Int} {N : List Nd} {pts bnd x1 x2 : Int}
theorem NV.cel {i : Nat} (h : NV w ns N) (hi : i < N.length) : ∃ (ad : Addr) (nx : Sl), ns.p = some ad /\ VI w nx N[i].next /\ ∀ w', Fr F0 w w' -> w'.cell? (ad.add (i * 4)) = some (.int .i64 N[i].lot) /\ w'.cell? ((ad.add (i * 4)).add 1) = some (.int .i64 N[i].num) /\ w'.cell? ((ad.add (i * 4)).add 2) = some (.int .i64 N[i].den) /\ w'.cell? ((ad.add (i * 4)).add 3) = some (.slice nx.p nx.l nx.c) := by
 obtain ⟨⟨cs, hv, hcl, hn⟩, _⟩ := h
 have hci : cs[i]? = some cs[i] := List.getElem?_eq_getElem (by omega)
 have hni : N[i]? = some N[i] := List.getElem?_eq_getElem hi
 obtain ⟨⟨e0, e1, e2⟩, hx, _⟩ := hn i _ _ hci hni
 obtain ⟨ad, hp, _⟩ := hv.at encN_length hci (by decide)
 refine ⟨ad, cs[i].nx, hp, hx, fun w' hf => ?_⟩
 obtain ⟨ad', hp', hc⟩ := (hv.fr hf).at encN_length hci (by decide)
 rw [hp] at hp'
 cases hp'
 rw [← e0, ← e1, ← e2]
 exact ⟨hc 0 _ rfl, hc 1 _ rfl, hc 2 _ rfl, hc 3 _ rfl⟩
theorem Same_true {K : Bool -> World -> Prop} (h1 : VI w t T) (h2 : VI w t' T) (n1 : NV w ns N) (n2 : NV w ns' N) (hT : T.length < 2 ^ 62) (hx : ∀ x ∈ N, x.next.length < 2 ^ 62) (hK : ∀ w', Fr F0 w w' -> K true w') : z2o_sh t pts bnd ns t' pts bnd ns' K w := by
 have l1 := n1.len
 have l2 := n2.len
 have hl47 := n1.lt
 refine ⟨?_⟩
 unfold z2o_sd
 intro w1
 have m : Mem w w1 _ := Mem.nil.allocL (cs := rsC t pts bnd ns)
 clear_value w1
 intro w2
 have m : Mem w w2 [(w1.heap.size, rsC t' pts bnd ns'), (w.heap.size, rsC t pts bnd ns)] := m.allocL (cs := rsC t' pts bnd ns')
 clear_value w2
 refine ⟨t, m.ld 1 rfl rfl, t', m.ld 0 rfl rfl, Ints_spec (h1.fr m.1) (h2.fr m.1) (by omega) fun w5 f5 => ?_⟩
 have m := m.fr f5
 refine cnd_iff.2 ⟨fun h => by simp at h, fun _ => ⟨_, m.ld 1 rfl rfl, _, m.ld 0 rfl rfl, cnd_bne.2 ⟨fun h => absurd rfl h, fun _ => ⟨_, m.ld 1 rfl rfl, _, m.ld 0 rfl rfl, cnd_bne.2 ⟨fun h => absurd rfl h, fun _ => ⟨ns, m.ld 1 rfl rfl, ns', m.ld 0 rfl rfl, cnd_bne.2 ⟨fun h => absurd (by omega) h, fun _ => ?_⟩⟩⟩⟩⟩⟩⟩
 have n1 := n1.fr m.1
 have n2 := n2.fr m.1
 have ra := m.row 1 rfl
 have rb := m.row 0 rfl
 refine ⟨⟨fun k u => ∃ k' : Nat, k = k' /\ k' <= N.length /\ Fr F0 w5 u, fun k _ => N.length - k.toNat, ⟨0, rfl, by omega, Fr.refl⟩, ?_⟩⟩
 rintro k u ⟨k, rfl, hk, hf⟩
 unfold z2o_b0
 refine ⟨ns, (hf.row ra fun h => h).at rfl, cnd_prop.2 ⟨fun hlt => ?_, fun hge => hK u (m.1.t hf)⟩⟩
 have hkN : k < N.length := by omega
 have hxk := hx _ (List.getElem_mem hkN)
 intro w14
 have f14 : Fr F0 w5 w14 := hf.t Fr.drew
 clear_value w14
 obtain ⟨ad, nx, hp, hnx, hc⟩ := n1.cel hkN
 obtain ⟨ad', nx', hp', hnx', hc'⟩ := n2.cel hkN
 have b1 : (0 : Int) <= (k : Int) /\ (k : Int) < (ns.l : Nat) := ⟨by omega, by omega⟩
 have b2 : (0 : Int) <= (k : Int) /\ (k : Int) < (ns'.l : Nat) := ⟨by omega, by omega⟩
 refine ⟨fun v => Fr F0 w5 v, f14, ns, fun v hv => (hv.row ra fun h => h).at rfl, nz_iff.2 ⟨ad, hp, b1, nx, fun v hv => (hc v hv).2.2.2, ns', fun v hv => (hv.row rb fun h => h).at rfl, nz_iff.2 ⟨ad', hp', b2, nx', fun v hv => (hc' v hv).2.2.2, ?_⟩⟩⟩
 refine Ints_spec (hnx.fr f14) (hnx'.fr f14) (by omega) fun w22 f22 => ⟨f14.t f22, ?_⟩
 intro w24
 have f24 : Fr F0 w5 w24 := (f14.t f22).t Fr.drew
 clear_value w24
 have c1 := hc _ f24
 have c2 := hc' _ f24
 have ra' := f24.row ra fun h => h
 have rb' := f24.row rb fun h => h
 refine ⟨ns, ra'.at rfl, nz_iff.2 ⟨ad, hp, b1, _, c1.1, ns', rb'.at rfl, nz_iff.2 ⟨ad', hp', b2, _, c2.1, cnd_bne.2 ⟨fun h => absurd rfl h, fun _ => ?_⟩⟩⟩⟩
 refine ⟨ns, ra'.at rfl, nz_iff.2 ⟨ad, hp, b1, _, c1.2.1, _, c1.2.2.1, ns', rb'.at rfl, nz_iff.2 ⟨ad', hp', b2, _, c2.2.1, _, c2.2.2.1, ?_⟩⟩⟩
 refine cnd_iff.2 ⟨fun h => by simp at h, fun _ => cnd_iff.2 ⟨fun h => by simp at h, fun _ => ⟨inR64 (by omega) (by omega), ⟨⟨rfl, rfl, trivial⟩, k + 1, by omega, by omega, f24⟩, by dsimp only; omega⟩⟩⟩
theorem NV.none (w : World) : NV w ⟨none, 0, 0⟩ [] := ⟨⟨[], Vw.nil, rfl, fun i c n hc => by simp at hc⟩, by decide⟩
theorem nodesQ_I : ∀ {k : Nat} {s : Bool × List UInt8}, ∀ x ∈ (nodesQ k s).1, I64 x.lot /\ I64 x.num /\ I64 x.den /\ ∀ n ∈ x.next, I64 n
 | 0, s => fun x hx => by simp [nodesQ] at hx
 | k + 1, s => fun x hx => by
  unfold nodesQ at hx
  split at hx
  ·simp only [List.mem_cons] at hx
   rcases hx with rfl | hx
   ·exact ⟨valP_I _ _, valP_I _ _, valP_I _ _, numsP_I⟩
   ·exact nodesQ_I x hx
  ·simp at hx
theorem readQ_I (s : List UInt8) : (readQ s).1.I := ⟨⟨numsP_I, valP_I _ _, valP_I _ _, fun x hx => ⟨(nodesQ_I x hx).1, (nodesQ_I x hx).2.2.2⟩⟩, fun x hx => ⟨(nodesQ_I x hx).2.1, (nodesQ_I x hx).2.2.1⟩⟩
theorem txt_small {r : Re} (hI : r.I) {k : Nat} (h : r.txt.length <= k) : r.T.length <= k /\ ∀ x ∈ r.N, x.next.length <= k := by
 have ht := congrArg List.length (txt_head r)
 rw [List.length_append] at ht
 have hT := listT_len r.T
 have hh : (listT r.T).length <= (headT r).length := by
  unfold headT
  simp only [List.length_append]
  omega
 refine ⟨by omega, fun x hx => ?_⟩
 have h1 := nd_mem hx
 have h2 := (nodeT_22 ⟨(hI.f.n x hx).1, (hI.n x hx).1, (hI.n x hx).2, (hI.f.n x hx).2⟩).2
 omega
theorem readers_spec {x : ByteArray} {KF : World -> Prop} {KN : World -> Prop} (hs : x.size < 4294967281) (g : Gl w) (hK : ∀ w', Fr F0 w w' -> KN w') :
  z3x_sh x (fun (r62_0 : Sl) (r62_1 : Int) (r62_2 : Int) (r62_3 : Sl) (r63 : Int) (w61 : World) => let w64 : World := w61.alloc (Obj.cells #[(Value.slice none 0 0), (Value.int .i64 (0 : Int)), (Value.int .i64 (0 : Int)), (Value.slice none 0 0)] 45)
 stN w64 (Addr.mk w61.heap.size 0 none) [(Value.slice r62_0.p r62_0.l r62_0.c), (Value.int .i64 r62_1), (Value.int .i64 r62_2), (Value.slice r62_3.p r62_3.l r62_3.c)] fun (w65 : World) => z1p_sh x (fun (r67_0 : Sl) (r67_1 : Int) (r67_2 : Int) (r67_3 : Sl) (r68 : Int) (w66 : World) => let w69 : World := w66.alloc (Obj.cells #[(Value.slice none 0 0), (Value.int .i64 (0 : Int)), (Value.int .i64 (0 : Int)), (Value.slice none 0 0)] 45)
 stN w69 (Addr.mk w66.heap.size 0 none) [(Value.slice r67_0.p r67_0.l r67_0.c), (Value.int .i64 r67_1), (Value.int .i64 r67_2), (Value.slice r67_3.p r67_3.l r67_3.c)] fun (w70 : World) => cnd (r63 != r68)
  (KF w70)
  (∃ x71 : Sl, w70.cell? (Addr.mk w61.heap.size 0 none) = some (Value.slice x71.p x71.l x71.c) /\ ∃ x72 : Int, w70.cell? (Addr.mk w61.heap.size 1 none) = some (Value.int .i64 x72) /\ ∃ x73 : Int, w70.cell? (Addr.mk w61.heap.size 2 none) = some (Value.int .i64 x73) /\ ∃ x74 : Sl, w70.cell? (Addr.mk w61.heap.size 3 none) = some (Value.slice x74.p x74.l x74.c) /\ ∃ x75 : Sl, w70.cell? (Addr.mk w66.heap.size 0 none) = some (Value.slice x75.p x75.l x75.c) /\ ∃ x76 : Int, w70.cell? (Addr.mk w66.heap.size 1 none) = some (Value.int .i64 x76) /\ ∃ x77 : Int, w70.cell? (Addr.mk w66.heap.size 2 none) = some (Value.int .i64 x77) /\ ∃ x78 : Sl, w70.cell? (Addr.mk w66.heap.size 3 none) = some (Value.slice x78.p x78.l x78.c) /\ z2o_sh x71 x72 x73 x74 x75 x76 x77 x78 (fun (r80 : Bool) (w79 : World) => cnd (!r80)
  (KF w79)
  (KN w79)) w70)) w65) w := by
 obtain ⟨s, rfl⟩ : ∃ s, x = ofL s := ⟨bl x, (ofL_bl x).symm⟩
 rw [ofL_sz] at hs
 have hend : ∀ {w61 w65 w66 w70 : World} {r : Re} {t t' ns ns' : Sl} {e : Int}, r.txt.length <= 2 ^ 32 \/ (r.T = [] /\ r.N = []) -> r.I -> Fr F0 w w61 -> Mem w61 w65 [(w61.heap.size, rsC t r.pts r.bnd ns)] -> Fr F0 w65 w66 -> Mem w66 w70 [(w66.heap.size, rsC t' r.pts r.bnd ns')] -> VI w61 t r.T -> NV w61 ns r.N -> VI w66 t' r.T -> NV w66 ns' r.N ->
   cnd (e != e) (KF w70) (∃ x71 : Sl, w70.cell? (Addr.mk w61.heap.size 0 none) = some (Value.slice x71.p x71.l x71.c) /\ ∃ x72 : Int, w70.cell? (Addr.mk w61.heap.size 1 none) = some (Value.int .i64 x72) /\ ∃ x73 : Int, w70.cell? (Addr.mk w61.heap.size 2 none) = some (Value.int .i64 x73) /\ ∃ x74 : Sl, w70.cell? (Addr.mk w61.heap.size 3 none) = some (Value.slice x74.p x74.l x74.c) /\ ∃ x75 : Sl, w70.cell? (Addr.mk w66.heap.size 0 none) = some (Value.slice x75.p x75.l x75.c) /\ ∃ x76 : Int, w70.cell? (Addr.mk w66.heap.size 1 none) = some (Value.int .i64 x76) /\ ∃ x77 : Int, w70.cell? (Addr.mk w66.heap.size 2 none) = some (Value.int .i64 x77) /\ ∃ x78 : Sl, w70.cell? (Addr.mk w66.heap.size 3 none) = some (Value.slice x78.p x78.l x78.c) /\ z2o_sh x71 x72 x73 x74 x75 x76 x77 x78 (fun (r80 : Bool) (w79 : World) => cnd (!r80) (KF w79) (KN w79)) w70) := fun {w61 w65 w66 w70 r t t' ns ns' e} hr hI f61 m65 f66 m70 v1 n1 v2 n2 => by
  have q := (f66.t m70.1).row (m65.row 0 rfl) fun h => h
  have f70 : Fr F0 w61 w70 := (m65.1.t f66).t m70.1
  have hb : r.T.length < 2 ^ 62 /\ ∀ x ∈ r.N, x.next.length < 2 ^ 62 := by
   rcases hr with hr | ⟨h1, h2⟩
   ·obtain ⟨h1, h2⟩ := txt_small hI hr
    exact ⟨by omega, fun x hx => by have := h2 x hx; omega⟩
   ·rw [h1, h2]
    exact ⟨by decide, fun x hx => by cases hx⟩
  refine cnd_bne.2 ⟨fun h => absurd rfl h, fun _ => ⟨t, q.at rfl, _, q.at rfl, _, q.at rfl, ns, q.at rfl, t', m70.ld 0 rfl rfl, _, m70.ld 0 rfl rfl, _, m70.ld 0 rfl rfl, ns', m70.ld 0 rfl rfl, ?_⟩⟩
  refine Same_true (v1.fr f70) (v2.fr m70.1) (n1.fr f70) (n2.fr m70.1) hb.1 hb.2 fun w79 f79 => cnd_iff.2 ⟨fun h => by simp at h, fun _ => hK w79 ((f61.t f70).t f79)⟩
 refine pDecode_spec hs g (fun r t ns w61 hd htx hI f61 hv hn => ?_) fun w61 hno f61 => ?_
 ·refine stN_new (w0 := w61) (l := []) rfl Mem.nil fun w65 m65 => ?_
  have hq := readQ_yes hI
  rw [htx] at hq
  refine rDecode_spec (by omega) (fun t' ns' w66 hb f66 hv' hn' => ?_) fun w66 hb f66 => ?_
  ·rw [hq.1] at hv' hn' ⊢
   refine stN_new (w0 := w66) (l := []) rfl Mem.nil fun w70 m70 => ?_
   exact hend (.inl (by rw [htx]; omega)) hI f61 m65 f66 m70 hv hn hv' hn'
  ·rw [hq.2] at hb
   cases hb
 ·refine stN_new (w0 := w61) (l := []) rfl Mem.nil fun w65 m65 => ?_
  refine rDecode_spec (by omega) (fun t' ns' w66 hb f66 hv' hn' => ?_) fun w66 hb f66 => ?_
  ·exfalso
   have h1 := readQ_no hb
   have h2 := decQ_yes (readQ_I s)
   rw [← h1] at h2
   exact hno _ h2 h1.symm
  ·refine stN_new (w0 := w66) (l := []) rfl Mem.nil fun w70 m70 => ?_
   exact hend (r := re0) (.inr ⟨rfl, rfl⟩) re0_I f61 m65 f66 m70 Vw.nil (NV.none _) Vw.nil (NV.none _)
end
end Go.Proofs.YtfpobpjandjhjaaGreatDoor
namespace Pw
open Go
theorem wrU8_in (n : Int) : 0 <= IntKind.wrap .u8 n /\ IntKind.wrap .u8 n < 256 := by
 simp [IntKind.wrap, IntKind.bits, IntKind.signed]; omega
theorem byte1 {w : World} {b : Nat} {n : Int} {K : ByteArray -> Prop} (hc : w.cell? ⟨b, 0, none⟩ = some (.int .u8 (IntKind.wrap .u8 n))) (hK : ∀ s : ByteArray, s.size = 1 -> K s) : btsS ⟨some ⟨b, 0, none⟩, 1, 1⟩ w K := by
 obtain ⟨h0, h1⟩ := wrU8_in n
 refine btsS_rd (l := [UInt8.ofNat (IntKind.wrap .u8 n).toNat]) ⟨rfl, fun i hi => ?_⟩ (hK _ (by rw [← bl_length, bl_ofL]; rfl))
 have : i = 0 := by simp at hi; omega
 subst this
 rw [add_mk, hc]
 have e : (UInt8.ofNat (IntKind.wrap .u8 n).toNat).toNat = (IntKind.wrap .u8 n).toNat := by
  rw [UInt8.toNat_ofNat']
  omega
 simp only [List.map_cons, List.map_nil, List.getElem_cons_zero, bv, e]
 congr 2
 omega
end Pw
namespace Go.Proofs.YtfpobpjandjhjaaGreatDoor
open Go Pw
section
variable {w w' w0 u v : World} {a b t t' ns ns' : Sl} {T : List Int} {N : List Nd} {pts bnd x1 x2 : Int}
theorem Codes_k0 {raw s bent : ByteArray} {at' : Int} {K : Bool -> World -> Prop} (hraw : raw.size <= 1048576) (hs : s.size <= 1073741824) (hb : bent.size <= 2147483648) (g : Gl w) (h0 : 0 <= at') (h1 : at' <= (s.size : Nat)) (hK : ∀ w', Fr F0 w w' -> K true w') : z0h_k0 raw true s at' bent K w := by
 refine ⟨?_⟩
 unfold z0h_k0d
 have e1 : (str [110, 111, 100, 101, 32, 48, 32, 49, 47, 49, 10]).size = 11 := by decide
 have e2 : (str [10]).size = 1 := by decide
 have ex : (s.extract 0 at'.toNat).size <= s.size := by rw [ByteArray.size_extract]; omega
 refine ⟨by unfold maxI; omega, by unfold maxI; omega, ⟨by decide, h0, h1⟩, by rw [e1]; unfold maxI; omega, by rw [e2]; unfold maxI; omega, ?_⟩
 intro w58
 have m : Mem w w58 _ := Mem.nil.allocL (cs := ([bent, raw, s ++ raw, raw ++ s, s.extract 0 at'.toNat, s ++ str [110, 111, 100, 101, 32, 48, 32, 49, 47, 49, 10], s ++ str [10]] : List ByteArray).flatMap encS)
 clear_value w58
 have hv : Vw 1 encS w58 ⟨some ⟨w.heap.size, 0, none⟩, 7, 7⟩ [bent, raw, s ++ raw, raw ++ s, s.extract 0 at'.toNat, s ++ str [110, 111, 100, 101, 32, 48, 32, 49, 47, 49, 10], s ++ str [10]] := (Row.ow encS_length (l := [bent, raw, s ++ raw, raw ++ s, s.extract 0 at'.toNat, s ++ str [110, 111, 100, 101, 32, 48, 32, 49, 47, 49, 10], s ++ str [10]]) (m.row 0 rfl)).vw
 have hall : ∀ x ∈ [bent, raw, s ++ raw, raw ++ s, s.extract 0 at'.toNat, s ++ str [110, 111, 100, 101, 32, 48, 32, 49, 47, 49, 10], s ++ str [10]], x.size < 4294967281 := fun x hx => by
  simp only [List.mem_cons, List.not_mem_nil, or_false] at hx
  rcases hx with rfl | rfl | rfl | rfl | rfl | rfl | rfl
  ·omega
  ·omega
  ·rw [ByteArray.size_append]; omega
  ·rw [ByteArray.size_append]; omega
  ·omega
  ·rw [ByteArray.size_append, e1]; omega
  ·rw [ByteArray.size_append, e2]; omega
 have hlen : [bent, raw, s ++ raw, raw ++ s, s.extract 0 at'.toNat, s ++ str [110, 111, 100, 101, 32, 48, 32, 49, 47, 49, 10], s ++ str [10]].length = 7 := rfl
 generalize [bent, raw, s ++ raw, raw ++ s, s.extract 0 at'.toNat, s ++ str [110, 111, 100, 101, 32, 48, 32, 49, 47, 49, 10], s ++ str [10]] = xs at hv hall hlen
 refine ⟨⟨fun k u => ∃ k' : Nat, k = k' /\ k' <= 7 /\ Fr F0 w58 u, fun k _ => 7 - k.toNat, ⟨0, rfl, by omega, Fr.refl⟩, ?_⟩⟩
 rintro k u ⟨k, rfl, hk, hf⟩
 unfold z0h_b1
 refine cnd_prop.2 ⟨fun hlt => ?_, fun hge => hK u (m.1.t hf)⟩
 have hkx : k < xs.length := by omega
 refine encS_ld (hv.fr hf) k rfl hkx ?_
 exact readers_spec (hall _ (List.getElem_mem hkx)) (g.fr (m.1.t hf)) fun w79 f79 => ⟨inR64 (by omega) (by omega), ⟨⟨rfl, rfl, rfl, trivial⟩, k + 1, by omega, by omega, hf.t f79⟩, by dsimp only; omega⟩
theorem flat_20 : ∀ {N : List Nd} {k : Nat}, (∀ x ∈ N, (nodeT x).length <= k) -> (N.flatMap nodeT).length <= N.length * k
 | [], k, _ => by simp
 | x :: N, k, h => by
  have h1 := flat_20 (N := N) fun y hy => h y (by simp [hy])
  have h2 := h x (by simp)
  rw [List.flatMap_cons, List.length_append, List.length_cons, Nat.add_mul]
  omega
theorem Codes_fr {raw : ByteArray} {q0 q1 q2 : Int} {K : Bool -> World -> Prop} (g : Gl w) (hx : LieV w a T x1 x2 b N) (hT : T.length <= 1048576) (hN : ∀ x ∈ N, x.next.length <= 1048576) (hraw : raw.size <= 1048576) (hK : ∀ w', Fr F0 w w' -> K true w') : z0h_sh a x1 x2 b raw q0 q1 q2 K w := by
 refine ⟨?_⟩
 unfold z0h_sd
 intro w1
 have m : Mem w w1 _ := Mem.nil.allocL (cs := rsC a x1 x2 b)
 clear_value w1
 intro w2
 have m : Mem w w2 [(w1.heap.size, [.int .i64 q0, .int .i64 q1, .int .i64 q2]), (w.heap.size, rsC a x1 x2 b)] := m.allocL (cs := [.int .i64 q0, .int .i64 q1, .int .i64 q2])
 clear_value w2
 refine sanity_spec (g.fr m.1).tab fun w3 f3 => ?_
 have m := m.fr f3
 refine ⟨a, m.ld 1 rfl rfl, _, m.ld 1 rfl rfl, _, m.ld 1 rfl rfl, b, m.ld 1 rfl rfl, ?_⟩
 refine result_spec (hx.fr m.1) fun w9 ns f9 hns => ?_
 have m := m.fr f9
 refine stN_new (w0 := w9) (l := []) rfl Mem.nil fun w12 n => ?_
 have m := m.fr n.1
 have hTv := hx.tk.fr m.1
 have hns := hns.fr n.1
 obtain ⟨r, hr⟩ : ∃ r : Re, r = ⟨T, x1, x2, N.take 20⟩ := ⟨_, rfl⟩
 have hI : r.I := by
  subst hr
  refine ⟨⟨hx.ti, hx.ui, hx.vi, fun x hx' => ?_⟩, fun x hx' => hns.i64 hx'⟩
  have := hx.ni x (List.mem_of_mem_take hx')
  exact ⟨this.1, this.2.1⟩
 have hNx : ∀ x ∈ r.N, x.next.length <= 1048576 := fun x h => hN x (List.mem_of_mem_take (by rw [hr] at h; exact h))
 have hNl : r.N.length <= 20 := by rw [hr]; simp only [List.length_take]; omega
 have hTl : r.T.length <= 1048576 := by rw [hr]; exact hT
 have hcz : r.txt.length <= 1000000000 := by
  have h1 := txt_cz hI
  have h2 := listT_22 hI.f.t
  have h3 := flat_20 (N := r.N) (k := 23068800) fun x hx' => by
   have h4 := (nodeT_22 ⟨(hI.f.n x hx').1, (hI.n x hx').1, (hI.n x hx').2, (hI.f.n x hx').2⟩).1
   have h5 := hNx x hx'
   omega
  have h4 : r.N.length * 23068800 <= 20 * 23068800 := Nat.mul_le_mul_right _ hNl
  unfold cz at h1
  omega
 have hpos : 0 < r.txt.length := by
  have h1 := congrArg List.length (encT_eq r)
  simp only [List.length_append, List.length_cons] at h1
  omega
 have ea : T = r.T := by rw [hr]
 have e1 : x1 = r.pts := by rw [hr]
 have e2 : x2 = r.bnd := by rw [hr]
 have eN : N.take 20 = r.N := by rw [hr]
 rw [ea] at hTv
 rw [eN] at hns
 rw [e1, e2] at n
 clear hr ea e1 e2 eN hx
 refine ⟨a, n.ld 0 rfl rfl, _, n.ld 0 rfl rfl, _, n.ld 0 rfl rfl, ns, n.ld 0 rfl rfl, ?_⟩
 have hsm : ∀ x ∈ r.N, x.next.length < 2 ^ 42 := fun x h => by have := hNx x h; omega
 refine Encode_spec hTv hns ⟨by omega, by omega, fun x h => by have := hNx x h; omega⟩ hsm (by omega) hI.f (g.fr m.1).tab (by show r.txt.length <= _; omega) fun w17 f17 => ?_
 rw [show encT r.T r.pts r.bnd r.N = r.txt from rfl]
 have m17 := m.fr f17
 refine pDecode_spec (by omega) (g.fr m17.1) (fun r' t' ns' w19 hd htx _ f19 hv' hn' => ?_) fun w19 hno _ => absurd rfl (hno r (decQ_yes hI))
 rw [decQ_yes hI] at hd
 cases hd
 refine stN_new (w0 := w19) (l := []) rfl Mem.nil fun w23 k => ?_
 have f23 : Fr F0 w12 w23 := (f17.t f19).t k.1
 have n23 := f23.row (n.row 0 rfl) fun h => h
 refine ⟨a, n23.at rfl, _, n23.at rfl, _, n23.at rfl, ns, n23.at rfl, ?_⟩
 refine rEncode_spec (hTv.fr f23) (hns.fr f23) hI (by omega) fun w28 f28 => ?_
 have f28' := f23.t f28
 have n28 := f28.row n23 fun h => h
 have k := k.fr f28
 refine cnd_iff.2 ⟨fun h => by simp at h, fun _ => cnd_bne.2 ⟨fun h => absurd rfl h, fun _ => ?_⟩⟩
 refine ⟨t', k.ld 0 rfl rfl, _, k.ld 0 rfl rfl, _, k.ld 0 rfl rfl, ns', k.ld 0 rfl rfl, a, n28.at rfl, _, n28.at rfl, _, n28.at rfl, ns, n28.at rfl, ?_⟩
 refine Same_true (hv'.fr k.1) (hTv.fr f28') (hn'.fr k.1) (hns.fr f28') (by omega) (fun x h => by have := hNx x h; omega) fun w38 f38 => ?_
 have m38 := m.fr (f28'.t f38)
 refine cnd_iff.2 ⟨fun h => by simp at h, fun _ => cnd_beq.2 ⟨fun h => ?_, fun _ => ?_⟩⟩
 ·rw [ofL_sz] at h
  omega
 refine ⟨⟨by decide, by decide⟩, q0, m38.ld 0 rfl rfl, ?_⟩
 rw [ofL_sz]
 refine rMod_spec (by omega) (by omega) fun r42 h0 h1 => ?_
 intro w43
 have m43 : Mem w w43 _ := m38.drew
 clear_value w43
 have hS : ∀ {v : World}, Fr F0 w43 v -> Rs v [(w1.heap.size, [.int .i64 q0, .int .i64 q1, .int .i64 q2]), (w.heap.size, rsC a x1 x2 b)] := fun h => (m43.fr h).sub 0 rfl
 have hex : ∀ i : Nat, ((ofL r.txt).extract 0 i).size <= r.txt.length /\ ((ofL r.txt).extract i r.txt.length).size <= r.txt.length := fun i => by
  rw [ByteArray.size_extract, ByteArray.size_extract, ofL_sz]
  omega
 have hw : ∀ {q : Int}, 0 <= q -> q < 2 -> IntKind.wrap .i64 (r42 + q) = r42 + q := fun h2 h3 => wq_in (by omega) (by omega)
 have hend : ∀ {v : World} {s48 : ByteArray} {i : Nat}, s48.size = 1 -> Fr F0 w43 v -> z0h_k0 raw true (ofL r.txt) r42 (((ofL r.txt).extract 0 r42.toNat ++ s48) ++ (ofL r.txt).extract i r.txt.length) K v := fun {v s48 i} h48 hv => by
  have x1 := (hex r42.toNat).1
  have x2 := (hex i).2
  exact Codes_k0 hraw (by rw [ofL_sz]; omega) (by rw [ByteArray.size_append, ByteArray.size_append, h48]; omega) (g.fr (m43.1.t hv)) h0 (by rw [ofL_sz]; omega) fun w' hf => hK w' ((m43.1.t hv).t hf)
 refine ⟨fun v => Rs v [(w1.heap.size, [.int .i64 q0, .int .i64 q1, .int .i64 q2]), (w.heap.size, rsC a x1 x2 b)], hS Fr.refl, ⟨by decide, h0, by omega⟩, ⟨by decide, by decide⟩, q2, fun v h => h.ld 0 rfl rfl, ⟨by decide, by decide⟩, q1, fun v h => h.ld 0 rfl rfl, ?_, ?_⟩
 ·intro w47
  have k47 : Mem w43 w47 _ := Mem.nil.allocL (cs := [.int .u8 (IntKind.wrap .u8 q2)])
  clear_value w47
  refine ⟨hS k47.1, byte1 (k47.ld 0 rfl rfl) fun s48 h48 => ⟨hS k47.1, ?_, rMod_spec (by decide) (by decide) fun r50 g0 g1 => ⟨hS k47.1, ?_⟩⟩, rMod_spec (by decide) (by decide) fun r50 g0 g1 => ⟨hS k47.1, ?_⟩⟩
  ·have := (hex r42.toNat).1
   rw [h48]; unfold maxI; omega
  ·rw [hw g0 g1]
   have x1 := (hex r42.toNat).1
   have x2 := (hex (r42 + r50).toNat).2
   refine ⟨⟨by omega, by omega⟩, ?_, hend h48 k47.1⟩
   rw [ByteArray.size_append, h48]; unfold maxI; omega
  ·rw [hw g0 g1]
   have x1 := (hex r42.toNat).1
   have x2 := (hex (r42 + r50).toNat).2
   refine ⟨⟨by omega, by omega⟩, byte1 (k47.ld 0 rfl rfl) fun s53 h53 => ⟨hS k47.1, ?_, ?_, hend h53 k47.1⟩⟩
   ·rw [h53]; unfold maxI; omega
   ·rw [ByteArray.size_append, h53]; unfold maxI; omega
 ·refine rMod_spec (by decide) (by decide) fun r50 g0 g1 => ⟨hS Fr.refl, ?_⟩
  rw [hw g0 g1]
  have x1 := (hex r42.toNat).1
  have x2 := (hex (r42 + r50).toNat).2
  refine ⟨⟨by omega, by omega⟩, ?_⟩
  intro w56
  have k47 : Mem w43 w56 _ := Mem.nil.allocL (cs := [.int .u8 (IntKind.wrap .u8 q2)])
  clear_value w56
  refine ⟨hS k47.1, byte1 (k47.ld 0 rfl rfl) fun s57 h57 => ⟨hS k47.1, ?_, ?_, hend h57 k47.1⟩⟩
  ·rw [h57]; unfold maxI; omega
  ·rw [ByteArray.size_append, h57]; unfold maxI; omega
end
end Go.Proofs.YtfpobpjandjhjaaGreatDoor
