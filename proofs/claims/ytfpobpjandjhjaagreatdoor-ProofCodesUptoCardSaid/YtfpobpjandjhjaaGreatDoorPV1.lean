/- The reference's decimal, list and Encode. Conditions: none. -/
import Derived.Test.YtfpobpjandjhjaaGreatDoorPXZ
import Derived.Test.YtfpobpjandjhjaaGreatDoorPG8
namespace Pw
open Go
theorem ofL_app (a b : List UInt8) : ofL a ++ ofL b = ofL (a ++ b) := bl_inj (by rw [bl_append, bl_ofL, bl_ofL, bl_ofL])
theorem ofL_sz (l : List UInt8) : (ofL l).size = l.length := by rw [← bl_length, bl_ofL]
theorem inU8 {n : Int} (h : 0 <= n /\ n < 256) : inR .u8 n := by
 unfold inR
 simp [IntKind.wrap, IntKind.bits, IntKind.signed]
 omega
theorem dig1 {w : World} {b : Nat} {e : Int} {d : Nat} {K : ByteArray -> Prop} (hd : d < 10) (hc : w.cell? ⟨b, 0, none⟩ = some (.int .u8 e)) (he : e = 48 + (d : Int)) (hK : K (ofL [UInt8.ofNat (48 + d)])) : btsS ⟨some ⟨b, 0, none⟩, 1, 1⟩ w K := by
 refine btsS_rd (l := [UInt8.ofNat (48 + d)]) ⟨rfl, fun i hi => ?_⟩ hK
 have : i = 0 := by simp at hi; omega
 subst this
 rw [add_mk, hc, he]
 simp only [List.map_cons, List.map_nil, List.getElem_cons_zero, bv, digit_nat hd]
 rfl
def decD (u : Nat) : List UInt8 := if u = 0 then [] else Lib.decDigits u
theorem decD_step {u : Nat} (h : u ≠ 0) : decD u = decD (u / 10) ++ [UInt8.ofNat (48 + u % 10)] := by
 unfold decD
 rw [if_neg h, Lib.decDigits]
 split
 ·rename_i hlt
  have e : u / 10 = 0 := by omega
  rw [e, if_pos rfl, Nat.mod_eq_of_lt hlt]
  rfl
 ·rename_i hge
  rw [if_neg (by omega)]
theorem itoa_decD {n : Int} (h : n ≠ 0) : Lib.itoa n = (if n < 0 then [45] else []) ++ decD n.natAbs := by
 have hn : n.natAbs ≠ 0 := by omega
 unfold Lib.itoa decD
 rw [if_neg hn]
 split
 ·rfl
 ·have : n.toNat = n.natAbs := by omega
  rw [this]
  rfl
end Pw
namespace Go.Proofs.YtfpobpjandjhjaaGreatDoor
open Go Pw
section
variable {w w' w0 : World}
theorem rdec_spec {n : Int} {K : ByteArray -> World -> Prop} (h : I64 n) (hK : ∀ w', Fr F0 w w' -> K (ofL (Lib.itoa n)) w') : z1c_sh n K w := by
 obtain ⟨i0, i1⟩ := h
 refine ⟨?_⟩
 unfold z1c_sd
 refine cnd_beq.2 ⟨fun h0 => ?_, fun h0 => ?_⟩
 ·subst h0
  have e : str [48] = ofL (Lib.itoa 0) := by
   unfold Lib.itoa
   rw [if_neg (by decide), Lib.decDigits, dif_pos (by decide)]
   rfl
  rw [e]
  exact hK w Fr.refl
 have hlen : (decD n.natAbs).length <= 20 := by
  unfold decD
  split
  ·simp
  ·exact dec_len 20 _ (by omega) (by decide)
 refine ⟨⟨fun s m u => ∃ l : List UInt8, s = ofL l /\ decD n.natAbs = decD m.natAbs ++ l /\ I64 m /\ Fr F0 w u, fun _ m _ => m.natAbs, ⟨[], rfl, by simp, ⟨i0, i1⟩, Fr.refl⟩, ?_⟩⟩
 rintro s m u ⟨l, rfl, hl, ⟨m0, m1⟩, hf⟩
 unfold z1c_b0
 refine cnd_bne.2 ⟨fun hm => ⟨by decide, ?_⟩, fun hm => ?_⟩
 ·have hu : m.natAbs ≠ 0 := by omega
  have e1 : (Int.tdiv m 10).natAbs = m.natAbs / 10 := by rw [Int.natAbs_tdiv]; rfl
  have e2 : (Int.tmod m 10).natAbs = m.natAbs % 10 := by rw [Int.natAbs_tmod]; rfl
  have hl2 : decD n.natAbs = decD (Int.tdiv m 10).natAbs ++ (UInt8.ofNat (48 + m.natAbs % 10) :: l) := by
   rw [hl, decD_step hu, e1, List.append_assoc]
   rfl
  have hll : l.length < 20 := by
   have := congrArg List.length hl2
   simp only [List.length_append, List.length_cons] at this
   omega
  have k1 : ∀ d : Int, d = ((m.natAbs % 10 : Nat) : Int) -> z1c_k1 n (ofL l) m d (fun (n_0' : Int) (s_3' : ByteArray) (m_4' : Int) (w' : World) => ((n_0' = n /\ True) /\ ∃ l : List UInt8, s_3' = ofL l /\ decD n.natAbs = decD m_4'.natAbs ++ l /\ I64 m_4' /\ Fr F0 w w') /\ m_4'.natAbs < m.natAbs) K u := by
   rintro d rfl
   refine ⟨?_⟩
   unfold z1c_k1d
   refine ⟨inR64 (by omega) (by omega), inU8 (by omega), ?_⟩
   intro u1
   have r1 : Row u1 u.heap.size [.int .u8 (48 + ((m.natAbs % 10 : Nat) : Int))] := Row.new
   have f1 : Fr F0 u u1 := Fr.alloc
   clear_value u1
   refine dig1 (d := m.natAbs % 10) (by omega) (r1.at rfl) rfl ?_
   rw [ofL_app, ofL_sz, ofL_sz]
   refine ⟨by unfold maxI; simp; omega, by decide, inR64 (by omega) (by omega), ⟨⟨rfl, trivial⟩, _, rfl, hl2, ⟨by omega, by omega⟩, hf.t f1⟩, by omega⟩
  refine cnd_prop.2 ⟨fun hn => ⟨inR64 (by omega) (by omega), k1 _ (by omega)⟩, fun hn => k1 _ (by omega)⟩
 ·subst hm
  have e : decD n.natAbs = l := by rw [hl]; rfl
  have hi := itoa_decD h0
  rw [e] at hi
  rw [e] at hlen
  refine cnd_prop.2 ⟨fun hn => ?_, fun hn => ?_⟩
  ·rw [if_pos hn] at hi
   have e45 : str [45] = ofL [45] := rfl
   rw [e45, ofL_app, ofL_sz, ofL_sz, ← hi]
   refine ⟨by unfold maxI; simp; omega, hK u hf⟩
  ·rw [if_neg hn] at hi
   have := hK u hf
   rw [hi] at this
   exact this
theorem listT_take {l : List Int} {k : Nat} (h : k < l.length) : listT (l.take (k + 1)) = listT (l.take k) ++ 32 :: Lib.itoa l[k] := by
 rw [take_succ' h]
 unfold listT
 rw [List.flatMap_append]
 simp
theorem listT_le {l : List Int} (k : Nat) : (listT (l.take k)).length <= (listT l).length := by
 have : listT l = listT (l.take k) ++ listT (l.drop k) := by
  unfold listT
  rw [← List.flatMap_append, List.take_append_drop]
 rw [this, List.length_append]
 omega
theorem rlist_spec {s : Sl} {l : List Int} {K : ByteArray -> World -> Prop} (hv : VI w s l) (hi : ∀ n ∈ l, I64 n) (hl : (listT l).length < 2 ^ 50) (hK : ∀ w', Fr F0 w w' -> K (ofL (listT l)) w') : z2p_sh s K w := by
 have es := hv.len
 have hll := listT_len l
 refine ⟨?_⟩
 unfold z2p_sd
 refine ⟨⟨fun t k u => ∃ k' : Nat, k = k' /\ k' <= l.length /\ t = ofL (listT (l.take k')) /\ Fr F0 w u, fun _ k _ => l.length - k.toNat, ⟨0, rfl, by omega, rfl, Fr.refl⟩, ?_⟩⟩
 rintro t k u ⟨k, rfl, hk, rfl, hf⟩
 unfold z2p_b0
 refine cnd_prop.2 ⟨fun hlt => ?_, fun hge => ?_⟩
 ·have hkl : k < l.length := by omega
  have e32 : str [32] = ofL [32] := rfl
  have h1 := listT_take hkl
  have h2 := listT_le (l := l) (k + 1)
  rw [h1, List.length_append, List.length_cons] at h2
  have hin := hi _ (List.getElem_mem hkl)
  rw [e32, ofL_app, ofL_sz, ofL_sz]
  refine ⟨by unfold maxI; simp; omega, (hv.fr hf).ld 0 k rfl hkl ?_⟩
  have hg : id (l.getD k 0) = l[k] := by simp [List.getD_eq_getElem?_getD, hkl]
  rw [hg]
  refine rdec_spec hin fun w3 f3 => ?_
  rw [ofL_app, ofL_sz, ofL_sz]
  refine ⟨by unfold maxI; simp; omega, inR64 (by omega) (by omega), ⟨⟨rfl, trivial⟩, k + 1, by omega, by omega, ?_, hf.t f3⟩, by dsimp only; omega⟩
  rw [h1, List.append_assoc]
  rfl
 ·have : k = l.length := by omega
  subst this
  rw [List.take_length]
  exact hK u hf
def headT (r : Re) : List UInt8 := ((takeW ++ listT r.T) ++ 10 :: pointsW) ++ listT [r.pts, r.bnd] ++ [10]
theorem txt_head (r : Re) : r.txt = headT r ++ r.N.flatMap nodeT := by
 rw [encT_eq]
 unfold headT listT
 simp
theorem node_str (x : Nd) : nodeT x = ((((((nodeW ++ [32]) ++ Lib.itoa x.lot) ++ [32]) ++ Lib.itoa x.num) ++ [47]) ++ Lib.itoa x.den) ++ listT x.next ++ [10] := by
 have := nodeT_eq x []
 rw [List.append_nil] at this
 rw [this]
 simp
theorem flat_take {N : List Nd} {k : Nat} (hk : k < N.length) : (N.take (k + 1)).flatMap nodeT = (N.take k).flatMap nodeT ++ nodeT N[k] := by
 rw [take_succ' hk, List.flatMap_append]
 simp
theorem flat_le {N : List Nd} (k : Nat) : ((N.take k).flatMap nodeT).length <= (N.flatMap nodeT).length := by
 have : N.flatMap nodeT = (N.take k).flatMap nodeT ++ (N.drop k).flatMap nodeT := by rw [← List.flatMap_append, List.take_append_drop]
 rw [this, List.length_append]
 omega
theorem nds_len : ∀ N : List Nd, N.length <= (N.flatMap nodeT).length
 | [] => Nat.le_refl _
 | x :: N => by
  have h1 := nds_len N
  have hn : 0 < (nodeT x).length := by unfold nodeT lineT nodeW; simp
  rw [List.flatMap_cons, List.length_append, List.length_cons]
  omega
variable {t5 ns : Sl} {r : Re}
theorem rEncode_k0 {rb : Nat} {K : ByteArray -> World -> Prop} (hN : NV w ns r.N) (hI : r.I) (hl : r.txt.length < 2 ^ 48) (hr : Row w rb (rsC t5 r.pts r.bnd ns)) (hK : ∀ w', Fr F0 w w' -> K (ofL r.txt) w') : z1q_k0 ⟨rb, 0, none⟩ (ofL (headT r)) K w := by
 have en := hN.len
 have ht := txt_head r
 have htl := congrArg List.length ht
 rw [List.length_append] at htl
 refine ⟨?_⟩
 unfold z1q_k0d
 refine ⟨⟨fun t k u => ∃ k' : Nat, k = k' /\ k' <= r.N.length /\ t = ofL (headT r ++ (r.N.take k').flatMap nodeT) /\ Fr F0 w u, fun _ k _ => r.N.length - k.toNat, ⟨0, rfl, by omega, by simp, Fr.refl⟩, ?_⟩⟩
 rintro t k u ⟨k, rfl, hk, rfl, hf⟩
 have hru : Row u rb (rsC t5 r.pts r.bnd ns) := hf.row hr fun h => h
 unfold z1q_b1
 refine ⟨ns, hru.at rfl, cnd_prop.2 ⟨fun hlt => ?_, fun hge => ?_⟩⟩
 ·have hkN : k < r.N.length := by omega
  have hnn := nds_len r.N
  have h1 := flat_take hkN
  have h2 := flat_le (N := r.N) (k + 1)
  rw [h1, List.length_append] at h2
  have hnd := node_str r.N[k]
  have hnl := congrArg List.length hnd
  simp only [List.length_append, List.length_cons, List.length_nil] at hnl
  obtain ⟨i3, i4⟩ := hI.f.n _ (List.getElem_mem hkN)
  obtain ⟨i1, i2⟩ := hI.n _ (List.getElem_mem hkN)
  refine ⟨ns, hru.at rfl, hN.ld hf k rfl hkN fun a nx hnx hc => ?_⟩
  obtain ⟨c0, c1, c2, c3⟩ := hc
  refine ⟨_, c0, _, c1, _, c2, nx, c3, ?_⟩
  refine stN_new (w0 := u) (l := []) rfl Mem.nil fun w25 m => ?_
  intro w26
  have m : Mem u w26 _ := m.drew
  clear_value w26
  have en' : str [110, 111, 100, 101, 32] = ofL (nodeW ++ [32]) := rfl
  have e32 : str [32] = ofL [32] := rfl
  have e47 : str [47] = ofL [47] := rfl
  have e10 : str [10] = ofL [10] := rfl
  have hS : ∀ {v : World}, Fr F0 w26 v -> Rs v [(u.heap.size, [.int .i64 r.N[k].lot, .int .i64 r.N[k].num, .int .i64 r.N[k].den, .slice nx.p nx.l nx.c])] := fun h => (m.fr h).sub 0 rfl
  rw [en', e32, e47, e10]
  refine ⟨fun v => Rs v [(u.heap.size, [.int .i64 r.N[k].lot, .int .i64 r.N[k].num, .int .i64 r.N[k].den, .slice nx.p nx.l nx.c])], hS Fr.refl, ?_, _, fun _ h => h.ld 0 rfl rfl, _, fun _ h => h.ld 0 rfl rfl, _, fun _ h => h.ld 0 rfl rfl, nx, fun _ h => h.ld 0 rfl rfl, ?_⟩
  ·rw [ofL_sz, ofL_sz]; unfold maxI; simp only [List.length_append, List.length_cons, List.length_nil]; omega
  refine rdec_spec i3 fun w32 f32 => ⟨hS f32, ?_, ?_, rdec_spec i1 fun w34 f34 => ⟨hS (f32.t f34), ?_, ?_, rdec_spec i2 fun w36 f36 => ⟨hS ((f32.t f34).t f36), ?_, rlist_spec (hnx.fr (hf.t (m.1.t ((f32.t f34).t f36)))) i4 (by omega) fun w38 f38 => ⟨hS (((f32.t f34).t f36).t f38), ?_, ?_, inR64 (by omega) (by omega), ⟨⟨rfl, trivial⟩, k + 1, by omega, by omega, ?_, hf.t (m.1.t (((f32.t f34).t f36).t f38))⟩, by dsimp only; omega⟩⟩⟩⟩
  case refine_8 =>
   simp only [ofL_app]
   rw [h1, hnd]
   simp
  all_goals
   simp only [ofL_app, ofL_sz]
   unfold maxI
   simp only [List.length_append, List.length_cons, List.length_nil]
   omega
 ·have : k = r.N.length := by omega
  subst this
  rw [List.take_length, ← ht]
  exact hK u hf
theorem rEncode_spec {K : ByteArray -> World -> Prop} (hT : VI w t5 r.T) (hN : NV w ns r.N) (hI : r.I) (hl : r.txt.length < 2 ^ 48) (hK : ∀ w', Fr F0 w w' -> K (ofL r.txt) w') : z1q_sh t5 r.pts r.bnd ns K w := by
 have ht := txt_head r
 have htl := congrArg List.length ht
 rw [List.length_append] at htl
 have hh : (headT r).length = ((takeW ++ listT r.T) ++ 10 :: pointsW).length + (listT [r.pts, r.bnd]).length + 1 := by
  unfold headT
  rw [List.length_append, List.length_append]
  rfl
 simp only [List.length_append, List.length_cons] at hh
 have i2 : ∀ n ∈ [r.pts, r.bnd], I64 n := fun n hn => (List.mem_cons.1 hn).elim (fun h => h ▸ hI.f.pts) fun h => (List.mem_singleton.1 h) ▸ hI.f.bnd
 refine ⟨?_⟩
 unfold z1q_sd
 intro w1
 have m : Mem w w1 _ := Mem.nil.allocL (cs := rsC t5 r.pts r.bnd ns)
 clear_value w1
 intro w2
 have m : Mem w w2 _ := m.drew
 clear_value w2
 have et : str [116, 97, 107, 101] = ofL takeW := rfl
 have ep : str [10, 112, 111, 105, 110, 116, 115] = ofL (10 :: pointsW) := rfl
 have e10 : str [10] = ofL [10] := rfl
 have hS : ∀ {v : World}, Fr F0 w2 v -> Rs v [(w.heap.size, rsC t5 r.pts r.bnd ns)] := fun h => (m.fr h).sub 0 rfl
 rw [et, ep, e10]
 have hend : ∀ {v : World}, Fr F0 w2 v -> z1q_k0 ⟨w.heap.size, 0, none⟩ (((((ofL takeW) ++ ofL (listT r.T)) ++ ofL (10 :: pointsW)) ++ ofL (listT [r.pts, r.bnd])) ++ ofL [10]) K v := fun {v} h => by
  simp only [ofL_app]
  have hq := rEncode_k0 (rb := w.heap.size) (K := K) (t5 := t5) (hN.fr (m.1.t h)) hI hl ((hS h) _ (List.mem_singleton.2 rfl)) fun w' f => hK w' ((m.1.t h).t f)
  unfold headT at hq
  exact hq
 refine ⟨fun v => Rs v [(w.heap.size, rsC t5 r.pts r.bnd ns)], hS Fr.refl, t5, fun _ h => h.ld 0 rfl rfl, _, fun _ h => h.ld 0 rfl rfl, _, fun _ h => h.ld 0 rfl rfl, ?_, ?_⟩
 ·refine rlist_spec (hT.fr m.1) hI.f.t (by omega) fun w7 f7 => ⟨hS f7, ?_, ?_, ?_⟩
  ·simp only [ofL_app, ofL_sz]; unfold maxI; omega
  ·simp only [ofL_app, ofL_sz]; unfold maxI; simp only [List.length_append, List.length_cons]; omega
  intro w9
  have m9 : Mem w7 w9 _ := Mem.nil.allocL (cs := ([r.pts, r.bnd] : List Int).map (Value.int .i64))
  clear_value w9
  have f9 := f7.t m9.1
  refine ⟨hS f9, rlist_spec (l := [r.pts, r.bnd]) (Row.ow (fun a => ie_length _ _ a) (l := [r.pts, r.bnd]) (m9.row 0 rfl)).vw i2 (by omega) fun w10 f10 => ⟨hS (f9.t f10), ?_, ?_, hend (f9.t f10)⟩⟩
  all_goals
   simp only [ofL_app, ofL_sz]
   unfold maxI
   simp only [List.length_append, List.length_cons, List.length_nil]
   omega
 ·intro w12
  have m12 : Mem w2 w12 _ := Mem.nil.allocL (cs := ([r.pts, r.bnd] : List Int).map (Value.int .i64))
  clear_value w12
  have f12 := m12.1
  refine ⟨hS f12, rlist_spec (hT.fr (m.1.t f12)) hI.f.t (by omega) fun w13 f13 => ⟨hS (f12.t f13), ?_, ?_, rlist_spec (l := [r.pts, r.bnd]) ((Row.ow (fun a => ie_length _ _ a) (l := [r.pts, r.bnd]) (m12.row 0 rfl)).fr f13).vw i2 (by omega) fun w15 f15 => ⟨hS ((f12.t f13).t f15), ?_, ?_, hend ((f12.t f13).t f15)⟩⟩⟩
  all_goals
   simp only [ofL_app, ofL_sz]
   unfold maxI
   try simp only [List.length_append, List.length_cons, List.length_nil]
   omega
end
end Go.Proofs.YtfpobpjandjhjaaGreatDoor
