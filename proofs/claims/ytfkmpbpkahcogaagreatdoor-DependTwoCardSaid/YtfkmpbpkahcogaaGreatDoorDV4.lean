/- The reference: Content. Conditions: none. -/
import Derived.Test.YtfkmpbpkahcogaaGreatDoorDV3
namespace Pw
open Go
theorem szle {a b : List UInt8} (h : a.length + b.length <= 2 ^ 62) : (((ofL a).size + (ofL b).size : Nat) : Int) <= maxI := by
 rw [ofL_sz, ofL_sz]
 unfold maxI
 omega
theorem e32 : str [32] = ofL [32] := rfl
theorem e124 : str [124] = ofL [124] := rfl
theorem eless : str [32, 108, 101, 115, 115] = ofL [32, 108, 101, 115, 115] := rfl
end Pw
namespace Go.Proofs.YtfkmpbpkahcogaaGreatDoor
open Go Pw Dp
section
variable {v w u w' : World} {x : T43} {t : Td} {tb : Nat} {c : B} {K : ByteArray -> World -> Prop}
theorem find_hit {α : Type} {p : α -> Bool} {l : List α} {i : Nat} (hi : i < l.length) (h : p l[i] = true) (hb : ∀ j (hj : j < i), p (l[j]'(by omega)) = false) : l.find? p = some l[i] :=
 List.find?_eq_some_iff_getElem.2 ⟨h, i, hi, rfl, fun j hj => by simp [hb j hj]⟩
theorem find_no {α : Type} {p : α -> Bool} {l : List α} (h : ∀ j (hj : j < l.length), p l[j] = false) : l.find? p = none :=
 List.find?_eq_none.2 fun x hx => by
  obtain ⟨j, hj, rfl⟩ := List.mem_iff_getElem.1 hx
  simp [h j hj]
theorem tiesT_len {l : List B} (h : ∀ s ∈ l, s.length <= 2 ^ 20) : (tiesT l).length <= l.length * 2 ^ 21 := by
 induction l with
 | nil => simp [tiesT]
 | cons a l ih =>
  have h1 := ih fun s hs => h s (List.mem_cons_of_mem _ hs)
  have h2 := h a (List.mem_cons_self ..)
  have h3 := itoa_len' (len64 h2)
  have e : tiesT (a :: l) = tieT a ++ tiesT l := rfl
  rw [e, List.length_append, List.length_cons, Nat.add_mul]
  unfold tieT
  simp only [List.length_append, List.length_cons, List.length_nil]
  omega
theorem idsT_len {l : List Int} (h : ∀ i ∈ l, I64 i) : (idsT l).length <= l.length * 22 := by
 induction l with
 | nil => simp [idsT]
 | cons a l ih =>
  have h1 := ih fun s hs => h s (List.mem_cons_of_mem _ hs)
  have h2 := itoa_len' (h a (List.mem_cons_self ..))
  have e : idsT (a :: l) = (Lib.itoa a ++ [32]) ++ idsT l := rfl
  rw [e, List.length_append, List.length_cons, Nat.add_mul, List.length_append]
  simp only [List.length_cons, List.length_nil]
  omega
theorem combosT_len {l : List (List Int)} (h : ∀ c ∈ l, c.length <= 2 ^ 20 /\ ∀ i ∈ c, I64 i) : (combosT l).length <= l.length * 2 ^ 25 := by
 induction l with
 | nil => simp [combosT]
 | cons a l ih =>
  have h1 := ih fun s hs => h s (List.mem_cons_of_mem _ hs)
  obtain ⟨h2, h3⟩ := h a (List.mem_cons_self ..)
  have h4 := idsT_len h3
  have e : combosT (a :: l) = (124 :: idsT a) ++ combosT l := rfl
  rw [e, List.length_append, List.length_cons, List.length_cons, Nat.add_mul]
  omega
theorem rCont_ties {T : B} (hx : TP v x t) (hF : Fit t) (ht : Row v tb x.cs) (hf : Fr F0 v w) (hT : T = []) (hK : ∀ w', Fr F0 v w' -> K (ofL (tiesT t.ties)) w') : z0j_l3 ⟨tb, 0, none⟩ (ofL T) 0 K w := by
 subst hT
 have h20 := hF.ties
 have e11 : (x.f11.l : Int) = (t.ties.length : Int) := by rw [hx.ties.len]
 refine ⟨⟨fun s i u => ∃ i' : Nat, i = i' /\ i' <= t.ties.length /\ Fr F0 v u /\ s = ofL (tiesT (t.ties.take i')), fun _ i _ => t.ties.length - i.toNat, ⟨0, rfl, by omega, hf, rfl⟩, ?_⟩⟩
 rintro s i u ⟨i, rfl, hi, hf, rfl⟩
 unfold z0j_b3
 have hr := hf.row ht fun h => h
 refine ⟨x.f11, hr.at (i := 11) rfl, ?_⟩
 rw [e11]
 refine cnd_prop.2 ⟨fun hlt => ?_, fun hge => ?_⟩
 ·have hil : i < t.ties.length := by omega
  have hs := hF.tie _ (List.getElem_mem hil)
  have hl := tiesT_len (l := t.ties.take i) fun s hs => hF.tie s (List.mem_of_mem_take hs)
  have hlt' : (t.ties.take i).length <= t.ties.length := by simp; omega
  have hl2 := itoa_len' (len64 hs)
  intro w2
  have f2 : Fr F0 u w2 := Fr.drew
  clear_value w2
  have F2 := hf.t f2
  have rd : ∀ {J : ByteArray -> Prop}, J (ofL t.ties[i]) -> ∃ x71 : Sl, (∀ w' : World, Fr F0 w2 w' -> w'.cell? ((⟨tb, 0, none⟩ : Addr).add 11) = some (Value.slice x71.p x71.l x71.c)) /\ nz x71.p fun a72 => (0 <= (i : Int) /\ (i : Int) < (x71.l : Nat)) /\ ∃ x73 : ByteArray, (∀ w' : World, Fr F0 w2 w' -> w'.cell? (a72.add ((i : Int).toNat * 1)) = some (Value.string x73)) /\ J x73 := fun {J} hJ =>
   ⟨x.f11, fun w' hw => ((F2.t hw).row ht fun h => h).at (i := 11) rfl, Vw.goS encB_length (by decide) Fr.refl (fun w' hw => hx.ties.fr (F2.t hw)) i rfl hil fun _ hc => ⟨_, hc 0 _ rfl, hJ⟩⟩
  refine ⟨fun w' => Fr F0 w2 w', Fr.refl, rd (rd ?_)⟩
  rw [ofL_sz]
  refine rdecimal_spec (len64 hs) fun w3 f3 => ⟨f3, ?_⟩
  simp -zeta only [e32, ofL_app]
  have e : tiesT (t.ties.take i) ++ Lib.itoa (t.ties[i].length : Int) ++ [32] ++ t.ties[i] = tiesT (t.ties.take (i + 1)) := by
   rw [List.take_add_one, List.getElem?_eq_getElem hil]
   unfold tiesT
   rw [List.flatMap_append]
   simp [tieT]
  refine ⟨szle (by omega), szle (by simp only [List.length_append, List.length_cons, List.length_nil]; omega), szle (by simp only [List.length_append, List.length_cons, List.length_nil]; omega), inR64 (by omega) (by omega), ?_⟩
  rw [e]
  exact ⟨⟨⟨trivial, trivial⟩, i + 1, by omega, by omega, F2.t f3, rfl⟩, by omega⟩
 ·have : i = t.ties.length := by omega
  subst this
  rw [List.take_length]
  exact hK u hf
theorem rCont_combos {T : B} (hx : TP v x t) (hF : Fit t) (ht : Row v tb x.cs) (hf : Fr F0 v w) (hT : T = []) (hK : ∀ w', Fr F0 v w' -> K (ofL (combosT t.combos)) w') : z0j_l4 ⟨tb, 0, none⟩ (ofL T) 0 K w := by
 subst hT
 obtain ⟨Z, hZ, hzl, hz⟩ := hx.combos
 have h20 := hF.combos
 have e13 : (x.f13.l : Int) = (t.combos.length : Int) := by rw [hZ.len, hzl]
 refine ⟨⟨fun s k u => ∃ k' : Nat, k = k' /\ k' <= t.combos.length /\ Fr F0 v u /\ s = ofL (combosT (t.combos.take k')), fun _ k _ => t.combos.length - k.toNat, ⟨0, rfl, by omega, hf, rfl⟩, ?_⟩⟩
 rintro s k u ⟨k, rfl, hk, hf, rfl⟩
 unfold z0j_b4
 have hr := hf.row ht fun h => h
 refine ⟨x.f13, hr.at (i := 13) rfl, ?_⟩
 rw [e13]
 refine cnd_prop.2 ⟨fun hlt => ?_, fun hge => ?_⟩
 ·have hkl : k < t.combos.length := by omega
  have hkz : k < Z.length := by omega
  obtain ⟨c1, c2⟩ := hF.combo _ (List.getElem_mem hkl)
  have hzk := hz k hkz hkl
  have ezk := hzk.len
  have hl := combosT_len (l := t.combos.take k) fun s hs => hF.combo s (List.mem_of_mem_take hs)
  have hlt' : (t.combos.take k).length <= t.combos.length := by simp; omega
  have ec : combosT (t.combos.take (k + 1)) = combosT (t.combos.take k) ++ (124 :: idsT t.combos[k]) := by
   rw [List.take_add_one, List.getElem?_eq_getElem hkl]
   unfold combosT
   rw [List.flatMap_append]
   simp
  simp -zeta only [e124, ofL_app]
  refine ⟨szle (by simp; omega), ⟨⟨fun s j u => ∃ j' : Nat, j = j' /\ j' <= t.combos[k].length /\ Fr F0 v u /\ s = ofL (combosT (t.combos.take k) ++ (124 :: idsT (t.combos[k].take j'))), fun _ j _ => t.combos[k].length - j.toNat, ⟨0, rfl, by omega, hf, rfl⟩, ?_⟩⟩⟩
  rintro s j u ⟨j, rfl, hj, hf, rfl⟩
  unfold z0j_b5
  have hr := hf.row ht fun h => h
  have hZu := hZ.fr hf
  refine ⟨x.f13, hr.at (i := 13) rfl, ldZ hZu k rfl hkz ?_⟩
  refine cnd_prop.2 ⟨fun hlt => ?_, fun hge => ?_⟩
  ·have hjl : j < t.combos[k].length := by omega
   have h64 := c2 _ (List.getElem_mem hjl)
   have hil := idsT_len (l := t.combos[k].take j) fun s hs => c2 s (List.mem_of_mem_take hs)
   have hlj : (t.combos[k].take j).length <= t.combos[k].length := by simp; omega
   have h21 := itoa_len' h64
   have e : combosT (t.combos.take k) ++ (124 :: idsT (t.combos[k].take j)) ++ Lib.itoa t.combos[k][j] ++ [32] = combosT (t.combos.take k) ++ (124 :: idsT (t.combos[k].take (j + 1))) := by
    rw [List.take_add_one, List.getElem?_eq_getElem hjl]
    unfold idsT
    rw [List.flatMap_append]
    simp
   refine ⟨x.f13, hr.at (i := 13) rfl, ldZ hZu k rfl hkz (ldI (hzk.fr hf) j rfl hjl ?_)⟩
   refine rdecimal_spec h64 fun w8 f8 => ?_
   simp -zeta only [e32, ofL_app]
   refine ⟨szle (by simp only [List.length_append, List.length_cons, List.length_nil]; omega), szle (by simp only [List.length_append, List.length_cons, List.length_nil]; omega), inR64 (by omega) (by omega), ?_⟩
   rw [e]
   exact ⟨⟨⟨trivial, trivial, trivial⟩, j + 1, by omega, by omega, hf.t f8, rfl⟩, by omega⟩
  ·have : j = t.combos[k].length := by omega
   subst this
   rw [List.take_length, ← ec]
   exact ⟨inR64 (by omega) (by omega), ⟨⟨rfl, trivial⟩, k + 1, by omega, by omega, hf, rfl⟩, by omega⟩
 ·have : k = t.combos.length := by omega
  subst this
  rw [List.take_length]
  exact hK u hf
theorem rCont_l2 (hx : TP v x t) (hF : Fit t) (ht : Row v tb x.cs) (hf : Fr F0 v w) (h0 : t.lots.find? (fun l => decide (lotC l.1 = c)) = none) (h1 : t.crit.find? (fun x => decide (critC x.name = c)) = none) (hK : ∀ w', Fr F0 v w' -> K (ofL (contT t c)) w') : z0j_l2 (ofL c) ⟨tb, 0, none⟩ 0 K w := by
 have h20 := hF.reqs
 have e3 : (x.f3.l : Int) = (t.reqs.length : Int) := by rw [hx.reqs.len]
 refine ⟨⟨fun i u => ∃ i' : Nat, i = i' /\ i' <= t.reqs.length /\ Fr F0 v u /\ ∀ j, j < i' -> c ≠ reqC j, fun i _ => t.reqs.length - i.toNat, ⟨0, rfl, by omega, hf, fun j h => by omega⟩, ?_⟩⟩
 rintro i u ⟨i, rfl, hi, hf, hb⟩
 unfold z0j_b2
 have hr := hf.row ht fun h => h
 refine ⟨x.f3, hr.at (i := 3) rfl, ?_⟩
 rw [e3]
 refine cnd_prop.2 ⟨fun hlt => ?_, fun hge => ?_⟩
 ·have hil : i < t.reqs.length := by omega
  have h64 : I64 ((i : Int) + 1) := ⟨by omega, by omega⟩
  have := itoa_len' h64
  obtain ⟨n1, n2, n3⟩ := hF.rq _ (List.getElem_mem hil)
  refine ⟨inR64 (by omega) (by omega), rdecimal_spec h64 fun w8 f8 => ?_⟩
  rw [str_req, ofL_app, ofL_dec]
  have F8 := hf.t f8
  refine ⟨szle (by simp [wReq]; omega), cnd_prop.2 ⟨fun he => ?_, fun he => ?_⟩⟩
  ·have he : c = reqC i := he
   have hr8 := F8.row ht fun h => h
   refine ⟨x.f3, hr8.at (i := 3) rfl, ldR (hx.reqs.fr F8) i rfl hil ?_⟩
   have hq : t.reqs[i] = ⟨t.reqs[i].name, t.reqs[i].rel, t.reqs[i].val⟩ := rfl
   generalize t.reqs[i].name = qa at *
   generalize t.reqs[i].rel = qb at *
   generalize t.reqs[i].val = qv at *
   refine stN_new (vs := [.string (ofL qa), .string (ofL qb), .int .i64 qv]) rfl Mem.nil fun w45 m => ?_
   intro w46
   have m : Mem w8 w46 [(w8.heap.size, [.string (ofL qa), .string (ofL qb), .int .i64 qv])] := m.drew
   clear_value w46
   have hb46 := m.row 0 rfl
   have R : ∀ w', Fr F0 w46 w' -> Row w' w8.heap.size [.string (ofL qa), .string (ofL qb), .int .i64 qv] := fun w' hw => hw.row hb46 fun h => h
   refine ⟨fun w' => Fr F0 w46 w', Fr.refl, ofL qa, fun w' hw => (R w' hw).at rfl, ofL qa, fun w' hw => (R w' hw).at rfl, ofL qb, fun w' hw => (R w' hw).at rfl, ofL qb, fun w' hw => (R w' hw).at rfl, qv, fun w' hw => (R w' hw).at rfl, ?_⟩
   rw [ofL_sz, ofL_sz]
   have k1 := itoa_len' (len64 n1)
   have k2 := itoa_len' (len64 n2)
   have k3 := itoa_len' n3
   refine rdecimal_spec (len64 n1) fun w53 f53 => ⟨f53, ?_⟩
   simp -zeta only [e32, ofL_app]
   refine ⟨szle (by simp only [List.length_append, List.length_cons, List.length_nil]; omega), szle (by simp only [List.length_append, List.length_cons, List.length_nil]; omega), ?_⟩
   refine rdecimal_spec (len64 n2) fun w55 f55 => ⟨f53.t f55, ?_⟩
   simp -zeta only [e32, ofL_app]
   refine ⟨szle (by simp only [List.length_append, List.length_cons, List.length_nil]; omega), szle (by simp only [List.length_append, List.length_cons, List.length_nil]; omega), szle (by simp only [List.length_append, List.length_cons, List.length_nil]; omega), ?_⟩
   refine rdecimal_spec n3 fun w57 f57 => ⟨f53.t (f55.t f57), ?_⟩
   simp -zeta only [ofL_app]
   refine ⟨szle (by simp only [List.length_append, List.length_cons, List.length_nil]; omega), ?_⟩
   have e : contT t c = reqT ⟨qa, qb, qv⟩ := by
    unfold contT
    rw [h0, h1, he, reqF_at hil (by omega), hq]
   have := hK w57 (F8.t (m.1.t (f53.t (f55.t f57))))
   rw [e] at this
   exact this
  ·have he : c ≠ reqC i := he
   refine ⟨inR64 (by omega) (by omega), ⟨⟨rfl, rfl, trivial⟩, i + 1, by omega, by omega, F8, fun j hj => ?_⟩, by dsimp only; omega⟩
   rcases Nat.lt_or_ge j i with h | h
   ·exact hb j h
   ·have : j = i := by omega
    subst this
    exact he
 ·have : i = t.reqs.length := by omega
  subst this
  have hq : reqF t c = none := by
   unfold reqF
   have : (List.range t.reqs.length).find? (fun k => decide (c = reqC k)) = none := List.find?_eq_none.2 fun k hk => by simpa using hb k (by simpa using hk)
   rw [this]
   rfl
  have er : contT t c = restT t c := by
   unfold contT
   rw [h0, h1, hq]
  rw [er] at hK
  unfold restT at hK
  have cell : ∀ {n : Int} {i : Nat} {w' : World}, x.cs[i]? = some (.int .i64 n) -> Fr F0 v w' -> w'.cell? ((⟨tb, 0, none⟩ : Addr).add i) = some (.int .i64 n) := fun h hw => by
   rw [add_mk, Nat.zero_add]
   exact (hw.row ht fun h => h).at h
  rw [show decide (ofL c = str [110, 97, 109, 101]) = decide (c = wName) from ofL_dec c wName, show decide (ofL c = str [114, 97, 110, 103, 101]) = decide (c = wRange) from ofL_dec c wRange, show decide (ofL c = str [116, 105, 101, 115]) = decide (c = wTies) from ofL_dec c wTies, show decide (ofL c = str [109, 111, 115, 116]) = decide (c = wMost) from ofL_dec c wMost,
   show decide (ofL c = str [99, 111, 109, 98, 111, 115]) = decide (c = wCombos) from ofL_dec c wCombos, show decide (ofL c = str [98, 117, 100, 103, 101, 116]) = decide (c = wBudget) from ofL_dec c wBudget, show decide (ofL c = str [116, 105, 109, 101, 115]) = decide (c = wTimes) from ofL_dec c wTimes]
  refine cnd_prop.2 ⟨fun h => ?_, fun n1 => cnd_prop.2 ⟨fun h => ?_, fun n2 => cnd_prop.2 ⟨fun h => ?_, fun n3 => cnd_prop.2 ⟨fun h => ?_, fun n4 => cnd_prop.2 ⟨fun h => ?_, fun n5 => cnd_prop.2 ⟨fun h => ?_, fun n6 => cnd_prop.2 ⟨fun h => ?_, fun n7 => ?_⟩⟩⟩⟩⟩⟩⟩
  ·rw [if_pos h] at hK
   refine ⟨x.f0, hr.at (i := 0) rfl, ?_⟩
   rw [hx.name]
   exact hK u hf
  ·rw [if_neg n1, if_pos h] at hK
   intro w60
   have f60 : Fr F0 u w60 := Fr.drew
   clear_value w60
   have F60 := hf.t f60
   have k1 := itoa_len' hF.low
   have k2 := itoa_len' hF.high
   refine ⟨fun w' => Fr F0 w60 w', Fr.refl, x.f4, fun w' hw => cell rfl (F60.t hw), x.f5, fun w' hw => cell rfl (F60.t hw), ?_⟩
   rw [hx.low, hx.high]
   refine rdecimal_spec hF.low fun w64 f64 => ⟨f64, ?_⟩
   simp -zeta only [e32, ofL_app]
   refine ⟨szle (by simp only [List.length_append, List.length_cons, List.length_nil]; omega), ?_⟩
   refine rdecimal_spec hF.high fun w66 f66 => ?_
   simp -zeta only [ofL_app]
   exact ⟨f64.t f66, szle (by simp only [List.length_append, List.length_cons, List.length_nil]; omega), hK w66 (F60.t (f64.t f66))⟩
  ·rw [if_neg n1, if_neg n2, if_pos h] at hK
   exact rCont_ties (T := []) hx hF ht hf rfl hK
  ·rw [if_neg n1, if_neg n2, if_neg n3, if_pos h] at hK
   refine ⟨x.f12, cell rfl hf, ?_⟩
   rw [hx.most]
   exact rdecimal_spec hF.most fun w' f => hK w' (hf.t f)
  ·rw [if_neg n1, if_neg n2, if_neg n3, if_neg n4, if_pos h] at hK
   exact rCont_combos (T := []) hx hF ht hf rfl hK
  ·rw [if_neg n1, if_neg n2, if_neg n3, if_neg n4, if_neg n5, if_pos h] at hK
   refine ⟨x.f14, cell rfl hf, ?_⟩
   rw [hx.budget]
   exact rdecimal_spec hF.budget fun w' f => hK w' (hf.t f)
  ·rw [if_neg n1, if_neg n2, if_neg n3, if_neg n4, if_neg n5, if_neg n6, if_pos h] at hK
   intro w96
   have f96 : Fr F0 u w96 := Fr.drew
   clear_value w96
   have F96 := hf.t f96
   have k1 := itoa_len' hF.t1
   have k2 := itoa_len' hF.t2
   have k3 := itoa_len' hF.t3
   have k4 := itoa_len' hF.t4
   have k5 := itoa_len' hF.t5
   refine ⟨fun w' => Fr F0 w96 w', Fr.refl, x.f15, fun w' hw => cell rfl (F96.t hw), x.f16, fun w' hw => cell rfl (F96.t hw), x.f17, fun w' hw => cell rfl (F96.t hw), x.f18, fun w' hw => cell rfl (F96.t hw), x.f19, fun w' hw => cell rfl (F96.t hw), ?_⟩
   rw [hx.t1, hx.t2, hx.t3, hx.t4, hx.t5]
   refine rdecimal_spec hF.t1 fun w1 f1 => ⟨f1, ?_⟩
   simp -zeta only [e32, ofL_app]
   refine ⟨szle (by simp only [List.length_append, List.length_cons, List.length_nil]; omega), ?_⟩
   refine rdecimal_spec hF.t2 fun w2 f2 => ⟨f1.t f2, ?_⟩
   simp -zeta only [e32, ofL_app]
   refine ⟨szle (by simp only [List.length_append, List.length_cons, List.length_nil]; omega), szle (by simp only [List.length_append, List.length_cons, List.length_nil]; omega), ?_⟩
   refine rdecimal_spec hF.t3 fun w3 f3 => ⟨f1.t (f2.t f3), ?_⟩
   simp -zeta only [e32, ofL_app]
   refine ⟨szle (by simp only [List.length_append, List.length_cons, List.length_nil]; omega), szle (by simp only [List.length_append, List.length_cons, List.length_nil]; omega), ?_⟩
   refine rdecimal_spec hF.t4 fun w4 f4 => ⟨f1.t (f2.t (f3.t f4)), ?_⟩
   simp -zeta only [e32, ofL_app]
   refine ⟨szle (by simp only [List.length_append, List.length_cons, List.length_nil]; omega), szle (by simp only [List.length_append, List.length_cons, List.length_nil]; omega), ?_⟩
   refine rdecimal_spec hF.t5 fun w5 f5 => ⟨f1.t (f2.t (f3.t (f4.t f5))), ?_⟩
   simp -zeta only [ofL_app]
   exact ⟨szle (by simp only [List.length_append, List.length_cons, List.length_nil]; omega), hK w5 (F96.t (f1.t (f2.t (f3.t (f4.t f5)))))⟩
  ·rw [if_neg n1, if_neg n2, if_neg n3, if_neg n4, if_neg n5, if_neg n6, if_neg n7] at hK
   exact hK u hf
theorem rCont_l1 (hx : TP v x t) (hF : Fit t) (ht : Row v tb x.cs) (hf : Fr F0 v w) (h0 : t.lots.find? (fun l => decide (lotC l.1 = c)) = none) (hK : ∀ w', Fr F0 v w' -> K (ofL (contT t c)) w') : z0j_l1 (ofL c) ⟨tb, 0, none⟩ 0 K w := by
 have h20 := hF.crit
 have e2 : (x.f2.l : Int) = (t.crit.length : Int) := by rw [hx.crit.len]
 refine ⟨⟨fun i u => ∃ i' : Nat, i = i' /\ i' <= t.crit.length /\ Fr F0 v u /\ ∀ j (hj : j < t.crit.length), j < i' -> critC t.crit[j].name ≠ c, fun i _ => t.crit.length - i.toNat, ⟨0, rfl, by omega, hf, fun j _ h => by omega⟩, ?_⟩⟩
 rintro i u ⟨i, rfl, hi, hf, hb⟩
 unfold z0j_b1
 have hr := hf.row ht fun h => h
 refine ⟨x.f2, hr.at (i := 2) rfl, ?_⟩
 rw [e2]
 refine cnd_prop.2 ⟨fun hlt => ?_, fun hge => ?_⟩
 ·have hil : i < t.crit.length := by omega
  obtain ⟨n1, n2, n3, n4⟩ := hF.cr _ (List.getElem_mem hil)
  refine ⟨x.f2, hr.at (i := 2) rfl, ldCr (hx.crit.fr hf) i rfl hil ?_⟩
  refine stN_new (vs := encC t.crit[i]) rfl Mem.nil fun w22 m => ?_
  have hb22 := m.row 0 rfl
  refine ⟨_, hb22.at rfl, ?_⟩
  rw [str_crit, ofL_app, ofL_dec]
  refine ⟨szle (by simp [wCrit]; omega), cnd_prop.2 ⟨fun he => ?_, fun he => ?_⟩⟩
  ·have he : c = critC t.crit[i].name := he
   intro w24
   have m : Mem u w24 [(u.heap.size, encC t.crit[i])] := m.drew
   clear_value w24
   have hb24 := m.row 0 rfl
   have R : ∀ w', Fr F0 w24 w' -> Row w' u.heap.size (encC t.crit[i]) := fun w' hw => hw.row hb24 fun h => h
   have k1 := itoa_len' n2
   have k2 := itoa_len' n3
   have k3 := itoa_len' n4
   have e : contT t c = critT t.crit[i] := by
    unfold contT
    rw [h0, find_hit (p := fun x => decide (critC x.name = c)) hil (decide_eq_true he.symm) fun j hj => decide_eq_false (hb j (by omega) hj)]
   rw [e] at hK
   unfold critT at hK
   refine ⟨fun w' => Fr F0 w24 w', Fr.refl, t.crit[i].kind, fun w' hw => (R w' hw).at rfl, t.crit[i].low, fun w' hw => (R w' hw).at rfl, t.crit[i].high, fun w' hw => (R w' hw).at rfl, ?_⟩
   refine rdecimal_spec n2 fun w29 f29 => ⟨f29, ?_⟩
   simp -zeta only [e32, ofL_app]
   refine ⟨szle (by simp only [List.length_append, List.length_cons, List.length_nil]; omega), ?_⟩
   refine rdecimal_spec n3 fun w31 f31 => ⟨f29.t f31, ?_⟩
   simp -zeta only [e32, ofL_app]
   refine ⟨szle (by simp only [List.length_append, List.length_cons, List.length_nil]; omega), szle (by simp only [List.length_append, List.length_cons, List.length_nil]; omega), ?_⟩
   refine rdecimal_spec n4 fun w33 f33 => ⟨f29.t (f31.t f33), ?_⟩
   simp -zeta only [eless, ofL_app]
   have F33 := hf.t (m.1.t (f29.t (f31.t f33)))
   refine ⟨szle (by simp only [List.length_append, List.length_cons, List.length_nil]; omega), t.crit[i].less, (R w33 (f29.t (f31.t f33))).at rfl, cnd_iff.2 ⟨fun hls => ?_, fun hls => ?_⟩⟩
   ·rw [hls, if_pos rfl] at hK
    exact ⟨szle (by simp only [List.length_append, List.length_cons, List.length_nil]; omega), hK w33 F33⟩
   ·rw [hls, if_neg (by decide), List.append_nil] at hK
    exact hK w33 F33
  ·have he : c ≠ critC t.crit[i].name := he
   refine ⟨inR64 (by omega) (by omega), ⟨⟨rfl, rfl, trivial⟩, i + 1, by omega, by omega, hf.t m.1, fun j hjl hj => ?_⟩, by dsimp only; omega⟩
   rcases Nat.lt_or_ge j i with h | h
   ·exact hb j hjl h
   ·have : j = i := by omega
    subst this
    exact Ne.symm he
 ·have : i = t.crit.length := by omega
  subst this
  exact rCont_l2 hx hF ht hf h0 (find_no fun j hj => decide_eq_false (hb j hj hj)) hK
theorem rContent_spec (hx : TP w x t) (hF : Fit t) (hK : ∀ w', Fr F0 w w' -> K (ofL (contT t c)) w') : z0j_sh x (ofL c) K w := by
 have h20 := hF.lots
 have e1 : (x.f1.l : Int) = (t.lots.length : Int) := by rw [hx.lots.len]
 refine ⟨?_⟩
 unfold z0j_sd
 intro w1
 have m : Mem w w1 [(w.heap.size, x.cs)] := Mem.nil.allocL
 clear_value w1
 have ht := m.row 0 rfl
 have hx := hx.fr m.1
 have hK : ∀ w', Fr F0 w1 w' -> K (ofL (contT t c)) w' := fun w' hf => hK w' (m.1.t hf)
 refine ⟨⟨fun i u => ∃ i' : Nat, i = i' /\ i' <= t.lots.length /\ Fr F0 w1 u /\ ∀ j (hj : j < t.lots.length), j < i' -> lotC t.lots[j].1 ≠ c, fun i _ => t.lots.length - i.toNat, ⟨0, rfl, by omega, Fr.refl, fun j _ h => by omega⟩, ?_⟩⟩
 rintro i u ⟨i, rfl, hi, hf, hb⟩
 unfold z0j_b0
 have hr := hf.row ht fun h => h
 refine ⟨x.f1, hr.at (i := 1) rfl, ?_⟩
 rw [e1]
 refine cnd_prop.2 ⟨fun hlt => ?_, fun hge => ?_⟩
 ·have hil : i < t.lots.length := by omega
  obtain ⟨n1, n2⟩ := hF.lot _ (List.getElem_mem hil)
  refine ⟨x.f1, hr.at (i := 1) rfl, Vw.go encL_length (by decide) (hx.lots.fr hf) i rfl hil fun _ hc => ⟨_, hc 0 _ rfl, ?_⟩⟩
  refine rLot_spec n1 fun w8 f8 => ?_
  have F8 := hf.t f8
  rw [ofL_dec]
  refine cnd_prop.2 ⟨fun he => ?_, fun he => ?_⟩
  ·refine ⟨x.f1, (F8.row ht fun h => h).at (i := 1) rfl, Vw.go encL_length (by decide) (hx.lots.fr F8) i rfl hil fun _ hc => ⟨_, hc 1 _ rfl, ?_⟩⟩
   refine rdecimal_spec n2 fun w11 f11 => ?_
   have e : contT t c = Lib.itoa t.lots[i].2 := by
    unfold contT
    rw [find_hit (p := fun l => decide (lotC l.1 = c)) hil (decide_eq_true he.symm) fun j hj => decide_eq_false (hb j (by omega) hj)]
   rw [e] at hK
   exact hK w11 (F8.t f11)
  ·refine ⟨inR64 (by omega) (by omega), ⟨⟨rfl, rfl, trivial⟩, i + 1, by omega, by omega, F8, fun j hjl hj => ?_⟩, by dsimp only; omega⟩
   rcases Nat.lt_or_ge j i with h | h
   ·exact hb j hjl h
   ·have : j = i := by omega
    subst this
    exact Ne.symm he
 ·have : i = t.lots.length := by omega
  subst this
  exact rCont_l1 hx hF ht hf (find_no fun j hj => decide_eq_false (hb j hj hj)) hK
end
end Go.Proofs.YtfkmpbpkahcogaaGreatDoor
