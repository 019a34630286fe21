/- The law DiskLimits returns true, joined. Conditions: none. -/
import Derived.Test.YtmhjekbdpnocaaaL1
namespace Go.Proofs.Ytmhjekbdpnocaaa
open Go Pw

section
variable {w : World}

theorem DiskLimits_spec {far n off : Int} {K : Bool → World → Prop} (hK : ∀ w', Fr F0 w w' → K true w') : probitylaw26_DiskLimits_sh far n off K w := by
  refine ⟨?_⟩
  unfold probitylaw26_DiskLimits_sd
  refine sanity_spec fun w1 hf1 => ?_
  refine New_spec fun w3 hd3 hf3 hs3 => ?_
  refine rNew_spec fun w5 hR5 hf5 hs5 => ?_
  obtain ⟨hD, hf7⟩ := desk_new hd3 (Nat.le_refl _) hR5 hf5
  have hr7 : Row (w5.alloc (Obj.cells #[(Value.pointer (ptr w1.heap.size)), (Value.pointer (ptr w3.heap.size))] 30)) w5.heap.size [.pointer (ptr w1.heap.size), .pointer (ptr w3.heap.size)] := Row.new
  show ∃ x8 : Option Addr, (w5.alloc (Obj.cells #[(Value.pointer (ptr w1.heap.size)), (Value.pointer (ptr w3.heap.size))] 30)).cell? _ = _ ∧ _
  refine ⟨ptr w1.heap.size, hr7.at rfl, ?_⟩
  simp only [show (ptr w1.heap.size).isNone = false from rfl, cnd_false]
  refine Mod_spec (by omega) (by omega) ?_
  obtain ⟨m, hm⟩ : ∃ m : Nat, n % 70 = m := ⟨(n % 70).toNat, by omega⟩
  rw [hm]
  show probitylaw26_repeated_sh (((113 : UInt8).toNat : Nat) : Int) (m : Int) _ (w5.alloc (Obj.cells #[(Value.pointer (ptr w1.heap.size)), (Value.pointer (ptr w3.heap.size))] 30))
  generalize w5.alloc (Obj.cells #[(Value.pointer (ptr w1.heap.size)), (Value.pointer (ptr w3.heap.size))] 30) = w7 at *
  have s1 := hf1.1
  have hf17 : Fr F0 w1 w7 := ge_trans hf3 hf7
  refine repeated_spec (by omega) fun w11 hf11 => ?_
  have hsz : (ofL (List.replicate m (113 : UInt8))).size = m := by rw [← bl_length, bl_ofL]; simp
  have hf111 : Fr F0 w1 w11 := ge_trans hf17 hf11
  refine lim_both (m := m) (far := far) (t := ofL (List.replicate m 113)) hsz (by omega) (hD.keep hf11) fun r w25 st' hD25 hlen25 hf25 => ?_
  have hf1_25 : Fr (fun c => w1.heap.size ≤ c) w1 w25 := ge_trans (fr_ge hf111) hf25
  refine New_spec fun w27 hd27 hf27 hs27 => ?_
  have hD27 := hD25.keep hf27
  refine Mod_spec (by omega) (by omega) ?_
  obtain ⟨o, ho⟩ : ∃ o : Nat, off % 500 = o := ⟨(off % 500).toNat, by omega⟩
  rw [ho]
  have hstr : (str []).size = 0 := rfl
  show disk_Disk_Write_sh (ptr w25.heap.size) _ _ _ _
  refine Write_spec hd27 (by simp [newDS]) (by simp [newDS]) (by simp [newDS]) (by simp [newDS]) (by simp [newDS]) (fun hb => by omega) (fun _ _ hl => by simp [newDS] at hl) fun _ _ _ w31 hd31 hf31 => ?_
  obtain ⟨db, rb, O1, O2, hP⟩ := hD25
  have hxl := hP.row.lt
  have hP27 := hP.keep hf27 (fun _ _ h => h) (fun _ _ h => h) fun h => h
  have hP31 := hP27.keep hf31 (fun c hc hF => by have := (hP.b1 c hc).2; omega) (fun c hc hF => by have := (hP.b2 c hc).2; omega) fun hF => by omega
  have hf1_31 : Fr (fun c => w1.heap.size ≤ c) w1 w31 := by
    have s25 := hf1_25.1
    exact ge_trans (ge_trans hf1_25 (fr_ge hf27)) (hf31.mono fun c hc => by omega)
  have hfd : Fr F0 w31 w31.drew := Fr.drew
  have hP33 := hP31.keep hfd (fun _ _ h => h) (fun _ _ h => h) fun h => h
  have hN := hd31.fr hfd fun _ _ h => h
  have hf33 : Fr (fun c => w1.heap.size ≤ c) w1 w31.drew := ge_trans hf1_31 (fr_ge hfd)
  generalize w31.drew = w33 at *
  have hbl : bl (str []) = [] := rfl
  rw [hbl, Int.toNat_natCast] at hN
  have hnow : (writeDS newDS o []).now = List.replicate o 0 := by
    show putL [] o [] = _
    simp [putL, spB]
  have hfin : ∀ w', Fr F0 w33 w' → K true w' := fun w' hf' => hK _ (fr_after hf1 (ge_trans hf33 (fr_ge hf')) s1)
  have hread : readL (writeDS newDS o []).now 0 ((o : Int) + 1) = List.replicate o 0 := by
    rw [hnow]
    unfold readL
    rw [if_neg (by omega), Int.toNat_zero, List.drop_zero, List.take_of_length_le (by simp)]
  have hl24 : (writeDS newDS o []).now.length ≤ 2 ^ 24 := by rw [hnow]; simp; omega
  have tail : ∀ w', Fr F0 w33 w' → _ := fun w' hf' => Limits_tail (x := w5.heap.size) (o := o) (K := K) (hN.fr hf' fun _ _ h => h) (hf'.row hP33.row fun h => h) hl24 (by simp [writeDS, newDS, splitL, splitF]) rfl rfl (by omega) (hfin w' hf')
  refine ⟨fun w' => Row w' w5.heap.size [.pointer (ptr db), .pointer (ptr rb)], hP33.row, ?_⟩
  simp only [cnd_true, beq_self_eq_true]
  refine ⟨ptr db, fun _ h => h.at rfl, ptr rb, fun _ h => h.at rfl, Size_spec hP33.d ⟨hP33.row, rSize_spec hP33.r ⟨hP33.row, ?_⟩⟩⟩
  simp only [cnd_true, beq_self_eq_true]
  refine Size_spec hN ⟨hP33.row, ?_⟩
  rw [hnow, List.length_replicate]
  simp only [cnd_true, beq_self_eq_true]
  refine ⟨inR64 (by omega) (by omega), ?_, ?_⟩
  · refine Read_spec hN (by omega) fun w43 hf43 => ⟨hf43.row hP33.row fun h => h, mkS_u8 (by omega) fun r w46 hr hf46 => ?_⟩
    have hf := ge_trans hf43 hf46
    refine ⟨hf.row hP33.row fun h => h, btsS_own hr ⟨hf.row hP33.row fun h => h, ?_⟩⟩
    rw [hread, decide_eq_true rfl, cnd_true]
    exact tail w46 hf
  · refine mkS_u8 (by omega) fun r w53 hr hf53 => ⟨hf53.row hP33.row fun h => h, ?_, ?_⟩
    · refine Read_spec (hN.fr hf53 fun _ _ h => h) (by omega) fun w54 hf54 => ?_
      have hf := ge_trans hf53 hf54
      refine ⟨hf.row hP33.row fun h => h, btsS_own (hr.fr hf54 fun _ _ h => h) ⟨hf.row hP33.row fun h => h, ?_⟩⟩
      rw [hread, decide_eq_true rfl, cnd_true]
      exact tail w54 hf
    · refine btsS_own hr ⟨hf53.row hP33.row fun h => h, Read_spec (hN.fr hf53 fun _ _ h => h) (by omega) fun w62 hf62 => ?_⟩
      have hf := ge_trans hf53 hf62
      refine ⟨hf.row hP33.row fun h => h, ?_⟩
      rw [hread, decide_eq_true rfl, cnd_true]
      exact tail w62 hf
end
end Go.Proofs.Ytmhjekbdpnocaaa
