/- The law DiskOwn returns true. Conditions: none. -/
import Derived.Test.YtmhjekbdpnocaaaD6
namespace Go.Proofs.Ytmhjekbdpnocaaa
open Go Pw

theorem splitF_le : ∀ (f off : Nat) (s : List UInt8), ∀ p ∈ splitF f off s, p.1 + p.2.length ≤ off + s.length
  | 0, _, _, p, hp => by cases hp
  | f + 1, off, s, p, hp => by
    unfold splitF at hp
    split at hp
    · cases hp
    · rcases List.mem_cons.1 hp with rfl | hp
      · simp; omega
      · have := splitF_le f _ _ p hp
        have hm := Nat.mod_lt off (by decide : 64 > 0)
        simp at this
        omega

theorem splitF_len : ∀ (f off : Nat) (s : List UInt8), (splitF f off s).length ≤ f
  | 0, _, _ => Nat.le_refl _
  | f + 1, off, s => by
    unfold splitF
    split
    · simp
    · simp [splitF_len f]

theorem Lens.write {st : DS} {off : Nat} {s : List UInt8} (h : Lens st) (hs : off + s.length ≤ 2 ^ 24) : Lens (writeDS st off s) :=
  ⟨by simp only [writeDS]; rw [putL_length]; have := h.now; omega, h.syn, fun p hp => by
    simp only [writeDS, List.mem_append] at hp
    rcases hp with hp | hp
    · exact h.pcs p hp
    · have := splitF_le _ _ _ p hp; omega⟩

theorem Lens.sync {st : DS} (h : Lens st) : Lens (syncDS st) := ⟨h.now, h.now, fun p hp => by simp [syncDS] at hp⟩

theorem Lens.crash {st : DS} {surv : List Int} (h : Lens st) : Lens (crashDS st surv) :=
  ⟨crashTo_length h.syn h.pcs _, crashTo_length h.syn h.pcs _, fun p hp => by simp [crashDS] at hp⟩

theorem Lens.new : Lens newDS := ⟨by simp [newDS], by simp [newDS], fun p hp => by simp [newDS] at hp⟩

section
variable {w : World}

theorem DiskOwn_spec {s : ByteArray} {q : Sl} {surv : List Int} {t0 t1 : Int} {K : Bool → World → Prop} (hv : rdC w q.p q.l (surv.map iv)) (hK : ∀ w', Fr F0 w w' → K true w') : probitylaw26_DiskOwn_sh s q t0 t1 K w := by
  refine ⟨?_⟩
  unfold probitylaw26_DiskOwn_sd
  have hr1 : Row (w.alloc (Obj.cells #[(Value.int .i64 t0), (Value.int .i64 t1)] 42)) w.heap.size [.int .i64 t0, .int .i64 t1] := Row.new
  have hf1 : Fr F0 w (w.alloc (Obj.cells #[(Value.int .i64 t0), (Value.int .i64 t1)] 42)) := Fr.alloc
  show probitylaw26_sanity_sh _ (w.alloc (Obj.cells #[(Value.int .i64 t0), (Value.int .i64 t1)] 42))
  generalize w.alloc (Obj.cells #[(Value.int .i64 t0), (Value.int .i64 t1)] 42) = w1 at *
  refine sanity_spec fun w2 hf2 => ?_
  refine New_RI fun w4 hd hf4 => ?_
  have hG : Fr F0 w2 w4 := hf4
  simp only [show ∀ b, (ptr b).isNone = false from fun _ => rfl, cnd_false]
  have he3 : (str [101, 110, 100]).size = 3 := by kernel_rfl
  have hs2 : (str [110, 101, 119]).size = 3 := by kernel_rfl
  have hs3 : (str [99, 114, 97, 115, 104]).size = 5 := by kernel_rfl
  have hs4 : (str [99, 104, 97, 110, 103, 101, 100, 32, 97, 103, 97, 105, 110]).size = 13 := by kernel_rfl
  have hxs : (s.extract 0 (min (s.size : Int) 150).toNat).size ≤ 150 := by simp; omega
  refine ⟨⟨by omega, by omega, by omega⟩, by unfold maxI; omega, ?_⟩
  have hxa : ((s.extract 0 (min (s.size : Int) 150).toNat) ++ str [101, 110, 100]).size ≤ 153 := by simp only [ByteArray.size_append]; omega
  generalize (s.extract 0 (min (s.size : Int) 150).toNat) ++ str [101, 110, 100] = a at *
  have hbla := bl_length a
  refine Write_RI hd Lens.new (by decide) (by decide) (by decide) (nl rfl) (fun h => absurd h (by omega)) (fun _ _ h => by cases h) fun _ _ _ w6 hd hf6 => ?_
  have hG := fr_after hG hf6 (Nat.le_refl _)
  have hL6 : Lens (writeDS newDS (0 : Int).toNat (bl a)) := Lens.new.write (by simp; omega)
  refine Sync_RI hd hL6 (by simp [writeDS, callDS, newDS]) (by simp [writeDS, callDS, newDS]) (nl (by simp [writeDS, callDS, newDS])) (fun h => by simp [writeDS, callDS, newDS] at h) fun _ w8 hd hf8 => ?_
  have hG := fr_after hG hf8 (Nat.le_refl _)
  have hH : Fr F0 w1 w8 := hf2.trans hG fun _ h _ => h
  have hr8 := hH.row hr1 fun h => h
  refine ⟨⟨by omega, by omega⟩, t0, by simpa using hr8.at (i := 0) rfl, Mod_spec (by omega) (by omega) ?_⟩
  have h0 := Int.emod_nonneg t0 (by omega : (100 : Int) ≠ 0)
  have h1 := Int.emod_lt_of_pos t0 (by omega : (0 : Int) < 100)
  have hL8 := hL6.sync
  have hbl2 := bl_length (str [110, 101, 119])
  refine Write_RI hd hL8 (by simp [syncDS]) (by simp [syncDS, writeDS, callDS, newDS]) (by simp [syncDS, writeDS, callDS, newDS]) (nl (by simp [syncDS, writeDS, callDS, newDS])) (fun h => absurd h (by omega)) (fun _ _ h => by simp [syncDS, writeDS, callDS, newDS] at h) fun _ _ _ w13 hd hf13 => ?_
  have hG := fr_after hG hf13 (Nat.le_refl _)
  have hL13 := hL8.write (off := (t0 % 100).toNat) (s := bl (str [110, 101, 119])) (by omega)
  have hpl13 : (writeDS (syncDS (writeDS newDS (0 : Int).toNat (bl a))) (t0 % 100).toNat (bl (str [110, 101, 119]))).pcs.length ≤ 3 := by
    have := splitF_len (bl (str [110, 101, 119])).length (t0 % 100).toNat (bl (str [110, 101, 119]))
    simp only [writeDS, syncDS, splitL, List.nil_append]
    omega
  have hcl13 : (writeDS (syncDS (writeDS newDS (0 : Int).toNat (bl a))) (t0 % 100).toNat (bl (str [110, 101, 119]))).calls = 3 := rfl
  have hlm13 : (writeDS (syncDS (writeDS newDS (0 : Int).toNat (bl a))) (t0 % 100).toNat (bl (str [110, 101, 119]))).lim = none := rfl
  generalize writeDS (syncDS (writeDS newDS (0 : Int).toNat (bl a))) (t0 % 100).toNat (bl (str [110, 101, 119])) = st at *
  have hH : Fr F0 w w13 := hf1.trans (hf2.trans hG fun _ h _ => h) fun _ h _ => h
  refine Crash_RI (surv := surv) hd hL13 (by omega) (rdC_fr hv hH fun _ _ h => h) fun w15 hc hf15 => ?_
  obtain ⟨O, hdr, hdO⟩ := hd
  have hcL : Lens (crashDS st surv) := hL13.crash
  simp only [show ∀ b, (ptr b).isNone = false from fun _ => rfl, cnd_false]
  have hdr15 := hdr.fr hf15 fun _ _ h => h
  have hnow := hL13.now
  refine Read_spec hdr15 (by omega) fun w17 hf17 => ?_
  have hP : Fr F0 w13 w17 := hf15.trans hf17 fun _ h _ => h
  have hr17 : Row w17 w.heap.size [.int .i64 t0, .int .i64 t1] := (hf2.trans (hG.trans hP fun _ h _ => h) fun _ h _ => h).row hr1 fun h => h
  refine ⟨⟨by omega, by omega⟩, t1, by simpa using hr17.at (i := 1) rfl, Mod_spec (by omega) (by omega) ?_⟩
  have h0 := Int.emod_nonneg t1 (by omega : (100 : Int) ≠ 0)
  have h1 := Int.emod_lt_of_pos t1 (by omega : (0 : Int) < 100)
  have hc17 := hc.keep hf17
  refine Write_RI hc17 hcL (by simp [crashDS]) (by simp [crashDS]) (by simp [crashDS]) (nl rfl) (fun h => absurd h (by omega)) (fun _ _ h => by cases h) fun _ _ _ w22 hc22 hf22 => ?_
  have hP := fr_after hP hf22 (Nat.le_refl _)
  have hbl3 := bl_length (str [99, 114, 97, 115, 104])
  have hcL22 := hcL.write (off := (t1 % 100).toNat) (s := bl (str [99, 114, 97, 115, 104])) (by omega)
  have hccl : (writeDS (crashDS st surv) (t1 % 100).toNat (bl (str [99, 114, 97, 115, 104]))).calls = 1 := rfl
  generalize writeDS (crashDS st surv) (t1 % 100).toNat (bl (str [99, 114, 97, 115, 104])) = ct at *
  refine Read_RI hc22 hcL22 fun w24 hf24 => ?_
  have hP := hP.trans hf24 fun _ h _ => h
  have hc24 := hc22.keep hf24
  have hdr24 : Rep w24 _ st O := hdr.fr hP fun _ _ h => h
  refine Read_spec hdr24 (by omega) fun w26 hf26 => ?_
  have hP := hP.trans hf26 fun _ h _ => h
  have hc26 := hc24.keep hf26
  have hdr26 : Rep w26 _ st O := hdr.fr hP fun _ _ h => h
  refine Write_spec hdr26 (by omega) (by omega) (by omega) (by omega) (nl hlm13) (fun h => absurd h (by omega)) (fun _ _ h => by rw [hlm13] at h; cases h) fun _ _ _ w28 hdr28 hf28 => ?_
  simp only [beq_self_eq_true, decide_true, cnd_true]
  obtain ⟨Oc, hcr, hcO⟩ := hc26
  have hcr28 := hcr.fr hf28 fun c hc hd => by
    have := hcO c hc
    have := hdO c hd
    omega
  have hcn := hcL22.now
  refine Read_spec hcr28 (by omega) fun w30 hf30 => ?_
  simp only [decide_true, cnd_true]
  refine Calls_spec (hcr28.fr hf30 fun _ _ h => h) ?_
  rw [hccl]
  simp only [beq_self_eq_true]
  refine hK w30 (((hH.trans hP fun _ h _ => h).trans (hf28.mono (G := fun c => w2.heap.size ≤ c) fun c hc => (hdO c hc).1) fun c hc hlt => ?_).trans hf30 fun _ h _ => h)
  exact absurd hlt (by have := hf1.1; have := hf2.1; omega)
end
end Go.Proofs.Ytmhjekbdpnocaaa
