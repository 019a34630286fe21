/- The law DiskSynced: what is synced survives. Conditions: none. -/
import Derived.Test.YtmhjekbdpnocaaaP4
namespace Go.Proofs.Ytmhjekbdpnocaaa
open Go Pw

theorem putL_keep {c syn s : List UInt8} {off : Nat} (h : c.take syn.length = syn) (ho : syn.length ≤ off) : (putL c off s).take syn.length = syn := by
  have hl : syn.length ≤ c.length := by
    have := congrArg List.length h
    simp at this
    omega
  rw [putL_eq, List.append_assoc, List.append_assoc, List.take_append_of_le_length (by simp; omega), List.take_take, Nat.min_eq_left ho, h]

theorem splitF_ge : ∀ (f off : Nat) (s : List UInt8), ∀ p ∈ splitF f off s, off ≤ p.1
  | 0, _, _, p, hp => by cases hp
  | f + 1, off, s, p, hp => by
    unfold splitF at hp
    split at hp
    · cases hp
    · rcases List.mem_cons.1 hp with rfl | hp
      · exact Nat.le_refl _
      · have := splitF_ge f _ _ p hp
        omega

theorem crashTo_keep {surv : List Int} {syn : List UInt8} {pcs : List (Nat × List UInt8)} (h : ∀ p ∈ pcs, syn.length ≤ p.1) : ∀ n, n ≤ pcs.length → (crashTo surv syn pcs n).take syn.length = syn
  | 0, _ => by simp [crashTo]
  | n + 1, hn => by
    have ih := crashTo_keep (surv := surv) h n (by omega)
    unfold crashTo
    split
    · have hlt : n < pcs.length := by omega
      have := h _ (List.getElem_mem hlt)
      rw [List.getD_eq_getElem?_getD, List.getElem?_eq_getElem hlt]
      exact putL_keep ih this
    · exact ih

section
variable {w : World} {x k : Nat} {st : DS}

theorem Synced_k1 {n tb : Nat} {w0 : World} {q : Sl} {t0 t1 : Int} {surv : List Int} {K : Bool → World → Prop} (h : Desk w x st k) (hB : Bd st n) (hn : n ≤ 100) (hno : st.lim = none) (hnl : st.now.length ≤ 300)
    (ht : Row w tb [.int .i64 t0, .int .i64 t1]) (htk : tb < k) (hv : rdC w0 q.p q.l (surv.map iv)) (hf0 : Fr (fun c => k ≤ c) w0 w) (hk0 : w0.heap.size ≤ k)
    (hK : ∀ w', Fr (fun c => k ≤ c) w w' → K true w') : probitylaw26_DiskSynced_k1 q ⟨tb, 0, none⟩ true ⟨x, 0, none⟩ K w := by
  obtain ⟨db, rb, O1, O2, h⟩ := h
  have hpl := hB.pl
  have hc0 := hB.c0
  have hc1 := hB.c1
  have hxl := h.row.lt
  have hkx := h.kx
  have htl := ht.lt
  have hO1t : ¬ O1 tb := fun hc => by have := (h.b1 _ hc).1; omega
  refine ⟨?_⟩
  unfold probitylaw26_DiskSynced_k1d
  refine ⟨ptr db, h.row.at rfl, Sync_spec h.d (by omega) hc0 (by omega) (fun v hv => by rw [hno] at hv; cases hv) (fun hl => by rw [hno] at hl; cases hl) fun _ w21 hd21 hf21 => ?_⟩
  have hr21 := hf21.row h.row h.nx.1
  have ht21 := hf21.row ht hO1t
  refine ⟨ptr db, hr21.at rfl, Size_spec hd21 ⟨ptr db, hr21.at rfl, Read_spec hd21 (by show st.now.length ≤ _; omega) fun w27 hf27 => ?_⟩⟩
  have hf29 : Fr F0 w21 w27.drew := ge_trans hf27 Fr.drew
  generalize w27.drew = w29 at *
  have hr29 := hf29.row hr21 fun h => h
  have ht29 := hf29.row ht21 fun h => h
  have e0 : (0 : Int).toNat * 1 = 0 := rfl
  have e1 : (1 : Int).toNat * 1 = 1 := rfl
  have hnow : (syncDS st).now = st.now := rfl
  simp only [add_mk, Nat.zero_add, e0, e1, hnow]
  refine ⟨SR x tb db rb _, ⟨hr29, ht29⟩, ptr db, fun _ h => h.1.at rfl, by decide, t0, fun _ h => h.2.at rfl, by decide, t1, fun _ h => h.2.at rfl, Mod_spec (by omega) (by omega) ⟨⟨hr29, ht29⟩, inR64 (by omega) (by omega), Mod_spec (by omega) (by omega) ⟨⟨hr29, ht29⟩, ?_⟩⟩⟩
  obtain ⟨m, hm⟩ : ∃ m : Nat, t1 % 150 = m := ⟨(t1 % 150).toNat, by omega⟩
  obtain ⟨o, ho⟩ : ∃ o : Nat, (st.now.length : Int) + t0 % 100 = o := ⟨((st.now.length : Int) + t0 % 100).toNat, by omega⟩
  rw [hm, ho]
  show probitylaw26_repeated_sh (((121 : UInt8).toNat : Nat) : Int) (m : Int) _ _
  refine repeated_spec (by omega) fun w38 hf38 => ?_
  have hr38 := hf38.row hr29 fun h => h
  have ht38 := hf38.row ht29 fun h => h
  have hf2138 : Fr F0 w21 w38 := ge_trans hf29 hf38
  have hd38 := hd21.fr hf2138 fun _ _ h => h
  have hsz : (ofL (List.replicate m (121 : UInt8))).size = m := by rw [← bl_length, bl_ofL]; simp
  have hs21 := hf21.1
  refine ⟨⟨hr38, ht38⟩, Write_spec hd38 (by show st.now.length ≤ _; omega) (by show 0 ≤ _; omega) (by show 0 ≤ st.calls + 1; omega) (by show st.calls + 1 ≤ _; omega) (fun v hv => ?_) (fun hb => by omega) (fun _ _ hl => ?_) fun _ _ _ w40 hd40 hf40 => ?_⟩
  · simp [syncDS, callDS, hno] at hv
  · simp [syncDS, callDS, hno] at hl
  have nx40 : ¬ nw O1 w w21 x := fun hc => by
    rcases hc with hc | hc
    · exact h.nx.1 hc
    · omega
  have nt40 : ¬ nw O1 w w21 tb := fun hc => by
    rcases hc with hc | hc
    · exact hO1t hc
    · omega
  have hr40 := hf40.row hr38 nx40
  have ht40 := hf40.row ht38 nt40
  have hkw : k ≤ w.heap.size := by omega
  have hge : ∀ c, nw O1 w w21 c → k ≤ c := fun c hc => by
    rcases hc with hc | hc
    · exact (h.b1 c hc).1
    · omega
  have hf_40 : Fr (fun c => k ≤ c) w w40 := ge_trans (ge_trans (hf21.mono fun c hc => (h.b1 c hc).1) (fr_ge hf2138)) (hf40.mono hge)
  rw [bl_ofL, Int.toNat_natCast] at hd40
  have hL : Lens (writeDS (syncDS st) o (List.replicate m 121)) := hB.len.sync.write (by simp; omega)
  have hpc : (writeDS (syncDS st) o (List.replicate m (121 : UInt8))).pcs = splitL o (List.replicate m 121) := by simp [writeDS, syncDS]
  have hsyn : (writeDS (syncDS st) o (List.replicate m (121 : UInt8))).syn = st.now := rfl
  have hpcl : (splitL o (List.replicate m (121 : UInt8))).length ≤ m := by
    have := splitF_len (List.replicate m (121 : UInt8)).length o (List.replicate m 121)
    unfold splitL
    simpa using this
  refine ⟨⟨hr40, ht40⟩, ptr db, hr40.at rfl, Crash_spec hd40 hL (by rw [hpc]; omega) (rdC_ge hv (ge_trans hf0 hf_40) hk0) fun w43 hA hf43 => ?_⟩
  simp only [show ∀ b, (ptr b).isNone = false from fun _ => rfl, Bool.not_false, cnd_true, beq_self_eq_true]
  have hlen := hL.crash (surv := surv)
  have hcr := hlen.now
  refine Read_spec hA (by omega) fun w45 hf45 => ?_
  have key : readL (crashDS (writeDS (syncDS st) o (List.replicate m (121 : UInt8))) surv).now 0 (st.now.length : Int) = readL st.now 0 (st.now.length : Int) := by
    unfold readL
    split
    · rfl
    · simp only [Int.toNat_zero, List.drop_zero, Int.toNat_natCast, List.take_length]
      have := crashTo_keep (surv := surv) (syn := st.now) (pcs := splitL o (List.replicate m (121 : UInt8))) (fun p hp => by have := splitF_ge _ _ _ p hp; omega) _ (Nat.le_refl _)
      rw [← hpc] at this
      exact this
  rw [key, decide_eq_true rfl]
  exact hK _ (ge_trans (ge_trans hf_40 (fr_ge hf43)) (fr_ge hf45))
end
end Go.Proofs.Ytmhjekbdpnocaaa
