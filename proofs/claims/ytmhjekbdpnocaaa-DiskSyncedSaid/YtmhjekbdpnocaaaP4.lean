/- The law DiskAgain returns true. Conditions: none. -/
import Derived.Test.YtmhjekbdpnocaaaP3
namespace Go.Proofs.Ytmhjekbdpnocaaa
open Go Pw

section
variable {w : World} {x k : Nat} {st : DS}

theorem Again_k1 {n : Nat} {a b : Sl} {s1 s2 : List Int} {K : Bool → World → Prop} (h : Desk w x st k) (hB : Bd st n) (hn : n ≤ 100) (hv1 : rdC w a.p a.l (s1.map iv)) (hv2 : rdC w b.p b.l (s2.map iv))
    (hK : ∀ w', Fr F0 w w' → K true w') : probitylaw26_DiskAgain_k1 a b true ⟨x, 0, none⟩ K w := by
  obtain ⟨db, rb, O1, O2, h⟩ := h
  have hpl := hB.pl
  refine ⟨?_⟩
  unfold probitylaw26_DiskAgain_k1d
  refine ⟨ptr db, h.row.at rfl, Crash_spec h.d hB.len (by omega) hv1 fun w17 hA hf17 => ?_⟩
  simp only [show ∀ b, (ptr b).isNone = false from fun _ => rfl, cnd_false]
  have hlen := (hB.len.crash (surv := s1)).now
  refine Crash_spec hA hB.len.crash (by simp [crashDS]) (rdC_fr hv2 hf17 fun _ _ h => h) fun w19 hA2 hf19 => ?_
  have hA19 := hA.fr hf19 fun _ _ h => h
  simp only [show ∀ b, (ptr b).isNone = false from fun _ => rfl, Bool.not_false, cnd_true]
  have e : (crashDS (crashDS st s1) s2).now = (crashDS st s1).now := rfl
  refine Size_spec hA2 (Size_spec hA19 ?_)
  rw [e, cnd_beq]
  refine ⟨fun _ => ?_, fun h => (h rfl).elim⟩
  refine Read_spec hA2 (by rw [e]; omega) fun w25 hf25 => Read_spec (hA19.fr hf25 fun _ _ h => h) (by omega) fun w27 hf27 => ?_
  rw [e, decide_eq_true rfl, cnd_true]
  refine Calls_spec ((hA2.fr hf25 fun _ _ h => h).fr hf27 fun _ _ h => h) ?_
  exact hK _ (ge_trans (ge_trans (ge_trans hf17 hf19) hf25) hf27)

theorem DiskAgain_spec {q a b : Sl} {l : List Act} {s1 s2 : List Int} {K : Bool → World → Prop} (hl : ∀ a ∈ l, a.ok) (hA : ActsAt w q l) (hv1 : rdC w a.p a.l (s1.map iv)) (hv2 : rdC w b.p b.l (s2.map iv))
    (hK : ∀ w', Fr F0 w w' → K true w') : probitylaw26_DiskAgain_sh q a b K w := by
  refine ⟨?_⟩
  unfold probitylaw26_DiskAgain_sd
  refine sanity_spec fun w1 hf1 => ?_
  refine New_spec fun w3 hd3 hf3 hs3 => ?_
  refine rNew_spec fun w5 hR5 hf5 hs5 => ?_
  obtain ⟨hD, hf7⟩ := desk_new hd3 (Nat.le_refl _) hR5 hf5
  have hr7 : Row (w5.alloc (Obj.cells #[(Value.pointer (ptr w1.heap.size)), (Value.pointer (ptr w3.heap.size))] 30)) w5.heap.size [.pointer (ptr w1.heap.size), .pointer (ptr w3.heap.size)] := Row.new
  show ∃ x8 : Option Addr, (w5.alloc (Obj.cells #[(Value.pointer (ptr w1.heap.size)), (Value.pointer (ptr w3.heap.size))] 30)).cell? _ = _ ∧ _
  refine ⟨ptr w1.heap.size, hr7.at rfl, ?_⟩
  simp only [show (ptr w1.heap.size).isNone = false from rfl, cnd_false]
  show probitylaw26_DiskAgain_l0 q a b true ⟨w5.heap.size, 0, none⟩ 0 K (w5.alloc (Obj.cells #[(Value.pointer (ptr w1.heap.size)), (Value.pointer (ptr w3.heap.size))] 30))
  generalize w5.alloc (Obj.cells #[(Value.pointer (ptr w1.heap.size)), (Value.pointer (ptr w3.heap.size))] 30) = w7 at *
  have s1' := hf1.1
  have hf17 : Fr (fun c => w1.heap.size ≤ c) w1 w7 := fr_ge (ge_trans hf3 hf7)
  refine ⟨?_⟩
  refine ⟨fun i w' => ∃ (j : Nat) (st : DS), i = j ∧ j ≤ 15 ∧ Desk w' w5.heap.size st w1.heap.size ∧ Bd st j ∧ Fr (fun c => w1.heap.size ≤ c) w1 w', fun i _ => 15 - i.toNat, ⟨0, newDS, rfl, by omega, hD, Bd.new, hf17⟩, ?_⟩
  rintro i w8 ⟨j, st, rfl, hj, hD8, hB8, hf8⟩
  have hfw8 : Fr (fun c => w1.heap.size ≤ c) w w8 := ge_trans (fr_ge hf1) hf8
  have fin : probitylaw26_DiskAgain_k1 a b true ⟨w5.heap.size, 0, none⟩ K w8 :=
    Again_k1 hD8 hB8 (by omega) (rdC_ge hv1 hfw8 s1') (rdC_ge hv2 hfw8 s1') fun w' hf' => hK _ (fr_after hf1 (ge_trans hf8 (fr_ge hf')) s1')
  unfold probitylaw26_DiskAgain_b0
  rw [cnd_prop]
  refine ⟨fun hlt => ?_, fun _ => fin⟩
  rw [cnd_prop]
  refine ⟨fun h40 => ?_, fun _ => fin⟩
  have hA8 := hA.fr hfw8 s1'
  have hjl : j < l.length := by have := hA.1; omega
  obtain ⟨aa, hp, _, hc⟩ := hA8.2 j hjl
  rw [hp]
  simp only [nz_some, Int.toNat_natCast]
  have c0 := hc 0 (by omega)
  rw [add_zero] at c0
  have hok := hl _ (List.getElem_mem hjl)
  refine ⟨⟨by omega, by omega⟩, l[j].k, c0, l[j].at1, hc 1 (by omega), l[j].n, hc 2 (by omega), l[j].t, hc 3 (by omega), ?_⟩
  show probitylaw26_desk_do_sh (ptr w5.heap.size) _ _ _ _ _ _
  refine do_spec hD8 hB8 (by omega) hok.1 hok.2 fun w14 hD14 hB14 hf14 => ?_
  simp only [Bool.not_true, cnd_false]
  exact ⟨inR64 (by omega) (by omega), ⟨by simp, j + 1, _, by omega, by omega, hD14, hB14, ge_trans hf8 hf14⟩, by omega⟩
end
end Go.Proofs.Ytmhjekbdpnocaaa
