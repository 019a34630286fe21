/- The law DiskPlays returns true. Conditions: none. -/
import Derived.Test.YtmhjekbdpnocaaaR7
namespace Go.Proofs.Ytmhjekbdpnocaaa
open Go Pw

section
variable {w : World}

theorem ActsAt.fr {w1 : World} {q : Sl} {l : List Act} {k : Nat} (h : ActsAt w q l) (hf : Fr (fun c => k ≤ c) w w1) (hk : w.heap.size ≤ k) : ActsAt w1 q l :=
  ⟨h.1, fun i hi => by
    obtain ⟨a, hp, hb, hc⟩ := h.2 i hi
    refine ⟨a, hp, Nat.lt_of_lt_of_le hb hf.1, fun j hj => ?_⟩
    rw [← hc j hj]
    have he : ((a.add (i * 4)).add j).block = a.block := by rw [add_block, add_block]
    have := hf.2.1 a.block hb (by omega)
    unfold World.cell?
    rw [he, this]⟩

theorem DiskPlays_spec {q : Sl} {l : List Act} {K : Bool → World → Prop} (hl : ∀ a ∈ l, a.ok) (hA : ActsAt w q l) (hK : ∀ w', Fr F0 w w' → K true w') : probitylaw26_DiskPlays_sh q K w := by
  refine ⟨?_⟩
  unfold probitylaw26_DiskPlays_sd
  refine sanity_spec fun w1 hf1 => ?_
  refine New_spec fun w3 hd3 hf3 hs3 => ?_
  refine rNew_spec fun w5 hR5 hf5 hs5 => ?_
  obtain ⟨hD, hf7⟩ := desk_new hd3 (Nat.le_refl _) hR5 hf5
  have hr7 : Row (w5.alloc (Obj.cells #[(Value.pointer (ptr w1.heap.size)), (Value.pointer (ptr w3.heap.size))] 30)) w5.heap.size [.pointer (ptr w1.heap.size), .pointer (ptr w3.heap.size)] := Row.new
  show ∃ x8 : Option Addr, (w5.alloc (Obj.cells #[(Value.pointer (ptr w1.heap.size)), (Value.pointer (ptr w3.heap.size))] 30)).cell? _ = _ ∧ _
  refine ⟨ptr w1.heap.size, hr7.at rfl, ?_⟩
  simp only [show (ptr w1.heap.size).isNone = false from rfl, cnd_false]
  show probitylaw26_DiskPlays_l0 q true ⟨w5.heap.size, 0, none⟩ 0 K (w5.alloc (Obj.cells #[(Value.pointer (ptr w1.heap.size)), (Value.pointer (ptr w3.heap.size))] 30))
  generalize w5.alloc (Obj.cells #[(Value.pointer (ptr w1.heap.size)), (Value.pointer (ptr w3.heap.size))] 30) = w7 at *
  have s1 := hf1.1
  have hf17 : Fr (fun c => w1.heap.size ≤ c) w1 w7 := fr_ge (ge_trans hf3 hf7)
  refine ⟨?_⟩
  refine ⟨fun i w' => ∃ (j : Nat) (st : DS), i = j ∧ j ≤ 40 ∧ Desk w' w5.heap.size st w1.heap.size ∧ Bd st j ∧ Fr (fun c => w1.heap.size ≤ c) w1 w', fun i _ => 40 - i.toNat, ⟨0, newDS, rfl, by omega, hD, Bd.new, hf17⟩, ?_⟩
  rintro i w8 ⟨j, st, rfl, hj, hD8, hB8, hf8⟩
  have fin : probitylaw26_DiskPlays_k1 true ⟨w5.heap.size, 0, none⟩ K w8 := by
    refine ⟨?_⟩
    unfold probitylaw26_DiskPlays_k1d
    refine same_spec hD8 hB8 fun w' hf' => ?_
    simp only [cnd_true]
    exact hK _ (fr_after hf1 (ge_trans hf8 (fr_ge hf')) s1)
  unfold probitylaw26_DiskPlays_b0
  rw [cnd_prop]
  refine ⟨fun hlt => ?_, fun _ => fin⟩
  rw [cnd_prop]
  refine ⟨fun h40 => ?_, fun _ => fin⟩
  have hfw8 : Fr (fun c => w1.heap.size ≤ c) w w8 := ge_trans (fr_ge hf1) hf8
  have hA8 := hA.fr hfw8 s1
  have hjl : j < l.length := by have := hA.1; omega
  obtain ⟨a, hp, _, hc⟩ := hA8.2 j hjl
  rw [hp]
  simp only [nz_some, Int.toNat_natCast]
  have c0 := hc 0 (by omega)
  have c1 := hc 1 (by omega)
  have c2 := hc 2 (by omega)
  have c3 := hc 3 (by omega)
  refine ⟨⟨by omega, by omega⟩, l[j].k, ?_, l[j].at1, c1, l[j].n, c2, l[j].t, c3, ?_⟩
  · have : ((a.add (j * 4)).add 0) = a.add (j * 4) := by
      generalize a.add (j * 4) = b
      cases b with
      | mk bb o i => cases i <;> simp [Addr.add]
    rw [this] at c0
    exact c0
  have hok := hl _ (List.getElem_mem hjl)
  show probitylaw26_desk_do_sh (ptr w5.heap.size) _ _ _ _ _ _
  refine do_spec hD8 hB8 (by omega) hok.1 hok.2 fun w14 hD14 hB14 hf14 => ?_
  generalize stepDS st l[j].k l[j].at1 l[j].n (bl l[j].t) = st' at *
  have hD16 : Desk w14.drew w5.heap.size st' w1.heap.size := hD14.keep Fr.drew
  have hf16 : Fr (fun c => w1.heap.size ≤ c) w1 w14.drew := ge_trans (ge_trans hf8 hf14) Fr.drew
  generalize w14.drew = w16 at *
  have hD' := hD16
  obtain ⟨db, rb, O1, O2, hP⟩ := hD16
  refine ⟨fun w' => Row w' w5.heap.size [.pointer (ptr db), .pointer (ptr rb)], hP.row, ?_⟩
  simp only [Bool.not_true, cnd_false, add_mk, Nat.zero_add]
  refine ⟨ptr db, fun _ h => h.at rfl, ptr rb, fun _ h => h.at rfl, Size_spec hP.d ⟨hP.row, rSize_spec hP.r ⟨hP.row, ?_⟩⟩⟩
  rw [cnd_bne]
  refine ⟨fun h => (h rfl).elim, fun _ => ?_⟩
  refine ⟨ptr db, fun _ h => h.at rfl, ptr rb, fun _ h => h.at rfl, Calls_spec hP.d ⟨hP.row, rCalls_spec hP.r ⟨hP.row, ?_⟩⟩⟩
  rw [cnd_bne]
  refine ⟨fun h => (h rfl).elim, fun _ => ?_⟩
  exact ⟨inR64 (by omega) (by omega), ⟨by simp, j + 1, st', by omega, by omega, hD', hB14, hf16⟩, by omega⟩
end
end Go.Proofs.Ytmhjekbdpnocaaa
