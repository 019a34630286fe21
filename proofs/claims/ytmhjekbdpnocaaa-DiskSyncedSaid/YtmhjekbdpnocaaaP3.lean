/- The law DiskCrashes returns true, joined. Conditions: none. -/
import Derived.Test.YtmhjekbdpnocaaaP2
namespace Go.Proofs.Ytmhjekbdpnocaaa
open Go Pw

section
variable {w : World}

theorem add_zero (a : Addr) : a.add 0 = a := by
  cases a with
  | mk bb o i => cases i <;> simp [Addr.add]

theorem DiskCrashes_spec {q a : Sl} {b : Int} {l : List Act} {surv : List Int} {K : Bool → World → Prop} (hl : ∀ a ∈ l, a.ok) (hA : ActsAt w q l) (hv : rdC w a.p a.l (surv.map iv)) (hlo : -9223372036854775808 ≤ b) (hhi : b < 9223372036854775808)
    (hK : ∀ w', Fr F0 w w' → K true w') : probitylaw26_DiskCrashes_sh q a b K w := by
  refine ⟨?_⟩
  unfold probitylaw26_DiskCrashes_sd
  refine sanity_spec fun w1 hf1 => ?_
  refine New_spec fun w3 hd3 hf3 hs3 => ?_
  refine rNew_spec fun w5 hR5 hf5 hs5 => ?_
  obtain ⟨hD, hf7⟩ := desk_new hd3 (Nat.le_refl _) hR5 hf5
  have hr7 : Row (w5.alloc (Obj.cells #[(Value.pointer (ptr w1.heap.size)), (Value.pointer (ptr w3.heap.size))] 30)) w5.heap.size [.pointer (ptr w1.heap.size), .pointer (ptr w3.heap.size)] := Row.new
  show ∃ x8 : Option Addr, (w5.alloc (Obj.cells #[(Value.pointer (ptr w1.heap.size)), (Value.pointer (ptr w3.heap.size))] 30)).cell? _ = _ ∧ _
  refine ⟨ptr w1.heap.size, hr7.at rfl, ?_⟩
  simp only [show (ptr w1.heap.size).isNone = false from rfl, cnd_false]
  show probitylaw26_DiskCrashes_l0 q a b true ⟨w5.heap.size, 0, none⟩ 0 K (w5.alloc (Obj.cells #[(Value.pointer (ptr w1.heap.size)), (Value.pointer (ptr w3.heap.size))] 30))
  generalize w5.alloc (Obj.cells #[(Value.pointer (ptr w1.heap.size)), (Value.pointer (ptr w3.heap.size))] 30) = w7 at *
  have s1 := hf1.1
  have hf17 : Fr (fun c => w1.heap.size ≤ c) w1 w7 := fr_ge (ge_trans hf3 hf7)
  refine ⟨?_⟩
  refine ⟨fun i w' => ∃ (j : Nat) (st : DS), i = j ∧ j ≤ 20 ∧ Desk w' w5.heap.size st w1.heap.size ∧ Bd st j ∧ Fr (fun c => w1.heap.size ≤ c) w1 w', fun i _ => 20 - i.toNat, ⟨0, newDS, rfl, by omega, hD, Bd.new, hf17⟩, ?_⟩
  rintro i w8 ⟨j, st, rfl, hj, hD8, hB8, hf8⟩
  have hfw8 : Fr (fun c => w1.heap.size ≤ c) w w8 := ge_trans (fr_ge hf1) hf8
  have fin : probitylaw26_DiskCrashes_k1 a b true ⟨w5.heap.size, 0, none⟩ K w8 :=
    Crashes_k1 hD8 hB8 (by omega) (rdC_ge hv hfw8 s1) hlo hhi fun w' hf' => hK _ (fr_after hf1 (ge_trans hf8 (fr_ge hf')) s1)
  unfold probitylaw26_DiskCrashes_b0
  rw [cnd_prop]
  refine ⟨fun hlt => ?_, fun _ => fin⟩
  rw [cnd_prop]
  refine ⟨fun h40 => ?_, fun _ => fin⟩
  have hA8 := hA.fr hfw8 s1
  have hjl : j < l.length := by have := hA.1; omega
  obtain ⟨aa, hp, _, hc⟩ := hA8.2 j hjl
  rw [hp]
  simp only [nz_some, Int.toNat_natCast]
  have c0 := hc 0 (by omega)
  rw [add_zero] at c0
  refine ⟨⟨by omega, by omega⟩, l[j].k, c0, l[j].at1, hc 1 (by omega), l[j].n, hc 2 (by omega), l[j].t, hc 3 (by omega), ?_⟩
  have hok := hl _ (List.getElem_mem hjl)
  have hra : Row (w8.alloc (Obj.cells #[(Value.int .i64 (0 : Int)), (Value.int .i64 (0 : Int)), (Value.int .i64 (0 : Int)), (Value.string (str []))] 33)) w8.heap.size [(Value.int .i64 (0 : Int)), (Value.int .i64 (0 : Int)), (Value.int .i64 (0 : Int)), (Value.string (str []))] := Row.new
  have hfa : Fr F0 w8 (w8.alloc (Obj.cells #[(Value.int .i64 (0 : Int)), (Value.int .i64 (0 : Int)), (Value.int .i64 (0 : Int)), (Value.string (str []))] 33)) := Fr.alloc
  have hr0 := hra.set 0 (.int .i64 l[j].k)
  have hr1 := hr0.set 1 (.int .i64 l[j].at1)
  have hr2 := hr1.set 2 (.int .i64 l[j].n)
  have hr3 := hr2.set 3 (.string l[j].t)
  refine ⟨hra.wr (by simp), hr0.wr (by simp), hr1.wr (by simp), hr2.wr (by simp), l[j].k, hr3.at rfl, Mod_spec (by omega) (by omega) ?_⟩
  have hr4 := hr3.set 0 (.int .i64 (l[j].k % 5))
  refine ⟨hr3.wr (by simp), l[j].k % 5, hr4.at rfl, l[j].at1, hr4.at rfl, l[j].n, hr4.at rfl, l[j].t, hr4.at rfl, ?_⟩
  have fs : ∀ {w0 : World} (i : Nat) (v : Value), Fr (fun c => c = w8.heap.size) w0 (w0.setCell ⟨w8.heap.size, i, none⟩ v) := fun i v => Fr.set rfl
  have hf4 := (((((hfa.mono (G := fun c => c = w8.heap.size) fun _ h => h.elim).trans (fs 0 (.int .i64 l[j].k)) fun _ h _ => h).trans (fs 1 (.int .i64 l[j].at1)) fun _ h _ => h).trans (fs 2 (.int .i64 l[j].n)) fun _ h _ => h).trans (fs 3 (.string l[j].t)) fun _ h _ => h).trans (fs 0 (.int .i64 (l[j].k % 5))) fun _ h _ => h
  have hf40 : Fr F0 w8 _ := ⟨hf4.1, fun c hc _ => hf4.2.1 c hc (by show ¬ c = w8.heap.size; omega), hf4.2.2⟩
  show probitylaw26_desk_do_sh (ptr w5.heap.size) _ _ _ _ _ _
  refine do_spec (hD8.keep hf40) hB8 (by omega) hok.1 hok.2 fun w14 hD14 hB14 hf14 => ?_
  simp only [Bool.not_true, cnd_false]
  exact ⟨inR64 (by omega) (by omega), ⟨by simp, j + 1, _, by omega, by omega, hD14, hB14, ge_trans (ge_trans hf8 (fr_ge hf40)) hf14⟩, by omega⟩
end
end Go.Proofs.Ytmhjekbdpnocaaa
