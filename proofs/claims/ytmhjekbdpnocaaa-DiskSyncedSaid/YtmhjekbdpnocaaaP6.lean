/- The law DiskSynced returns true. Conditions: none. -/
import Derived.Test.YtmhjekbdpnocaaaP5
namespace Go.Proofs.Ytmhjekbdpnocaaa
open Go Pw

section
variable {w : World}

theorem step0 {st : DS} {p n : Int} {t : List UInt8} {a : Int} (ha : a % 8 = 0) (hp : p < 4) (hno : st.lim = none) (hnl : st.now.length ≤ 300) : (stepDS st a p n t).lim = none ∧ (stepDS st a p n t).now.length ≤ 300 := by
  unfold stepDS
  rw [if_neg (by omega), if_neg (by omega), if_neg (by omega), if_neg (by omega)]
  split
  · exact ⟨hno, hnl⟩
  · rename_i hb
    rw [if_neg (by rw [hno]; simp)]
    refine ⟨by simp [writeDS, callDS, hno], ?_⟩
    show (putL _ _ _).length ≤ 300
    rw [putL_length]
    have := longL_len t n
    have : whereI p < 4 ∨ whereI p < 0 := by
      unfold whereI
      split
      · omega
      · left
        omega
    omega

theorem DiskSynced_spec {q v : Sl} {t0 t1 : Int} {l : List Act} {surv : List Int} {K : Bool → World → Prop} (hl : ∀ a ∈ l, a.ok) (hA : ActsAt w q l) (hv : rdC w v.p v.l (surv.map iv))
    (hK : ∀ w', Fr F0 w w' → K true w') : probitylaw26_DiskSynced_sh q t0 t1 v K w := by
  refine ⟨?_⟩
  unfold probitylaw26_DiskSynced_sd
  have hq0 : Row (w.alloc (Obj.cells #[(Value.int .i64 t0), (Value.int .i64 t1)] 42)) w.heap.size [(Value.int .i64 t0), (Value.int .i64 t1)] := Row.new
  have hf0 : Fr F0 w (w.alloc (Obj.cells #[(Value.int .i64 t0), (Value.int .i64 t1)] 42)) := Fr.alloc
  show probitylaw26_sanity_sh _ (w.alloc (Obj.cells #[(Value.int .i64 t0), (Value.int .i64 t1)] 42))
  generalize w.alloc (Obj.cells #[(Value.int .i64 t0), (Value.int .i64 t1)] 42) = w0 at *
  have hql := hq0.lt
  refine sanity_spec fun w1 hf1' => ?_
  have hf1 : Fr F0 w w1 := ge_trans hf0 hf1'
  have hq1 := hf1'.row hq0 fun h => h
  have hq1l := hq1.lt
  refine New_spec fun w3 hd3 hf3 hs3 => ?_
  refine rNew_spec fun w5 hR5 hf5 hs5 => ?_
  obtain ⟨hD, hf7⟩ := desk_new hd3 (Nat.le_refl _) hR5 hf5
  have hr7 : Row (w5.alloc (Obj.cells #[(Value.pointer (ptr w1.heap.size)), (Value.pointer (ptr w3.heap.size))] 30)) w5.heap.size [.pointer (ptr w1.heap.size), .pointer (ptr w3.heap.size)] := Row.new
  show ∃ x8 : Option Addr, (w5.alloc (Obj.cells #[(Value.pointer (ptr w1.heap.size)), (Value.pointer (ptr w3.heap.size))] 30)).cell? _ = _ ∧ _
  refine ⟨ptr w1.heap.size, hr7.at rfl, ?_⟩
  simp only [show (ptr w1.heap.size).isNone = false from rfl, cnd_false]
  show probitylaw26_DiskSynced_l0 q v ⟨w.heap.size, 0, none⟩ true ⟨w5.heap.size, 0, none⟩ 0 K (w5.alloc (Obj.cells #[(Value.pointer (ptr w1.heap.size)), (Value.pointer (ptr w3.heap.size))] 30))
  generalize w5.alloc (Obj.cells #[(Value.pointer (ptr w1.heap.size)), (Value.pointer (ptr w3.heap.size))] 30) = w7 at *
  have s1 := hf1.1
  have hf17 : Fr (fun c => w1.heap.size ≤ c) w1 w7 := fr_ge (ge_trans hf3 hf7)
  refine ⟨?_⟩
  refine ⟨fun i w' => ∃ (j : Nat) (st : DS), i = j ∧ j ≤ 10 ∧ Desk w' w5.heap.size st w1.heap.size ∧ Bd st j ∧ (st.lim = none ∧ st.now.length ≤ 300) ∧ Fr (fun c => w1.heap.size ≤ c) w1 w', fun i _ => 10 - i.toNat, ⟨0, newDS, rfl, by omega, hD, Bd.new, ⟨rfl, by simp [newDS]⟩, hf17⟩, ?_⟩
  rintro i w8 ⟨j, st, rfl, hj, hD8, hB8, hno8, hf8⟩
  have hfw8 : Fr (fun c => w1.heap.size ≤ c) w w8 := ge_trans (fr_ge hf1) hf8
  have hq8 := hf8.row hq1 fun h => by omega
  have fin : probitylaw26_DiskSynced_k1 v ⟨w.heap.size, 0, none⟩ true ⟨w5.heap.size, 0, none⟩ K w8 :=
    Synced_k1 hD8 hB8 (by omega) hno8.1 hno8.2 hq8 (by omega) hv hfw8 s1 fun w' hf' => hK _ (fr_after hf1 (ge_trans hf8 hf') s1)
  unfold probitylaw26_DiskSynced_b0
  rw [cnd_prop]
  refine ⟨fun hlt => ?_, fun _ => fin⟩
  rw [cnd_prop]
  refine ⟨fun h40 => ?_, fun _ => fin⟩
  have hA8 := hA.fr hfw8 s1
  have hjl : j < l.length := by have := hA.1; omega
  have hf10 : Fr F0 w8 w8.drew := Fr.drew
  have hA10 : ActsAt w8.drew q l := hA.fr (ge_trans hfw8 (fr_ge hf10)) s1
  have hD10 := hD8.keep hf10
  obtain ⟨aa, hp, _, _⟩ := hA8.2 j hjl
  have hcell : ∀ w', ActsAt w' q l → ∀ i, i < 4 → w'.cell? ((aa.add (j * 4)).add i) = (actV l[j])[i]? := fun w' h i hi => by
    obtain ⟨a', hp', _, hc⟩ := h.2 j hjl
    rw [hp] at hp'
    cases hp'
    exact hc i hi
  have hf8_10 : Fr (fun c => w1.heap.size ≤ c) w1 w8.drew := ge_trans hf8 (fr_ge hf10)
  generalize w8.drew = w10 at *
  have hok := hl _ (List.getElem_mem hjl)
  refine ⟨fun w' => ActsAt w' q l, hA10, ?_⟩
  rw [hp]
  simp only [nz_some, Int.toNat_natCast]
  refine ⟨⟨by omega, by omega⟩, l[j].at1, fun w' h => hcell w' h 1 (by omega), by decide, ⟨by omega, by omega⟩, l[j].n, fun w' h => hcell w' h 2 (by omega), ⟨by omega, by omega⟩, l[j].t, fun w' h => hcell w' h 3 (by omega), ?_⟩
  show probitylaw26_desk_do_sh (ptr w5.heap.size) _ _ _ _ _ _
  refine do_spec hD10 hB8 (by omega) hok.1 hok.2 fun w18 hD18 hB18 hf18 => ?_
  have hlt4 : Int.tmod l[j].at1 4 < 4 := Int.tmod_lt_of_pos _ (by omega)
  have hst := step0 (a := 0) (n := l[j].n) (t := bl l[j].t) rfl hlt4 hno8.1 hno8.2
  have hf1_18 : Fr (fun c => w1.heap.size ≤ c) w1 w18 := ge_trans hf8_10 hf18
  refine ⟨hA.fr (ge_trans (fr_ge hf1) hf1_18) s1, ?_⟩
  simp only [Bool.not_true, cnd_false]
  exact ⟨inR64 (by omega) (by omega), ⟨by simp, j + 1, _, by omega, by omega, hD18, hB18, hst, hf1_18⟩, by omega⟩
end
end Go.Proofs.Ytmhjekbdpnocaaa
