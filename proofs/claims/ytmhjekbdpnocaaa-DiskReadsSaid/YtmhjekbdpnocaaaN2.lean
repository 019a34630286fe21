/- The law DiskReads returns true. Conditions: none. -/
import Derived.Test.YtmhjekbdpnocaaaN1
namespace Go.Proofs.Ytmhjekbdpnocaaa
open Go Pw

section
variable {w : World}

theorem DiskReads_spec {s : ByteArray} {at1 q0 q1 : Int} {K : Bool → World → Prop} (hK : ∀ w', Fr F0 w w' → K true w') : probitylaw26_DiskReads_sh s at1 q0 q1 K w := by
  refine ⟨?_⟩
  unfold probitylaw26_DiskReads_sd
  have hq1 : Row (w.alloc (Obj.cells #[(Value.int .i64 q0), (Value.int .i64 q1)] 42)) w.heap.size [(Value.int .i64 q0), (Value.int .i64 q1)] := Row.new
  have hf1 : Fr F0 w (w.alloc (Obj.cells #[(Value.int .i64 q0), (Value.int .i64 q1)] 42)) := Fr.alloc
  show probitylaw26_sanity_sh _ (w.alloc (Obj.cells #[(Value.int .i64 q0), (Value.int .i64 q1)] 42))
  generalize w.alloc (Obj.cells #[(Value.int .i64 q0), (Value.int .i64 q1)] 42) = w1 at *
  have hql := hq1.lt
  refine sanity_spec fun w2 hf2 => ?_
  refine New_spec fun w4 hd4 hf4 hs4 => ?_
  refine rNew_spec fun w6 hR6 hf6 hs6 => ?_
  obtain ⟨hD, hf8⟩ := desk_new hd4 (Nat.le_refl _) hR6 hf6
  have hr8 : Row (w6.alloc (Obj.cells #[(Value.pointer (ptr w2.heap.size)), (Value.pointer (ptr w4.heap.size))] 30)) w6.heap.size [.pointer (ptr w2.heap.size), .pointer (ptr w4.heap.size)] := Row.new
  show ∃ x9 : Option Addr, (w6.alloc (Obj.cells #[(Value.pointer (ptr w2.heap.size)), (Value.pointer (ptr w4.heap.size))] 30)).cell? _ = _ ∧ _
  refine ⟨ptr w2.heap.size, hr8.at rfl, ?_⟩
  simp only [show (ptr w2.heap.size).isNone = false from rfl, cnd_false]
  refine Mod_spec (by omega) (by omega) ⟨inR64 (by omega) (by omega), ?_⟩
  show probitylaw26_desk_do_sh (ptr w6.heap.size) _ _ _ _ _ (w6.alloc (Obj.cells #[(Value.pointer (ptr w2.heap.size)), (Value.pointer (ptr w4.heap.size))] 30))
  generalize w6.alloc (Obj.cells #[(Value.pointer (ptr w2.heap.size)), (Value.pointer (ptr w4.heap.size))] 30) = w8 at *
  refine do_spec hD Bd.new (by omega) (by omega) (by omega) fun w12 hD12 hB12 hf12 => ?_
  generalize stepDS newDS 0 (1 + at1 % 8) 0 (bl s) = st at *
  have hnow := hB12.len.now
  have s12 := hf2.1
  have s24 := hf4.1
  have hf28 : Fr F0 w2 w8 := ge_trans hf4 hf8
  have hf212 : Fr (fun c => w2.heap.size ≤ c) w2 w12 := ge_trans (fr_ge hf28) hf12
  have hq2 := hf2.row hq1 fun h => h
  have hq12 := hf212.row hq2 fun h => by omega
  have e0 : (0 : Int).toNat * 1 = 0 := rfl
  have e1 : (1 : Int).toNat * 1 = 1 := rfl
  simp only [add_mk, Nat.zero_add, e0, e1]
  refine ⟨by decide, q0, hq12.at rfl, Mod_spec (by omega) (by omega) ?_⟩
  obtain ⟨db, rb, O1, O2, hP⟩ := hD12
  have hPd : DeskP w12.drew w6.heap.size st w2.heap.size db rb O1 O2 := hP.keep (Fr.drew (F := F0)) (fun _ _ h => h) (fun _ _ h => h) fun h => h
  have hfd : Fr (fun c => w2.heap.size ≤ c) w2 w12.drew := ge_trans hf212 Fr.drew
  have hqd := hfd.row hq2 fun h => by omega
  have fin : ∀ w', Fr F0 w12.drew w' → K true w' := fun w' hf' => by
    have a1 : Fr F0 w w2 := ge_trans hf1 hf2
    have s1 := a1.1
    exact hK _ (fr_after a1 (ge_trans hfd (fr_ge hf')) s1)
  generalize w12.drew = wd at *
  have S0 : SR w6.heap.size w.heap.size db rb [(Value.int .i64 q0), (Value.int .i64 q1)] wd := ⟨hPd.row, hqd⟩
  refine ⟨SR w6.heap.size w.heap.size db rb _, S0, ?_⟩
  simp only [cnd_true]
  refine ⟨ptr db, fun _ h => h.1.at rfl, by decide, q0, fun _ h => h.2.at rfl, by decide, q1, fun _ h => h.2.at rfl, ptr rb, fun _ h => h.1.at rfl, by decide, q0, fun _ h => h.2.at rfl, by decide, q1, fun _ h => h.2.at rfl, ?_⟩
  refine Read_spec hPd.d (by omega) fun w3 hf3 => ?_
  have hP3 := hPd.keep hf3 (fun _ _ h => h) (fun _ _ h => h) fun h => h
  have S3 := S0.fr hf3 (fun h => h) fun h => h
  refine ⟨S3, rRead_spec hP3.r (by omega) fun w5 hf5 => ?_⟩
  have hP5 := hP3.keep hf5 (fun _ _ h => h) (fun _ _ h => h) fun h => h
  have S5 := S3.fr hf5 (fun h => h) fun h => h
  refine ⟨S5, ?_⟩
  rw [decide_eq_true rfl, cnd_true]
  refine ⟨ptr db, fun _ h => h.1.at rfl, by decide, q1, fun _ h => h.2.at rfl, ptr rb, fun _ h => h.1.at rfl, by decide, q1, fun _ h => h.2.at rfl, ?_⟩
  refine Read_spec hP5.d (by omega) fun w7 hf7 => ?_
  have hP7 := hP5.keep hf7 (fun _ _ h => h) (fun _ _ h => h) fun h => h
  have S7 := S5.fr hf7 (fun h => h) fun h => h
  refine ⟨S7, rRead_spec hP7.r (by omega) fun w9 hf9 => ?_⟩
  have hP9 := hP7.keep hf9 (fun _ _ h => h) (fun _ _ h => h) fun h => h
  have S9 := S7.fr hf9 (fun h => h) fun h => h
  refine ⟨S9, ?_⟩
  rw [decide_eq_true rfl, cnd_true]
  refine ⟨ptr db, fun _ h => h.1.at rfl, by decide, q1, fun _ h => h.2.at rfl, ptr rb, fun _ h => h.1.at rfl, by decide, q1, fun _ h => h.2.at rfl, ?_⟩
  refine Mod_spec (by omega) (by omega) ⟨S9, Read_spec hP9.d (by omega) fun w11 hf11 => ?_⟩
  have hP11 := hP9.keep hf11 (fun _ _ h => h) (fun _ _ h => h) fun h => h
  have S11 := S9.fr hf11 (fun h => h) fun h => h
  refine ⟨S11, Mod_spec (by omega) (by omega) ⟨S11, rRead_spec hP11.r (by omega) fun w13 hf13 => ?_⟩⟩
  refine ⟨S11.fr hf13 (fun h => h) fun h => h, ?_⟩
  rw [decide_eq_true rfl]
  exact fin _ (ge_trans (ge_trans (ge_trans (ge_trans (ge_trans hf3 hf5) hf7) hf9) hf11) hf13)
end
end Go.Proofs.Ytmhjekbdpnocaaa
