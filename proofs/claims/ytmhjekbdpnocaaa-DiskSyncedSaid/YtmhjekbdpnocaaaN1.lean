/- The laws DiskNil and DiskReads return true. Conditions: none. -/
import Derived.Test.YtmhjekbdpnocaaaR6
namespace Go.Proofs.Ytmhjekbdpnocaaa
open Go Pw

section
variable {w w1 w2 w3 w5 : World} {k db : Nat}

theorem ge_trans {G : Nat → Prop} (h : Fr G w w1) (h' : Fr G w1 w2) : Fr G w w2 := h.trans h' fun _ h _ => h

theorem newRep : Rep (w.alloc (Obj.cells #[(Value.slice none 0 0), (Value.slice none 0 0), (Value.slice none 0 0), (Value.int .i64 (0 : Int)), (Value.bool false), (Value.int .i64 (0 : Int))] 61)) w.heap.size newDS (fun c => c = w.heap.size) :=
  ⟨⟨none, 0, 0⟩, ⟨none, 0, 0⟩, ⟨none, 0, 0⟩, [], 0, Row.new, by simp [newDS], OwnV.nil, OwnV.nil, OwnV.nil, rfl, by simp, rfl, fun c hc => (not_inB hc).elim, fun c hc => (not_inB hc).elim, fun c hc => (not_inB hc).elim, by simp⟩

theorem desk_new (hd : Rep w3 db newDS (fun c => c = db)) (hk : k ≤ db) (hR : RR w5 w3.heap.size newDS (fun c => c = w3.heap.size)) (hf : Fr F0 w3 w5) :
    Desk (w5.alloc (Obj.cells #[(Value.pointer (ptr db)), (Value.pointer (ptr w3.heap.size))] 30)) w5.heap.size newDS k ∧ Fr F0 w3 (w5.alloc (Obj.cells #[(Value.pointer (ptr db)), (Value.pointer (ptr w3.heap.size))] 30)) := by
  have hfa : Fr F0 w5 (w5.alloc (Obj.cells #[(Value.pointer (ptr db)), (Value.pointer (ptr w3.heap.size))] 30)) := Fr.alloc
  have hsa : (w5.alloc (Obj.cells #[(Value.pointer (ptr db)), (Value.pointer (ptr w3.heap.size))] 30)).heap.size = w5.heap.size + 1 := by simp
  have hlt := hd.lt
  have hlt2 := hR.lt
  have hs := hf.1
  refine ⟨⟨db, w3.heap.size, _, _, Row.new, (hd.fr hf fun _ _ h => h).fr hfa fun _ _ h => h, hR.fr hfa fun _ _ h => h, fun c h1 h2 => by omega, ⟨fun h => by omega, fun h => by omega⟩, fun c hc => by omega, fun c hc => by omega, by omega⟩, ge_trans hf hfa⟩

theorem DiskNil_spec {off : Int} {s : ByteArray} {q : Sl} {K : Bool → World → Prop} (hlo : -9223372036854775808 ≤ off) (hhi : off < 9223372036854775808) (hK : ∀ w', Fr F0 w w' → K true w') : probitylaw26_DiskNil_sh off s q K w := by
  refine ⟨?_⟩
  unfold probitylaw26_DiskNil_sd
  refine sanity_spec fun w1 hf1 => ⟨?_⟩
  unfold disk_Disk_Fail_sd
  simp only [Option.isNone_none, Bool.not_true, cnd_false]
  refine ⟨?_⟩
  unfold disk_Disk_Crash_sd
  refine New_spec fun w4 hd4 hf4 hs4 => ?_
  simp only [Option.isNone_none, cnd_true, Option.isNone_some, cnd_false]
  have hA6 := newRep (w := w4)
  have hf6 : Fr F0 w4 (w4.alloc (Obj.cells #[(Value.slice none 0 0), (Value.slice none 0 0), (Value.slice none 0 0), (Value.int .i64 (0 : Int)), (Value.bool false), (Value.int .i64 (0 : Int))] 61)) := Fr.alloc
  generalize w4.alloc (Obj.cells #[(Value.slice none 0 0), (Value.slice none 0 0), (Value.slice none 0 0), (Value.int .i64 (0 : Int)), (Value.bool false), (Value.int .i64 (0 : Int))] 61) = w6 at *
  refine rNew_spec fun w7 hR7 hf7 hs7 => ?_
  obtain ⟨hD, hf9⟩ := desk_new hA6 (Nat.le_refl _) hR7 hf7
  show probitylaw26_desk_do_sh (ptr w7.heap.size) _ _ _ _ _ (w7.alloc (Obj.cells #[(Value.pointer (ptr w4.heap.size)), (Value.pointer (ptr w6.heap.size))] 30))
  generalize w7.alloc (Obj.cells #[(Value.pointer (ptr w4.heap.size)), (Value.pointer (ptr w6.heap.size))] 30) = w9 at *
  refine do_spec hD Bd.new (by omega) (by omega) (by omega) fun w10 hD10 hB10 hf10 => ?_
  refine do_spec hD10 hB10 (by omega) hlo hhi fun w12 hD12 hB12 hf12 => ?_
  refine same_spec hD12 hB12 fun w14 hf14 => ?_
  have hf49 : Fr F0 w4 w9 := ge_trans hf6 hf9
  have hf414 : Fr (fun c => w4.heap.size ≤ c) w4 w14 := ge_trans (ge_trans (ge_trans (fr_ge hf49) hf10) hf12) (fr_ge hf14)
  have hd14 := hd4.fr hf414 fun c hc hF => by omega
  simp only [cnd_true]
  refine ⟨?_⟩
  unfold disk_Disk_Size_sd
  simp only [Option.isNone_none, cnd_true, beq_self_eq_true]
  refine ⟨?_⟩
  unfold disk_Disk_Calls_sd
  simp only [Option.isNone_none, cnd_true, beq_self_eq_true]
  refine ⟨?_⟩
  unfold disk_Disk_Read_sd
  simp only [Option.isNone_none, cnd_true, decide_true]
  refine ⟨?_⟩
  unfold disk_Disk_Write_sd
  simp only [Option.isNone_none, cnd_true, beq_self_eq_true]
  refine ⟨?_⟩
  unfold disk_Disk_Sync_sd
  simp only [Option.isNone_none, cnd_true, beq_self_eq_true]
  refine Size_spec hd14 ?_
  rw [show (((newDS.now.length : Nat) : Int) == (0 : Int)) = true from rfl, cnd_true]
  have hsz : (str [97]).size = 1 := by kernel_rfl
  refine Write_spec hd14 (by simp [newDS]) (by simp [newDS]) (by simp [newDS]) (by simp [newDS]) (by simp [newDS]) (fun h => by omega) (fun _ _ h => by simp [newDS] at h) fun _ _ _ w28 _ hf28 => ?_
  simp only [cnd_true, beq_self_eq_true]
  have hge : Fr (fun c => w.heap.size ≤ c) w w28 := by
    have a1 : Fr (fun c => w.heap.size ≤ c) w w4 := ge_trans (fr_ge hf1) (fr_ge hf4)
    have s1 := hf1.1
    have s4 := a1.1
    exact ge_trans (ge_trans a1 (hf414.mono fun c hc => by omega)) (hf28.mono fun c hc => by omega)
  exact hK _ (fr_after (Fr.refl (F := F0)) hge (Nat.le_refl _))
end
end Go.Proofs.Ytmhjekbdpnocaaa
