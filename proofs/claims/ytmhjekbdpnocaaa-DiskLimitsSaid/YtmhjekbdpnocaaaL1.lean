/- The law DiskLimits returns true. Conditions: none. -/
import Derived.Test.YtmhjekbdpnocaaaN1
namespace Go.Proofs.Ytmhjekbdpnocaaa
open Go Pw

section
variable {w : World} {x k : Nat}

theorem mkS_u8 {o : Nat} {K : SW} (ho : o ≤ 2 ^ 30) (hK : ∀ r w', OwnV 1 w' r ((List.replicate o (0 : UInt8)).map bv) → Fr F0 w w' → K r w') : mkS 1 [(Value.int .u8 (0 : Int))] 5 (o : Int) (o : Int) w K := by
  refine ⟨by omega, by omega, by omega, by omega, ?_⟩
  simp only [Int.toNat_natCast, List.length_cons, List.length_nil, Nat.zero_add, Nat.mul_one]
  rw [rowZ_u8]
  have hrn : Row (w.alloc (Obj.cells ((List.replicate o (0 : UInt8)).map bv).toArray 5)) w.heap.size ((List.replicate o (0 : UInt8)).map bv) := Row.new
  exact hK _ _ ⟨by simp [newSl], .inr ⟨w.heap.size, _, rfl, hrn, by simp [newSl], Nat.le_refl _, by simp⟩⟩ Fr.alloc

theorem btsS_own {s : Sl} {l : List UInt8} {K : ByteArray → Prop} (h : OwnV 1 w s (l.map bv)) (hK : K (ofL l)) : btsS s w K := by
  have := h.rd
  rw [Nat.mul_one] at this
  exact btsS_rd this hK

theorem lim_both {m : Nat} {far : Int} {R : Int → Int → World → Prop} {t : ByteArray} (ht : t.size = m) (hm : m < 70) (h : Desk w x newDS k) (hR : ∀ r w' st', Desk w' x st' k → st'.now.length ≤ 2 ^ 24 → Fr (fun c => k ≤ c) w w' → R r r w') :
    ∃ S14 : World → Prop, S14 w.drew ∧ ∃ x15 : Option Addr, (∀ w' : World, S14 w' → w'.cell? (Addr.mk x 0 none) = some (Value.pointer x15)) ∧ inR .i64 ((16777216 : Int) - (t.size : Int)) ∧ inR .i64 (((16777216 : Int) - (t.size : Int)) - (3 : Int)) ∧ probityref26_Mod_sh far (7 : Int) (fun (r17 : Int) (w16 : World) => S14 w16 ∧ inR .i64 ((((16777216 : Int) - (t.size : Int)) - (3 : Int)) + r17) ∧ disk_Disk_Write_sh x15 ((((16777216 : Int) - (t.size : Int)) - (3 : Int)) + r17) t (fun (r19 : Int) (w18 : World) =>
      ∃ S21 : World → Prop, S21 w18.drew ∧ ∃ x22 : Option Addr, (∀ w' : World, S21 w' → w'.cell? (Addr.mk x 1 none) = some (Value.pointer x22)) ∧ inR .i64 ((16777216 : Int) - (t.size : Int)) ∧ inR .i64 (((16777216 : Int) - (t.size : Int)) - (3 : Int)) ∧ probityref26_Mod_sh far (7 : Int) (fun (r24 : Int) (w23 : World) => S21 w23 ∧ inR .i64 ((((16777216 : Int) - (t.size : Int)) - (3 : Int)) + r24) ∧ probityref26_Disk_Write_sh x22 ((((16777216 : Int) - (t.size : Int)) - (3 : Int)) + r24) t (fun (r26 : Int) (w25 : World) => R r19 r26 w25) w23) w18.drew) w16) w.drew := by
  have hD := h
  obtain ⟨db, rb, O1, O2, h⟩ := h
  have hf0 : Fr F0 w w.drew := Fr.drew
  have hP := h.keep hf0 (fun _ _ h => h) (fun _ _ h => h) fun h => h
  have hbl := bl_length t
  generalize w.drew = w13 at *
  rw [ht]
  obtain ⟨o, ho⟩ : ∃ o : Nat, (16777216 : Int) - (m : Int) - 3 + far % 7 = o := ⟨((16777216 : Int) - (m : Int) - 3 + far % 7).toNat, by omega⟩
  refine ⟨fun w' => Row w' x [.pointer (ptr db), .pointer (ptr rb)], hP.row, ptr db, fun _ h => h.at rfl, inR64 (by omega) (by omega), inR64 (by omega) (by omega), Mod_spec (by omega) (by omega) ?_⟩
  rw [ho]
  refine ⟨hP.row, inR64 (by omega) (by omega), Write_spec hP.d (by simp [newDS]) (by simp [newDS]) (by simp [newDS]) (by simp [newDS]) (by simp [newDS]) (fun hb => ?_) (fun _ _ hl => by simp [newDS] at hl) fun g1 g2 _ wA hA hfA => ?_⟩
  · have hfd : Fr F0 w13 w13.drew := Fr.drew
    have hPd := hP.keep hfd (fun _ _ h => h) (fun _ _ h => h) fun h => h
    generalize w13.drew = w20 at *
    refine ⟨fun w' => Row w' x [.pointer (ptr db), .pointer (ptr rb)], hPd.row, ptr rb, fun _ h => h.at rfl, inR64 (by omega) (by omega), inR64 (by omega) (by omega), Mod_spec (by omega) (by omega) ?_⟩
    rw [ho]
    refine ⟨hPd.row, inR64 (by omega) (by omega), rWrite_spec hPd.r (by simp [newDS]) (by simp [newDS]) (by omega) (by simp [newDS]) (by simp [newDS]) (fun _ => ?_) (fun _ _ hl => by simp [newDS] at hl) fun _ _ _ _ _ _ => by omega⟩
    exact hR 1 _ newDS (hD.keep (ge_trans hf0 hfd)) (by simp [newDS]) (fr_ge (ge_trans hf0 hfd))
  · have hfd : Fr F0 wA wA.drew := Fr.drew
    have hrA := hfA.row hP.row h.nx.1
    have hrd := hfd.row hrA fun h => h
    have hR1 := (hP.r.fr hfA fun c h2 h1 => h.dis c h1 h2).fr hfd fun _ _ h => h
    generalize wA.drew = w20 at *
    refine ⟨fun w' => Row w' x [.pointer (ptr db), .pointer (ptr rb)], hrd, ptr rb, fun _ h => h.at rfl, inR64 (by omega) (by omega), inR64 (by omega) (by omega), Mod_spec (by omega) (by omega) ?_⟩
    rw [ho]
    refine ⟨hrd, inR64 (by omega) (by omega), rWrite_spec hR1 (by simp [newDS]) (by simp [newDS]) (by omega) (by simp [newDS]) (by simp [newDS]) (fun _ => by omega) (fun _ _ hl => by simp [newDS] at hl) fun _ _ _ wB hB hfB => ?_⟩
    have := hP.upd hA hfA (fun c hc => hc) hB ((hfd.mono fun _ h => h.elim).trans hfB fun _ h _ => h) fun c hc => nw_from hfd.1 hc
    refine hR 0 _ _ this.1 ?_ (ge_trans (fr_ge hf0) this.2)
    show (putL _ _ _).length ≤ _
    rw [putL_length]
    have : newDS.now.length = 0 := rfl
    omega

theorem Limits_tail {o nb : Nat} {st : DS} {O : Nat → Prop} {P : List Value} {K : Bool → World → Prop} (h : Rep w nb st O) (hS : Row w x P) (hst : st.now.length ≤ 2 ^ 24) (hp : st.pcs.length ≤ 2 ^ 29) (hc : st.calls = 1) (hl : st.lim = none) (ho : o < 500) (hK : K true w) :
    inR .i64 ((-1 : Int) - (o : Int)) ∧ disk_Disk_Write_sh (ptr nb) ((-1 : Int) - (o : Int)) (str []) (fun (r49 : Int) (w48 : World) => Row w48 x P ∧ cnd (r49 == (1 : Int))
      (inR .i64 ((9223372036854775807 : Int) - (o : Int)) ∧ disk_Disk_Write_sh (ptr nb) ((9223372036854775807 : Int) - (o : Int)) (str [97, 98]) (fun (r51 : Int) (w50 : World) => Row w50 x P ∧ K (r51 == (1 : Int)) w50) w48)
      (K false w48)) w := by
  have hlim : ∀ v, st.lim = some v → (-2 ^ 62 : Int) ≤ v ∧ v ≤ 2 ^ 62 := fun v hv => by rw [hl] at hv; cases hv
  refine ⟨inR64 (by omega) (by omega), Write_spec h (by omega) hp (by omega) (by omega) hlim (fun _ => ⟨hS, ?_⟩) (fun _ _ _ => by omega) fun _ _ _ _ _ _ => by omega⟩
  rw [show ((1 : Int) == 1) = true from rfl, cnd_true]
  exact ⟨inR64 (by omega) (by omega), Write_spec h (by omega) hp (by omega) (by omega) hlim (fun _ => ⟨hS, hK⟩) (fun _ _ _ => by omega) fun _ _ _ _ _ _ => by omega⟩
end
end Go.Proofs.Ytmhjekbdpnocaaa
