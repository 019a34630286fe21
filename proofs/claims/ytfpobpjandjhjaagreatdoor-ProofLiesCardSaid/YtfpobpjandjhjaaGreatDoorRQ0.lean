/- Rational numbers: what the operations answer, as plain laws. Conditions: none. -/
import Derived.Test.YtfpobpjandjhjaaGreatDoorRXZ
namespace Go.Proofs.YtfpobpjandjhjaaGreatDoor
open Go Pw
theorem fitQ_I64 (q : Rat) : I64 (fitQ q).n /\ I64 (fitQ q).d := by
 unfold fitQ
 split
 ·rename_i h
  refine ⟨⟨h.1, h.2.1⟩, ?_⟩
  have := h.2.2
  show I64 (q.den : Int)
  exact ⟨by omega, by omega⟩
 ·exact ⟨⟨by decide, by decide⟩, ⟨by decide, by decide⟩⟩
theorem rI (n : Int) : rightP n 1 := ⟨by decide, by simp⟩
theorem fitQ_right_eq {n d : Int} (h : rightP n d) : fitQ (val n d) = if -9223372036854775808 <= n /\ n < 9223372036854775808 /\ d < 9223372036854775808 then ⟨n, d, true⟩ else zr := by
 unfold fitQ
 rw [val_num h]
 have e := val_den h
 by_cases hc : -9223372036854775808 <= n /\ n < 9223372036854775808 /\ d < 9223372036854775808
 ·rw [if_pos hc, if_pos ⟨hc.1, hc.2.1, by omega⟩, e]
 ·rw [if_neg hc, if_neg (by omega)]
theorem val_div {n d : Int} (h : 0 < d) : val n d = Rat.divInt n d := by
 have e : d = ((d.toNat : Nat) : Int) := by omega
 unfold val
 conv => rhs; rw [e]
 rw [Rat.divInt_ofNat]
theorem addQ_val {n d n' d' : Int} (h : rightP n d) (h' : rightP n' d') : addQ n d n' d' = fitQ (val n d + val n' d') := by unfold addQ; rw [if_pos ⟨h, h'⟩]
theorem mulQ_val {n d n' d' : Int} (h : rightP n d) (h' : rightP n' d') : mulQ n d n' d' = fitQ (val n d * val n' d') := by unfold mulQ; rw [if_pos ⟨h, h'⟩]
theorem zr_right : rightP zr.n zr.d := ⟨by decide, by decide⟩
theorem addQ_right (n d n' d' : Int) : rightP (addQ n d n' d').n (addQ n d n' d').d := by
 unfold addQ; split
 ·exact fitQ_right _
 ·exact zr_right
theorem zr_I64 : I64 zr.n /\ I64 zr.d := ⟨⟨by decide, by decide⟩, ⟨by decide, by decide⟩⟩
theorem addQ_I64 (n d n' d' : Int) : I64 (addQ n d n' d').n /\ I64 (addQ n d n' d').d := by
 unfold addQ; split
 ·exact fitQ_I64 _
 ·exact zr_I64
theorem mulQ_I64 (n d n' d' : Int) : I64 (mulQ n d n' d').n /\ I64 (mulQ n d n' d').d := by
 unfold mulQ; split
 ·exact fitQ_I64 _
 ·exact zr_I64
theorem fitQ_self {n d : Int} (h : rightP n d) (hn : I64 n) (hd : I64 d) : fitQ (val n d) = ⟨n, d, true⟩ := by
 rw [fitQ_right_eq h, if_pos ⟨hn.1, hn.2, hd.2⟩]
end Go.Proofs.YtfpobpjandjhjaaGreatDoor
