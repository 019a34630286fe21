/- The reference's Crowded, Permitted, Value, Greater, Better, options. Conditions: none. -/
import Derived.Test.YtfpobpjandjhjaaGreatDoorCF1
namespace Go.Proofs.YtfpobpjandjhjaaGreatDoor
open Go Pw
section
variable {w wB : World} {s t s0 s1 s2 s5 t5 : Sl} {a b l f g : List Int} {p : Pr} {pb : Nat}
theorem dec_lt {i : Nat} (hd : Decs p p.lots f) (hi : i < f.length) (h0 : 0 <= f[i]) : f[i].toNat < p.ch.length := by
 obtain ⟨_, q⟩ := decs_at hd hi
 rcases q with q | ⟨c, q, _⟩
 ·omega
 ·obtain ⟨_, q2, _⟩ := chAt_some q; exact q2
theorem perm_fits {p : Pr} {f : List Int} (h : permB p f = true) : fitsB p f = true := (Bool.and_eq_true_iff.1 h).1
end
end Go.Proofs.YtfpobpjandjhjaaGreatDoor
