/- The reference's Bent: some result. Conditions: none. -/
import Derived.Test.YtfpobpjandjhjaaGreatDoorPXZ
import Derived.Test.YtfpobpjandjhjaaGreatDoorCXZ
namespace Go.Proofs.YtfpobpjandjhjaaGreatDoor
open Go Pw
theorem Ow.nodeAt {u : World} {ns : Sl} {cs : List NdC} (h : Ow 4 encN u ns cs) {i : Nat} {c : NdC} (hi : cs[i]? = some c) : ∃ b, ns.p = some ⟨b, 0, none⟩ /\ ∀ k, k < 4 -> wrOk u ⟨b, i * 4 + k, none⟩ /\ ∀ v d, encN d = (encN c).set k v -> Ow 4 encN (u.setCell ⟨b, i * 4 + k, none⟩ v) ns (cs.set i d) := by
 have hlt : i < cs.length := (List.getElem?_eq_some_iff.1 hi).1
 obtain ⟨hl, hown⟩ := h
 obtain ⟨hol, hnil | ⟨b, vs, hp, hrow, hcs, hle, ht⟩⟩ := hown
 ·omega
 ·refine ⟨b, hp, fun k hk => ?_⟩
  rw [fm_length encN_length] at hol ht
  have hbd : i * 4 + k < vs.length := by omega
  refine ⟨hrow.wr hbd, fun v d hd => ⟨by simp [hl], ?_, .inr ⟨b, _, hp, hrow.set (i * 4 + k) v, by simpa using hcs, hle, ?_⟩⟩⟩
  ·rw [fm_length encN_length]; simp [hl]
  ·rw [fm_length encN_length, List.length_set, List.take_set, ht, flatMap_set_enc cs i k c d v hi hk hd]
theorem nodeLd {u : World} {ns : Sl} {cs : List NdC} {b i k : Nat} {c : NdC} {v : Value} (h : Vw 4 encN u ns cs) (hp : ns.p = some ⟨b, 0, none⟩) (hi : cs[i]? = some c) (hk : (encN c)[k]? = some v) : u.cell? ⟨b, i * 4 + k, none⟩ = some v := by
 obtain ⟨ad, hp', hc⟩ := h.at (fun a => encN_length a) hi (by decide)
 rw [hp] at hp'
 cases hp'
 have := hc k v hk
 simpa only [add_mk, Nat.zero_add] using this
structure RdR (u : World) (t : Sl) (T : List Int) (ns : Sl) (cs : List NdC) (N : List Nd) : Prop where
 tk : VI u t T
 nds : Vw 4 encN u ns cs
 len : cs.length = N.length
 nd : ∀ (i : Nat) c n, cs[i]? = some c -> N[i]? = some n -> NdV u c n
def blk (t ns : Sl) (cs : List NdC) (b : Nat) : Prop := inB t b \/ inB ns b \/ ∃ c ∈ cs, inB c.nx b
section
variable {w w' w0 w3 u u' : World} {t t5 ns s : Sl} {T : List Int} {N : List Nd} {cs : List NdC} {pts bnd q0 q1 q2 q3 : Int} {rb tb ob qb k : Nat}
theorem OwR.frF {F : Nat -> Prop} (h : OwR w0 u t T ns cs N) (hf : Fr F u u') (hx : ∀ b, blk t ns cs b -> ¬ F b) : OwR w0 u' t T ns cs N :=
 { h with
  tk := h.tk.frF hf fun b hb => hx b (.inl hb)
  nds := h.nds.frF hf fun b hb => hx b (.inr (.inl hb))
  nd := fun i c n hc hn => ⟨(h.nd i c n hc hn).1, (h.nd i c n hc hn).2.1.frF hf fun b hb => hx b (.inr (.inr ⟨c, List.mem_of_getElem? hc, hb⟩)), (h.nd i c n hc hn).2.2⟩ }
theorem RdR.nv (h : RdR u t T ns cs N) (hN : N.length < 2 ^ 47) : NV u ns N := ⟨⟨cs, h.nds, h.len, h.nd⟩, hN⟩
theorem OwR.rd (h : OwR w0 u t T ns cs N) : RdR u t T ns cs N := ⟨h.tk.vw, h.nds.vw, h.len, fun i c n hc hn => ⟨(h.nd i c n hc hn).1, (h.nd i c n hc hn).2.1.vw, (h.nd i c n hc hn).2.2⟩⟩
end
end Go.Proofs.YtfpobpjandjhjaaGreatDoor
