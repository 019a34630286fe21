/- The law JournalKeeps returns true. Conditions: none. -/
import Derived.Test.YtamkecjpcfnpjaaJL2
import Derived.Test.YtamkecjpcfnpjaaJG3
namespace Go.Proofs.Ytamkecjpcfnpjaa
open Go Pw

/-- A disk with its journal, beside the model: where a round of a law stands; k: where the law's own blocks begin. -/
structure KI (w0 w : World) (b jb mb : Nat) (st : DS) (rs Mb : List (List UInt8)) (e : Nat) (br : Bool) (O OM : Nat → Prop) (n : Nat) : Prop where
  jj : JJ w b jb st rs e br O n
  mi : MI w mb rs Mb br (byt rs) OM
  d1 : ∀ c, O c → ¬ OM c
  d2 : ¬ OM jb
  k1 : ∀ c, O c → w0.heap.size ≤ c
  k2 : ∀ c, OM c → w0.heap.size ≤ c
  k3 : w0.heap.size ≤ jb
  fr : Fr F0 w0 w

section
variable {w0 w w' : World} {b jb mb e n : Nat} {st : DS} {rs Mb : List (List UInt8)} {br : Bool} {O OM : Nat → Prop}

/-- The disk and its journal have turned, the model not. -/
theorem KI.turn {jb' : Nat} {O' F : Nat → Prop} (h : KI w0 w b jb mb st rs Mb e br O OM n) (hf : Fr F w w') (hF : ∀ c, F c → O c ∨ c = jb)
    (hO : ∀ c, O' c → O c ∨ w.heap.size ≤ c) (hjb : jb' = jb ∨ w.heap.size ≤ jb') :
    MI w' mb rs Mb br (byt rs) OM ∧ (∀ c, O' c → ¬ OM c) ∧ ¬ OM jb' ∧ (∀ c, O' c → w0.heap.size ≤ c) ∧ w0.heap.size ≤ jb' ∧ Fr F0 w0 w' := by
  have hlt := h.mi.lt
  have hs := h.fr.1
  refine ⟨h.mi.fr hf fun c hc hFc => ?_, fun c hc hM => ?_, fun hM => ?_, fun c hc => ?_, ?_, h.fr.trans hf fun c hc hl => ?_⟩
  · rcases hF c hFc with h1 | h1
    · exact h.d1 c h1 hc
    · exact h.d2 (h1 ▸ hc)
  · rcases hO c hc with h1 | h1
    · exact h.d1 c h1 hM
    · have := hlt c hM; omega
  · rcases hjb with h1 | h1
    · exact h.d2 (h1 ▸ hM)
    · have := hlt _ hM; omega
  · rcases hO c hc with h1 | h1
    · exact h.k1 c h1
    · omega
  · rcases hjb with h1 | h1
    · rw [h1]; exact h.k3
    · omega
  · rcases hF c hc with h1 | h1
    · have := h.k1 c h1; omega
    · have := h.k3; omega

/-- The model has turned, the disk and its journal not. -/
theorem JJ.apart {OM' : Nat → Prop} (hj : JJ w b jb st rs e br O n) (hf : Fr OM w w') (d1 : ∀ c, O c → ¬ OM c) (d2 : ¬ OM jb) (hO : ∀ c, OM' c → OM c ∨ w.heap.size ≤ c) : JJ w' b jb st rs e br O n ∧ (∀ c, O c → ¬ OM' c) ∧ ¬ OM' jb := by
  refine ⟨hj.fr hf fun c hc hM => ?_, fun c hc hM => ?_, fun hM => ?_⟩
  · rcases hc with h | h
    · exact d1 c h hM
    · exact d2 (h ▸ hM)
  · rcases hO c hM with h | h
    · exact d1 c hc h
    · have := hj.di.lt c hc; omega
  · rcases hO _ hM with h | h
    · exact d2 h
    · have := hj.row.lt; omega

theorem byt_short {rs : List (List UInt8)} {r : List UInt8} : byt (rs ++ [r.take 200]) ≤ byt rs + 216 := by
  rw [byt_append]
  simp [byt]
  omega

/-- What is known of a slice of strings. -/
theorem strs_at {l : Sl} {A : List (List UInt8)} {i : Nat} (h : rdC w l.p l.l (A.map sv)) (hi : i < A.length) : ∃ pa, l.p = some pa ∧ w.cell? (pa.add i) = some (.string (ofL A[i])) := by
  obtain ⟨h1, h2⟩ := h
  simp at h1
  cases hp : l.p with
  | none => rw [hp] at h2; simp at h2; omega
  | some pa =>
    rw [hp] at h2
    have := h2 i (by simpa using hi)
    simp only [List.getElem_map] at this
    exact ⟨pa, rfl, this⟩

theorem byt_take (l : List (List UInt8)) (i : Nat) : byt (l.take i) ≤ byt l := by
  have := byt_append (l.take i) (l.drop i)
  rw [List.take_append_drop] at this
  omega

theorem len_byt : ∀ {l : List (List UInt8)} {r : List UInt8}, r ∈ l → r.length ≤ byt l
  | x :: l, r, h => by
    rcases List.mem_cons.1 h with rfl | h
    · simp [byt]; omega
    · have := len_byt h
      simp [byt]; omega

/-- A journal is opened beside the model: the model takes over what it has. -/
theorem Opens_KI {w1 : World} {s : Sl} {K : Bool → World → Prop} {jb' e' n' : Nat} {st' : DS} {G : List (List UInt8)} {O' : Nat → Prop} (hj : JJ w1 b jb' st' G e' false O' n') (hm : MI w1 mb rs Mb br (byt rs) OM) (d1 : ∀ c, O' c → ¬ OM c) (d2 : ¬ OM jb') (k1 : ∀ c, O' c → w0.heap.size ≤ c) (k2 : ∀ c, OM c → w0.heap.size ≤ c) (k3 : w0.heap.size ≤ jb') (hf : Fr F0 w0 w1)
    (hs : OwnV 1 w1 s (G.map sv)) (hsd : ∀ c, inB s c → ¬ OM c) (hG : byt G ≤ 2 ^ 30) (hr : byt rs ≤ 2 ^ 30) (hM : Mb.length ≤ 2 ^ 30)
    (hK : ∀ w2 OM', KI w0 w2 b jb' mb st' G [] e' false O' OM' n' → K (fineR rs Mb G br) w2) : probityref27_Journal_Opens_sh (ptr mb) s K w1 := by
  have hrd := hs.rd
  rw [Nat.mul_one] at hrd
  have hGl := byt_len G
  have hrl := byt_len rs
  refine Opens_spec hm hrd (fun a ha => hsd _ ⟨a, ha, rfl⟩) (by omega) (fun i => by have := byt_take G i; omega) (fun r hr => by have := len_byt hr; omega) (by omega) (by omega) fun w2 OM' hm2 hf2 hO2 => ?_
  obtain ⟨x1, x2, x3⟩ := hj.apart hf2 d1 d2 hO2
  refine hK w2 OM' ⟨x1, hm2, x2, x3, k1, fun c hc => ?_, k3, hf.trans hf2 fun c hc hlt => by have := k2 c hc; omega⟩
  have := hf.1
  rcases hO2 c hc with h | h
  · exact k2 c h
  · omega
end
end Go.Proofs.Ytamkecjpcfnpjaa
