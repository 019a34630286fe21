/- combine: stores into a search's memory. Conditions: none. -/
import Derived.Test.YtmkjcheafdionaaCDB
namespace Go.Proofs.Ytmkjcheafdionaa
open Go Pw

section
variable {wB u u' : World} {l : List (Nat × List Value)} {R : List (Sl × List Int)} {O : List (Nat × Obj)} {ns t : Sl} {T : List Int} {cs : List NdC} {N : List Nd}

theorem flatMap_set_enc (cs : List NdC) (i k : Nat) (c d : NdC) (v : Value) (hi : cs[i]? = some c) (hk : k < 4) (hd : encN d = (encN c).set k v) : (cs.flatMap encN).set (i * 4 + k) v = (cs.set i d).flatMap encN := by
  induction cs generalizing i with
  | nil => simp at hi
  | cons x cs ih =>
    cases i with
    | zero =>
      simp only [List.getElem?_cons_zero, Option.some.injEq] at hi
      subst hi
      simp only [Nat.zero_mul, Nat.zero_add, List.flatMap_cons, List.set_cons_zero, hd]
      rw [List.set_append, if_pos (by simpa using hk)]
    | succ i =>
      simp only [List.getElem?_cons_succ] at hi
      simp only [List.flatMap_cons, List.set_cons_succ]
      rw [List.set_append, if_neg (by simp; omega)]
      have := ih i hi
      rw [← this]
      congr 2
      simp only [encN_length]
      omega

/-- A node's cell may be stored. -/
theorem V.nodeAt (h : V wB u l R O ns t T cs N) {i : Nat} {c : NdC} (hi : cs[i]? = some c) : ∃ b, ns.p = some ⟨b, 0, none⟩ /\ ∀ k, k < 4 -> wrOk u ⟨b, i * 4 + k, none⟩ /\ ∀ v d, encN d = (encN c).set k v -> Ow 4 encN (u.setCell ⟨b, i * 4 + k, none⟩ v) ns (cs.set i d) := by
  have hlt : i < cs.length := (List.getElem?_eq_some_iff.1 hi).1
  obtain ⟨hl, hown⟩ := h.ow
  obtain ⟨hol, hnil | ⟨b, vs, hp, hrow, hcs, hle, ht⟩⟩ := hown
  · omega
  · refine ⟨b, hp, fun k hk => ?_⟩
    rw [fm_length encN_length] at hol ht
    have hbd : i * 4 + k < vs.length := by omega
    refine ⟨hrow.wr hbd, fun v d hd => ⟨by simp [hl], ?_, .inr ⟨b, _, hp, hrow.set (i * 4 + k) v, by simpa using hcs, hle, ?_⟩⟩⟩
    · rw [fm_length encN_length]; simp [hl]
    · rw [fm_length encN_length, List.length_set, List.take_set, ht, flatMap_set_enc cs i k c d v hi hk hd]

/-- A node's number is stored. -/
theorem V.setNd (h : V wB u l R O ns t T cs N) {i k b : Nat} {c d : NdC} {n m : Nd} {v : Value} (hi : cs[i]? = some c) (hn : N[i]? = some n) (hp : ns.p = some ⟨b, 0, none⟩) (hk : k < 4) (hd : encN d = (encN c).set k v)
    (hm : d.lot = m.lot /\ d.num = m.num /\ d.den = m.den /\ m.next = n.next) (hx : d.nx = c.nx) :
    V wB (u.setCell ⟨b, i * 4 + k, none⟩ v) l R O ns t T (cs.set i d) (N.set i m) := by
  obtain ⟨b', hp', hq⟩ := h.nodeAt hi
  rw [hp] at hp'
  cases hp'
  have hf : Fr (fun c => c = b) u (u.setCell ⟨b, i * 4 + k, none⟩ v) := Fr.set rfl
  have hb : inB ns b := ⟨_, hp, rfl⟩
  have hcm := List.mem_of_getElem? hi
  have hmem : ∀ e ∈ cs.set i d, ∃ f ∈ cs, e.nx = f.nx := fun e he => by
    rcases List.mem_or_eq_of_mem_set he with he | rfl
    · exact ⟨e, he, rfl⟩
    · exact ⟨c, hcm, hx⟩
  refine ⟨h.m.frF hf (fun p hp e => (h.a1 p hp).1 (e ▸ hb)) fun c hc => hc ▸ h.n0 b hb, fun x hx => (h.r x hx).frF hf fun c hc e => (h.a2 x hx c hc).2.1 (e ▸ hb), (hq k hk).2 v d hd, h.tv.frF hf fun c hc e => (h.a3 b hb).1 (e ▸ hc), ?_, fun p hp => ⟨(h.a1 p hp).1, (h.a1 p hp).2.1, fun e he hc => ?_⟩, fun x hx c hc => ⟨by simpa using (h.a2 x hx c hc).1, (h.a2 x hx c hc).2⟩, fun c hc => ⟨(h.a3 c hc).1, fun e he hc' => ?_⟩, h.n0, h.n1, fun e he b hb => ?_, fun e he b hb => ?_, fun o ho => ⟨?_, (h.ob o ho).2.1, (h.ob o ho).2.2.1, (h.ob o ho).2.2.2.1, fun e he hc => ?_, (h.ob o ho).2.2.2.2.2⟩⟩
  · have hno := h.nv.at hi hn
    have h' := h.nv.imp (w' := u.setCell ⟨b, i * 4 + k, none⟩ v) fun e he l ho => ho.frF hf fun c hc e' => (h.a3 b hb).2 e he (e' ▸ hc)
    refine h'.set ⟨hm.1, hm.2.1, hm.2.2.1, ?_⟩
    rw [hx, hm.2.2.2]
    exact (h'.at hi hn).nx
  · obtain ⟨f, hf', e'⟩ := hmem e he
    rw [e'] at hc
    exact (h.a1 p hp).2.2 f hf' hc
  · obtain ⟨f, hf', e'⟩ := hmem e he
    rw [e'] at hc'
    exact (h.a3 c hc).2 f hf' hc'
  · obtain ⟨f, hf', e'⟩ := hmem e he
    rw [e'] at hb
    exact h.n2 f hf' b hb
  · obtain ⟨f, hf', e'⟩ := hmem e he
    rw [e'] at hb
    exact h.a4 f hf' b hb
  · rw [hf.2.1 _ (h.olt ho) fun e => (h.ob o ho).2.2.1 (e ▸ hb)]
    exact (h.ob o ho).1
  · obtain ⟨f, hf', e'⟩ := hmem e he
    rw [e'] at hc
    exact (h.ob o ho).2.2.2.2.1 f hf' hc

/-- A row of ints becomes what follows a node. -/
theorem V.giveNx {x : List Int} {nb : Nat} (h : V wB u ((nb, x.map fun n => Value.int .i64 n) :: l) R O ns t T cs N) {i b : Nat} {c : NdC} {n : Nd} (hi : cs[i]? = some c) (hn : N[i]? = some n) (hp : ns.p = some ⟨b, 0, none⟩) :
    V wB (u.setCell ⟨b, i * 4 + 3, none⟩ (.slice (some ⟨nb, 0, none⟩) x.length x.length)) l R O ns t T (cs.set i ⟨c.lot, c.num, c.den, ⟨some ⟨nb, 0, none⟩, x.length, x.length⟩⟩) (N.set i ⟨n.lot, n.num, n.den, x⟩) := by
  obtain ⟨b', hp', hq⟩ := h.nodeAt hi
  rw [hp] at hp'
  cases hp'
  have hrow : Row u nb (x.map fun n => Value.int .i64 n) := h.m.row 0 rfl
  have hf : Fr (fun c => c = b) u (u.setCell ⟨b, i * 4 + 3, none⟩ (.slice (some ⟨nb, 0, none⟩) x.length x.length)) := Fr.set rfl
  have hb : inB ns b := ⟨_, hp, rfl⟩
  have hnb : nb ≠ b := fun e => (h.a1 _ (List.mem_cons_self ..)).1 (e ▸ hb)
  have hcm := List.mem_of_getElem? hi
  obtain ⟨z1, z2, z3⟩ := h.a1 _ (List.mem_cons_self ..)
  have hpw := h.m.2.2.1
  simp only [List.map_cons, List.pairwise_cons] at hpw
  have hmem : ∀ e ∈ cs.set i ⟨c.lot, c.num, c.den, ⟨some ⟨nb, 0, none⟩, x.length, x.length⟩⟩, e ∈ cs \/ e.nx = ⟨some ⟨nb, 0, none⟩, x.length, x.length⟩ := fun e he => by
    rcases List.mem_or_eq_of_mem_set he with he | rfl
    · exact .inl he
    · exact .inr rfl
  have hin : ∀ {d : Nat} {e : NdC}, e.nx = ⟨some ⟨nb, 0, none⟩, x.length, x.length⟩ -> inB e.nx d -> d = nb := by
    rintro d e he ⟨a, ha, rfl⟩
    rw [he] at ha
    cases ha
    rfl
  have h1 := h.dr (k := l) 1 rfl
  refine ⟨h1.m.frF hf (fun p hp e => (h1.a1 p hp).1 (e ▸ hb)) fun c hc => hc ▸ h.n0 b hb, fun x hx => (h.r x hx).frF hf fun c hc e => (h.a2 x hx c hc).2.1 (e ▸ hb), (hq 3 (by decide)).2 _ _ rfl, h.tv.frF hf fun c hc e => (h.a3 b hb).1 (e ▸ hc), ?_, fun p hp => ⟨(h1.a1 p hp).1, (h1.a1 p hp).2.1, fun e he hc => ?_⟩, fun x hx c hc => ⟨by simpa using (h.a2 x hx c hc).1, (h1.a2 x hx c hc).2⟩, fun c hc => ⟨(h.a3 c hc).1, fun e he hc' => ?_⟩, h.n0, h.n1, fun e he b hb => ?_, fun e he d hd => ?_, fun o ho => ⟨?_, (h.ob o ho).2.1, (h.ob o ho).2.2.1, (h.ob o ho).2.2.2.1, fun e he hc => ?_, (h.ob o ho).2.2.2.2.2.1, (h1.ob o ho).2.2.2.2.2.2⟩⟩
  · have hno := h.nv.at hi hn
    have h' := h.nv.imp (w' := u.setCell ⟨b, i * 4 + 3, none⟩ (.slice (some ⟨nb, 0, none⟩) x.length x.length)) fun e he l ho => ho.frF hf fun c hc e' => (h.a3 b hb).2 e he (e' ▸ hc)
    exact h'.set ⟨hno.lot, hno.num, hno.den, Ow.row (hf.row hrow hnb)⟩
  · rcases hmem e he with he | he
    · exact (h1.a1 p hp).2.2 e he hc
    · have := hin he hc
      have := hpw.1 _ (List.mem_map_of_mem hp)
      omega
  · rcases hmem e he with he | he
    · exact (h.a3 c hc).2 e he hc'
    · exact z1 (hin he hc' ▸ hc)
  · rcases hmem e he with he | he
    · exact h.n2 e he b hb
    · rw [hin he hb]
      exact h.m.2.2.2 _ (List.mem_cons_self ..)
  · rcases hmem e he with he | he
    · exact h.a4 e he d hd
    · rw [hin he hd]
      exact z2
  · rw [hf.2.1 _ (h.olt ho) fun e => (h.ob o ho).2.2.1 (e ▸ hb)]
    exact (h.ob o ho).1
  · rcases hmem e he with he | he
    · exact (h.ob o ho).2.2.2.2.1 e he hc
    · exact (h.ob o ho).2.2.2.2.2.2 _ (List.mem_cons_self ..) (hin he hc).symm

/-- Another take. -/
theorem V.newT {s : Sl} {x : List Int} (h : V wB u l R O ns t T cs N) (hs : Mk u 1 (ie .i64 id) u' s x) : V wB u' l R O ns s x cs N := by
  have h' := h.fr hs.fr0
  refine ⟨h'.m, h'.r, h'.ow, hs.ow, h'.nv, fun p hp => ⟨(h.a1 p hp).1, fun hb => ?_, (h.a1 p hp).2.2⟩, h'.a2, fun b hb => ⟨fun hc => ?_, (h.a3 b hb).2⟩, h.n0, fun b hb => Nat.le_trans h.m.1.1 (hs.nw b hb), h.n2, fun c hc b hb hb' => ?_, fun o ho => ⟨(h'.ob o ho).1, (h.ob o ho).2.1, (h.ob o ho).2.2.1, fun hb => ?_, (h.ob o ho).2.2.2.2⟩⟩
  · have := hs.nw _ hb
    have := (h.m.2.1 p hp).lt
    omega
  · have := hs.nw _ hc
    have := h.ow.lt hb
    omega
  · have := hs.nw _ hb'
    have := h.nxlt hc hb
    omega
  · have := hs.nw _ hb
    have := h.olt ho
    omega

/-- make([]int, k), as a row of its own. -/
theorem V.make {k : Nat} {e : Nat} {K : SW} (h : V wB u l R O ns t T cs N) (hk : k < 2 ^ 40)
    (hK : ∀ u', V wB u' ((u.heap.size, (List.replicate k (0 : Int)).map fun n => Value.int .i64 n) :: l) R O ns t T cs N -> K ⟨some ⟨u.heap.size, 0, none⟩, k, k⟩ u') : mkS 8 [.int .i64 0] e k k u K := by
  refine ⟨by omega, Int.le_refl _, by omega, by omega, ?_⟩
  have e1 : rowZ [Value.int .i64 0] (k * 1) = (List.replicate k (0 : Int)).map fun n => Value.int .i64 n := by
    apply List.ext_getElem
    · simp [rowZ]
    · intro i h1 h2
      simp [rowZ, Nat.mod_one]
  have := hK (u.alloc (Obj.cells (rowZ [Value.int .i64 0] (k * 1)).toArray e)) (by rw [e1]; exact h.allocL)
  simpa [newSl] using this
end
end Go.Proofs.Ytmkjcheafdionaa
