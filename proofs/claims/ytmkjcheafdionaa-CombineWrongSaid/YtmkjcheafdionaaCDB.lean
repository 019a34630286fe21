/- combine: the memory of a search. Conditions: none. -/
import Derived.Test.YtmkjcheafdionaaCDA
import Derived.Test.YtmkjcheafdionaaPwQ
namespace Pw
open Go

theorem Ow.lt {α : Type} {n : Nat} {enc : α -> List Value} {w : World} {s : Sl} {l : List α} (h : Ow n enc w s l) {b : Nat} (hb : inB s b) : b < w.heap.size := h.own.lt hb

/-- A slice that is a whole block of ints. -/
theorem Ow.row {w : World} {b : Nat} {l : List Int} (h : Row w b (l.map fun n => Value.int .i64 n)) : Ow 1 (ie .i64 id) w ⟨some ⟨b, 0, none⟩, l.length, l.length⟩ l := by
  refine ⟨rfl, ?_, .inr ⟨b, _, rfl, h, by simp, Nat.le_refl _, ?_⟩⟩
  · simp [fm_length (fun a => ie_length IntKind.i64 (id : Int -> Int) a)]
  · rw [show l.flatMap (ie .i64 id) = l.map fun n => Value.int .i64 n from fm_one (fun n => Value.int .i64 n) l]
    exact List.take_of_length_le (Nat.le_refl _)

/-- copy(s[off:], x), for slices of ints. -/
theorem Mk.cp {w0 w : World} {s x d : Sl} {l m : List Int} {off : Nat} {K : Int -> World -> Prop} (h : Mk w0 1 (ie .i64 id) w s l) (hx : Vw 1 (ie .i64 id) w x m) (ho : off <= l.length) (hd : d.p = subP s.p off s.c 1) (hdl : d.l = l.length - off)
    (hK : ∀ w', Mk w0 1 (ie .i64 id) w' s (l.take off ++ m.take (l.length - off) ++ l.drop (off + min m.length (l.length - off))) -> Fr (inB s) w w' -> K ((min m.length (l.length - off) : Nat) : Int) w') : cpS 1 d x w K := by
  have hlen := h.len
  have hxl := hx.len
  have hmin : min x.l d.l = min m.length (l.length - off) := by rw [hxl, hdl]
  refine ⟨(m.take (l.length - off)).map fun n => Value.int .i64 n, ?_, ?_, ?_⟩
  · rw [hmin]
    obtain ⟨h1, h2⟩ := hx.rd
    refine ⟨by simp [Nat.min_comm], ?_⟩
    have e : m.flatMap (ie .i64 id) = m.map fun n => Value.int .i64 n := fm_one (fun n => Value.int .i64 n) m
    cases hp : x.p with
    | none =>
      rw [hp] at h2
      simp only at h2 ⊢
      omega
    | some a =>
      rw [hp] at h2
      simp only at h2 ⊢
      intro i hi
      simp only [List.length_map, List.length_take] at hi
      have h3 := h2 i (by rw [e]; simp; omega)
      rw [h3]
      simp [e]
  · intro v hv
    obtain ⟨n, _, rfl⟩ := List.mem_map.1 hv
    rfl
  · rw [hmin]
    generalize hc : min m.length (l.length - off) = c at *
    have hcl : (m.take (l.length - off)).length = c := by rw [List.length_take, ← hc, Nat.min_comm]
    obtain ⟨hl, hown⟩ := h.ow
    obtain ⟨hol, hnil | ⟨b, cs, hp, hrow, hcs, hle, ht⟩⟩ := hown
    · have hl0 : l = [] := List.eq_nil_of_length_eq_zero (by omega)
      subst hl0
      have hoff : off = 0 := by simpa using ho
      subst hoff
      rw [hd, hnil.1]
      have : subP none 0 s.c 1 = none := by unfold subP; split <;> rfl
      rw [this]
      simp only [List.length_nil, Nat.zero_sub, Nat.min_zero] at hc
      subst hc
      refine hK w ?_ Fr.refl
      simpa using h
    · have e : l.flatMap (ie .i64 id) = l.map fun n => Value.int .i64 n := fm_one (fun n => Value.int .i64 n) l
      rw [e] at ht hol
      simp only [List.length_map, Nat.mul_one] at ht hol hcs
      by_cases hz : s.c = off
      · have hc0 : c = 0 := by omega
        subst hc0
        have hm0 : m.take (l.length - off) = [] := List.eq_nil_of_length_eq_zero hcl
        rw [hm0] at hK ⊢
        rw [hd, show subP s.p off s.c 1 = s.p by unfold subP; rw [if_pos hz], hp]
        refine ⟨fun i hi => by simp at hi, ?_⟩
        refine hK w ?_ Fr.refl
        simpa using h
      · rw [hd, show subP s.p off s.c 1 = some ⟨b, off, none⟩ by rw [hp]; unfold subP; simp [hz]]
        simp only
        have hfit : off + ((m.take (l.length - off)).map fun n => Value.int .i64 n).length <= cs.length := by rw [List.length_map, hcl]; omega
        refine ⟨fun i hi => by rw [add_mk]; exact hrow.wr (by omega), ?_⟩
        have hrow' := wrC_row (o := off) ((m.take (l.length - off)).map fun n => Value.int .i64 n) 0 w cs hrow (by omega)
        simp only [Nat.add_zero] at hrow'
        have hfr : Fr (inB s) w (wrC w ⟨b, off, none⟩ 0 ((m.take (l.length - off)).map fun n => Value.int .i64 n)) :=
          ⟨by rw [wrC_size]; exact Nat.le_refl _, fun c _ hn => wrC_ne (a := ⟨b, off, none⟩) (fun he => hn ⟨_, hp, he⟩) _ _ _, wrC_os _ _ _, wrC_out _ _ _, wrC_tape _ _ _⟩
        have hnl : (l.take off ++ m.take (l.length - off) ++ l.drop (off + c)).length = l.length := by
          simp only [List.length_append, List.length_drop, hcl, List.length_take]; omega
        refine hK _ ⟨h.fr0.trans hfr fun b' hb' hlt => absurd (h.nw b' hb') (by omega), ⟨by rw [hnl]; exact hl, ?_, .inr ⟨b, _, hp, hrow', by rw [splice_length _ _ _ hfit, hcs, Nat.mul_one], hle, ?_⟩⟩, h.nw⟩ hfr
        · rw [fm_length (fun a => ie_length IntKind.i64 (id : Int -> Int) a), hnl]; omega
        · rw [show (l.take off ++ m.take (l.length - off) ++ l.drop (off + c)).flatMap (ie .i64 id) = (l.take off ++ m.take (l.length - off) ++ l.drop (off + c)).map fun n => Value.int .i64 n from fm_one (fun n => Value.int .i64 n) _]
          rw [List.length_map, hnl]
          unfold splice
          rw [List.length_map, hcl]
          apply List.ext_getElem?
          intro i
          have hti : ∀ j, j < l.length -> cs[j]? = (l.map fun n => Value.int .i64 n)[j]? := by
            intro j hj
            rw [← ht, List.getElem?_take, if_pos hj]
          by_cases hil : i < l.length
          · rw [List.getElem?_take, if_pos hil, List.map_append, List.map_append, List.getElem?_append, List.getElem?_append]
            simp only [List.length_append, List.length_map, List.length_take, hcl, List.getElem?_append]
            have e1 : min off cs.length = off := by omega
            have e2 : min off l.length = off := by omega
            have e3 : min (l.length - off) m.length = c := by rw [Nat.min_comm]; exact hc
            simp only [e1, e2]
            by_cases h1 : i < off
            · rw [if_pos (by omega), if_pos h1, if_pos (by omega), if_pos h1, List.getElem?_take, if_pos h1, hti i hil]
              simp [h1]
            · by_cases h2 : i < off + c
              · rw [if_pos h2, if_neg h1, if_pos h2, if_neg h1]
              · rw [if_neg h2, if_neg h2, List.getElem?_drop, hti _ (by omega)]
                simp only [List.getElem?_map, List.getElem?_drop]
          · rw [List.getElem?_take, if_neg hil, List.getElem?_eq_none]
            rw [List.length_map, hnl]
            omega
end Pw
namespace Go.Proofs.Ytmkjcheafdionaa
open Go Pw

/-- A node's cells. -/
structure NdC where
  lot : Int
  num : Int
  den : Int
  nx : Sl
def encN (c : NdC) : List Value := [.int .i64 c.lot, .int .i64 c.num, .int .i64 c.den, .slice c.nx.p c.nx.l c.nx.c]
@[simp] theorem encN_length (c : NdC) : (encN c).length = 4 := rfl
theorem encN_ok (c : NdC) : ∀ v ∈ encN c, okC v = true := by intro v hv; simp [encN] at hv; rcases hv with rfl | rfl | rfl | rfl <;> rfl

abbrev OI (w : World) (s : Sl) (l : List Int) : Prop := Ow 1 (ie .i64 id) w s l

/-- A node's cells say what the node is. -/
structure NdOk (w : World) (c : NdC) (n : Nd) : Prop where
  lot : c.lot = n.lot
  num : c.num = n.num
  den : c.den = n.den
  nx : OI w c.nx n.next

/-- The nodes' cells say what the nodes are. -/
def NdsOk (w : World) : List NdC -> List Nd -> Prop
  | [], [] => True
  | c :: cs, n :: N => NdOk w c n /\ NdsOk w cs N
  | _, _ => False

theorem NdsOk.len {w : World} : ∀ {cs : List NdC} {N : List Nd}, NdsOk w cs N -> cs.length = N.length
  | [], [], _ => rfl
  | [], _ :: _, h => h.elim
  | _ :: _, [], h => h.elim
  | _ :: _, _ :: _, h => by simp [h.2.len]

theorem NdsOk.imp {w w' : World} : ∀ {cs : List NdC} {N : List Nd}, NdsOk w cs N -> (∀ c ∈ cs, ∀ l, OI w c.nx l -> OI w' c.nx l) -> NdsOk w' cs N
  | [], [], _, _ => trivial
  | [], _ :: _, h, _ => h.elim
  | _ :: _, [], h, _ => h.elim
  | c :: cs, n :: N, h, hi => ⟨⟨h.1.lot, h.1.num, h.1.den, hi c (by simp) _ h.1.nx⟩, h.2.imp fun d hd => hi d (by simp [hd])⟩

theorem NdsOk.append {w : World} : ∀ {cs : List NdC} {N : List Nd} {ds : List NdC} {M : List Nd}, NdsOk w cs N -> NdsOk w ds M -> NdsOk w (cs ++ ds) (N ++ M)
  | [], [], _, _, _, h => h
  | [], _ :: _, _, _, h, _ => h.elim
  | _ :: _, [], _, _, h, _ => h.elim
  | _ :: _, _ :: _, _, _, h, h' => ⟨h.1, h.2.append h'⟩

theorem NdsOk.at {w : World} : ∀ {cs : List NdC} {N : List Nd} {i : Nat} {c : NdC} {n : Nd}, NdsOk w cs N -> cs[i]? = some c -> N[i]? = some n -> NdOk w c n
  | [], [], _, _, _, _, h, _ => by simp at h
  | [], _ :: _, _, _, _, h, _, _ => h.elim
  | _ :: _, [], _, _, _, h, _, _ => h.elim
  | c :: cs, n :: N, 0, _, _, h, h1, h2 => by simp at h1 h2; subst h1; subst h2; exact h.1
  | c :: cs, n :: N, i + 1, _, _, h, h1, h2 => h.2.at (by simpa using h1) (by simpa using h2)

theorem NdsOk.set {w : World} : ∀ {cs : List NdC} {N : List Nd} {i : Nat} {c : NdC} {n : Nd}, NdsOk w cs N -> NdOk w c n -> NdsOk w (cs.set i c) (N.set i n)
  | [], [], _, _, _, _, _ => trivial
  | [], _ :: _, _, _, _, h, _ => h.elim
  | _ :: _, [], _, _, _, h, _ => h.elim
  | _c :: _cs, _n :: _N, 0, _, _, h, h1 => ⟨h1, h.2⟩
  | _c :: _cs, _n :: _N, _i + 1, _, _, h, h1 => ⟨h.1, h.2.set h1⟩

/-- The memory of a search: rows of variables, slices that are read, the nodes, the best take; they lie apart. -/
structure V (wB u : World) (l : List (Nat × List Value)) (R : List (Sl × List Int)) (O : List (Nat × Obj)) (ns t : Sl) (T : List Int) (cs : List NdC) (N : List Nd) : Prop where
  m : Mem wB u l
  r : ∀ x ∈ R, VI u x.1 x.2
  ow : Ow 4 encN u ns cs
  tv : OI u t T
  nv : NdsOk u cs N
  a1 : ∀ p ∈ l, ¬ inB ns p.1 /\ ¬ inB t p.1 /\ ∀ c ∈ cs, ¬ inB c.nx p.1
  a2 : ∀ x ∈ R, ∀ b, inB x.1 b -> b < u.heap.size /\ ¬ inB ns b /\ ∀ p ∈ l, p.1 ≠ b
  a3 : ∀ b, inB ns b -> ¬ inB t b /\ ∀ c ∈ cs, ¬ inB c.nx b
  n0 : ∀ b, inB ns b -> wB.heap.size <= b
  n1 : ∀ b, inB t b -> wB.heap.size <= b
  n2 : ∀ c ∈ cs, ∀ b, inB c.nx b -> wB.heap.size <= b
  a4 : ∀ c ∈ cs, ∀ b, inB c.nx b -> ¬ inB t b
  ob : ∀ o ∈ O, u.heap[o.1]? = some o.2 /\ wB.heap.size <= o.1 /\ ¬ inB ns o.1 /\ ¬ inB t o.1 /\ (∀ c ∈ cs, ¬ inB c.nx o.1) /\ (∀ x ∈ R, ¬ inB x.1 o.1) /\ ∀ p ∈ l, p.1 ≠ o.1

section
variable {wB u u' : World} {l : List (Nat × List Value)} {R : List (Sl × List Int)} {O : List (Nat × Obj)} {ns t : Sl} {T : List Int} {cs : List NdC} {N : List Nd}

theorem V.nxlt (h : V wB u l R O ns t T cs N) {c : NdC} (hc : c ∈ cs) {b : Nat} (hb : inB c.nx b) : b < u.heap.size := by
  obtain ⟨i, hi, rfl⟩ := List.mem_iff_getElem.1 hc
  have hl := h.nv.len
  exact (h.nv.at (List.getElem?_eq_getElem hi) (List.getElem?_eq_getElem (by omega))).nx.lt hb

theorem V.olt (h : V wB u l R O ns t T cs N) {o : Nat × Obj} (ho : o ∈ O) : o.1 < u.heap.size := (Array.getElem?_eq_some_iff.1 (h.ob o ho).1).1

theorem V.fr (h : V wB u l R O ns t T cs N) (hf : Fr F0 u u') : V wB u' l R O ns t T cs N :=
  ⟨h.m.fr hf, fun x hx => (h.r x hx).fr hf, h.ow.fr hf, h.tv.fr hf, h.nv.imp fun _ _ _ ho => ho.fr hf, h.a1, fun x hx b hb => ⟨Nat.lt_of_lt_of_le (h.a2 x hx b hb).1 hf.1, (h.a2 x hx b hb).2⟩, h.a3, h.n0, h.n1, h.n2, h.a4, fun o ho => ⟨by rw [hf.2.1 _ (h.olt ho) fun h => h]; exact (h.ob o ho).1, (h.ob o ho).2⟩⟩

theorem V.drew (h : V wB u l R O ns t T cs N) : V wB u.drew l R O ns t T cs N := h.fr Fr.drew

theorem V.allocL {vs : List Value} {e : TypeId} (h : V wB u l R O ns t T cs N) : V wB (u.alloc (Obj.cells vs.toArray e)) ((u.heap.size, vs) :: l) R O ns t T cs N := by
  have hf : Fr F0 u (u.alloc (Obj.cells vs.toArray e)) := Fr.alloc
  have h' := h.fr hf
  refine ⟨h.m.allocL, h'.r, h'.ow, h'.tv, h'.nv, fun p hp => ?_, fun x hx b hb => ⟨(h'.a2 x hx b hb).1, (h.a2 x hx b hb).2.1, fun p hp => ?_⟩, h.a3, h.n0, h.n1, h.n2, h.a4, fun o ho => ⟨(h'.ob o ho).1, (h.ob o ho).2.1, (h.ob o ho).2.2.1, (h.ob o ho).2.2.2.1, (h.ob o ho).2.2.2.2.1, (h.ob o ho).2.2.2.2.2.1, fun p hp => ?_⟩⟩
  · rcases List.mem_cons.1 hp with rfl | hp
    · exact ⟨fun hb => by have := h.ow.lt hb; simp at this, fun hb => by have := h.tv.lt hb; simp at this, fun c hc hb => by have := h.nxlt hc hb; simp at this⟩
    · exact h.a1 p hp
  · rcases List.mem_cons.1 hp with rfl | hp
    · have := (h.a2 x hx b hb).1
      simp only
      omega
    · exact (h.a2 x hx b hb).2.2 p hp
  · rcases List.mem_cons.1 hp with rfl | hp
    · have := h.olt ho
      simp only
      omega
    · exact (h.ob o ho).2.2.2.2.2.2 p hp

theorem V.ld {b i : Nat} {vs : List Value} {v : Value} (h : V wB u l R O ns t T cs N) (j : Nat) (hj : l[j]? = some (b, vs)) (hv : vs[i]? = some v) : u.cell? ⟨b, i, none⟩ = some v := h.m.ld j hj hv
theorem V.wr {b i : Nat} {vs : List Value} (h : V wB u l R O ns t T cs N) (j : Nat) (hj : l[j]? = some (b, vs)) (hi : Nat.blt i vs.length = true) : wrOk u ⟨b, i, none⟩ := h.m.wr j hj hi

/-- A cell of a variable is stored. -/
theorem V.set {b i : Nat} {vs : List Value} {v : Value} (h : V wB u l R O ns t T cs N) (j : Nat) (hj : l[j]? = some (b, vs)) : V wB (u.setCell ⟨b, i, none⟩ v) (l.set j (b, vs.set i v)) R O ns t T cs N := by
  have hmem := List.mem_of_getElem? hj
  have hf : Fr (fun c => c = b) u (u.setCell ⟨b, i, none⟩ v) := Fr.set rfl
  obtain ⟨q1, q2, q3⟩ := h.a1 _ hmem
  have hmap : ∀ p ∈ l.set j (b, vs.set i v), ∃ q ∈ l, q.1 = p.1 := by
    intro p hp
    rcases List.mem_or_eq_of_mem_set hp with hp | rfl
    · exact ⟨p, hp, rfl⟩
    · exact ⟨_, hmem, rfl⟩
  refine ⟨h.m.set j hj, fun x hx => (h.r x hx).frF hf fun c hc e => (h.a2 x hx c hc).2.2 _ hmem e.symm, h.ow.frF hf fun c hc e => q1 (e ▸ hc), h.tv.frF hf fun c hc e => q2 (e ▸ hc), h.nv.imp fun c hc l ho => ho.frF hf fun d hd e => q3 c hc (e ▸ hd), fun p hp => ?_, fun x hx c hc => ?_, h.a3, h.n0, h.n1, h.n2, h.a4, fun o ho => ⟨?_, (h.ob o ho).2.1, (h.ob o ho).2.2.1, (h.ob o ho).2.2.2.1, (h.ob o ho).2.2.2.2.1, (h.ob o ho).2.2.2.2.2.1, fun p hp => ?_⟩⟩
  · obtain ⟨q, hq, e⟩ := hmap p hp
    rw [← e]
    exact h.a1 q hq
  · refine ⟨by simpa using (h.a2 x hx c hc).1, (h.a2 x hx c hc).2.1, fun p hp => ?_⟩
    obtain ⟨q, hq, e⟩ := hmap p hp
    rw [← e]
    exact (h.a2 x hx c hc).2.2 q hq
  · rw [hf.2.1 _ (h.olt ho) fun e => (h.ob o ho).2.2.2.2.2.2 _ hmem e.symm]
    exact (h.ob o ho).1
  · obtain ⟨q, hq, e⟩ := hmap p hp
    rw [← e]
    exact (h.ob o ho).2.2.2.2.2.2 q hq

/-- The older variables alone. -/
theorem V.dr {k : List (Nat × List Value)} (h : V wB u l R O ns t T cs N) (n : Nat) (hk : l.drop n = k) : V wB u k R O ns t T cs N := by
  refine ⟨h.m.dr n hk, h.r, h.ow, h.tv, h.nv, fun p hp => h.a1 p ?_, fun x hx b hb => ⟨(h.a2 x hx b hb).1, (h.a2 x hx b hb).2.1, fun p hp => (h.a2 x hx b hb).2.2 p ?_⟩, h.a3, h.n0, h.n1, h.n2, h.a4, fun o ho => ⟨(h.ob o ho).1, (h.ob o ho).2.1, (h.ob o ho).2.2.1, (h.ob o ho).2.2.2.1, (h.ob o ho).2.2.2.2.1, (h.ob o ho).2.2.2.2.2.1, fun p hp => (h.ob o ho).2.2.2.2.2.2 p ?_⟩⟩ <;>
    (subst hk; exact List.mem_of_mem_drop hp)

/-- Fewer slices. -/
theorem V.dR {Q : List (Sl × List Int)} (h : V wB u l R O ns t T cs N) (hq : ∀ x ∈ Q, x ∈ R) : V wB u l Q O ns t T cs N :=
  ⟨h.m, fun x hx => h.r x (hq x hx), h.ow, h.tv, h.nv, h.a1, fun x hx => h.a2 x (hq x hx), h.a3, h.n0, h.n1, h.n2, h.a4, fun o ho => ⟨(h.ob o ho).1, (h.ob o ho).2.1, (h.ob o ho).2.2.1, (h.ob o ho).2.2.2.1, (h.ob o ho).2.2.2.2.1, fun x hx => (h.ob o ho).2.2.2.2.2.1 x (hq x hx), (h.ob o ho).2.2.2.2.2.2⟩⟩

/-- Fewer objects. -/
theorem V.dO {Q : List (Nat × Obj)} (h : V wB u l R O ns t T cs N) (hq : ∀ x ∈ Q, x ∈ O) : V wB u l R Q ns t T cs N :=
  ⟨h.m, h.r, h.ow, h.tv, h.nv, h.a1, h.a2, h.a3, h.n0, h.n1, h.n2, h.a4, fun o ho => h.ob o (hq o ho)⟩

/-- A slice that has been made since u. -/
theorem V.add {s : Sl} {x : List Int} (h : V wB u l R O ns t T cs N) (hs : Mk u 1 (ie .i64 id) u' s x) : V wB u' l ((s, x) :: R) O ns t T cs N := by
  have h' := h.fr hs.fr0
  refine ⟨h'.m, fun y hy => ?_, h'.ow, h'.tv, h'.nv, h.a1, fun y hy b hb => ?_, h.a3, h.n0, h.n1, h.n2, h.a4, fun o ho => ⟨(h'.ob o ho).1, (h.ob o ho).2.1, (h.ob o ho).2.2.1, (h.ob o ho).2.2.2.1, (h.ob o ho).2.2.2.2.1, fun y hy => ?_, (h.ob o ho).2.2.2.2.2.2⟩⟩
  · rcases List.mem_cons.1 hy with rfl | hy
    · exact hs.vw
    · exact h'.r y hy
  · rcases List.mem_cons.1 hy with rfl | hy
    · have hn := hs.nw b hb
      refine ⟨hs.ow.lt hb, fun hc => ?_, fun p hp e => ?_⟩
      · have := h.ow.lt hc; omega
      · have := (h.m.2.1 p hp).lt; omega
    · exact h'.a2 y hy b hb
  · rcases List.mem_cons.1 hy with rfl | hy
    · intro hb
      have := hs.nw _ hb
      have := h.olt ho
      omega
    · exact (h.ob o ho).2.2.2.2.2.1 y hy

/-- A node is appended. -/
theorem V.push {c : NdC} {n : Nd} {bytes : Nat} {zero : List Value} {e e' : Nat} {K : SW} (h : V wB u l R O ns t T cs N) (hn : NdOk u c n) (hnil : ∀ b, ¬ inB c.nx b) (hz : zero.length = 4) (hb : (cs.length + 1) * bytes <= 2 ^ 47) (hm : cs.length + 1 < 2 ^ 63)
    (hK : ∀ r u', V wB u' l R O r t T (cs ++ [c]) (N ++ [n]) -> K r u') : apS 4 bytes zero e ns ⟨some ⟨u.heap.size, 0, none⟩, 1, 1⟩ (u.alloc (Obj.cells (encN c).toArray e')) K := by
  have hf : Fr F0 u (u.alloc (Obj.cells (encN c).toArray e')) := Fr.alloc
  have h' := h.fr hf
  refine h'.ow.app (m := [c]) (Vw.new rfl rfl) encN_ok hz hb hm fun r u2 ho hf2 hi => hK r u2 ?_
  have hin : ∀ b, inB r b -> inB ns b \/ u.heap.size <= b := fun b hb => (hi b hb).imp_right fun h => Nat.le_trans hf.1 h
  have hmem : ∀ d ∈ cs ++ [c], d ∈ cs \/ d = c := fun d hd => by
    rcases List.mem_append.1 hd with h | h
    · exact .inl h
    · exact .inr (List.mem_singleton.1 h)
  refine ⟨h'.m.frF hf2 (fun p hp => (h.a1 p hp).1) h.n0, fun x hx => (h'.r x hx).frF hf2 fun b hb => (h.a2 x hx b hb).2.1, ho, h'.tv.frF hf2 fun b hb hc => (h.a3 b hc).1 hb, ?_, fun p hp => ⟨fun hc => ?_, (h.a1 p hp).2.1, fun d hd => ?_⟩, fun x hx b hb => ⟨Nat.lt_of_lt_of_le (h'.a2 x hx b hb).1 hf2.1, fun hc => ?_, (h.a2 x hx b hb).2.2⟩, fun b hc => ⟨fun hb => ?_, fun d hd hb => ?_⟩, fun b hb => ?_, h.n1, fun d hd b hb => ?_, fun d hd b hb => ?_, fun o ho => ⟨?_, (h.ob o ho).2.1, fun hc => ?_, (h.ob o ho).2.2.2.1, fun d hd => ?_, (h.ob o ho).2.2.2.2.2⟩⟩
  · exact (h'.nv.imp fun d hd l ho => ho.frF hf2 fun b hb hc => (h.a3 b hc).2 d hd hb).append ⟨⟨hn.lot, hn.num, hn.den, (hn.nx.fr hf).frF hf2 fun b hb => absurd hb (hnil b)⟩, trivial⟩
  · rcases hin _ hc with hc | hc
    · exact (h.a1 p hp).1 hc
    · have := (h.m.2.1 p hp).lt; omega
  · rcases hmem d hd with hd | rfl
    · exact (h.a1 p hp).2.2 d hd
    · exact hnil _
  · rcases hin _ hc with hc | hc
    · exact (h.a2 x hx b hb).2.1 hc
    · have := (h.a2 x hx b hb).1; omega
  · rcases hin _ hc with hc | hc
    · exact (h.a3 b hc).1 hb
    · have := h.tv.lt hb; omega
  · rcases hmem d hd with hd | rfl
    · rcases hin _ hc with hc | hc
      · exact (h.a3 b hc).2 d hd hb
      · have := h.nxlt hd hb; omega
    · exact hnil _ hb
  · rcases hin _ hb with hb | hb
    · exact h.n0 b hb
    · exact Nat.le_trans h.m.1.1 hb
  · rcases hmem d hd with hd | rfl
    · exact h.n2 d hd b hb
    · exact absurd hb (hnil b)
  · rcases hmem d hd with hd | rfl
    · exact h.a4 d hd b hb
    · exact absurd hb (hnil b)
  · rw [hf2.2.1 _ (h'.olt ho) (h.ob o ho).2.2.1]
    exact (h'.ob o ho).1
  · rcases hin _ hc with hc | hc
    · exact (h.ob o ho).2.2.1 hc
    · have := h.olt ho; omega
  · rcases hmem d hd with hd | rfl
    · exact (h.ob o ho).2.2.2.2.1 d hd
    · exact hnil _

/-- An object of one's own. -/
theorem V.newO {o : Obj} (h : V wB u l R O ns t T cs N) : V wB (u.alloc o) l R ((u.heap.size, o) :: O) ns t T cs N := by
  have hf : Fr F0 u (u.alloc o) := Fr.alloc
  have h' := h.fr hf
  refine ⟨h'.m, h'.r, h'.ow, h'.tv, h'.nv, h'.a1, h'.a2, h'.a3, h'.n0, h'.n1, h'.n2, h'.a4, fun q hq => ?_⟩
  rcases List.mem_cons.1 hq with rfl | hq
  · refine ⟨World.alloc_heap_new _ _, h.m.1.1, fun hb => ?_, fun hb => ?_, fun c hc hb => ?_, fun x hx hb => ?_, fun p hp e => ?_⟩
    · have := h.ow.lt hb; simp at this
    · have := h.tv.lt hb; simp at this
    · have := h.nxlt hc hb; simp at this
    · have := (h.a2 x hx _ hb).1; simp at this
    · have := (h.m.2.1 p hp).lt
      simp only at e
      omega
  · exact h'.ob q hq

/-- An object of one's own is put anew. -/
theorem V.put {b : Nat} {o o' : Obj} (h : V wB u l R ((b, o) :: O) ns t T cs N) (hn : ∀ q ∈ O, q.1 ≠ b) : V wB (u.putObj b o') l R ((b, o') :: O) ns t T cs N := by
  have hf : Fr (fun c => c = b) u (u.putObj b o') := ⟨by simp, fun c _ hn => World.putObj_heap_other fun he => hn he, rfl, rfl, rfl⟩
  obtain ⟨q0, q1, q2, q3, q4, q5, q6⟩ := h.ob _ (List.mem_cons_self ..)
  have hlt := h.olt (List.mem_cons_self ..)
  refine ⟨h.m.frF hf (fun p hp e => q6 p hp e) fun c hc => hc ▸ q1, fun x hx => (h.r x hx).frF hf fun c hc e => q5 x hx (e ▸ hc), h.ow.frF hf fun c hc e => q2 (e ▸ hc), h.tv.frF hf fun c hc e => q3 (e ▸ hc), h.nv.imp fun c hc l ho => ho.frF hf fun d hd e => q4 c hc (e ▸ hd), h.a1, fun x hx c hc => ⟨by simpa using (h.a2 x hx c hc).1, (h.a2 x hx c hc).2⟩, h.a3, h.n0, h.n1, h.n2, h.a4, fun q hq => ?_⟩
  rcases List.mem_cons.1 hq with rfl | hq
  · exact ⟨World.putObj_heap_same hlt, q1, q2, q3, q4, q5, q6⟩
  · have hq' := h.ob q (List.mem_cons_of_mem _ hq)
    refine ⟨?_, hq'.2⟩
    rw [hf.2.1 _ (h.olt (List.mem_cons_of_mem _ hq)) (hn q hq)]
    exact hq'.1
end
end Go.Proofs.Ytmkjcheafdionaa
