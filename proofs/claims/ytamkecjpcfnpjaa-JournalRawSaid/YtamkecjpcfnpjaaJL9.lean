/- The law JournalFull returns true. Conditions: none. -/
import Derived.Test.YtamkecjpcfnpjaaJL8
namespace Go.Proofs.Ytamkecjpcfnpjaa
open Go Pw

section
variable {w0 w : World} {b jb e n : Nat} {st : DS} {rs : List (List UInt8)} {O : Nat → Prop}

theorem mkS_own {N : Nat} {K : SW} (hN : N ≤ 2 ^ 40) (hK : ∀ r w', OwnV 1 w' r ((List.replicate N (0 : UInt8)).map bv) → r.c = N → Fr F0 w w' → (∀ c, inB r c → w.heap.size ≤ c) → K r w') : mkS 1 [(Value.int .u8 (0 : Int))] 5 (N : Int) (N : Int) w K := by
  refine ⟨by omega, Int.le_refl _, by omega, by omega, ?_⟩
  have hz : rowZ [Value.int .u8 0] ((N : Int).toNat * [Value.int .u8 (0 : Int)].length) = (List.replicate N (0 : UInt8)).map bv := by
    rw [rowZ_u8]; simp
  rw [hz]
  refine hK _ _ ⟨by simp [newSl], .inr ⟨w.heap.size, (List.replicate N (0 : UInt8)).map bv, by simp [newSl], Row.new, by simp [newSl], by simp [newSl], List.take_length⟩⟩ (by simp [newSl]) Fr.alloc fun c hc => ?_
  obtain ⟨a, ha, rfl⟩ := hc
  simp only [newSl, Option.some.injEq] at ha
  rw [← ha]
  exact Nat.le_refl _

theorem pre_rd {s : Sl} {L : List UInt8} {k : Nat} (h : OwnV 1 w s (L.map bv)) (hk : k ≤ L.length) : rdC w (subP s.p 0 s.c 1) k ((L.take k).map bv) := by
  obtain ⟨hl, h⟩ := h
  simp at hl
  rcases h with ⟨hp, h0, hc0⟩ | ⟨bb, cs, hp, hr, hcs, hle, ht⟩
  · have : k = 0 := by omega
    subst this
    refine ⟨by simp, ?_⟩
    rw [hp]
    unfold subP
    split
    · rfl
    · intro i hi; simp at hi
  · have e : subP s.p 0 s.c 1 = some ⟨bb, 0, none⟩ := by
      unfold subP
      rw [hp]
      split
      · rfl
      · simp
    rw [e]
    refine ⟨by simp; omega, fun i hi => ?_⟩
    simp at hi
    rw [add_mk, Nat.zero_add, hr.cell]
    have h1 : (cs.take (L.map bv).length)[i]? = (L.map bv)[i]? := by rw [ht]
    rw [List.getElem?_take] at h1
    have h2 : i < (L.map bv).length := by simp; omega
    rw [if_pos h2] at h1
    rw [h1]
    rw [List.getElem?_eq_getElem h2]
    simp

theorem JC.app2 {r : ByteArray} {K : Int → World → Prop} (h : JC w0 w b jb st rs e O n) (hn : n ≤ 2 ^ 29) (hsz : r.size ≤ 2 ^ 24) (hby : byt rs ≤ 2 ^ 24)
    (hno : 2 ^ 24 < byt rs + r.size + 272 → ∀ w', JC w0 w' b jb st rs e O n → Fr F0 w w' → K 2 w')
    (hyes : byt rs + r.size + 272 ≤ 2 ^ 24 → ∀ w' st' e' O', JC w0 w' b jb st' (rs ++ [bl r]) e' O' (n + 4) → Fr (fun c => O c ∨ c = jb) w w' → (∀ c, O' c → O c ∨ w.heap.size ≤ c) → K 0 w') : journal_Journal_Append_sh (ptr jb) r K w := by
  have he := endOf_byt h.cl.rec1
  have heq := h.cl.en
  have hl := byt_len rs
  by_cases hfit : byt rs + r.size + 272 ≤ 2 ^ 24
  · exact h.append hn hfit fun w' st' e' O' hJ hf hO => hyes hfit w' st' e' O' hJ hf hO
  · refine Append_spec h.jj.di (h.cl.fine h.jj.fine) (by omega) (by omega) h.jj.row h.jj.no (by omega) (by omega) (by omega) (by omega) (by omega) (by omega) (fun hb => by cases hb) (fun _ _ w' hf => hno (by omega) w' (h.fr' hf (fun _ _ h => h) fun _ h => h.elim) hf) (fun _ hm => by omega) fun _ hm => by omega

theorem Full_k3 {f : Int} {K : Bool → World → Prop} (h : JC w0 w b jb st rs e O n) (hf : f = 0 ∨ f = 2) (hK : ∀ w', Fr F0 w0 w' → K true w') : probitylaw27_JournalFull_k3 true (ptr b) (ptr jb) (rs.length : Int) f K w := by
  refine ⟨?_⟩
  unfold probitylaw27_JournalFull_k3d
  refine Crash_DI (surv := []) h.jj.di h.jj.fine (by omega) rdC_nil fun w1 hd1 hf1 => ?_
  refine Open_JJ hd1 ((fine_crash h.jj.fine _).mono (n' := 0) (Nat.le_refl _) (by omega)) (by omega) (rs := rs) (clean_crash_of h.cl []) (by simp [crashDS]) fun w2 O2 kb s2 hJ2 hC2 hs2 hsB2 hkb2 hf2 hO2 => ?_
  have z1 := hf1.1
  have f2 : Fr F0 w w2 := hf1.trans hf2 fun c hc hlt => by omega
  have h2 := h.fr' f2 (fun _ _ h => h) fun _ h => h.elim
  have hsl := hs2.len
  simp at hsl
  have e1 : ((s2.l : Int) == (rs.length : Int)) = true := by simp; omega
  have fin : journal_Journal_Many_sh (ptr jb) (fun (r26 : Int) (w25 : World) => K (r26 == (rs.length : Int)) w25) w2 := Many_spec h2.jj.row (by
    rw [beq_self_eq_true]
    exact hK w2 h2.fr)
  rcases hf with rfl | rfl
  · simp only [cnd_true, show ((0 : Int) == 0) = true from rfl, e1]
    exact fin
  · simp only [cnd_true, show ((0 : Int) == 0) = true from rfl, show ((2 : Int) == 0) = false from rfl, cnd_false, show ((2 : Int) == 2) = true from rfl, e1]
    exact fin

theorem zero_rd {s : Sl} {N : Nat} {x : Int} {K : ByteArray → Prop} (h : OwnV 1 w s ((List.replicate N (0 : UInt8)).map bv)) (h0 : 0 ≤ x) (hx : x ≤ N) (hK : ∀ r : ByteArray, (r.size : Int) = x → K r) :
    btsS (Sl.mk (subP s.p 0 s.c 1) (x.toNat - 0) (s.c - 0)) w K := by
  refine btsS_rd (l := (List.replicate N (0 : UInt8)).take x.toNat) (by rw [Nat.sub_zero]; exact pre_rd h (by simp; omega)) (hK _ ?_)
  rw [← bl_length, bl_ofL]
  simp
  omega

theorem Full_k2 {last : Int} {s : Sl} {K : Bool → World → Prop} (h : JC w0 w b jb st rs e O n) (hn : n ≤ 2 ^ 20) (hby : byt rs ≤ 2 ^ 24) (hl : 0 ≤ last ∧ last < 4294967296) (hs : OwnV 1 w s ((List.replicate 16777216 (0 : UInt8)).map bv)) (hsc : s.c = 16777216)
    (hK : ∀ w', Fr F0 w0 w' → K true w') : probitylaw27_JournalFull_k2 last true (ptr b) (ptr jb) (byt rs : Int) (rs.length : Int) s K w := by
  refine ⟨?_⟩
  unfold probitylaw27_JournalFull_k2d
  have ht : Int.tmod last 16777216 = last % 16777216 := Int.tmod_eq_emod_of_nonneg hl.1
  rw [ht]
  have hx : 0 ≤ last % 16777216 ∧ last % 16777216 < 16777216 := by omega
  generalize last % 16777216 = x at *
  have hlen := byt_len rs
  refine ⟨by decide, inR64 (by omega) (by omega), ⟨by omega, by omega, by omega⟩, zero_rd hs hx.1 (by omega) fun r hr => ?_⟩
  refine h.app2 (by omega) (by omega) hby (fun hno w1 hJ1 hf1 => ?_) fun hyes w1 st1 e1 O1 hJ1 hf1 _ => ?_
  · have hd : decide ((byt rs : Int) + x + 16 + 256 ≤ 16777216) = false := decide_eq_false (by omega)
    refine ⟨inR64 (by omega) (by omega), inR64 (by omega) (by omega), inR64 (by omega) (by omega), ?_⟩
    rw [hd, show ((2 : Int) == 0) = false from rfl]
    simp only [beq_self_eq_true, Bool.not_true, cnd_false]
    exact Full_k3 hJ1 (.inr rfl) hK
  · have hd : decide ((byt rs : Int) + x + 16 + 256 ≤ 16777216) = true := decide_eq_true (by omega)
    refine ⟨inR64 (by omega) (by omega), inR64 (by omega) (by omega), inR64 (by omega) (by omega), ?_⟩
    rw [hd, show ((0 : Int) == 0) = true from rfl]
    simp only [beq_self_eq_true, Bool.not_true, cnd_false, cnd_true]
    refine ⟨inR64 (by omega) (by omega), ?_⟩
    have := Full_k3 (K := K) hJ1 (.inl rfl) hK
    simpa using this

theorem Full_loop {z : Sl} {zs : List Int} {last : Int} {s : Sl} {K : Bool → World → Prop} (hz : rdC w0 z.p z.l (zs.map fun n => .int .u32 n)) (hzw : ∀ n ∈ zs, 0 ≤ n ∧ n < 4294967296) (h : JC w0 w b jb st [] e O 1) (hl : 0 ≤ last ∧ last < 4294967296)
    (hs : OwnV 1 w s ((List.replicate 16777216 (0 : UInt8)).map bv)) (hsc : s.c = 16777216) (hsB : ∀ c, inB s c → ¬ O c ∧ c ≠ jb) (hK : ∀ w', Fr F0 w0 w' → K true w') :
    probitylaw27_JournalFull_l0 z last true (ptr b) (ptr jb) 0 0 s 0 K w := by
  refine ⟨⟨fun by' many t w' => ∃ (i e n : Nat) (st : DS) (rs : List (List UInt8)) (O : Nat → Prop), t = i ∧ i ≤ 6 ∧ many = rs.length ∧ by' = byt rs ∧ byt rs ≤ 2 ^ 24 ∧ n ≤ 10 * i + 10 ∧ rs.length ≤ i ∧ JC w0 w' b jb st rs e O n ∧ OwnV 1 w' s ((List.replicate 16777216 (0 : UInt8)).map bv) ∧ (∀ c, inB s c → ¬ O c ∧ c ≠ jb), fun _ _ t _ => 6 - t.toNat,
    ⟨0, _, 1, _, [], _, rfl, by omega, rfl, rfl, by decide, by omega, by simp, h, hs, hsB⟩, ?_⟩⟩
  rintro by' many t w1 ⟨i, e, n, st, rs, O, rfl, hi6, rfl, rfl, hby, hn, hrl, hI, hs1, hsB1⟩
  have hzl := hz.1
  simp at hzl
  unfold probitylaw27_JournalFull_b0
  rw [cnd_prop]
  refine ⟨fun hlt => ?_, fun _ => Full_k2 hI (by omega) hby hl hs1 hsc hK⟩
  rw [cnd_prop]
  refine ⟨fun hlt6 => ?_, fun _ => Full_k2 hI (by omega) hby hl hs1 hsc hK⟩
  have hiz : i < zs.length := by omega
  obtain ⟨pz, hpz⟩ : ∃ pz, z.p = some pz := by
    cases hp : z.p with
    | none => have := hz.2; rw [hp] at this; simp at this; omega
    | some x => exact ⟨x, rfl⟩
  have c1 := (rdC_fr hz hI.fr fun _ _ h => h).2
  rw [hpz] at c1
  have c1 := c1 i (by simpa using hiz)
  simp only [List.getElem_map] at c1
  have hzi := hzw _ (List.getElem_mem hiz)
  rw [hpz, nz_some, Int.toNat_natCast, Nat.mul_one]
  have ht : Int.tmod (zs[i]) 8388608 = zs[i] % 8388608 := Int.tmod_eq_emod_of_nonneg hzi.1
  have hx : 0 ≤ zs[i] % 8388608 ∧ zs[i] % 8388608 < 8388608 := by omega
  refine ⟨⟨by omega, by omega⟩, zs[i], c1, by decide, ?_⟩
  rw [ht]
  generalize zs[i] % 8388608 = x at *
  refine ⟨inR64 (by omega) (by omega), ⟨by omega, by omega, by omega⟩, zero_rd hs1 hx.1 (by omega) fun r hr => ?_⟩
  refine hI.app2 (by omega) (by omega) hby (fun hno w2 hJ2 hf2 => ?_) fun hyes w2 st2 e2 O2 hJ2 hf2 hOO => ?_
  · refine ⟨inR64 (by omega) (by omega), inR64 (by omega) (by omega), inR64 (by omega) (by omega), ?_⟩
    rw [cnd_prop]
    refine ⟨fun _ => ⟨?_⟩, fun hle => absurd (by omega) hle⟩
    unfold probitylaw27_JournalFull_k1d
    rw [show ((2 : Int) != 2) = false from rfl, cnd_false, show ((2 : Int) == 0) = false from rfl, cnd_false]
    exact ⟨inR64 (by omega) (by omega), ⟨by simp, i + 1, e, n, st, rs, O, by omega, by omega, rfl, rfl, hby, by omega, by omega, hJ2, hs1.fr hf2 fun _ _ h => h, hsB1⟩, by dsimp only; omega⟩
  · refine ⟨inR64 (by omega) (by omega), inR64 (by omega) (by omega), inR64 (by omega) (by omega), ?_⟩
    rw [cnd_prop]
    refine ⟨fun hgt => absurd hgt (by omega), fun _ => ⟨?_⟩⟩
    unfold probitylaw27_JournalFull_k1d
    rw [show ((0 : Int) != 0) = false from rfl, cnd_false, show ((0 : Int) == 0) = true from rfl, cnd_true]
    have hb2 : byt (rs ++ [bl r]) = byt rs + (r.size + 16) := by rw [byt_append]; simp [byt, bl_length]
    have hlen := byt_len rs
    have hO2 : ∀ c, inB s c → ¬ O2 c ∧ c ≠ jb := fun c hc => ⟨fun h => by
      rcases hOO c h with h' | h'
      · exact (hsB1 c hc).1 h'
      · have := hs1.lt hc; omega, (hsB1 c hc).2⟩
    exact ⟨inR64 (by omega) (by omega), inR64 (by omega) (by omega), inR64 (by omega) (by omega), inR64 (by omega) (by omega), ⟨by simp, i + 1, e2, _, st2, _, O2, by omega, by omega, by simp, by rw [hb2]; omega, by rw [hb2]; omega, by omega, by simp; omega, hJ2, hs1.fr hf2 fun c hc h => by
      rcases h with h | h
      · exact (hsB1 c hc).1 h
      · exact (hsB1 c hc).2 h, hO2⟩, by dsimp only; omega⟩

theorem Full_law {z : Sl} {zs : List Int} {last : Int} {K : Bool → World → Prop} (hz : rdC w0 z.p z.l (zs.map fun n => .int .u32 n)) (hzw : ∀ n ∈ zs, 0 ≤ n ∧ n < 4294967296) (hl : 0 ≤ last ∧ last < 4294967296) (hK : ∀ w', Fr F0 w0 w' → K true w') : probitylaw27_JournalFull_sh z last K w0 := by
  refine ⟨?_⟩
  unfold probitylaw27_JournalFull_sd
  refine sanity_spec fun w1 hf1 => start_JC fun w2 b hd2 hf2 hb => open_JC hf1 hd2 hf2 hb fun w3 jb st e O s0 hJ3 => ?_
  rw [show ((0 : Int) != 0) = false from rfl, cnd_false, show (ptr jb).isNone = false from rfl, cnd_false]
  refine mkS_own (N := 16777216) (by omega) fun s w4 hs hsc hf4 hsB => ?_
  have hlt := hJ3.jj.di.lt
  have hjl := hJ3.jj.row.lt
  exact Full_loop hz hzw (hJ3.fr' hf4 (fun _ _ h => h) fun _ h => h.elim) hl hs hsc (fun c hc => ⟨fun h => by have := hsB c hc; have := hlt c h; omega, fun h => by have := hsB c hc; omega⟩) hK
end
end Go.Proofs.Ytamkecjpcfnpjaa
