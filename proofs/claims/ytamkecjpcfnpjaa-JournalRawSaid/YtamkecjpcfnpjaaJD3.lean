/- The program's disk, continued: Write. Conditions: none. -/
import Derived.Test.YtamkecjpcfnpjaaJD2
namespace Go.Proofs.Ytamkecjpcfnpjaa
open Go Pw

/-- The parts of a Write: cut at each 64th byte. -/
def splitF : Nat → Nat → List UInt8 → List (Nat × List UInt8)
  | 0, _, _ => []
  | f + 1, off, s => if s.length = 0 then [] else (off, s.take (64 - off % 64)) :: splitF f (off + min (64 - off % 64) s.length) (s.drop (64 - off % 64))

def splitL (off : Nat) (s : List UInt8) : List (Nat × List UInt8) := splitF s.length off s

theorem splitF_eq : ∀ (f g off : Nat) (s : List UInt8), s.length ≤ f → s.length ≤ g → splitF f off s = splitF g off s
  | 0, 0, _, _, _, _ => rfl
  | 0, g + 1, off, s, h, _ => by
    have : s.length = 0 := by omega
    simp [splitF, this]
  | f + 1, 0, off, s, _, h => by
    have : s.length = 0 := by omega
    simp [splitF, this]
  | f + 1, g + 1, off, s, h1, h2 => by
    unfold splitF
    split
    · rfl
    · congr 1
      have := Nat.mod_lt off (by decide : 64 > 0)
      exact splitF_eq f g _ _ (by simp; omega) (by simp; omega)

theorem splitL_cons {off : Nat} {s : List UInt8} (h : 0 < s.length) : splitL off s = (off, s.take (64 - off % 64)) :: splitL (off + min (64 - off % 64) s.length) (s.drop (64 - off % 64)) := by
  unfold splitL
  obtain ⟨f, hf⟩ : ∃ f, s.length = f + 1 := ⟨s.length - 1, by omega⟩
  have h0 : ¬ s.length = 0 := by omega
  have := Nat.mod_lt off (by decide : 64 > 0)
  rw [splitF_eq s.length (f + 1) off s (by omega) (by omega)]
  rw [show splitF (f + 1) off s = if s.length = 0 then [] else (off, s.take (64 - off % 64)) :: splitF f (off + min (64 - off % 64) s.length) (s.drop (64 - off % 64)) from rfl, if_neg h0]
  congr 1
  exact splitF_eq _ _ _ _ (by simp; omega) (by simp)

theorem splitL_nil {off : Nat} : splitL off [] = [] := rfl

def writeDS (st : DS) (off : Nat) (s : List UInt8) : DS := { callDS st with now := putL st.now off s, pcs := st.pcs ++ splitL off s }

theorem putL_length (c : List UInt8) (off : Nat) (s : List UInt8) : (putL c off s).length = max c.length (off + s.length) := by
  simp [putL, spB]; omega

section
variable {w : World} {b : Nat} {st : DS} {O : Nat → Prop}

theorem RB.mono {w : World} {now syn : List UInt8} {pcs : List (Nat × List UInt8)} {n y q : Sl} {ps : List (Nat × Sl)} {O' : Nat → Prop} (h : RB w b now syn pcs n y q ps O) (ho : ∀ c, O c → O' c) : RB w b now syn pcs n y q ps O' :=
  ⟨h.hn, h.hy, h.hq, h.hlen, h.hps, ho b h.ob, fun c hc => ⟨ho c (h.on c hc).1, (h.on c hc).2⟩, fun c hc => ⟨ho c (h.oy c hc).1, (h.oy c hc).2⟩, fun c hc => ⟨ho c (h.oq c hc).1, (h.oq c hc).2⟩,
    fun p hp c hc => ⟨ho c (h.op p hp c hc).1, (h.op p hp c hc).2⟩⟩

theorem nw_trans {w0 w1 w2 : World} (h1 : w0.heap.size ≤ w1.heap.size) (h2 : w1.heap.size ≤ w2.heap.size) {c : Nat} (h : nw (nw O w0 w1) w1 w2 c) : nw O w0 w2 c := by
  rcases h with (h | h) | h
  · exact .inl h
  · exact .inr ⟨h.1, by omega⟩
  · exact .inr ⟨by omega, h.2⟩

theorem fr_nw {w0 w1 w2 : World} (h1 : Fr O w0 w1) (h2 : Fr (nw O w0 w1) w1 w2) : Fr O w0 w2 := h1.trans h2 fun c h hlt => by
  rcases h with h | h
  · exact h
  · omega

/-- The contents of a disk replaced. -/
theorem RB.setNow {w w' : World} {now syn now' : List UInt8} {pcs : List (Nat × List UInt8)} {n y q r : Sl} {ps : List (Nat × Sl)} (h : RB w b now syn pcs n y q ps O)
    (hr : OwnV 1 w' r (now'.map bv)) (hf : Fr (fun c => c = b ∨ inB n c) w w') (hrB : ∀ c, inB r c → inB n c ∨ (w.heap.size ≤ c ∧ c < w'.heap.size)) (hbl : b < w.heap.size) : RB w' b now' syn pcs r y q ps (nw O w w') := by
  have notr : ∀ c, c < w.heap.size → ¬ inB n c → ¬ inB r c := fun c hlt hn hr => by
    rcases hrB c hr with h | h
    · exact hn h
    · omega
  constructor
  · exact hr
  · exact h.hy.fr hf fun c hc hF => by
      rcases hF with hF | hF
      · exact (h.oy c hc).2.1 hF
      · exact (h.oy c hc).2.2 hF
  · exact h.hq.fr hf fun c hc hF => by
      rcases hF with hF | hF
      · exact (h.oq c hc).2.1 hF
      · exact (h.oq c hc).2.2.1 hF
  · exact h.hlen
  · intro i hi hi'
    refine ⟨(h.hps i hi hi').1, (h.hps i hi hi').2.fr hf fun c hc hF => ?_⟩
    have := h.op _ (List.getElem_mem hi) c hc
    rcases hF with hF | hF
    · exact this.2.1 hF
    · exact this.2.2.1 hF
  · exact .inl h.ob
  · intro c hc
    rcases hrB c hc with hn | hn
    · exact ⟨.inl (h.on c hn).1, (h.on c hn).2⟩
    · exact ⟨.inr hn, by omega⟩
  · intro c hc
    have := h.oy c hc
    exact ⟨.inl this.1, this.2.1, notr c (h.hy.lt hc) this.2.2⟩
  · intro c hc
    have := h.oq c hc
    exact ⟨.inl this.1, this.2.1, notr c (h.hq.lt hc) this.2.2.1, this.2.2.2⟩
  · intro p hp c hc
    obtain ⟨i, hi, rfl⟩ := List.mem_iff_getElem.1 hp
    have := h.op _ (List.getElem_mem hi) c hc
    have hlt := (h.hps i hi (by have := h.hlen; omega)).2.lt hc
    exact ⟨.inl this.1, this.2.1, notr c hlt this.2.2.1, this.2.2.2⟩

theorem Write_spec {K : Int → World → Prop} {off : Int} {s : ByteArray} (h : Rep w b st O) (hlen : st.now.length ≤ 2 ^ 25) (hpl : st.pcs.length ≤ 2 ^ 29) (h0 : 0 ≤ st.calls) (h1 : st.calls ≤ 2 ^ 40)
    (hlim : ∀ v, st.lim = some v → -2 ^ 62 ≤ v ∧ v ≤ 2 ^ 62)
    (hbad : (off < 0 ∨ off > 16777216 ∨ (s.size : Int) > 16777216 - off) → K 1 w)
    (hoff : 0 ≤ off → off + s.size ≤ 16777216 → st.lim = some 0 → K 70 w)
    (hon : 0 ≤ off → off + s.size ≤ 16777216 → st.lim ≠ some 0 → ∀ w', Rep w' b (writeDS st off.toNat (bl s)) (nw O w w') → Fr O w w' → K 0 w') : disk_Disk_Write_sh (ptr b) off s K w := by
  refine ⟨?_⟩
  unfold disk_Disk_Write_sd
  simp only [show (ptr b).isNone = false from rfl, cnd_false, cnd_prop]
  refine ⟨fun h => hbad (.inl h), fun hg1 => ⟨fun h => hbad (.inr (.inl h)), fun hg2 => ⟨inR64 (by omega) (by omega), fun h => hbad (.inr (.inr h)), fun hg3 => ?_⟩⟩⟩
  refine call_spec h h0 h1 hlim (fun hl => ?_) fun hl w1 hrep hf1 => ?_
  · rw [cnd_bne]
    exact ⟨fun _ => hoff (by omega) (by omega) hl, fun h => by cases h⟩
  rw [cnd_bne]
  refine ⟨fun h => (h rfl).elim, fun _ => ?_⟩
  obtain ⟨n, y, q, ps, left, hr, hle, hb⟩ := hrep.ex
  obtain ⟨k, rfl⟩ : ∃ k : Nat, off = k := ⟨off.toNat, by omega⟩
  have hbl := bl_length s
  simp only [ptr, nz_some]
  refine ⟨n, hr.at rfl, ?_⟩
  refine stbS_own (fun _ => False) fun t w2 htO htl hf2 htB => ?_
  have hn2 := hb.hn.fr hf2 fun _ _ h => h
  have hr2 := hf2.row hr fun h => h
  have hb2 : RB w2 b _ _ _ n y q ps O := hb.fr hf2 fun _ _ h => h.elim
  have hnlt : ∀ c, inB n c → c < w1.heap.size := fun c hc => hb.hn.lt hc
  refine put_spec (l := st.now) (m := bl s) hn2 htO.rd (fun c hc hn => absurd (hnlt c hn) (by have := htB c hc; omega)) (by omega) (by omega) fun r w7 hrO hf7 hrB => ?_
  have hnb : ¬ inB n b := fun hc => (hb.on b hc).2 rfl
  have hr7 := hf7.row hr2 hnb
  refine ⟨hr7.wr (by simp [dRow]), ?_⟩
  have hr10 := hr7.set 0 (.slice r.p r.l r.c)
  have hfs : Fr (fun c => c = b) w7 (w7.setCell ⟨b, 0, none⟩ (.slice r.p r.l r.c)) := Fr.set rfl
  have hf27 : Fr (fun c => c = b ∨ inB n c) w2 (w7.setCell ⟨b, 0, none⟩ (.slice r.p r.l r.c)) := (hf7.mono fun c h => .inr h).trans hfs fun c h _ => .inl h
  have hrblt : ∀ c, inB r c → inB n c ∨ (w2.heap.size ≤ c ∧ c < (w7.setCell ⟨b, 0, none⟩ (.slice r.p r.l r.c)).heap.size) := fun c hc => by
    rcases hrB c hc with h | h
    · exact .inl h
    · exact .inr ⟨h, by simpa using hrO.lt hc⟩
  have hrb : ¬ inB r b := fun hc => by
    rcases hrB b hc with h | h
    · exact hnb h
    · exact absurd hr2.lt (by omega)
  have hb10 := hb2.setNow (hrO.fr hfs fun c hc hF => by subst hF; exact hrb hc) hf27 hrblt hr2.lt
  have hs21 : w1.heap.size ≤ w2.heap.size := hf2.1
  have hf1_10 : Fr O w1 (w7.setCell ⟨b, 0, none⟩ (.slice r.p r.l r.c)) := (hf2.mono fun c h => h.elim).trans hf27 fun c h hlt => by
    rcases h with rfl | h
    · exact hb.ob
    · exact (hb.on c h).1
  generalize w7.setCell ⟨b, 0, none⟩ (.slice r.p r.l r.c) = w10 at *
  have hr10 : Row w10 b (dRow r y q (callDS st).calls (callDS st).lim.isSome left) := hr10
  have hb10 : RB w10 b (putL st.now k (bl s)) st.syn st.pcs r y q ps (nw O w w10) := hb10.mono fun c hc => by
    rcases hc with h | h
    · exact .inl h
    · exact .inr ⟨Nat.le_trans hf1.1 (Nat.le_trans hs21 h.1), h.2⟩
  have hf10 : Fr O w w10 := hf1.trans hf1_10 fun c h _ => h
  have hpsl : ps.length = st.pcs.length := hb10.hlen
  refine ⟨?_⟩
  refine ⟨fun o1 s1 w' => ∃ (k1 : Nat) (pd : List (Nat × List UInt8)) (q' : Sl) (ps' : List (Nat × Sl)), o1 = k1 ∧ Row w' b (dRow r y q' (callDS st).calls (callDS st).lim.isSome left) ∧
      RB w' b (putL st.now k (bl s)) st.syn (st.pcs ++ pd) r y q' ps' (nw O w w') ∧ Fr O w w' ∧ pd ++ splitL k1 (bl s1) = splitL k (bl s) ∧ k1 + s1.size = k + s.size ∧ pd.length + s1.size ≤ s.size,
    fun _ s1 _ => s1.size, ⟨k, [], q, ps, rfl, hr10, by simpa using hb10, hf10, by simp, rfl, by simp⟩, ?_⟩
  rintro o1 s1 w11 ⟨k1, pd, q', ps', rfl, hrx, hbx, hfx, hsp, hks, hpd⟩
  unfold disk_Disk_Write_b0
  have hbl1 := bl_length s1
  rw [cnd_prop]
  constructor
  · intro hpos
    have hmod : Int.tmod (k1 : Int) 64 = ((k1 % 64 : Nat) : Int) := rfl
    have hm64 := Nat.mod_lt k1 (by decide : 64 > 0)
    rw [hmod]
    obtain ⟨c, hc⟩ : ∃ c : Nat, min ((64 : Int) - ((k1 % 64 : Nat) : Int)) (s1.size : Int) = c := ⟨(min ((64 : Int) - ((k1 % 64 : Nat) : Int)) (s1.size : Int)).toNat, by omega⟩
    have hc' : c = min (64 - k1 % 64) s1.size := by omega
    simp only [hc, Int.toNat_natCast]
    refine ⟨by omega, inR64 (by omega) (by omega), fun _ => True, trivial, ?_⟩
    simp only [nz_some, add_mk, Nat.zero_add]
    refine ⟨⟨by omega, by omega, by omega⟩, ?_⟩
    refine stbS_own (fun _ => False) fun t w15 htO htl hf15 htB => ?_
    have hf15' : Fr (fun _ => False) w11 w15 := (Fr.drew (F := fun _ => False)).trans hf15 fun c h _ => h
    have hr15 := hf15'.row hrx fun h => h
    have hb15 : RB w15 b _ _ _ r y q' ps' (nw O w w15) := (hbx.fr hf15' fun _ _ h => h.elim).mono fun c hc => by
      rcases hc with h | h
      · exact .inl h
      · exact .inr ⟨h.1, Nat.lt_of_lt_of_le h.2 hf15'.1⟩
    have hsz : w11.heap.size = w11.drew.heap.size := rfl
    refine add_spec (off := k1) hr15 hb15 htO (by have := hbx.hlen; simp at this; omega) (fun c hc => ?_) fun w16' q'' hr16' hb16' hf16' => ?_
    · have h1 := htB c hc
      have h2 := htO.lt hc
      have hw : w.heap.size ≤ w11.heap.size := hfx.1
      refine ⟨.inr ⟨by omega, h2⟩, fun he => ?_, fun hn => ?_, fun hn => ?_, fun hn => ?_⟩
      · have := hrx.lt; omega
      · have := hbx.hn.lt hn; omega
      · have := hbx.hy.lt hn; omega
      · have := hbx.hq.lt hn; omega
    · refine ⟨inR64 (by omega) (by omega), ⟨by omega, by omega⟩, ?_⟩
      have hfd : Fr (fun _ => False) w16' w16'.drew := Fr.drew
      have hr16 := hfd.row hr16' fun h => h
      have hb16 := hb16'.fr hfd fun _ _ h => h.elim
      have hf16 := hf16'.trans hfd fun c h _ => h.elim
      have hds : w16'.heap.size = w16'.drew.heap.size := rfl
      generalize w16'.drew = w16 at *
      have htake : bl (s1.extract 0 c) = (bl s1).take (64 - k1 % 64) := by
        rw [bl_extract, List.drop_zero]
        by_cases h : 64 - k1 % 64 ≤ s1.size
        · rw [hc', Nat.min_eq_left h]
        · rw [List.take_of_length_le (by omega), List.take_of_length_le (by omega)]
      have hdrop : bl (s1.extract c s1.size) = (bl s1).drop (64 - k1 % 64) := by
        rw [bl_extract, List.take_of_length_le (by omega)]
        by_cases h : 64 - k1 % 64 ≤ s1.size
        · rw [hc', Nat.min_eq_left h]
        · rw [List.drop_of_length_le (by omega), List.drop_of_length_le (by omega)]
      have hsz' : (s1.extract c s1.size).size = s1.size - c := by simp
      have hf11_16 : Fr (fun c => c = b ∨ inB q' c) w11 w16 := (hf15'.mono fun c h => h.elim).trans hf16 fun c h _ => h
      refine ⟨⟨⟨trivial, trivial⟩, k1 + c, pd ++ [(k1, (bl s1).take (64 - k1 % 64))], q'', ps' ++ [(k1, t)], by omega, hr16, ?_, ?_, ?_, by omega, by simp; omega⟩, by omega⟩
      · rw [← List.append_assoc]
        rw [htake] at hb16
        exact RB.mono hb16 fun c hc => nw_trans (Nat.le_trans hfx.1 hf15'.1) hf16.1 (by unfold nw at hc ⊢; rw [← hds]; exact hc)
      · exact hfx.trans hf11_16 fun c h hlt => by
          rcases h with rfl | h
          · rcases hbx.ob with h | h
            · exact h
            · omega
          · rcases (hbx.oq c h).1 with h | h
            · exact h
            · omega
      · rw [List.append_assoc, List.singleton_append, hdrop, ← hsp]
        congr 1
        rw [splitL_cons (s := bl s1) (by omega)]
        congr 2
        omega
  · intro hz
    have hs0 : bl s1 = [] := List.eq_nil_of_length_eq_zero (by omega)
    rw [hs0, splitL_nil, List.append_nil] at hsp
    subst hsp
    exact hon (by omega) (by omega) hl w11 ⟨r, y, q', ps', left, hrx, hle, hbx⟩ hfx
end
end Go.Proofs.Ytamkecjpcfnpjaa
