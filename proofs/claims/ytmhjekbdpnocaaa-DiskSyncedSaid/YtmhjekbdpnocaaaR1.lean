/- The reference model's disk: what each of its functions does, said of bytes. Conditions: none. -/
import Derived.Test.YtmhjekbdpnocaaaD8
namespace Go.Proofs.Ytmhjekbdpnocaaa
open Go Pw

/-- The cells of the reference model's parts. -/
def ppV (ps : List (Nat × List UInt8)) : List Value := ps.flatMap fun p => [.int .i64 p.1, .string (ofL p.2)]

theorem ppV_append (ps qs : List (Nat × List UInt8)) : ppV (ps ++ qs) = ppV ps ++ ppV qs := by simp [ppV]
theorem ppV_length (ps : List (Nat × List UInt8)) : (ppV ps).length = ps.length * 2 := by
  induction ps with
  | nil => rfl
  | cons p ps ih =>
    have : ppV (p :: ps) = [.int .i64 p.1, .string (ofL p.2)] ++ ppV ps := rfl
    rw [this, List.length_append, ih]
    simp; omega

theorem ppV_get : ∀ (ps : List (Nat × List UInt8)) (k : Nat) (h : k < ps.length), (ppV ps)[k * 2]? = some (.int .i64 ps[k].1) ∧ (ppV ps)[k * 2 + 1]? = some (.string (ofL ps[k].2))
  | p :: ps, 0, _ => ⟨rfl, rfl⟩
  | p :: ps, k + 1, h => by
    have ih := ppV_get ps k (by simpa using h)
    have e : ppV (p :: ps) = .int .i64 p.1 :: .string (ofL p.2) :: ppV ps := rfl
    rw [e, show (k + 1) * 2 = k * 2 + 1 + 1 by omega]
    simpa using ih

def rRow (now syn : List UInt8) (q : Sl) (calls left : Int) (f : Bool) : List Value :=
  [.string (ofL now), .string (ofL syn), .slice q.p q.l q.c, .int .i64 calls, .int .i64 left, .bool f]

/-- A disk of the reference model lies at block b: its blocks are among O. -/
structure RR (w : World) (b : Nat) (st : DS) (O : Nat → Prop) : Prop where
  ex : ∃ (q : Sl) (left : Int), Row w b (rRow st.now st.syn q st.calls left st.lim.isSome) ∧ (∀ v, st.lim = some v → left = v) ∧ (-st.calls - 1 ≤ left ∧ left ≤ 2 ^ 62) ∧ OwnV 2 w q (ppV st.pcs) ∧ O b ∧ ∀ c, inB q c → O c ∧ c ≠ b

section
variable {w : World} {b : Nat} {st : DS} {O : Nat → Prop}

theorem RR.fr {w' : World} {F : Nat → Prop} (h : RR w b st O) (hf : Fr F w w') (hd : ∀ c, O c → ¬ F c) : RR w' b st O := by
  obtain ⟨q, left, hr, hl, hn, hq, ho, hB⟩ := h.ex
  exact ⟨q, left, hf.row hr (hd b ho), hl, hn, hq.fr hf fun c hc => hd c (hB c hc).1, ho, hB⟩

theorem RR.mono {O' : Nat → Prop} (h : RR w b st O) (ho : ∀ c, O c → O' c) : RR w b st O' := by
  obtain ⟨q, left, hr, hl, hn, hq, hob, hB⟩ := h.ex
  exact ⟨q, left, hr, hl, hn, hq, ho b hob, fun c hc => ⟨ho c (hB c hc).1, (hB c hc).2⟩⟩

theorem RR.lt (h : RR w b st O) : b < w.heap.size := by
  obtain ⟨q, left, hr, _⟩ := h.ex
  exact hr.lt

theorem RR.ob (h : RR w b st O) : O b := by
  obtain ⟨q, left, hr, hl, hn, hq, hob, hB⟩ := h.ex
  exact hob

theorem rNew_spec {K : Option Addr → World → Prop} (hK : ∀ w', RR w' w.heap.size newDS (fun c => c = w.heap.size) → Fr (fun _ => False) w w' → w'.heap.size = w.heap.size + 1 → K (ptr w.heap.size) w') : probityref26_New_sh K w :=
  ⟨hK _ ⟨⟨none, 0, 0⟩, 0, Row.new (cs := rRow [] [] ⟨none, 0, 0⟩ 0 0 false), by simp [newDS], by simp [newDS], OwnV.nil, rfl, fun c hc => (not_inB hc).elim⟩ Fr.alloc (by simp)⟩

theorem rSize_spec {K : Int → World → Prop} (h : RR w b st O) (hK : K (st.now.length : Int) w) : probityref26_Disk_Size_sh (ptr b) K w := by
  obtain ⟨q, left, hr, hl, hn, hq, ho, hB⟩ := h.ex
  refine ⟨?_⟩
  unfold probityref26_Disk_Size_sd ptr
  simp only [nz_some]
  refine ⟨_, hr.at rfl, ?_⟩
  have : (ofL st.now).size = st.now.length := by rw [← bl_length, bl_ofL]
  rw [this]
  exact hK

theorem rCalls_spec {K : Int → World → Prop} (h : RR w b st O) (hK : K st.calls w) : probityref26_Disk_Calls_sh (ptr b) K w := by
  obtain ⟨q, left, hr, hl, hn, hq, ho, hB⟩ := h.ex
  refine ⟨?_⟩
  unfold probityref26_Disk_Calls_sd ptr
  simp only [nz_some, add_mk, Nat.zero_add]
  exact ⟨_, hr.at rfl, hK⟩

theorem rFail_spec {K : World → Prop} {n : Int} (h : RR w b st O) (h0 : 0 ≤ st.calls) (hn0 : -1 ≤ n) (hn1 : n ≤ 2 ^ 62) (hK : ∀ w', RR w' b (failDS st n) O → Fr O w w' → K w') : probityref26_Disk_Fail_sh (ptr b) n K w := by
  obtain ⟨q, left, hr, hl, hn, hq, ho, hB⟩ := h.ex
  refine ⟨?_⟩
  unfold probityref26_Disk_Fail_sd ptr
  simp only [nz_some, add_mk, Nat.zero_add]
  have hr1 := hr.set 5 (.bool (decide (n ≥ (0 : Int))))
  have hr2 := hr1.set 4 (.int .i64 n)
  have hf : Fr (fun c => c = b) w ((w.setCell ⟨b, 5, none⟩ (.bool (decide (n ≥ (0 : Int))))).setCell ⟨b, 4, none⟩ (.int .i64 n)) := (Fr.set (F := fun c => c = b) (a := ⟨b, 5, none⟩) rfl).trans (Fr.set (F := fun c => c = b) (a := ⟨b, 4, none⟩) rfl) fun c h _ => h
  refine ⟨hr.wr (by simp [rRow]), hr1.wr (by simp [rRow]), hK _ ⟨q, n, ?_, ?_, ?_, hq.fr hf fun c hc hF => (hB c hc).2 hF, ho, hB⟩ (hf.mono fun c hc => hc ▸ ho)⟩
  · have e : (failDS st n).lim.isSome = decide (n ≥ (0 : Int)) := by
      unfold failDS
      by_cases h : -1 < n
      · have : n ≥ 0 := by omega
        simp [h, this]
      · have : ¬ n ≥ 0 := by omega
        simp [h, this]
    rw [e]
    exact hr2
  · intro v hv
    unfold failDS at hv
    simp only at hv
    split at hv
    · cases hv; rfl
    · cases hv
  · have : (failDS st n).calls = st.calls := rfl
    rw [this]
    omega

theorem off_k0 {K : Bool → World → Prop} {now syn : List UInt8} {q : Sl} {calls left : Int} {f : Bool} (hr : Row w b (rRow now syn q calls left f)) (h0 : 0 ≤ calls) (h1 : calls ≤ 2 ^ 40) (hl : -calls - 1 ≤ left ∧ left ≤ 2 ^ 62)
    (hK : ∀ w', Row w' b (rRow now syn q (calls + 1) (left - 1) f) → Fr (fun c => c = b) w w' → K false w') : probityref26_Disk_off_k0 (ptr b) K w := by
  refine ⟨?_⟩
  unfold probityref26_Disk_off_k0d ptr
  simp only [nz_some, add_mk, Nat.zero_add]
  have hr1 := hr.set 4 (.int .i64 (left - 1))
  have hf1 : Fr (fun c => c = b) w (w.setCell ⟨b, 4, none⟩ (.int .i64 (left - 1))) := Fr.set rfl
  refine ⟨left, hr.at rfl, inR64 (by omega) (by omega), hr.wr (by simp [rRow]), calls, hr1.at rfl, inR64 (by omega) (by omega), hr1.wr (by simp [rRow]), ?_⟩
  exact hK _ (hr1.set 3 _) (hf1.trans (Fr.set (F := fun c => c = b) rfl) fun c h _ => h)

theorem off_spec {K : Bool → World → Prop} (h : RR w b st O) (h0 : 0 ≤ st.calls) (h1 : st.calls ≤ 2 ^ 40)
    (hoff : st.lim = some 0 → K true w) (hon : st.lim ≠ some 0 → ∀ w', RR w' b (callDS st) O → Fr O w w' → K false w') : probityref26_Disk_off_sh (ptr b) K w := by
  obtain ⟨q, left, hr, hl, hn, hq, ho, hB⟩ := h.ex
  have go : st.lim ≠ some 0 → probityref26_Disk_off_k0 (ptr b) K w := fun hne => by
    refine off_k0 hr h0 h1 hn fun w' hr' hf => hon hne w' ⟨q, left - 1, ?_, ?_, ?_, hq.fr hf fun c hc hF => (hB c hc).2 hF, ho, hB⟩ (hf.mono fun c hc => hc ▸ ho)
    · have : (callDS st).lim.isSome = st.lim.isSome := by simp [callDS]
      rw [this]
      exact hr'
    · intro v hv
      simp only [callDS, Option.map_eq_some_iff] at hv
      obtain ⟨u, hu, rfl⟩ := hv
      rw [hl u hu]
    · have : (callDS st).calls = st.calls + 1 := rfl
      rw [this]
      omega
  refine ⟨?_⟩
  unfold probityref26_Disk_off_sd
  simp only [show ptr b = some ⟨b, 0, none⟩ from rfl, nz_some, add_mk, Nat.zero_add] at go ⊢
  refine ⟨st.lim.isSome, hr.at rfl, ?_⟩
  cases hs : st.lim with
  | none => exact go (by rw [hs]; simp)
  | some v =>
    have := hl v hs
    subst this
    refine ⟨left, hr.at rfl, ?_⟩
    rw [cnd_beq]
    exact ⟨fun h => hoff (by rw [hs, h]), fun h => go (by rw [hs]; simpa using h)⟩

theorem rSync_spec {K : Int → World → Prop} (h : RR w b st O) (h0 : 0 ≤ st.calls) (h1 : st.calls ≤ 2 ^ 40)
    (hoff : st.lim = some 0 → K 70 w) (hon : st.lim ≠ some 0 → ∀ w', RR w' b (syncDS st) O → Fr O w w' → K 0 w') : probityref26_Disk_Sync_sh (ptr b) K w := by
  refine ⟨?_⟩
  unfold probityref26_Disk_Sync_sd
  refine off_spec h h0 h1 (fun hl => hoff hl) fun hl w1 h1' hf1 => ?_
  obtain ⟨q, left, hr, hle, hn, hq, ho, hB⟩ := h1'.ex
  simp only [cnd_false, ptr, nz_some, add_mk, Nat.zero_add]
  have hr2 := hr.set 1 (.string (ofL (callDS st).now))
  have hr3 := hr2.set 2 (.slice none 0 0)
  refine ⟨_, hr.at rfl, hr.wr (by simp [rRow]), hr2.wr (by simp [rRow]), ?_⟩
  have hf : Fr (fun c => c = b) w1 ((w1.setCell ⟨b, 1, none⟩ (.string (ofL (callDS st).now))).setCell ⟨b, 2, none⟩ (.slice none 0 0)) := (Fr.set (F := fun c => c = b) (a := ⟨b, 1, none⟩) rfl).trans (Fr.set (F := fun c => c = b) (a := ⟨b, 2, none⟩) rfl) fun c h _ => h
  exact hon hl _ ⟨⟨none, 0, 0⟩, left, hr3, hle, hn, OwnV.nil, ho, fun c hc => (not_inB hc).elim⟩ (hf1.trans (hf.mono fun c hc => hc ▸ ho) fun c h _ => h)

theorem putL_eq (c : List UInt8) (off : Nat) (s : List UInt8) : putL c off s = (c.take off ++ List.replicate (off - c.length) 0) ++ s ++ c.drop (off + s.length) := by
  unfold putL spB
  rw [List.take_append, List.drop_append, List.take_replicate, List.drop_replicate]
  have h1 : min (off - c.length) (off + s.length - c.length) = off - c.length := by omega
  have h2 : off + s.length - c.length - (off + s.length - c.length) = 0 := by omega
  rw [h1, h2]
  simp

theorem rRead_spec {K : ByteArray → World → Prop} {off n : Int} (h : RR w b st O) (hlen : st.now.length ≤ 2 ^ 40) (hK : ∀ w', Fr (fun _ => False) w w' → K (ofL (readL st.now off n)) w') : probityref26_Disk_Read_sh (ptr b) off n K w := by
  obtain ⟨q, left, hr, hl, hn, hq, ho, hB⟩ := h.ex
  have hsz : (ofL st.now).size = st.now.length := by rw [← bl_length, bl_ofL]
  refine ⟨?_⟩
  unfold probityref26_Disk_Read_sd ptr
  simp only [nz_some, cnd_prop]
  have emp : readL st.now off n = [] → K (str []) w := fun he => by
    have := hK w Fr.refl
    rw [he] at this
    exact this
  refine ⟨fun h => emp (by simp [readL, h]), fun h0 => ⟨fun h => emp (by simp [readL, h]), fun h1 => ⟨_, hr.at rfl, fun h => emp ?_, fun h2 => ?_⟩⟩⟩
  · rw [hsz] at h
    simp only [readL, h0, h1, or_self, if_false]
    rw [List.drop_of_length_le (by omega)]
    simp
  · rw [hsz] at h2
    refine ⟨_, hr.at rfl, _, hr.at rfl, ?_⟩
    simp only [hsz]
    refine ⟨inR64 (by omega) (by omega), inR64 (by omega) (by omega), ⟨by omega, by omega, by omega⟩, ?_⟩
    have := hK w.drew Fr.drew
    have e : ofL (readL st.now off n) = (ofL st.now).extract off.toNat (off + min n ((st.now.length : Int) - off)).toNat := by
      apply bl_inj
      rw [bl_extract, bl_ofL, bl_ofL, List.drop_take]
      simp only [readL, h0, h1, or_self, if_false]
      by_cases hn : n ≤ (st.now.length : Int) - off
      · congr 1
        omega
      · rw [List.take_of_length_le (by simp; omega), List.take_of_length_le (by simp; omega)]
    rw [e] at this
    exact this
end
end Go.Proofs.Ytmhjekbdpnocaaa
