/- The program's disk: what each of its functions does, said of bytes. Conditions: none. -/
import Derived.Test.YtamkecjpcfnpjaaJG0
import Derived.Test.YtamkecjpcfnpjaaPwI
namespace Go.Proofs.Ytamkecjpcfnpjaa
open Go Pw

/-- What a Write makes of contents. -/
def putL (c : List UInt8) (off : Nat) (s : List UInt8) : List UInt8 :=
  spB (c ++ List.replicate (off + s.length - c.length) 0) off s

section
variable {w : World} {s x : Sl} {l m : List UInt8}

theorem put_k0 {off : Nat} {K : Sl → World → Prop} (hs : OwnV 1 w s (l.map bv)) (hx : rdC w x.p (x.l * 1) (m.map bv)) (hfit : off + m.length ≤ l.length)
    (hK : ∀ w', OwnV 1 w' s ((spB l off m).map bv) → Fr (inB s) w w' → K s w') : disk_put_k0 s off x K w := by
  refine ⟨⟨⟨by omega, ?_⟩, ?_⟩⟩
  · have := hs.len; simp at this; omega
  · simp only [Int.toNat_natCast]
    exact cpS_own hs hx hfit fun n w' h1 h2 => hK w' h1 h2

theorem put_spec {off : Nat} {K : Sl → World → Prop} (hs : OwnV 1 w s (l.map bv)) (hx : rdC w x.p (x.l * 1) (m.map bv)) (hd : ∀ b, inB x b → ¬ inB s b) (hb : off + m.length ≤ 2 ^ 30) (hl : l.length ≤ 2 ^ 30)
    (hK : ∀ r w', OwnV 1 w' r ((putL l off m).map bv) → Fr (inB s) w w' → (∀ b, inB r b → inB s b ∨ w.heap.size ≤ b) → K r w') : disk_put_sh s off x K w := by
  have hsl := hs.len
  have hxl := hx.1
  simp only [List.length_map, Nat.mul_one] at hsl hxl
  refine ⟨⟨inR64 (by omega) (by omega), inR64 (by omega) (by omega), ?_⟩⟩
  rw [cnd_prop]
  constructor
  · intro hgt
    have hn : (((off : Int) + (x.l : Int)) - (s.l : Int)).toNat = off + m.length - l.length := by omega
    refine ⟨by omega, by omega, by omega, ?_⟩
    simp only [hn, List.length_cons, List.length_nil, Nat.zero_add, Nat.mul_one]
    rw [rowZ_u8]
    refine apG_own hs (by simp) rfl (by omega) (by omega) fun r w' hr hrl hf hB => ?_
    rw [← List.map_append] at hr
    have hx' : rdC w' x.p (x.l * 1) (m.map bv) := rdC_fr hx hf fun a ha hin => hd _ ⟨a, ha, rfl⟩ hin
    refine put_k0 hr hx' (by simp; omega) fun w'' h1 h2 => ?_
    refine hK _ _ h1 (hf.trans h2 fun b hb hlt => ?_) hB
    rcases hB b hb with h | h
    · exact h
    · omega
  · intro hle
    have h0 : off + m.length - l.length = 0 := by omega
    refine put_k0 hs hx (by omega) fun w'' h1 h2 => ?_
    refine hK _ _ ?_ h2 fun b hb => .inl hb
    unfold putL
    rw [h0]
    simpa using h1
end

/-- A disk's state: the contents, those at the last Sync, the parts since, the number of calls, how many more succeed. -/
structure DS where
  now : List UInt8
  syn : List UInt8
  pcs : List (Nat × List UInt8)
  calls : Int
  lim : Option Int

def newDS : DS := ⟨[], [], [], 0, none⟩

/-- The cells of the pieces. -/
def pcV (ps : List (Nat × Sl)) : List Value := ps.flatMap fun p => [.int .i64 p.1, .slice p.2.p p.2.l p.2.c]

/-- What a disk's row leads to: the contents, the synced ones, the pieces; each in blocks of its own among O. -/
structure RB (w : World) (b : Nat) (now syn : List UInt8) (pcs : List (Nat × List UInt8)) (n y q : Sl) (ps : List (Nat × Sl)) (O : Nat → Prop) : Prop where
  hn : OwnV 1 w n (now.map bv)
  hy : OwnV 1 w y (syn.map bv)
  hq : OwnV 2 w q (pcV ps)
  hlen : ps.length = pcs.length
  hps : ∀ i (h : i < ps.length) (h' : i < pcs.length), ps[i].1 = pcs[i].1 ∧ OwnV 1 w ps[i].2 (pcs[i].2.map bv)
  ob : O b
  on : ∀ c, inB n c → O c ∧ c ≠ b
  oy : ∀ c, inB y c → O c ∧ c ≠ b ∧ ¬ inB n c
  oq : ∀ c, inB q c → O c ∧ c ≠ b ∧ ¬ inB n c ∧ ¬ inB y c
  op : ∀ p ∈ ps, ∀ c, inB p.2 c → O c ∧ c ≠ b ∧ ¬ inB n c ∧ ¬ inB y c ∧ ¬ inB q c

def dRow (n y q : Sl) (calls : Int) (f : Bool) (left : Int) : List Value :=
  [.slice n.p n.l n.c, .slice y.p y.l y.c, .slice q.p q.l q.c, .int .i64 calls, .bool f, .int .i64 left]

/-- A disk lies at block b: its blocks are among O. -/
structure Rep (w : World) (b : Nat) (st : DS) (O : Nat → Prop) : Prop where
  ex : ∃ (n y q : Sl) (ps : List (Nat × Sl)) (left : Int), Row w b (dRow n y q st.calls st.lim.isSome left) ∧ (∀ v, st.lim = some v → left = v) ∧ RB w b st.now st.syn st.pcs n y q ps O

theorem RB.fr {w w' : World} {b : Nat} {now syn : List UInt8} {pcs : List (Nat × List UInt8)} {n y q : Sl} {ps : List (Nat × Sl)} {O F : Nat → Prop} (h : RB w b now syn pcs n y q ps O) (hf : Fr F w w') (hd : ∀ c, O c → F c → c = b) : RB w' b now syn pcs n y q ps O where
  hn := h.hn.fr hf fun c hc hF => (h.on c hc).2 (hd c (h.on c hc).1 hF)
  hy := h.hy.fr hf fun c hc hF => (h.oy c hc).2.1 (hd c (h.oy c hc).1 hF)
  hq := h.hq.fr hf fun c hc hF => (h.oq c hc).2.1 (hd c (h.oq c hc).1 hF)
  hlen := h.hlen
  hps := fun i hi hi' => ⟨(h.hps i hi hi').1, (h.hps i hi hi').2.fr hf fun c hc hF => (h.op _ (List.getElem_mem hi) c hc).2.1 (hd c (h.op _ (List.getElem_mem hi) c hc).1 hF)⟩
  ob := h.ob
  on := h.on
  oy := h.oy
  oq := h.oq
  op := h.op

theorem Rep.fr {w w' : World} {b : Nat} {st : DS} {O F : Nat → Prop} (h : Rep w b st O) (hf : Fr F w w') (hd : ∀ c, O c → ¬ F c) : Rep w' b st O := by
  obtain ⟨n, y, q, ps, left, hr, hl, hb⟩ := h.ex
  exact ⟨n, y, q, ps, left, hf.row hr (hd b hb.ob), hl, hb.fr hf fun c hc hF => (hd c hc hF).elim⟩

theorem Rep.mono {w : World} {b : Nat} {st : DS} {O O' : Nat → Prop} (h : Rep w b st O) (ho : ∀ c, O c → O' c) : Rep w b st O' := by
  obtain ⟨n, y, q, ps, left, hr, hl, h⟩ := h.ex
  exact ⟨n, y, q, ps, left, hr, hl, h.hn, h.hy, h.hq, h.hlen, h.hps, ho b h.ob, fun c hc => ⟨ho c (h.on c hc).1, (h.on c hc).2⟩, fun c hc => ⟨ho c (h.oy c hc).1, (h.oy c hc).2⟩, fun c hc => ⟨ho c (h.oq c hc).1, (h.oq c hc).2⟩,
    fun p hp c hc => ⟨ho c (h.op p hp c hc).1, (h.op p hp c hc).2⟩⟩

theorem Rep.lt {w : World} {b : Nat} {st : DS} {O : Nat → Prop} (h : Rep w b st O) : b < w.heap.size := by
  obtain ⟨n, y, q, ps, left, hr, _⟩ := h.ex
  exact hr.lt

theorem not_inB {c l k : Nat} : ¬ inB ⟨none, l, k⟩ c := by
  intro ⟨a, ha, _⟩
  cases ha

theorem New_spec {w : World} {K : Option Addr → World → Prop} (hK : ∀ w', Rep w' w.heap.size newDS (fun c => c = w.heap.size) → Fr (fun _ => False) w w' → w'.heap.size = w.heap.size + 1 → K (some ⟨w.heap.size, 0, none⟩) w') : disk_New_sh K w :=
  ⟨hK _ ⟨⟨none, 0, 0⟩, ⟨none, 0, 0⟩, ⟨none, 0, 0⟩, [], 0, Row.new, by simp [newDS], OwnV.nil, OwnV.nil, OwnV.nil, rfl, by simp, rfl, fun c hc => (not_inB hc).elim, fun c hc => (not_inB hc).elim, fun c hc => (not_inB hc).elim, by simp⟩ Fr.alloc (by simp)⟩

def ptr (b : Nat) : Option Addr := some ⟨b, 0, none⟩

section
variable {w : World} {b : Nat} {st : DS} {O : Nat → Prop}

theorem Size_spec {K : Int → World → Prop} (h : Rep w b st O) (hK : K (st.now.length : Int) w) : disk_Disk_Size_sh (ptr b) K w := by
  obtain ⟨n, y, q, ps, left, hr, hl, hb⟩ := h.ex
  have hlen := hb.hn.len
  simp at hlen
  refine ⟨?_⟩
  unfold disk_Disk_Size_sd ptr
  simp only [Option.isNone_some, cnd_false, nz_some]
  refine ⟨n, hr.at rfl, ?_⟩
  rw [← hlen]
  exact hK

theorem settle_spec {K : World → Prop} {cs : List Value} {o : Nat} (h : Row w b cs) (ho : o < cs.length) (hK : ∀ w', Row w' b (cs.set o (.slice none 0 0)) → Fr (fun c => c = b) w w' → K w') : disk_piece__settle_sh (some ⟨b, o, none⟩) K w := by
  refine ⟨?_⟩
  unfold disk_piece__settle_sd
  simp only [nz_some]
  exact ⟨h.wr ho, hK _ (h.set o _) (Fr.set rfl)⟩

theorem call_k1 {K : Int → World → Prop} {n y q : Sl} {calls left : Int} {f : Bool} (h : Row w b (dRow n y q calls f left)) (h0 : 0 ≤ calls) (h1 : calls ≤ 2 ^ 40)
    (hK : ∀ w', Row w' b (dRow n y q (calls + 1) f left) → Fr (fun c => c = b) w w' → K 0 w') : disk_Disk_call_k1 (ptr b) K w := by
  refine ⟨?_⟩
  unfold disk_Disk_call_k1d ptr
  simp only [nz_some, add_mk, Nat.zero_add]
  exact ⟨calls, h.at rfl, inR64 (by omega) (by omega), h.wr (by simp [dRow]), hK _ (h.set 3 _) (Fr.set rfl)⟩

/-- A call that succeeds. -/
def callDS (st : DS) : DS := { st with calls := st.calls + 1, lim := st.lim.map (· - 1) }

theorem call_spec {K : Int → World → Prop} (h : Rep w b st O) (h0 : 0 ≤ st.calls) (h1 : st.calls ≤ 2 ^ 40) (hlim : ∀ v, st.lim = some v → -2 ^ 62 ≤ v ∧ v ≤ 2 ^ 62)
    (hoff : st.lim = some 0 → K 70 w) (hon : st.lim ≠ some 0 → ∀ w', Rep w' b (callDS st) O → Fr O w w' → K 0 w') : disk_Disk_call_sh (ptr b) K w := by
  obtain ⟨n, y, q, ps, left, hr, hl, hb⟩ := h.ex
  refine ⟨?_⟩
  unfold disk_Disk_call_sd
  cases hs : st.lim with
  | none =>
    rw [hs] at hr
    simp only [ptr, nz_some, add_mk, Nat.zero_add]
    refine ⟨false, hr.at rfl, ⟨?_⟩⟩
    unfold disk_Disk_call_k0d
    simp only [nz_some, add_mk, Nat.zero_add]
    refine ⟨false, hr.at rfl, ?_⟩
    exact call_k1 hr h0 h1 fun w' hr' hf => hon (by rw [hs]; simp) w' ⟨n, y, q, ps, left, by simpa [callDS, hs] using hr', by simp [callDS, hs], hb.fr hf fun c _ h => h⟩ (hf.mono fun c hc => hc ▸ hb.ob)
  | some v =>
    have hv := hl v hs
    subst hv
    rw [hs] at hr
    have hv := hlim _ hs
    simp only [ptr, nz_some, add_mk, Nat.zero_add]
    refine ⟨true, hr.at rfl, ?_⟩
    simp only [cnd_true]
    refine ⟨left, hr.at rfl, ?_⟩
    rw [cnd_beq]
    refine ⟨fun h => hoff (by rw [hs, h]), fun h => ⟨?_⟩⟩
    unfold disk_Disk_call_k0d
    simp only [nz_some, add_mk, Nat.zero_add]
    refine ⟨true, hr.at rfl, ?_⟩
    simp only [cnd_true]
    refine ⟨left, hr.at rfl, inR64 (by omega) (by omega), hr.wr (by simp [dRow]), ?_⟩
    have hr2 := hr.set 5 (.int .i64 (left - 1))
    have hf2 : Fr (fun c => c = b) w (w.setCell ⟨b, 5, none⟩ (.int .i64 (left - 1))) := Fr.set rfl
    exact call_k1 (f := true) (left := left - 1) hr2 h0 h1 fun w' hr' hf => hon (by rw [hs]; simpa using h) w' ⟨n, y, q, ps, left - 1, by simpa [callDS, hs] using hr', by simp [callDS, hs],
      hb.fr (hf2.trans hf fun c h _ => h) fun c _ h => h⟩ ((hf2.trans hf fun c h _ => h).mono fun c hc => hc ▸ hb.ob)

def failDS (st : DS) (n : Int) : DS := { st with lim := if -1 < n then some n else none }

theorem Fail_spec {K : World → Prop} {n : Int} (h : Rep w b st O) (hK : ∀ w', Rep w' b (failDS st n) O → Fr O w w' → K w') : disk_Disk_Fail_sh (ptr b) n K w := by
  obtain ⟨s, y, q, ps, left, hr, hl, hb⟩ := h.ex
  refine ⟨?_⟩
  unfold disk_Disk_Fail_sd ptr
  simp only [Option.isNone_some, Bool.not_false, cnd_true, nz_some, add_mk, Nat.zero_add]
  have hr1 := hr.set 4 (.bool (decide (n > (-1 : Int))))
  have hr2 := hr1.set 5 (.int .i64 n)
  have hf : Fr (fun c => c = b) w ((w.setCell ⟨b, 4, none⟩ (.bool (decide (n > (-1 : Int))))).setCell ⟨b, 5, none⟩ (.int .i64 n)) := (Fr.set (F := fun c => c = b) (a := ⟨b, 4, none⟩) rfl).trans (Fr.set (F := fun c => c = b) (a := ⟨b, 5, none⟩) rfl) fun c h _ => h
  refine ⟨hr.wr (by simp [dRow]), hr1.wr (by simp [dRow]), hK _ ⟨s, y, q, ps, n, ?_, ?_, hb.fr hf fun c _ h => h⟩ (hf.mono fun c hc => hc ▸ hb.ob)⟩
  · have e : (failDS st n).lim.isSome = decide (n > (-1 : Int)) := by
      unfold failDS
      by_cases h : -1 < n <;> simp [h]
    rw [e]
    exact hr2
  · intro v hv
    unfold failDS at hv
    simp only at hv
    split at hv
    · cases hv; rfl
    · cases hv

/-- What Read returns. -/
def readL (l : List UInt8) (off n : Int) : List UInt8 := if off < 0 ∨ n < 1 then [] else (l.drop off.toNat).take n.toNat

theorem rd_sub {x : Sl} {l : List UInt8} {off k : Nat} (h : OwnV 1 w x (l.map bv)) (hlt : off < l.length) (hk : off + k ≤ l.length) :
    rdC w (subP (subP x.p off x.c 1) 0 (x.c - off) 1) k (((l.drop off).take k).map bv) := by
  obtain ⟨hl, h⟩ := h
  simp only [List.length_map, Nat.mul_one] at hl
  rcases h with ⟨_, h0, _⟩ | ⟨bb, cs, hp, hr, hc, hle, ht⟩
  · omega
  · simp only [Nat.mul_one] at hc
    have e : subP (subP x.p off x.c 1) 0 (x.c - off) 1 = some ⟨bb, off, none⟩ := by
      have h1 : x.c ≠ off := by omega
      have h2 : ¬ x.c - off = 0 := by omega
      simp [subP, hp, h1, h2]
    rw [e]
    refine ⟨by simp; omega, fun i hi => ?_⟩
    simp at hi
    rw [add_mk, hr.cell]
    have h1 : (cs.take l.length)[off + i]? = (l.map bv)[off + i]? := by
      have : cs.take l.length = l.map bv := by simpa using ht
      rw [this]
    rw [List.getElem?_take] at h1
    have h2 : off + i < l.length := by omega
    simp only [h2, if_true] at h1
    rw [h1]
    simp [h2]

theorem Read_spec {K : ByteArray → World → Prop} {off n : Int} (h : Rep w b st O) (hlen : st.now.length ≤ 2 ^ 40) (hK : ∀ w', Fr (fun _ => False) w w' → K (ofL (readL st.now off n)) w') : disk_Disk_Read_sh (ptr b) off n K w := by
  obtain ⟨s, y, q, ps, left, hr, hl, hb⟩ := h.ex
  have hsl := hb.hn.len
  simp only [List.length_map, Nat.mul_one] at hsl
  refine ⟨?_⟩
  unfold disk_Disk_Read_sd ptr
  simp only [Option.isNone_some, cnd_false, nz_some, cnd_prop]
  have emp : readL st.now off n = [] → K (str []) w := fun he => by
    have := hK w Fr.refl
    rw [he] at this
    exact this
  refine ⟨fun h => emp (by simp [readL, h]), fun h0 => ⟨fun h => emp (by simp [readL, h]), fun h1 => ⟨s, hr.at rfl, fun h => emp ?_, fun h2 => ?_⟩⟩⟩
  · simp only [readL, h0, h1, or_self, if_false]
    rw [List.drop_of_length_le (by omega)]
    simp
  · refine ⟨fun w' => w'.cell? ⟨b, 0, none⟩ = some (.slice s.p s.l s.c), hr.at rfl, s, fun _ h => h, ⟨by omega, by omega⟩, s, fun _ h => h, inR64 (by omega) (by omega), ⟨by omega, by omega, ?_⟩, ?_⟩
    · have := hb.hn.2
      rcases this with ⟨_, h, _⟩ | ⟨_, _, _, _, _, h, _⟩ <;> omega
    · obtain ⟨k, hk⟩ : ∃ k : Nat, (min n ((s.l : Int) - off)).toNat = k := ⟨_, rfl⟩
      have hk2 : off.toNat + k ≤ st.now.length := by omega
      simp only [hk, Nat.sub_zero]
      refine btsS_rd (l := (st.now.drop off.toNat).take k) (rd_sub (w := w.drew) hb.hn (by omega) hk2) ⟨hr.at rfl, ?_⟩
      have := hK w.drew Fr.drew
      have e : readL st.now off n = (st.now.drop off.toNat).take k := by
        simp only [readL, h0, h1, or_self, if_false]
        by_cases hn : n ≤ (s.l : Int) - off
        · have : n.toNat = k := by omega
          rw [this]
        · rw [List.take_of_length_le (by simp; omega), List.take_of_length_le (by simp; omega)]
      rw [e] at this
      exact this
end
end Go.Proofs.Ytamkecjpcfnpjaa
