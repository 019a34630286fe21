/- The reference model's disk, continued: Put, Write, Crash. Conditions: none. -/
import Derived.Test.YtmhjekbdpnocaaaR1
namespace Go.Proofs.Ytmhjekbdpnocaaa
open Go Pw

section
variable {w : World} {b : Nat} {st : DS} {O : Nat → Prop}

theorem rPut_spec {c s : ByteArray} {off : Nat} {K : ByteArray → World → Prop} (hb : off + s.size ≤ 2 ^ 30) (hc : c.size ≤ 2 ^ 30) (hK : ∀ w', Fr (fun _ => False) w w' → K (ofL (putL (bl c) off (bl s))) w') : probityref26_Put_sh c off s K w := by
  have hcl := bl_length c
  have hsl := bl_length s
  refine ⟨?_⟩
  unfold probityref26_Put_sd
  refine ⟨?_⟩
  refine ⟨fun c' w' => (c' = c ∨ (c.size < off ∧ bl c' = bl c ++ List.replicate (off - c.size) 0)) ∧ Fr (fun _ => False) w w', fun c' _ => off - c'.size, ⟨.inl rfl, Fr.refl⟩, ?_⟩
  rintro c1 w1 ⟨hc1, hf1⟩
  have hc1l := bl_length c1
  have hsz : c.size < off → c1 ≠ c → c1.size = off := fun h hne => by
    rcases hc1 with h1 | ⟨_, h1⟩
    · exact (hne h1).elim
    · rw [← hc1l, h1]; simp; omega
  unfold probityref26_Put_b0
  rw [cnd_prop]
  constructor
  · intro hlt
    have he : c1 = c := by
      rcases hc1 with h1 | ⟨h0, h1⟩
      · exact h1
      · have : (bl c1).length = off := by rw [h1]; simp; omega
        omega
    subst he
    obtain ⟨n, hn⟩ : ∃ n : Nat, (off : Int) - (c1.size : Int) = n := ⟨off - c1.size, by omega⟩
    rw [hn]
    refine ⟨inR64 (by omega) (by omega), by omega, by omega, by omega, by omega, ?_⟩
    simp only [Int.toNat_natCast, List.length_cons, List.length_nil, Nat.zero_add, Nat.mul_one]
    rw [rowZ_u8]
    have hrn : Row (w1.alloc (Obj.cells ((List.replicate n (0 : UInt8)).map bv).toArray 5)) w1.heap.size ((List.replicate n (0 : UInt8)).map bv) := Row.new
    have hfa : Fr (fun _ => False) w1 (w1.alloc (Obj.cells ((List.replicate n (0 : UInt8)).map bv).toArray 5)) := Fr.alloc
    generalize w1.alloc (Obj.cells ((List.replicate n (0 : UInt8)).map bv).toArray 5) = w2 at *
    have hown : OwnV 1 w2 (newSl w1 n n) ((List.replicate n (0 : UInt8)).map bv) := ⟨by simp [newSl], .inr ⟨w1.heap.size, _, rfl, hrn, by simp [newSl], Nat.le_refl _, by simp⟩⟩
    have hrd := hown.rd
    rw [Nat.mul_one] at hrd
    refine btsS_rd (l := List.replicate n 0) hrd ?_
    have hz : (ofL (List.replicate n (0 : UInt8))).size = n := by rw [← bl_length, bl_ofL]; simp
    have e : off - c1.size = n := by omega
    have hmax : maxI = 9223372036854775807 := rfl
    refine ⟨by rw [hz, hmax]; omega, ⟨⟨trivial, trivial, trivial⟩, .inr ⟨by omega, by rw [bl_append, bl_ofL, e]⟩, hf1.trans hfa fun c h _ => h⟩, ?_⟩
    rw [ByteArray.size_append, hz]
    omega
  · intro hge
    have key : putL (bl c) off (bl s) = (bl c1).take off ++ bl s ++ (bl c1).drop (off + s.size) := by
      rw [putL_eq, hcl, hsl]
      rcases hc1 with rfl | ⟨h0, h1⟩
      · have : off - c1.size = 0 := by omega
        rw [this]
        simp
      · rw [h1, List.take_of_length_le (l := bl c ++ _) (by simp; omega), List.take_of_length_le (l := bl c) (by omega), List.drop_of_length_le (l := bl c) (by omega), List.drop_of_length_le (l := bl c ++ _) (by simp; omega)]
    have hle : off ≤ c1.size := by omega
    have hc1b : c1.size ≤ 2 ^ 30 := by
      rcases hc1 with rfl | ⟨h0, h1⟩
      · exact hc
      · rw [← hc1l, h1]; simp; omega
    have hx : (c1.extract 0 off).size = off := by simp; omega
    have hmax : maxI = 9223372036854775807 := rfl
    refine ⟨inR64 (by omega) (by omega), ?_⟩
    rw [cnd_prop]
    simp only [Int.toNat_natCast]
    constructor
    · intro hge2
      refine ⟨⟨by omega, by omega, by omega⟩, by rw [hx, hmax]; omega, ?_⟩
      have e : c1.extract 0 off ++ s = ofL (putL (bl c) off (bl s)) := by
        apply bl_inj
        rw [bl_ofL, bl_append, bl_extract, key, List.drop_of_length_le (l := bl c1) (i := off + s.size) (by omega)]
        simp
      rw [e]
      exact hK _ hf1
    · intro hlt2
      have e0 : ((off : Int) + (s.size : Int)).toNat = off + s.size := by omega
      rw [e0]
      have hx2 : (c1.extract (off + s.size) c1.size).size = c1.size - (off + s.size) := by simp
      refine ⟨⟨by omega, by omega, by omega⟩, by rw [hx, hmax]; omega, ⟨by omega, by omega⟩, by rw [ByteArray.size_append, hx, hx2, hmax]; omega, ?_⟩
      have e : c1.extract 0 off ++ s ++ c1.extract (off + s.size) c1.size = ofL (putL (bl c) off (bl s)) := by
        apply bl_inj
        rw [bl_ofL, bl_append, bl_append, bl_extract, bl_extract, key, List.take_of_length_le (l := bl c1) (i := c1.size) (by omega)]
        simp
      rw [e]
      exact hK _ (hf1.trans Fr.drew fun c h _ => h)

theorem rWrite_spec {K : Int → World → Prop} {off : Int} {s : ByteArray} (h : RR w b st O) (hlen : st.now.length ≤ 2 ^ 25) (hpl : st.pcs.length ≤ 2 ^ 29) (hs : s.size ≤ 2 ^ 62) (h0 : 0 ≤ st.calls) (h1 : st.calls ≤ 2 ^ 40)
    (hbad : (off < 0 ∨ off > 16777216 ∨ (s.size : Int) > 16777216 - off) → K 1 w)
    (hoff : 0 ≤ off → off + s.size ≤ 16777216 → st.lim = some 0 → K 70 w)
    (hon : 0 ≤ off → off + s.size ≤ 16777216 → st.lim ≠ some 0 → ∀ w', RR w' b (writeDS st off.toNat (bl s)) (nw O w w') → Fr O w w' → K 0 w') : probityref26_Disk_Write_sh (ptr b) off s K w := by
  refine ⟨?_⟩
  unfold probityref26_Disk_Write_sd
  simp only [cnd_prop]
  refine ⟨fun h => hbad (.inl h), fun hg1 => ⟨fun h => hbad (.inr (.inl h)), fun hg2 => ⟨inR64 (by omega) (by omega), fun h => hbad (.inr (.inr (by omega))), fun hg3 => ?_⟩⟩⟩
  refine off_spec h h0 h1 (fun hl => hoff (by omega) (by omega) hl) fun hl w1 hrep hf1 => ?_
  obtain ⟨q, left, hr, hle, hn, hq, hob, hB⟩ := hrep.ex
  obtain ⟨k, rfl⟩ : ∃ k : Nat, off = k := ⟨off.toNat, by omega⟩
  have hbl := bl_length s
  have hnow : (callDS st).now = st.now := rfl
  have hsyn : (callDS st).syn = st.syn := rfl
  have hpcs : (callDS st).pcs = st.pcs := rfl
  rw [hnow, hsyn] at hr
  rw [hpcs] at hq
  simp only [cnd_false, ptr, nz_some]
  have hsz : (ofL st.now).size = st.now.length := by rw [← bl_length, bl_ofL]
  refine ⟨_, hr.at rfl, ?_⟩
  refine rPut_spec (by omega) (by omega) fun w5 hf5 => ?_
  rw [bl_ofL]
  have hr5 := hf5.row hr fun h => h
  have hq5 := hq.fr hf5 fun _ _ h => h
  refine ⟨hr5.wr (by simp [rRow]), ?_⟩
  have hr8 := hr5.set 0 (.string (ofL (putL st.now k (bl s))))
  have hf8 : Fr (fun c => c = b) w5 (w5.setCell ⟨b, 0, none⟩ (.string (ofL (putL st.now k (bl s))))) := Fr.set rfl
  generalize w5.setCell ⟨b, 0, none⟩ (.string (ofL (putL st.now k (bl s)))) = w8 at *
  have hr8 : Row w8 b (rRow (putL st.now k (bl s)) st.syn q (callDS st).calls left (callDS st).lim.isSome) := hr8
  have hq8 := hq5.fr hf8 fun c hc hF => (hB c hc).2 hF
  have hf18 : Fr O w w8 := hf1.trans ((hf5.mono fun c h => h.elim).trans (hf8.mono fun c hc => hc ▸ hob) fun c h _ => h) fun c h _ => h
  refine ⟨?_⟩
  refine ⟨fun t w' => ∃ (j : Nat) (pd : List (Nat × List UInt8)) (q' : Sl), t = j ∧ j ≤ s.size ∧ Row w' b (rRow (putL st.now k (bl s)) st.syn q' (callDS st).calls left (callDS st).lim.isSome) ∧
      OwnV 2 w' q' (ppV (st.pcs ++ pd)) ∧ (∀ c, inB q' c → nw O w w' c ∧ c ≠ b) ∧ Fr O w w' ∧ pd ++ splitL (k + j) ((bl s).drop j) = splitL k (bl s) ∧ pd.length ≤ j,
    fun t _ => s.size - t.toNat, ⟨0, [], q, rfl, by omega, hr8, by simpa using hq8, fun c hc => ⟨.inl (hB c hc).1, (hB c hc).2⟩, hf18, by simp, by simp⟩, ?_⟩
  rintro t w11 ⟨j, pd, q', rfl, hj, hrx, hqx, hBx, hfx, hsp, hpd⟩
  unfold probityref26_Disk_Write_b0
  rw [cnd_prop]
  constructor
  · intro hlt
    have hmod : Int.tmod ((k : Int) + (j : Int)) 64 = (((k + j) % 64 : Nat) : Int) := rfl
    have hm64 := Nat.mod_lt (k + j) (by decide : 64 > 0)
    rw [hmod]
    obtain ⟨c, hc⟩ : ∃ c : Nat, min ((64 : Int) - (((k + j) % 64 : Nat) : Int)) ((s.size : Int) - (j : Int)) = c := ⟨(min ((64 : Int) - (((k + j) % 64 : Nat) : Int)) ((s.size : Int) - (j : Int))).toNat, by omega⟩
    have hc' : c = min (64 - (k + j) % 64) (s.size - j) := by omega
    have ekj : (k : Int) + (j : Int) = ((k + j : Nat) : Int) := by omega
    have ejc : (j : Int) + (c : Int) = ((j + c : Nat) : Int) := by omega
    simp only [hc, ekj, ejc, Int.toNat_natCast]
    refine ⟨inR64 (by omega) (by omega), by omega, inR64 (by omega) (by omega), inR64 (by omega) (by omega), fun w' => w'.cell? ⟨b, 2, none⟩ = some (.slice q'.p q'.l q'.c), hrx.at rfl, ?_⟩
    simp only [nz_some, add_mk, Nat.zero_add]
    refine ⟨q', fun _ h => h, inR64 (by omega) (by omega), inR64 (by omega) (by omega), ⟨by omega, by omega, by omega⟩, ?_⟩
    have hpiece : s.extract j (j + c) = ofL (((bl s).drop j).take (64 - (k + j) % 64)) := by
      apply bl_inj
      rw [bl_extract, bl_ofL, List.drop_take]
      by_cases h : 64 - (k + j) % 64 ≤ s.size - j
      · congr 1; omega
      · rw [List.take_of_length_le (by simp; omega), List.take_of_length_le (by simp; omega)]
    rw [hpiece]
    have hr13 : Row (w11.drew.alloc (Obj.cells #[(Value.int .i64 ((k + j : Nat) : Int)), (Value.string (ofL (((bl s).drop j).take (64 - (k + j) % 64))))] 72)) b _ := Row.congr (w := w11.drew) hrx (heap_alloc_lt hrx.lt)
    have hrn : Row (w11.drew.alloc (Obj.cells #[(Value.int .i64 ((k + j : Nat) : Int)), (Value.string (ofL (((bl s).drop j).take (64 - (k + j) % 64))))] 72)) w11.heap.size [(Value.int .i64 ((k + j : Nat) : Int)), (Value.string (ofL (((bl s).drop j).take (64 - (k + j) % 64))))] := Row.new (w := w11.drew)
    have hf13 : Fr (fun _ => False) w11 (w11.drew.alloc (Obj.cells #[(Value.int .i64 ((k + j : Nat) : Int)), (Value.string (ofL (((bl s).drop j).take (64 - (k + j) % 64))))] 72)) := (Fr.drew (F := fun _ => False)).trans Fr.alloc fun c h _ => h
    show _ ∧ apS 2 24 _ 72 q' (Sl.mk (some (Addr.mk w11.heap.size 0 none)) 1 1) _ _
    generalize w11.drew.alloc (Obj.cells #[(Value.int .i64 ((k + j : Nat) : Int)), (Value.string (ofL (((bl s).drop j).take (64 - (k + j) % 64))))] 72) = w13 at *
    refine ⟨hr13.at rfl, ?_⟩
    have hq13 := hqx.fr hf13 fun _ _ h => h
    have hql := hq13.len
    rw [ppV_length, List.length_append] at hql
    refine apS_own (us := [(Value.int .i64 ((k + j : Nat) : Int)), (Value.string (ofL (((bl s).drop j).take (64 - (k + j) % 64))))]) hq13 ⟨rfl, fun i hi => ?_⟩ (by simp [okC]) rfl (by simp; omega) (by simp; omega) fun r w15 hrO hrl hf15 hrB => ?_
    · rw [add_mk, hrn.cell]
      simp at hi
      rcases i with _ | _ | i
      · rfl
      · rfl
      · omega
    have hqb : ¬ inB q' b := fun hc => (hBx b hc).2 rfl
    have hr15 := hf15.row hr13 hqb
    refine ⟨hr15.wr (by simp [rRow]), inR64 (by omega) (by omega), ?_⟩
    have hr17 := hr15.set 2 (.slice r.p r.l r.c)
    have hfs : Fr (fun c => c = b) w15 (w15.setCell ⟨b, 2, none⟩ (.slice r.p r.l r.c)) := Fr.set rfl
    generalize w15.setCell ⟨b, 2, none⟩ (.slice r.p r.l r.c) = w17 at *
    have hf17 : Fr (fun c => c = b ∨ inB q' c) w11 w17 := (hf13.mono fun c h => h.elim).trans ((hf15.mono fun c h => .inr h).trans hfs fun c h _ => .inl h) fun c h _ => h
    have hw0 : w.heap.size ≤ w11.heap.size := hfx.1
    have hw1 : w11.heap.size ≤ w13.heap.size := hf13.1
    have hw2 : w11.heap.size ≤ w17.heap.size := hf17.1
    have hbl13 := hrx.lt
    refine ⟨⟨⟨trivial, trivial, trivial, trivial⟩, j + c, pd ++ [(k + j, ((bl s).drop j).take (64 - (k + j) % 64))], r, rfl, by omega, hr17, ?_, ?_, ?_, ?_, ?_⟩, by omega⟩
    · rw [← List.append_assoc, ppV_append]
      refine hrO.fr hfs fun x hx hF => ?_
      subst hF
      rcases hrB x hx with h | h
      · exact hqb h
      · omega
    · intro x hx
      have hxl : x < w17.heap.size := Nat.lt_of_lt_of_le (hrO.lt hx) hfs.1
      rcases hrB x hx with h | h
      · refine ⟨?_, (hBx x h).2⟩
        rcases (hBx x h).1 with h | h
        · exact .inl h
        · exact .inr ⟨h.1, hxl⟩
      · exact ⟨.inr ⟨by omega, hxl⟩, by omega⟩
    · exact hfx.trans hf17 fun x h hlt => by
        rcases h with rfl | h
        · exact hob
        · rcases (hBx x h).1 with h | h
          · exact h
          · omega
    · rw [List.append_assoc, List.singleton_append, ← hsp]
      congr 1
      rw [splitL_cons (s := (bl s).drop j) (by simp; omega), List.drop_drop]
      congr 1
      by_cases h : 64 - (k + j) % 64 ≤ s.size - j
      · congr 1
        · simp; omega
        · congr 1; omega
      · rw [List.drop_of_length_le (l := bl s) (i := j + c) (by omega), List.drop_of_length_le (l := bl s) (i := j + (64 - (k + j) % 64)) (by omega), splitL_nil, splitL_nil]
    · simp; omega
  · intro hge
    have hj2 : j = s.size := by omega
    subst hj2
    rw [List.drop_of_length_le (by omega), splitL_nil, List.append_nil] at hsp
    subst hsp
    refine hon (by omega) (by omega) hl w11 ⟨q', left, hrx, hle, hn, hqx, .inl hob, hBx⟩ hfx
end
end Go.Proofs.Ytmhjekbdpnocaaa
