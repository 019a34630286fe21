/- The desk: what an act does. Conditions: none. -/
import Derived.Test.YtmhjekbdpnocaaaR5
namespace Go.Proofs.Ytmhjekbdpnocaaa
open Go Pw

section
variable {w : World} {x k db rb : Nat} {st : DS} {O1 O2 : Nat → Prop}

theorem nw_from {O : Nat → Prop} {w0 w1 w2 : World} (h : w0.heap.size ≤ w1.heap.size) {c : Nat} (hc : nw O w1 w2 c) : nw O w0 w2 c := by
  rcases hc with hc | hc
  · exact .inl hc
  · exact .inr ⟨by omega, hc.2⟩

def bad (off : Int) (l : List UInt8) : Prop := off < 0 ∨ off > 16777216 ∨ (l.length : Int) > 16777216 - off

def SR (x aB db rb : Nat) (P : List Value) (w' : World) : Prop := Row w' x [.pointer (ptr db), .pointer (ptr rb)] ∧ Row w' aB P

theorem SR.fr {aB : Nat} {P : List Value} {w1 : World} {F : Nat → Prop} (h : SR x aB db rb P w) (hf : Fr F w w1) (hx : ¬ F x) (ha : ¬ F aB) : SR x aB db rb P w1 := ⟨hf.row h.1 hx, hf.row h.2 ha⟩

theorem half_spec {n : Nat} {aB : Nat} {P : List Value} {a0 a1 a2 r : Int} {a3 : ByteArray} {K : Bool → World → Prop} (hB : Bd st n) (hn : n ≤ 100) (hS : SR x aB db rb P w) (hR : RR w rb st O2) (hx : ¬ O2 x) (ha : ¬ O2 aB)
    (hb : bad (whereI a1) (longL (bl a3) a2) → ∀ w', Fr F0 w w' → K (r == 1) w')
    (ho : ¬ bad (whereI a1) (longL (bl a3) a2) → st.lim = some 0 → ∀ w', Fr F0 w w' → K (r == 70) w')
    (hw : ¬ bad (whereI a1) (longL (bl a3) a2) → st.lim ≠ some 0 → ∀ w', RR w' rb (writeDS st (whereI a1).toNat (longL (bl a3) a2)) (nw O2 w w') → Fr O2 w w' → K (r == 0) w') :
    probityref26_Act_Where_sh a0 a1 a2 a3 (fun (r101 : Int) (w100 : World) => SR x aB db rb P w100 ∧ probityref26_Act_Long_sh a0 a1 a2 a3 (fun (r103 : ByteArray) (w102 : World) => SR x aB db rb P w102 ∧ probityref26_Disk_Write_sh (ptr rb) r101 r103 (fun (r105 : Int) (w104 : World) => SR x aB db rb P w104 ∧ K (r == r105) w104) w102) w100) w := by
  refine Where_spec fun w1 hf1 => ?_
  have hS1 := hS.fr hf1 (fun h => h) fun h => h
  refine ⟨hS1, Long_spec fun w2 hf2 => ?_⟩
  have hS2 := hS1.fr hf2 (fun h => h) fun h => h
  have hf02 : Fr F0 w w2 := hf1.trans hf2 fun _ h _ => h
  have hR2 := hR.fr hf02 fun _ _ h => h
  have hlen := longL_len (bl a3) a2
  have hsz : (ofL (longL (bl a3) a2)).size = (longL (bl a3) a2).length := by rw [← bl_length, bl_ofL]
  have h1 := hB.len.now
  have h2 := hB.pl
  have h3 := hB.c0
  have h4 := hB.c1
  refine ⟨hS2, rWrite_spec hR2 (by omega) (by omega) (by omega) h3 (by omega) (fun hbd => ⟨hS2, hb ?_ w2 hf02⟩) (fun g1 g2 hl => ⟨hS2, ho ?_ hl w2 hf02⟩) fun g1 g2 hl w3 hR3 hf3 => ⟨hS2.fr hf3 hx ha, hw ?_ hl w3 ?_ ?_⟩⟩
  · unfold bad; rw [← hsz]; exact hbd
  · unfold bad; omega
  · unfold bad; omega
  · rw [bl_ofL] at hR3
    exact hR3.mono fun c hc => nw_from hf02.1 hc
  · exact (hf02.mono fun _ h => h.elim).trans hf3 fun _ h _ => h

theorem do_spec {n : Nat} {a0 a1 a2 : Int} {a3 : ByteArray} {K : Bool → World → Prop} (h : Desk w x st k) (hB : Bd st n) (hn : n ≤ 100) (hlo : -9223372036854775808 ≤ a2) (hhi : a2 < 9223372036854775808)
    (hK : ∀ w', Desk w' x (stepDS st a0 a1 a2 (bl a3)) k → Bd (stepDS st a0 a1 a2 (bl a3)) (n + 1) → Fr (fun c => k ≤ c) w w' → K true w') : probitylaw26_desk_do_sh (ptr x) a0 a1 a2 a3 K w := by
  have hD := h
  obtain ⟨db, rb, O1, O2, h⟩ := h
  have hnow := hB.len.now
  have hpl := hB.pl
  have hc0 := hB.c0
  have hc1 := hB.c1
  have hlim : ∀ v, st.lim = some v → (-2 ^ 62 : Int) ≤ v ∧ v ≤ 2 ^ 62 := fun v hv => by have := hB.lim v hv; omega
  have stay : stepDS st a0 a1 a2 (bl a3) = st → ∀ w', Fr F0 w w' → K true w' := fun e w' hf => hK w' (by rw [e]; exact hD.keep hf) (by rw [e]; exact hB.mono (by omega)) (hf.mono fun _ h => h.elim)
  have move : ∀ (st' : DS) (O1' O2' : Nat → Prop) (wA wB : World), stepDS st a0 a1 a2 (bl a3) = st' → Bd st' (n + 1) → Rep wA db st' O1' → Fr O1 w wA → (∀ c, O1' c → nw O1 w wA c) → RR wB rb st' O2' → Fr O2 wA wB → (∀ c, O2' c → nw O2 wA wB c) → K true wB :=
    fun st' O1' O2' wA wB e hb h1 h2 h3 h4 h5 h6 => by
      have := h.upd h1 h2 h3 h4 h5 h6
      exact hK wB (by rw [e]; exact this.1) (by rw [e]; exact hb) this.2
  have hxa : x < w.heap.size := h.row.lt
  have ha1 : ¬ O1 w.heap.size := fun hc => by have := (h.b1 _ hc).2; omega
  have ha2 : ¬ O2 w.heap.size := fun hc => by have := (h.b2 _ hc).2; omega
  refine ⟨?_⟩
  unfold probitylaw26_desk_do_sd
  have hr1 : Row (w.alloc (Obj.cells #[(Value.int .i64 a0), (Value.int .i64 a1), (Value.int .i64 a2), (Value.string a3)] 33)) w.heap.size [(Value.int .i64 a0), (Value.int .i64 a1), (Value.int .i64 a2), (Value.string a3)] := Row.new
  have hf1 : Fr F0 w (w.alloc (Obj.cells #[(Value.int .i64 a0), (Value.int .i64 a1), (Value.int .i64 a2), (Value.string a3)] 33)) := Fr.alloc
  generalize w.alloc (Obj.cells #[(Value.int .i64 a0), (Value.int .i64 a1), (Value.int .i64 a2), (Value.string a3)] 33) = w1 at *
  have hd1 : DeskP w1 x st k db rb O1 O2 := h.keep hf1 (fun _ _ h => h) (fun _ _ h => h) fun h => h
  have hfd : Fr F0 w w1.drew := hf1.trans (Fr.drew (F := F0)) fun _ h _ => h
  have hdd : DeskP w1.drew x st k db rb O1 O2 := h.keep hfd (fun _ _ h => h) (fun _ _ h => h) fun h => h
  have hS1 : SR x w.heap.size db rb [(Value.int .i64 a0), (Value.int .i64 a1), (Value.int .i64 a2), (Value.string a3)] w1 := ⟨hd1.row, hr1⟩
  have hSd : SR x w.heap.size db rb [(Value.int .i64 a0), (Value.int .i64 a1), (Value.int .i64 a2), (Value.string a3)] w1.drew := ⟨hdd.row, hr1⟩
  simp only [show ptr x = some ⟨x, 0, none⟩ from rfl, nz_some, add_mk, Nat.zero_add]
  refine ⟨a0, hr1.at rfl, Mod_spec (by omega) (by omega) ?_⟩
  rw [cnd_beq]
  refine ⟨fun e4 => ?_, fun n4 => ?_⟩
  · refine ⟨SR x w.heap.size db rb _, hSd, ptr db, fun _ h => h.1.at rfl, ptr rb, fun _ h => h.1.at rfl, ?_⟩
    refine Sync_spec hdd.d (by omega) hc0 (by omega) hlim (fun hl => ⟨hSd, ?_⟩) fun hl wA hA hfA => ?_
    · refine rSync_spec hdd.r hc0 (by omega) (fun _ => ⟨hSd, ?_⟩) fun hl' => (hl' hl).elim
      exact stay (by unfold stepDS; rw [if_pos e4, if_pos hl]) _ hfd
    · have hSA := hSd.fr hfA h.nx.1 ha1
      refine ⟨hSA, rSync_spec (hdd.r.fr hfA fun c h2 h1 => h.dis c h1 h2) hc0 (by omega) (fun hl' => (hl hl').elim) fun _ wB hB2 hfB => ⟨hSA.fr hfB h.nx.2 ha2, ?_⟩⟩
      exact move _ _ _ wA wB (by unfold stepDS; rw [if_pos e4, if_neg hl]) (hB.sync hl) hA ((hfd.mono fun _ h => h.elim).trans hfA fun _ h _ => h) (fun c hc => nw_from hfd.1 hc) hB2 hfB fun c hc => .inl hc
  rw [cnd_beq]
  refine ⟨fun e5 => ?_, fun n5 => ?_⟩
  · refine ⟨SR x w.heap.size db rb _, hSd, ptr db, fun _ h => h.1.at rfl, a0, fun _ h => h.2.at rfl, a1, fun _ h => h.2.at rfl, a2, fun _ h => h.2.at rfl, a3, fun _ h => h.2.at rfl, a2, fun _ h => h.2.at rfl,
      ptr rb, fun _ h => h.1.at rfl, a0, fun _ h => h.2.at rfl, a1, fun _ h => h.2.at rfl, a2, fun _ h => h.2.at rfl, a3, fun _ h => h.2.at rfl, a2, fun _ h => h.2.at rfl, ?_⟩
    refine Where_spec fun w2 hf2 => ?_
    have hd2 := hdd.keep hf2 (fun _ _ h => h) (fun _ _ h => h) fun h => h
    have hS2 := hSd.fr hf2 (fun h => h) fun h => h
    refine ⟨hS2, Read_spec hd2.d (by omega) fun w3 hf3 => ?_⟩
    have hd3 := hd2.keep hf3 (fun _ _ h => h) (fun _ _ h => h) fun h => h
    have hS3 := hS2.fr hf3 (fun h => h) fun h => h
    refine ⟨hS3, Where_spec fun w4 hf4 => ?_⟩
    have hd4 := hd3.keep hf4 (fun _ _ h => h) (fun _ _ h => h) fun h => h
    have hS4 := hS3.fr hf4 (fun h => h) fun h => h
    refine ⟨hS4, rRead_spec hd4.r (by omega) fun w5 hf5 => ?_⟩
    have hS5 := hS4.fr hf5 (fun h => h) fun h => h
    refine ⟨hS5, ?_⟩
    rw [decide_eq_true rfl]
    exact stay (by unfold stepDS; rw [if_neg n4, if_pos e5]) _ ((((hfd.trans hf2 fun _ h _ => h).trans hf3 fun _ h _ => h).trans hf4 fun _ h _ => h).trans hf5 fun _ h _ => h)
  rw [cnd_beq]
  refine ⟨fun e6 => ?_, fun n6 => ?_⟩
  · refine ⟨a2, hr1.at rfl, Mod_spec (by omega) (by omega) ⟨inR64 (by omega) (by omega), ptr db, hd1.row.at rfl, Fail_spec hd1.d fun wA hA hfA => ?_⟩⟩
    have hSA := hS1.fr hfA h.nx.1 ha1
    refine ⟨ptr rb, hSA.1.at rfl, rFail_spec (hd1.r.fr hfA fun c h2 h1 => h.dis c h1 h2) hc0 (by omega) (by omega) fun wB hB2 hfB => ?_⟩
    exact move _ _ _ wA wB (by unfold stepDS; rw [if_neg n4, if_neg n5, if_pos e6]) ((hB.fail (by omega)).mono (by omega)) hA ((hf1.mono fun _ h => h.elim).trans hfA fun _ h _ => h) (fun c hc => .inl hc) hB2 hfB fun c hc => .inl hc
  rw [cnd_beq]
  refine ⟨fun e7 => ?_, fun n7 => ?_⟩
  · refine ⟨SR x w.heap.size db rb _, hSd, ptr db, fun _ h => h.1.at rfl, a2, fun _ h => h.2.at rfl, survive_spec hlo hhi fun v w2 hv hf2 _ => ?_⟩
    have hd2 := hdd.keep hf2 (fun _ _ h => h) (fun _ _ h => h) fun h => h
    have hS2 := hSd.fr hf2 (fun h => h) fun h => h
    refine ⟨hS2, Crash_spec hd2.d hB.len (by omega) hv fun w3 hA hf3 => ?_⟩
    have hS3 := hS2.fr hf3 (fun h => h) fun h => h
    have hd3 := hd2.keep hf3 (fun _ _ h => h) (fun _ _ h => h) fun h => h
    refine ⟨hS3, hS3.1.wr (by simp), ?_⟩
    have hf03 : Fr F0 w w3 := (hfd.trans hf2 fun _ h _ => h).trans hf3 fun _ h _ => h
    have hw2 : w.heap.size ≤ w2.heap.size := Nat.le_trans hfd.1 hf2.1
    have hf4 : Fr (fun c => c = x) w3 (w3.setCell ⟨x, 0, none⟩ (.pointer (ptr w2.heap.size))) := Fr.set rfl
    have hr4 := hS3.1.set 0 (.pointer (ptr w2.heap.size))
    have ha4 := hf4.row hS3.2 (by omega)
    have hf4d : Fr (fun c => c = x) w3 (w3.setCell ⟨x, 0, none⟩ (.pointer (ptr w2.heap.size))).drew := hf4.trans Fr.drew fun _ h _ => h
    have hS4 : SR x w.heap.size w2.heap.size rb [(Value.int .i64 a0), (Value.int .i64 a1), (Value.int .i64 a2), (Value.string a3)] (w3.setCell ⟨x, 0, none⟩ (.pointer (ptr w2.heap.size))).drew := ⟨hr4, ha4⟩
    show ∃ S60 : World → Prop, _
    generalize (w3.setCell ⟨x, 0, none⟩ (.pointer (ptr w2.heap.size))).drew = w4 at *
    have hA4 : Rep w4 _ _ _ := hA.fr hf4d fun c hc hF => by subst hF; omega
    have hR4 : RR w4 rb st O2 := hd3.r.fr hf4d fun c hc hF => by subst hF; exact h.nx.2 hc
    refine ⟨SR x w.heap.size w2.heap.size rb _, hS4, ptr rb, fun _ h => h.1.at rfl, a2, fun _ h => h.2.at rfl, survive_spec hlo hhi fun v' w5 hv' hf5 _ => ?_⟩
    have hS5 := hS4.fr hf5 (fun h => h) fun h => h
    refine ⟨hS5, rCrash_spec (hR4.fr hf5 fun _ _ h => h) hB.len (by omega) hv' fun w6 ob hob hR6 hf6 => ?_⟩
    have hS6 := hS5.fr hf6 (fun h => h) fun h => h
    have hr7 := hS6.1.set 1 (.pointer (ptr ob))
    refine ⟨hS6, hS6.1.wr (by simp), ptr w2.heap.size, hr7.at rfl, ?_⟩
    have hf7 : Fr (fun c => c = x) w6 (w6.setCell ⟨x, 1, none⟩ (.pointer (ptr ob))) := Fr.set rfl
    have hf46 : Fr F0 w4 w6 := hf5.trans hf6 fun _ h _ => h
    have s34 := hf4d.1
    have s45 := hf5.1
    have s56 := hf6.1
    have s67 := hf7.1
    have hkx := h.kx
    have hkw : k ≤ w.heap.size := by omega
    have s23 := hf3.1
    have hoblt : ob < w6.heap.size := hR6.lt
    have e : stepDS st a0 a1 a2 (bl a3) = crashDS st (survL a2) := by unfold stepDS; rw [if_neg n4, if_neg n5, if_neg n6, if_pos e7]
    refine hK _ ?_ (by rw [e]; exact hB.crash.mono (by omega)) ?_
    · rw [e]
      refine ⟨w2.heap.size, ob, _, _, hr7, (hA4.fr hf46 fun _ _ h => h).fr hf7 fun c hc hF => ?_, hR6.fr hf7 fun c hc hF => ?_, fun c hc hF => ?_, ⟨fun hc => ?_, fun hc => ?_⟩, fun c hc => ?_, fun c hc => ?_, hkx⟩
      · subst hF; omega
      · subst hF; omega
      · subst hF; omega
      · omega
      · omega
      · omega
      · subst hc; omega
    · refine (((hf03.mono fun _ h => h.elim).trans hf4d fun c hc _ => ?_).trans hf46 fun _ h _ => h.elim).trans hf7 fun c hc _ => ?_
      · subst hc; exact hkx
      · subst hc; exact hkx
  · refine ⟨SR x w.heap.size db rb _, hSd, ptr db, fun _ h => h.1.at rfl, a0, fun _ h => h.2.at rfl, a1, fun _ h => h.2.at rfl, a2, fun _ h => h.2.at rfl, a3, fun _ h => h.2.at rfl, a0, fun _ h => h.2.at rfl, a1, fun _ h => h.2.at rfl, a2, fun _ h => h.2.at rfl, a3, fun _ h => h.2.at rfl,
      ptr rb, fun _ h => h.1.at rfl, a0, fun _ h => h.2.at rfl, a1, fun _ h => h.2.at rfl, a2, fun _ h => h.2.at rfl, a3, fun _ h => h.2.at rfl, a0, fun _ h => h.2.at rfl, a1, fun _ h => h.2.at rfl, a2, fun _ h => h.2.at rfl, a3, fun _ h => h.2.at rfl, ?_⟩
    have hlen := longL_len (bl a3) a2
    have hsz : (ofL (longL (bl a3) a2)).size = (longL (bl a3) a2).length := by rw [← bl_length, bl_ofL]
    refine Where_spec fun w2 hf2 => ?_
    have hd2 := hdd.keep hf2 (fun _ _ h => h) (fun _ _ h => h) fun h => h
    have hS2 := hSd.fr hf2 (fun h => h) fun h => h
    refine ⟨hS2, Long_spec fun w3 hf3 => ?_⟩
    have hd3 := hd2.keep hf3 (fun _ _ h => h) (fun _ _ h => h) fun h => h
    have hS3 := hS2.fr hf3 (fun h => h) fun h => h
    have hf03 : Fr F0 w w3 := (hfd.trans hf2 fun _ h _ => h).trans hf3 fun _ h _ => h
    refine ⟨hS3, Write_spec hd3.d (by omega) (by omega) hc0 (by omega) hlim (fun hbd => ⟨hS3, ?_⟩) (fun g1 g2 hl => ⟨hS3, ?_⟩) fun g1 g2 hl wA hA hfA => ?_⟩
    · have hbd' : bad (whereI a1) (longL (bl a3) a2) := by unfold bad; rw [← hsz]; exact hbd
      have hbd2 := hbd'
      unfold bad at hbd2
      refine half_spec hB hn hS3 hd3.r h.nx.2 ha2 (fun _ w' hf' => ?_) (fun hb => (hb hbd').elim) fun hb => (hb hbd').elim
      exact stay (by unfold stepDS; rw [if_neg n4, if_neg n5, if_neg n6, if_neg n7, if_pos hbd2]) _ (hf03.trans hf' fun _ h _ => h)
    · have hbd' : ¬ bad (whereI a1) (longL (bl a3) a2) := by unfold bad; omega
      have hbd2 := hbd'
      unfold bad at hbd2
      refine half_spec hB hn hS3 hd3.r h.nx.2 ha2 (fun hb => (hbd' hb).elim) (fun _ _ w' hf' => ?_) fun _ hl' => (hl' hl).elim
      exact stay (by unfold stepDS; rw [if_neg n4, if_neg n5, if_neg n6, if_neg n7, if_neg hbd2, if_pos hl]) _ (hf03.trans hf' fun _ h _ => h)
    · have hbd' : ¬ bad (whereI a1) (longL (bl a3) a2) := by unfold bad; omega
      have hbd2 := hbd'
      unfold bad at hbd2
      have hSA := hS3.fr hfA h.nx.1 ha1
      rw [bl_ofL] at hA
      refine ⟨hSA, half_spec hB hn hSA (hd3.r.fr hfA fun c h2 h1 => h.dis c h1 h2) h.nx.2 ha2 (fun hb => (hbd' hb).elim) (fun _ hl' => (hl hl').elim) fun _ _ w' hR' hf' => ?_⟩
      exact move _ _ _ wA w' (by unfold stepDS; rw [if_neg n4, if_neg n5, if_neg n6, if_neg n7, if_neg hbd2, if_neg hl]) (hB.write hl (by omega) hlen) hA ((hf03.mono fun _ h => h.elim).trans hfA fun _ h _ => h) (fun c hc => nw_from hf03.1 hc) hR' hf' fun c hc => hc
end
end Go.Proofs.Ytmhjekbdpnocaaa
