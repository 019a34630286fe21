/- The law DiskFails returns true. Conditions: none. -/
import Derived.Test.YtmhjekbdpnocaaaD6
namespace Go.Proofs.Ytmhjekbdpnocaaa
open Go Pw

structure FInv (st : DS) (i many : Nat) : Prop where
  calls : st.calls = (min i many : Nat)
  lim : st.lim = some ((many : Int) - (min i many : Nat))
  now : st.now.length ≤ min i many
  syn : st.syn.length ≤ 100
  pcs : ∀ p ∈ st.pcs, p.1 + p.2.length ≤ 100
  len : st.pcs.length ≤ i

theorem FInv.lens {st : DS} {i many : Nat} (h : FInv st i many) (hm : many < 30) : Lens st :=
  ⟨by have := h.now; omega, by have := h.syn; omega, fun p hp => by have := h.pcs p hp; omega⟩

theorem splitL_one (i : Nat) (c : UInt8) : splitL i [c] = [(i, [c])] := by
  have hm := Nat.mod_lt i (by decide : 64 > 0)
  rw [splitL_cons (by simp)]
  obtain ⟨j, hj⟩ : ∃ j, 64 - i % 64 = j + 1 := ⟨64 - i % 64 - 1, by omega⟩
  rw [hj]
  simp [splitL_nil]

section
variable {w : World}

theorem Fails_k1 {b k i many : Nat} {bits more : Int} {up : Bool} {d : Option Addr} {want : Int} {N : Int → Int → Bool → Option Addr → Int → Int → World → Prop} {K : Bool → World → Prop} {st : DS}
    (hr : RI w b st k) (hi : FInv st i many) (hm : many < 30) (hil : i < 100) (hw : want = if many ≤ i then 70 else 0) (hd : d = ptr b)
    (hN : ∀ w' st', RI w' b st' k → FInv st' (i + 1) many → Fr (fun c => k ≤ c) w w' → N bits more up d many ((i : Int) + 1) w') :
    probitylaw26_DiskFails_k1 bits more up d many i want N K w := by
  subst hd
  have hL := hi.lens hm
  have hcalls := hi.calls
  have hlim : ∀ v, st.lim = some v → (-2 ^ 62 : Int) ≤ v ∧ v ≤ 2 ^ 62 := fun v hv => by
    rw [hi.lim] at hv
    cases hv
    omega
  have h0 : st.lim = some 0 ↔ many ≤ i := by
    rw [hi.lim]
    simp only [Option.some.injEq]
    omega
  have hpl : st.pcs.length ≤ 2 ^ 29 := by have := hi.len; omega
  have stay : many ≤ i → FInv st (i + 1) many := fun h => by
    have e : min (i + 1) many = min i many := by omega
    exact ⟨by rw [e]; exact hi.calls, by rw [e]; exact hi.lim, by rw [e]; exact hi.now, hi.syn, hi.pcs, by have := hi.len; omega⟩
  refine ⟨?_⟩
  unfold probitylaw26_DiskFails_k1d
  have htm : Int.tmod (i : Int) 32 = ((i % 32 : Nat) : Int) := rfl
  refine ⟨by omega, by rw [htm]; omega, ?_⟩
  rw [cnd_iff]
  constructor
  · intro _
    refine Sync_RI hr hL (by omega) (by omega) hlim (fun h => ?_) fun h w' hr' hf => ?_
    · have hge := h0.1 h
      rw [if_pos hge] at hw
      rw [cnd_bne]
      refine ⟨fun h => (h hw.symm).elim, fun _ => ⟨inR64 (by omega) (by omega), hN w st hr (stay hge) Fr.refl⟩⟩
    · have hlt : ¬ many ≤ i := fun h' => h (h0.2 h')
      rw [if_neg hlt] at hw
      rw [cnd_bne]
      refine ⟨fun h => (h hw.symm).elim, fun _ => ⟨inR64 (by omega) (by omega), hN w' _ hr' ⟨?_, ?_, ?_, ?_, ?_, ?_⟩ hf⟩⟩
      · simp only [syncDS, callDS]; omega
      · simp only [syncDS, callDS, hi.lim, Option.map_some]; congr 1; omega
      · simp only [syncDS, callDS]; have := hi.now; omega
      · simp only [syncDS]; have := hi.now; omega
      · simp [syncDS]
      · simp [syncDS]
  · intro _
    have hs1 : (str [122]).size = 1 := by kernel_rfl
    have hb1 : bl (str [122]) = [122] := by kernel_rfl
    refine Write_RI hr hL hpl (by omega) (by omega) hlim (fun h => absurd h (by omega)) (fun _ _ h => ?_) fun _ _ h w' hr' hf => ?_
    · have hge := h0.1 h
      rw [if_pos hge] at hw
      rw [cnd_bne]
      refine ⟨fun h => (h hw.symm).elim, fun _ => ⟨inR64 (by omega) (by omega), hN w st hr (stay hge) Fr.refl⟩⟩
    · have hlt : ¬ many ≤ i := fun h' => h (h0.2 h')
      rw [if_neg hlt] at hw
      rw [hb1, Int.toNat_natCast] at hr'
      rw [cnd_bne]
      refine ⟨fun h => (h hw.symm).elim, fun _ => ⟨inR64 (by omega) (by omega), hN w' _ hr' ⟨?_, ?_, ?_, ?_, ?_, ?_⟩ hf⟩⟩
      · simp only [writeDS, callDS]; omega
      · simp only [writeDS, callDS, hi.lim, Option.map_some]; congr 1; omega
      · simp only [writeDS]; rw [putL_length]; have := hi.now; simp; omega
      · simp only [writeDS, callDS]; exact hi.syn
      · intro p hp
        simp only [writeDS, splitL_one, List.mem_append, List.mem_singleton] at hp
        rcases hp with hp | rfl
        · exact hi.pcs p hp
        · simp; omega
      · simp only [writeDS, splitL_one]; have := hi.len; simp; omega

theorem DiskFails_spec {n bits more : Int} {K : Bool → World → Prop} (hn : 0 ≤ n) (hn' : n < 256) (hm : 0 ≤ more) (hm' : more < 256) (hK : ∀ w', Fr F0 w w' → K true w') : probitylaw26_DiskFails_sh n bits more K w := by
  refine ⟨?_⟩
  unfold probitylaw26_DiskFails_sd
  refine sanity_spec fun w1 hf1 => ?_
  refine New_RI fun w3 hd hf3 => ?_
  have hF := hf1.trans hf3 fun _ h _ => h
  simp only [show ∀ b, (ptr b).isNone = false from fun _ => rfl, cnd_false]
  obtain ⟨n, rfl⟩ := Int.eq_ofNat_of_zero_le hn
  obtain ⟨more, rfl⟩ := Int.eq_ofNat_of_zero_le hm
  have htm : Int.tmod (n : Int) 30 = ((n % 30 : Nat) : Int) := rfl
  have htm5 : Int.tmod (more : Int) 5 = ((more % 5 : Nat) : Int) := rfl
  rw [htm]
  have hmany : n % 30 < 30 := Nat.mod_lt _ (by decide)
  have hmore : more % 5 < 5 := Nat.mod_lt _ (by decide)
  generalize n % 30 = many at *
  refine ⟨by omega, inR64 (by omega) (by omega), ?_⟩
  refine Fail_RI hd fun w5 hd hf5 => ?_
  have hF := fr_after hF hf5 hf1.1
  refine ⟨?_⟩
  refine ⟨fun i w' => ∃ (k : Nat) (st : DS), i = k ∧ k ≤ many + more % 5 + 1 ∧ RI w' w1.heap.size st w1.heap.size ∧ FInv st k many ∧ Fr F0 w w', fun i _ => many + more % 5 + 1 - i.toNat, ⟨0, _, rfl, by omega, hd, ?_, hF⟩, ?_⟩
  · refine ⟨by simp [failDS, newDS], ?_, by simp [failDS, newDS], by simp [failDS, newDS], by simp [failDS, newDS], by simp [failDS, newDS]⟩
    have : (-1 : Int) < many := by omega
    simp [failDS, this]
  rintro i w6 ⟨k, st, rfl, hk, hr, hi, hF6⟩
  unfold probitylaw26_DiskFails_b0
  rw [htm5]
  refine ⟨by omega, inR64 (by omega) (by omega), inR64 (by omega) (by omega), inR64 (by omega) (by omega), ?_⟩
  have go : ∀ want, (want = if many ≤ k then 70 else 0) → (k : Int) < (many : Int) + ((more % 5 : Nat) : Int) + 1 → probitylaw26_DiskFails_k1 bits more true (ptr w1.heap.size) many k want
      (fun bits' more' up' d' many' i' w' => ((bits' = bits ∧ more' = more ∧ up' = true ∧ d' = ptr w1.heap.size ∧ many' = many ∧ True) ∧ (∃ (k : Nat) (st : DS), i' = k ∧ k ≤ many + more % 5 + 1 ∧ RI w' w1.heap.size st w1.heap.size ∧ FInv st k many ∧ Fr F0 w w')) ∧ many + more % 5 + 1 - i'.toNat < many + more % 5 + 1 - (k : Int).toNat) K w6 := by
    intro want hw hlt
    exact Fails_k1 hr hi hmany (by omega) hw rfl fun w' st' hr' hi' hf => ⟨⟨⟨rfl, rfl, rfl, rfl, rfl, trivial⟩, k + 1, st', by omega, by omega, hr', hi', fr_after hF6 hf hf1.1⟩, by omega⟩
  rw [cnd_prop]
  constructor
  · intro hlt
    rw [cnd_prop]
    refine ⟨fun h => go 70 (by rw [if_pos (by omega)]) hlt, fun h => go 0 (by rw [if_neg (by omega)]) hlt⟩
  · intro hge
    have hkm : k = many + more % 5 + 1 := by omega
    have hmin : min k many = many := by omega
    refine Calls_RI hr (Size_RI hr ?_)
    refine Fail_RI hr fun w14 hr14 hf14 => ?_
    have hF14 := fr_after hF6 hf14 hf1.1
    have hL0 := hi.lens hmany
    have hL : Lens (failDS st (-1)) := ⟨hL0.now, hL0.syn, hL0.pcs⟩
    have hlen := hi.len
    have hcalls := hi.calls
    have hlim : (failDS st (-1)).lim = none := by simp [failDS]
    have hs : (str [97, 103, 97, 105, 110]).size = 5 := by kernel_rfl
    have hc14 : (failDS st (-1)).calls = st.calls := rfl
    have hp14 : (failDS st (-1)).pcs = st.pcs := rfl
    refine Write_RI hr14 hL (by rw [hp14]; omega) (by rw [hc14]; omega) (by rw [hc14]; omega) (nl hlim) (fun h => absurd h (by omega)) (fun _ _ h => by rw [hlim] at h; cases h) fun _ _ _ w15 hr15 hf15 => ?_
    have hnow := hi.now
    rw [hmin] at hcalls hnow
    have e1 : (st.calls == (many : Int)) = true := by rw [hcalls]; simp
    have e2 : decide (((st.now.length : Nat) : Int) ≤ (many : Int)) = true := by simp; omega
    rw [e1, e2]
    simp only [cnd_true, beq_self_eq_true]
    refine Calls_RI hr15 ⟨inR64 (by omega) (by omega), ?_⟩
    have e3 : (writeDS (failDS st (-1)) (0 : Int).toNat (bl (str [97, 103, 97, 105, 110]))).calls = (many : Int) + 1 := by
      simp only [writeDS, callDS, hc14]; omega
    rw [e3]
    simp only [beq_self_eq_true]
    exact hK w15 (fr_after hF14 hf15 hf1.1)
end
end Go.Proofs.Ytmhjekbdpnocaaa
