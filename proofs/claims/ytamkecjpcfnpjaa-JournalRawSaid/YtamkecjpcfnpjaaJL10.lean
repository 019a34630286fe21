/- The law JournalRaw returns true. Conditions: none. -/
import Derived.Test.YtamkecjpcfnpjaaJL9
namespace Go.Proofs.Ytamkecjpcfnpjaa
open Go Pw

section
variable {w0 w : World}

theorem prs_byt {c : List UInt8} {en : Nat} : ∀ (f a : Nat) (rs : List (List UInt8)), a ≤ en → prs f c a en = some rs → byt rs ≤ 4 * (en - a)
  | 0, a, rs, ha, h => by
    by_cases hlt : a < en
    · simp [prs, hlt] at h
    · simp [prs, hlt] at h
      subst h
      simp [byt]
  | f + 1, a, rs, ha, h => by
    by_cases hlt : a < en
    · rw [prs_lt hlt] at h
      split at h
      · cases h
      · rename_i hle
        simp only [Option.map_eq_some_iff] at h
        obtain ⟨rs', hrs', rfl⟩ := h
        have ih := prs_byt f _ rs' (by omega) hrs'
        have hlen := readL_length c ((a + 4 : Nat) : Int) (valF (readL c (a : Int) 4) 4)
        simp only [byt]
        omega
    · rw [prs_ge hlt] at h
      cases h
      simp [byt]

theorem recs_byt {c : List UInt8} {rs : List (List UInt8)} (h : recsOf c = some rs) (hc : c.length ≤ 1000) : byt rs ≤ 4000 := by
  obtain ⟨h0, h1, h2, h3⟩ := recsOf_some h
  have e : endOf c = 64 + (hdr c).toNat := rfl
  have hb := prs_byt _ _ _ (by omega) h3
  by_cases hz : hdr c = 0
  · rw [hz] at e; simp at e; omega
  · have := h2 (by omega); omega

theorem Raw_law {s r : ByteArray} {off : Int} {K : Bool → World → Prop} (ho : 0 ≤ off ∧ off < 256) (hK : ∀ w', Fr F0 w0 w' → K true w') : probitylaw27_JournalRaw_sh s off r K w0 := by
  refine ⟨?_⟩
  unfold probitylaw27_JournalRaw_sd
  refine sanity_spec fun w1 hf1 => start_JC fun w2 b hd2 hf2 hb => ?_
  have ht : Int.tmod off 100 = off % 100 := Int.tmod_eq_emod_of_nonneg ho.1
  rw [ht]
  have hx : 0 ≤ off % 100 ∧ off % 100 < 100 := by omega
  generalize off % 100 = x at *
  refine ⟨by decide, inR64 (by omega) (by omega), ⟨by omega, by omega, by omega⟩, ?_⟩
  have hsz : (s.extract 0 (min (s.size : Int) (300 : Int)).toNat).size ≤ 300 := by
    rw [← bl_length, bl_extract]; simp; omega
  generalize s.extract 0 (min (s.size : Int) (300 : Int)).toNat = t at *
  have z0 := hf1.1
  have z1 := hf2.1
  have n0 : newDS.lim ≠ some 0 := by simp [newDS]
  refine Write_DI hd2 (fine_new.mono (n' := 0) (p' := 0) (Nat.le_refl _) (Nat.le_refl _)) (by omega) (by omega) hx.1 (by omega) (fun h => absurd h n0) fun _ w3 hd3 hf3 => ?_
  have htl := bl_length t
  have F3 := fine_new.write (off := x.toNat) (s := bl t) n0 (by omega)
  have n3 : (writeDS newDS x.toNat (bl t)).lim = none := rfl
  refine Sync_DI hd3 F3 (by omega) (fun h => by rw [n3] at h; cases h) fun _ w4 hd4 hf4 => ?_
  have F4 := (F3.sync (by rw [n3]; simp)).mono (n' := 10) (p' := 2 ^ 26) (by omega) (by omega)
  have n4 : (syncDS (writeDS newDS x.toNat (bl t))).lim = none := rfl
  have hlen4 : (syncDS (writeDS newDS x.toNat (bl t))).now.length ≤ 1000 := by
    show (putL [] x.toNat (bl t)).length ≤ 1000
    rw [putL_length]; simp; omega
  have hO3 : ∀ c, nw (fun c => c = b) w2 w3 c → w0.heap.size ≤ c := fun c hc => by
    rcases hc with h | h
    · omega
    · omega
  have hz3 := hf3.1
  have hO4 : ∀ c, nw (nw (fun c => c = b) w2 w3) w3 w4 c → w0.heap.size ≤ c := fun c hc => by
    rcases hc with h | h
    · exact hO3 c h
    · omega
  have g2 : Fr F0 w0 w2 := hf1.trans hf2 fun _ h _ => h
  have g4 : Fr F0 w0 w4 := (g2.trans hf3 fun c hc hlt => by omega).trans hf4 fun c hc hlt => by have := hO3 c hc; omega
  generalize syncDS (writeDS newDS x.toNat (bl t)) = st4 at *
  generalize nw (nw (fun c => c = b) w2 w3) w3 w4 = O4 at *
  cases hr : recsOf st4.now with
  | none =>
    refine Open_spec hd4 F4 (by omega) (fun h => by rw [n4] at h; cases h) (fun _ _ w5 O5 hd5 hf5 _ => ?_) fun _ rs h => by rw [hr] at h; cases h
    rw [show ((11 : Int) != 0) = true from rfl]
    simp only [cnd_true, show ((11 : Int) == 11) = true from rfl, show (((0 : Nat) : Int) == 0) = true from rfl, Option.isNone_none]
    exact hK w5 (g4.trans hf5 fun c hc hlt => by have := hO4 c hc; omega)
  | some rs =>
    have hby := recs_byt hr hlen4
    have hrl := byt_len rs
    refine Open_JJ hd4 F4 (by omega) hr (by rw [n4]; simp) fun w5 O5 jb s5 hJ5 hC5 hs5 hsB5 hjb5 hf5 hO5 => ?_
    have z4 := g4.1
    have hJC : JC w0 w5 b jb (syncDS st4) rs (endOf st4.now) O5 (10 + 1) := ⟨hJ5, hC5, by simp [syncDS, callDS, n4], fun c hc => by
      rcases hO5 c hc with h | h
      · exact hO4 c h
      · omega, by omega, g4.trans hf5 fun c hc hlt => by have := hO4 c hc; omega⟩
    have hsl := hs5.len
    simp at hsl
    rw [show ((0 : Int) != 0) = false from rfl, cnd_false, show (ptr jb).isNone = false from rfl, cnd_false]
    refine Many_spec hJ5.row ?_
    rw [cnd_bne]
    refine ⟨fun h => absurd (by omega) h, fun _ => short_spec ?_⟩
    have hsz2 : (ofL ((bl r).take 200)).size ≤ 200 := by rw [← bl_length, bl_ofL]; simp; omega
    refine hJC.append (by omega) (by omega) fun w6 st6 e6 O6 hJ6 hf6 hO6 => ?_
    rw [bl_ofL] at hJ6
    have hs6 := hs5.fr hf6 fun c hc h => by
      rcases h with h | h
      · exact (hsB5 c hc).2.2 h
      · exact (hsB5 c hc).2.1 h
    rw [show ((0 : Int) != 0) = false from rfl, cnd_false]
    refine Crash_DI (surv := []) hJ6.jj.di hJ6.jj.fine (by omega) rdC_nil fun w7 hd7 hf7 => ?_
    refine Open_JJ hd7 ((fine_crash hJ6.jj.fine _).mono (n' := 0) (Nat.le_refl _) (by omega)) (by omega) (rs := rs ++ [(bl r).take 200]) (clean_crash_of hJ6.cl []) (by simp [crashDS]) fun w8 O8 kb s8 hJ8 hC8 hs8 hsB8 hkb8 hf8 hO8 => ?_
    have z7 := hf7.1
    have f68 : Fr F0 w6 w8 := hf7.trans hf8 fun c hc hlt => by omega
    rw [cnd_true, show ((0 : Int) == 0) = true from rfl, cnd_true]
    have hs8' := hs6.fr f68 fun _ _ h => h
    have hx1 : Row (w8.alloc (Obj.cells #[] 9)) w8.heap.size [] := Row.new (cs := [])
    have hf9 : Fr F0 w8 (w8.alloc (Obj.cells #[] 9)) := Fr.alloc
    have hz9 : (w8.alloc (Obj.cells #[] 9)).heap.size = w8.heap.size + 1 := by simp
    dsimp only
    generalize w8.alloc (Obj.cells #[] 9) = w9 at *
    have hrd := (hs8'.fr hf9 fun _ _ h => h).rd
    rw [Nat.mul_one] at hrd
    refine app_e hx1 hrd (by omega) fun s10 w10 hs10 hf10 hB10 => ?_
    have f810 : Fr F0 w8 w10 := hf9.trans hf10 fun c hc hlt => by omega
    have nB : ∀ c, inB s10 c → w8.heap.size ≤ c := fun c hc => by
      rcases hB10 c hc with h | h <;> omega
    refine short_spec ?_
    refine app_one hs10 (by omega) fun s12 w12 hs12 hf12 hB12 => ?_
    rw [bl_ofL] at hs12
    have f812 : Fr F0 w8 w12 := f810.trans hf12 fun c hc hlt => by have := nB c hc; omega
    have h1 := (hs8.fr f812 fun _ _ h => h).rd
    have h2 := hs12.rd
    rw [Nat.mul_one] at h1 h2
    refine Same_spec h1 h2 (by simp; omega) fun w13 hf13 => ?_
    rw [decide_eq_true rfl]
    exact hK w13 (((hJ6.fr.trans f68 fun _ h _ => h).trans f812 fun _ h _ => h).trans hf13 fun _ h _ => h)
end
end Go.Proofs.Ytamkecjpcfnpjaa
