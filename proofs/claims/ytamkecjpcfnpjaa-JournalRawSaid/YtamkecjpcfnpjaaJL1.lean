/- The journal on its disk as one thing; the examples of the chapter. Conditions: none. -/
import Derived.Test.YtamkecjpcfnpjaaJM2
import Derived.Test.YtamkecjpcfnpjaaJG2
namespace Go.Proofs.Ytamkecjpcfnpjaa
open Go Pw

theorem prs_tot {c : List UInt8} {en : Nat} (hl : en ≤ c.length) : ∀ (f a : Nat) (rs : List (List UInt8)), a ≤ en → prs f c a en = some rs → en ≤ a + byt rs
  | 0, a, rs, ha, h => by
    by_cases hlt : a < en
    · simp [prs, hlt] at h
    · omega
  | f + 1, a, rs, ha, h => by
    by_cases hlt : a < en
    · rw [prs_lt hlt] at h
      split at h
      · cases h
      · rename_i hle
        simp only [Option.map_eq_some_iff] at h
        obtain ⟨rs', hrs', rfl⟩ := h
        have ih := prs_tot hl f _ rs' (by omega) hrs'
        have hv := valF_four (readL c (a : Int) 4)
        have hlen : (readL c ((a + 4 : Nat) : Int) (valF (readL c (a : Int) 4) 4)).length = (valF (readL c (a : Int) 4) 4).toNat := by
          generalize valF (readL c (a : Int) 4) 4 = m at *
          unfold readL
          split
          · rename_i h0
            simp; omega
          · simp; omega
        simp only [byt]
        omega
    · omega

theorem endOf_byt {c : List UInt8} {rs : List (List UInt8)} (h : recsOf c = some rs) : 64 ≤ endOf c ∧ endOf c ≤ 64 + byt rs := by
  obtain ⟨h0, h1, h2, h3⟩ := recsOf_some h
  have e : endOf c = 64 + (hdr c).toNat := rfl
  refine ⟨by omega, ?_⟩
  by_cases hz : hdr c = 0
  · rw [hz] at e; simp at e; omega
  · exact prs_tot (h2 (by omega)) _ _ _ (by omega) h3

/-- A journal on its disk. -/
structure JJ (w : World) (b jb : Nat) (st : DS) (rs : List (List UInt8)) (e : Nat) (br : Bool) (O : Nat → Prop) (n : Nat) : Prop where
  di : DI w b st O
  row : Row w jb (jRow b rs.length (byt rs) e br)
  no : ¬ O jb
  fine : Fine st n (2 ^ 26)

theorem Clean.fine {st : DS} {rs : List (List UInt8)} {e n p : Nat} (h : Clean st rs e) (hF : Fine st n p) : Fine st n 0 := ⟨hF.lens, by rw [h.pcs]; simp, hF.c0, hF.c1, hF.lim⟩

section
variable {w w' : World} {b jb e n : Nat} {st : DS} {O F : Nat → Prop} {rs : List (List UInt8)} {br : Bool}

theorem JJ.fr (h : JJ w b jb st rs e br O n) (hf : Fr F w w') (hd : ∀ c, (O c ∨ c = jb) → ¬ F c) : JJ w' b jb st rs e br O n :=
  ⟨h.di.fr hf fun c hc => hd c (.inl hc), hf.row h.row (hd jb (.inr rfl)), h.no, h.fine⟩

theorem byt_len (rs : List (List UInt8)) : rs.length ≤ byt rs := by
  induction rs with
  | nil => simp [byt]
  | cons r rs ih => simp [byt]; omega

theorem Append_JJ {r : ByteArray} {K : Int → World → Prop} (h : JJ w b jb st rs e false O n) (hc : Clean st rs e) (hn : n ≤ 2 ^ 30) (hfit : byt rs + r.size + 272 ≤ 2 ^ 24)
    (hok : (apDS st e (bl r)).2 = true → ∀ w' O', JJ w' b jb (apDS st e (bl r)).1 (rs ++ [bl r]) (e + 4 + r.size) false O' (n + 4) → Clean (apDS st e (bl r)).1 (rs ++ [bl r]) (e + 4 + r.size) → Fr (fun c => O c ∨ c = jb) w w' → (∀ c, O' c → O c ∨ w.heap.size ≤ c) → K 0 w')
    (hfail : (apDS st e (bl r)).2 = false → ∀ w' O', JJ w' b jb (apDS st e (bl r)).1 rs e true O' (n + 4) → Either (apDS st e (bl r)).1 rs (bl r) → (apDS st e (bl r)).1.lim = some 0 → Fr (fun c => O c ∨ c = jb) w w' → (∀ c, O' c → O c ∨ w.heap.size ≤ c) → K 70 w') :
    journal_Journal_Append_sh (ptr jb) r K w := by
  have he := endOf_byt hc.rec1
  have heq := hc.en
  have hl := byt_len rs
  have hrl := bl_length r
  have hlaw := ap_law (r := bl r) hc (by omega)
  have hF0 := hc.fine h.fine
  have hF1 := (ap_fine (r := bl r) hF0 (e := e) (by omega) (by omega)).mono (n' := n + 4) (p' := 2 ^ 26) (Nat.le_refl _) (by omega)
  refine Append_spec h.di hF0 (by omega) (by omega) h.row h.no (by omega) (by omega) (by omega) (by omega) (by omega) (by omega) (fun hb => by cases hb) (fun _ hm => by omega) (fun _ _ hap w' O' hd hr hf hO hno => ?_) fun _ _ hap w' O' hd hr hf hO hno => ?_
  · refine hok hap w' O' ⟨hd, ?_, hno, hF1⟩ ?_ hf hO
    · have e1 : ((rs ++ [bl r]).length) = rs.length + 1 := by simp
      have e2 : ((byt (rs ++ [bl r]) : Nat) : Int) = (byt rs : Int) + (r.size + 16) := by rw [byt_append]; simp [byt, hrl]
      rw [e1, e2]
      exact hr
    · have := hlaw.1 hap
      rw [hrl] at this
      exact this
  · exact hfail hap w' O' ⟨hd, hr, hno, hF1⟩ (hlaw.2 hap).1 (hlaw.2 hap).2 hf hO

theorem Append_broken {r : ByteArray} {K : Int → World → Prop} (h : JJ w b jb st rs e true O n) (hn : n ≤ 2 ^ 30) (he : 64 ≤ e) (he2 : e ≤ 64 + byt rs) (hby : byt rs ≤ 2 ^ 28) (hr : r.size ≤ 2 ^ 30) (hK : ∀ w', Fr F0 w w' → K 70 w') : journal_Journal_Append_sh (ptr jb) r K w := by
  have hl := byt_len rs
  exact Append_spec h.di h.fine (by omega) (by omega) h.row h.no he (by omega) (by omega) (by omega) (by omega) hr (fun _ => hK) (fun hb => by cases hb) (fun hb => by cases hb) fun hb => by cases hb

theorem Open_JJ {K : Option Addr → Sl → Int → World → Prop} (h : DI w b st O) (hF : Fine st n (2 ^ 26)) (hn : n ≤ 2 ^ 30) (hr : recsOf st.now = some rs) (h0 : st.lim ≠ some 0)
    (hK : ∀ w' O' jb s, JJ w' b jb (syncDS st) rs (endOf st.now) false O' (n + 1) → Clean (syncDS st) rs (endOf st.now) → OwnV 1 w' s (rs.map sv) → (∀ c, inB s c → w.heap.size ≤ c ∧ c ≠ jb ∧ ¬ O' c) → w.heap.size ≤ jb → Fr O w w' → (∀ c, O' c → O c ∨ w.heap.size ≤ c) → K (ptr jb) s 0 w') :
    journal_Open_sh (ptr b) K w :=
  Open_spec h hF (by omega) (fun h => absurd h h0) (fun _ hn => by rw [hr] at hn; cases hn) fun _ rs' hr' w' O' jb s hd hrow hs hsB hjb hno hf hO => by
    rw [hr] at hr'
    cases hr'
    exact hK w' O' jb s ⟨hd, hrow, hno, (hF.sync h0).mono (Nat.le_refl _) (by omega)⟩ (clean_sync hr) hs hsB hjb hf hO

theorem recsOf_nil : recsOf [] = some [] := by decide

/-- A new disk, and its journal. -/
theorem New_JJ {K : Option Addr → World → Prop} (hK : ∀ w', DI w' w.heap.size newDS (fun c => c = w.heap.size) → Fr F0 w w' → w'.heap.size = w.heap.size + 1 → K (ptr w.heap.size) w') : disk_New_sh K w :=
  New_spec fun w' hr hf hs => hK w' ⟨hr, fun c hc => by omega⟩ hf hs

theorem short_spec {s : ByteArray} {K : ByteArray → World → Prop} (hK : K (ofL ((bl s).take 200)) w) : probitylaw27_short_sh s K w := by
  refine ⟨⟨⟨by omega, by omega, by omega⟩, ?_⟩⟩
  have e : s.extract 0 (min (s.size : Int) (200 : Int)).toNat = ofL ((bl s).take 200) := by
    apply bl_inj
    rw [bl_extract, bl_ofL, List.drop_zero]
    have hl := bl_length s
    by_cases h : s.size ≤ 200
    · rw [List.take_of_length_le (by omega), List.take_of_length_le (by omega)]
    · congr 1
      omega
  rw [e]
  exact hK
end
end Go.Proofs.Ytamkecjpcfnpjaa
