/- combine: whether a prefix is hopeless. Conditions: none. -/
import Derived.Test.YtmkjcheafdionaaCD8
namespace Go.Proofs.Ytmkjcheafdionaa
open Go Pw

section
variable {w w' w0 : World} {s s0 s1 s2 s5 t ns : Sl} {p : Pr} {f T : List Int} {sb db bb zb tb fb : Nat} {a b n : Int} {ok : Bool} {F B : List Value} {K : Int -> Int -> Bool -> World -> Prop}

theorem hopeless_k0 {l : List (Nat × List Value)} (m : Mem w0 w (l ++ [(zb, [.int .i64 0, .int .i64 1]), (tb, [.int .i64 0, .int .i64 0]), (fb, F)])) (hK : ∀ w', Fr F0 w0 w' -> K 0 1 true w') : Cs_hopeless_k0 ⟨tb, 0, none⟩ ⟨zb, 0, none⟩ K w := by
  refine ⟨?_⟩
  unfold Cs_hopeless_k0d
  have m := m.dr l.length (List.drop_left ..)
  refine ⟨_, m.ld 0 rfl rfl, _, m.ld 0 rfl rfl, ?_⟩
  exact put2 (K := fun a b w => K a b true w) m 1 rfl hK

theorem hopeless_k3 {l : List (Nat × List Value)} (m : Mem w0 w (l ++ [(zb, [.int .i64 0, .int .i64 1]), (tb, [.int .i64 0, .int .i64 0]), (fb, F)])) (hK : ∀ w', Fr F0 w0 w' -> K 0 1 false w') : Cs_hopeless_k3 ⟨tb, 0, none⟩ ⟨zb, 0, none⟩ K w := by
  refine ⟨?_⟩
  unfold Cs_hopeless_k3d
  have m := m.dr l.length (List.drop_left ..)
  refine ⟨_, m.ld 0 rfl rfl, _, m.ld 0 rfl rfl, ?_⟩
  exact put2 (K := fun a b w => K a b false w) m 1 rfl hK

theorem hopeless_k2 (m : Mem w0 w [(db, [.int .i64 a, .int .i64 b]), (bb, B), (zb, [.int .i64 0, .int .i64 1]), (tb, [.int .i64 0, .int .i64 0]), (fb, F)]) (hK : ∀ w', Fr F0 w0 w' -> K a b true w') : Cs_hopeless_k2 ⟨tb, 0, none⟩ ⟨db, 0, none⟩ K w := by
  refine ⟨?_⟩
  unfold Cs_hopeless_k2d
  refine ⟨_, m.ld 0 rfl rfl, _, m.ld 0 rfl rfl, ?_⟩
  exact put2 (K := fun a b w => K a b true w) m 3 rfl hK

theorem hopeless_k1 {pts bnd left : Int} (hp : RightPr p) (h : PF w0 s0 s1 s2 s5 p f) (hr : Row w0 sb (schC t pts bnd ns s0 s1 s2 p.most p.budget left)) (hT : PF w0 s0 s1 s2 t p T) (hPT : Perm p T) (hfl : f.length <= T.length)
    (m : Mem w0 w [(db, [.int .i64 a, .int .i64 b]), (bb, pfC s0 s1 s2 p.most p.budget t), (zb, [.int .i64 0, .int .i64 1]), (tb, [.int .i64 0, .int .i64 0]), (fb, pfC s0 s1 s2 p.most p.budget s5)])
    (hn : ok = true -> upB p f a b = some n) (hncr : ¬ Crowd p f) (hle : leastOf p f <= p.budget)
    (hK : ∀ w' a b ok, Fr F0 w0 w' -> (ok = true -> Closed (upB p) p f a b T) -> (ok = false -> ¬ Crowd p f /\ leastOf p f <= p.budget) -> K a b ok w') :
    Cs_hopeless_k1 (some ⟨sb, 0, none⟩) ⟨fb, 0, none⟩ ⟨tb, 0, none⟩ ⟨zb, 0, none⟩ ⟨bb, 0, none⟩ ⟨db, 0, none⟩ n ok K w := by
  refine ⟨?_⟩
  unfold Cs_hopeless_k1d
  have e5 := h.tk.len
  have hcl : ok = true -> (n < worth p T \/ n = worth p T /\ gtL f T = true) -> Closed (upB p) p f a b T := fun hok hc => .inr (.inr (.inr ⟨n, hn hok, hc⟩))
  refine ⟨_, m.ld 1 rfl rfl, ?_⟩
  refine ⟨_, m.ld 1 rfl rfl, ?_⟩
  refine ⟨_, m.ld 1 rfl rfl, ?_⟩
  refine ⟨_, m.ld 1 rfl rfl, ?_⟩
  refine ⟨_, m.ld 1 rfl rfl, ?_⟩
  refine ⟨_, m.ld 1 rfl rfl, ?_⟩
  refine worth_spec hp (hT.fr m.1) hPT.2.1 fun w91 hf => ?_; have m := m.fr hf
  refine Compare_i ?_; skip
  intro w95; have m : Mem w0 w95 _ := m.drew; clear_value w95
  refine ⟨fun u => Rs u _ /\ Row u _ _, ⟨m.sub 0 rfl, m.1.row hr fun h => h⟩, ?_⟩
  rw [cnd_iff]; refine ⟨fun hok => ?_, fun hok => ?_⟩
  · refine cnd_prop.2 ⟨fun hc2 => ?_, fun hc2 => ?_⟩
    · exact hopeless_k2 m fun w' hf => hK w' _ _ true hf (fun _ => hcl hok (.inl (by unfold cmpI at hc2; split at hc2; assumption; split at hc2 <;> omega))) (fun h => by cases h)
    · refine cnd_beq.2 ⟨fun hc3 => ?_, fun hc3 => ?_⟩
      · refine ⟨_, fun _ h => h.1.ld 4 rfl rfl, ?_⟩
        refine nz_iff.2 ⟨_, rfl, ?_⟩
        refine ⟨_, fun _ h => h.2.at rfl, ?_⟩
        refine ⟨_, fun _ h => h.1.ld 4 rfl rfl, ?_⟩
        refine ⟨⟨by omega, by omega, by have := hT.tk.cap; have := hT.tk.len; have := e5; omega⟩, ?_⟩
        simp only [Int.toNat_natCast, e5]; refine CompareL_spec (h.fr m.1).tk (Vw.take (hT.tk.fr m.1) (fun a => ie_length _ _ a) hfl) h.lt (by rw [List.length_take]; have := hT.lt; omega) ?_; skip
        refine ⟨⟨m.sub 0 rfl, m.1.row hr fun h => h⟩, ?_⟩
        refine cnd_prop.2 ⟨fun hc4 => ?_, fun hc4 => ?_⟩
        · exact hopeless_k2 m fun w' hf => hK w' _ _ true hf (fun _ => hcl hok (.inr ⟨by unfold cmpI at hc3; split at hc3; omega; split at hc3 <;> omega, by rw [← gtL_take]; exact (cmpLst_gt _ _ (by rw [List.length_take]; omega)).1 hc4⟩)) (fun h => by cases h)
        · exact hopeless_k3 (l := [_, _]) m fun w' hf => hK w' 0 1 false hf (fun h => by cases h) fun _ => ⟨hncr, hle⟩
      · exact hopeless_k3 (l := [_, _]) m fun w' hf => hK w' 0 1 false hf (fun h => by cases h) fun _ => ⟨hncr, hle⟩
  · exact hopeless_k3 (l := [_, _]) m fun w' hf => hK w' 0 1 false hf (fun h => by cases h) fun _ => ⟨hncr, hle⟩

theorem hopeless_spec {pts bnd left : Int} (hp : RightPr p) (h : PF w s0 s1 s2 s5 p f) (hd : Decs p p.lots f) (hr : Row w sb (schC t pts bnd ns s0 s1 s2 p.most p.budget left)) (hT : PF w s0 s1 s2 t p T) (hPT : Perm p T)
    (hK : ∀ w' a b ok, Fr F0 w w' -> (ok = true -> Closed (upB p) p f a b T) -> (ok = false -> ¬ Crowd p f /\ leastOf p f <= p.budget) -> K a b ok w') :
    Cs_hopeless_sh (some ⟨sb, 0, none⟩) s0 s1 s2 p.most p.budget s5 K w := by
  refine ⟨?_⟩
  unfold Cs_hopeless_sd
  have hfl : f.length <= T.length := by rw [hPT.1]; exact decs_len hd
  have hkey : ∀ {u : World} {l : List (Int × Int)}, Fr F0 w u -> (∀ x ∈ l, Mul0 x) -> FnK (.func (.func (idOf Cp_bound_ok)) #[.agg #[.slice s0.p s0.l s0.c, .slice s1.p s1.l s1.c, .slice s2.p s2.l s2.c, .int .i64 p.most, .int .i64 p.budget, .slice s5.p s5.l s5.c]] #[]) u l (fun x => (floorQ (boundQ p f x).n (boundQ p f x).d, (boundQ p f x).ok)) :=
    fun {u l} hu hg x hx u2 hu2 K' hK' => callV_of Cp_bound_ok (bound_spec hp (h.fr (hu.t hu2)) hd (hg x hx).2.1 (hg x hx).2.2.1 fun u3 hu3 => hK' u3 hu3)
  have hup : ∀ {l : List (Int × Int)} {a b n : Int} {ok : Bool}, (∀ x ∈ l, Mul0 x) -> (ok = true -> ∃ x ∈ l, x = (a, b) /\ (fun x : Int × Int => (floorQ (boundQ p f x).n (boundQ p f x).d, (boundQ p f x).ok)) x = (n, true)) -> ok = true -> upB p f a b = some n := by
    intro l a b n ok hg hfo hok
    obtain ⟨x, hx, rfl, hgx⟩ := hfo hok
    obtain ⟨g1, g2, g3, g4⟩ := hg _ hx
    simp only [Prod.mk.injEq] at hgx
    unfold upB
    rw [if_pos ⟨g1, g2, g3, g4⟩, if_pos hgx.2, hgx.1]
  have m : Mem w w [] := Mem.nil
  intro w1; have m : Mem w w1 _ := m.allocL; (try have hmk : Mk _ 2 encR w1 _ _ := hmk.fr (show Fr F0 w w1 from Fr.alloc)); clear_value w1
  intro w2; have m : Mem w w2 _ := m.allocL; (try have hmk : Mk _ 2 encR w2 _ _ := hmk.fr (show Fr F0 w1 w2 from Fr.alloc)); clear_value w2
  refine Of_spec fun w3 hf => ?_; have m := m.fr hf
  intro w5; have m : Mem w w5 _ := m.allocL; (try have hmk : Mk _ 2 encR w5 _ _ := hmk.fr (show Fr F0 w3 w5 from Fr.alloc)); clear_value w5
  refine ⟨m.wr 0 rfl rfl, ?_⟩
  intro w6; have m : Mem w w6 _ := m.set 0 rfl; clear_value w6; simp only [List.set_cons_zero] at m
  refine ⟨m.wr 0 rfl rfl, ?_⟩
  intro w7; have m : Mem w w7 _ := m.set 0 rfl; clear_value w7; simp only [List.set_cons_zero, List.set_cons_succ] at m
  intro w8; have m : Mem w w8 _ := m.drew; clear_value w8
  refine ⟨fun u => Rs u _ /\ Row u _ _, ⟨m.sub 0 rfl, m.1.row hr fun h => h⟩, ?_⟩
  refine ⟨_, fun _ h => h.1.ld 2 rfl rfl, ?_⟩
  refine ⟨_, fun _ h => h.1.ld 2 rfl rfl, ?_⟩
  refine ⟨_, fun _ h => h.1.ld 2 rfl rfl, ?_⟩
  refine ⟨_, fun _ h => h.1.ld 2 rfl rfl, ?_⟩
  refine ⟨_, fun _ h => h.1.ld 2 rfl rfl, ?_⟩
  refine ⟨_, fun _ h => h.1.ld 2 rfl rfl, ?_⟩
  refine crowded_spec hp (h.fr m.1) hd fun w16 hf => ?_; have m := m.fr hf
  refine ⟨⟨m.sub 0 rfl, m.1.row hr fun h => h⟩, ?_⟩
  rw [cnd_iff]; refine ⟨fun hcr => ?_, fun hcr => ?_⟩
  · exact hopeless_k0 (l := []) m fun w' hf => hK w' 0 1 true hf (fun _ => .inl (crowdB_iff.1 hcr)) (fun h => by cases h)
  · refine ⟨_, fun _ h => h.1.ld 2 rfl rfl, ?_⟩
    refine ⟨_, fun _ h => h.1.ld 2 rfl rfl, ?_⟩
    refine ⟨_, fun _ h => h.1.ld 2 rfl rfl, ?_⟩
    refine ⟨_, fun _ h => h.1.ld 2 rfl rfl, ?_⟩
    refine ⟨_, fun _ h => h.1.ld 2 rfl rfl, ?_⟩
    refine ⟨_, fun _ h => h.1.ld 2 rfl rfl, ?_⟩
    refine nz_iff.2 ⟨_, rfl, ?_⟩
    refine ⟨_, fun _ h => h.2.at rfl, ?_⟩
    refine least_spec hp (h.fr m.1) hd fun w26 hf => ?_; have m := m.fr hf
    refine ⟨⟨m.sub 0 rfl, m.1.row hr fun h => h⟩, ?_⟩
    rw [cnd_prop]; refine ⟨fun hle => ?_, fun hle => ?_⟩
    · exact hopeless_k0 (l := []) m fun w' hf => hK w' 0 1 true hf (fun _ => .inr (.inl (by omega))) (fun h => by cases h)
    · intro w34; have m : Mem w w34 _ := m.drew; clear_value w34
      refine ⟨fun u => Rs u _ /\ Row u _ _, ⟨m.sub 0 rfl, m.1.row hr fun h => h⟩, ?_⟩
      refine nz_iff.2 ⟨_, rfl, ?_⟩
      refine ⟨_, fun _ h => h.2.at rfl, ?_⟩
      refine ⟨_, fun _ h => h.2.at rfl, ?_⟩
      refine ⟨_, fun _ h => h.2.at rfl, ?_⟩
      refine ⟨_, fun _ h => h.2.at rfl, ?_⟩
      refine ⟨_, fun _ h => h.2.at rfl, ?_⟩
      refine nz_iff.2 ⟨_, rfl, ?_⟩
      refine ⟨_, fun _ h => h.2.at rfl, ?_⟩
      intro w44; have m : Mem w w44 _ := m.allocL; (try have hmk : Mk _ 2 encR w44 _ _ := hmk.fr (show Fr F0 w34 w44 from Fr.alloc)); clear_value w44
      refine ⟨⟨m.sub 1 rfl, m.1.row hr fun h => h⟩, ?_⟩
      refine stN_at m 0 rfl rfl fun w45 m => ?_; simp only [List.set_cons_zero] at m; skip
      intro w46; have m : Mem w w46 _ := m.drew; clear_value w46
      refine ⟨fun u => Rs u _ /\ Row u _ _, ⟨m.sub 0 rfl, m.1.row hr fun h => h⟩, ?_⟩
      refine ⟨_, fun _ h => h.1.ld 3 rfl rfl, ?_⟩
      refine ⟨_, fun _ h => h.1.ld 3 rfl rfl, ?_⟩
      refine ⟨_, fun _ h => h.1.ld 3 rfl rfl, ?_⟩
      refine ⟨_, fun _ h => h.1.ld 3 rfl rfl, ?_⟩
      refine ⟨_, fun _ h => h.1.ld 3 rfl rfl, ?_⟩
      refine ⟨_, fun _ h => h.1.ld 3 rfl rfl, ?_⟩
      refine ⟨_, fun _ h => h.1.ld 3 rfl rfl, ?_⟩
      refine ⟨_, fun _ h => h.1.ld 3 rfl rfl, ?_⟩
      refine ⟨_, fun _ h => h.1.ld 3 rfl rfl, ?_⟩
      refine ⟨_, fun _ h => h.1.ld 3 rfl rfl, ?_⟩
      refine ⟨_, fun _ h => h.1.ld 3 rfl rfl, ?_⟩
      refine ⟨_, fun _ h => h.1.ld 3 rfl rfl, ?_⟩
      refine ⟨?_, ?_⟩
      · refine duals_spec hp (h.fr m.1) fun ds w60 l hmk hll hgood => ?_; have m := m.fr hmk.fr0
        refine ⟨⟨m.sub 0 rfl, m.1.row hr fun h => h⟩, ?_⟩
        refine ⟨?_, ?_⟩
        · refine leastOf_spec (g := fun x => (floorQ (boundQ p f x).n (boundQ p f x).d, (boundQ p f x).ok)) hmk.vw (by omega) (hkey m.1 hgood) fun w62 a b n ok hf hfo => ?_; have m := m.fr hf
          refine ⟨⟨m.sub 0 rfl, m.1.row hr fun h => h⟩, ?_⟩
          intro w66; have m : Mem w w66 _ := m.allocL; (try have hmk : Mk _ 2 encR w66 _ _ := hmk.fr (show Fr F0 w62 w66 from Fr.alloc)); clear_value w66
          refine ⟨⟨m.sub 1 rfl, m.1.row hr fun h => h⟩, ?_⟩
          refine ⟨m.wr 0 rfl rfl, ?_⟩
          intro w67; have m : Mem w w67 _ := m.set 0 rfl; clear_value w67; simp only [List.set_cons_zero] at m
          refine ⟨m.wr 0 rfl rfl, ?_⟩
          intro w68; have m : Mem w w68 _ := m.set 0 rfl; clear_value w68; simp only [List.set_cons_zero, List.set_cons_succ] at m
          exact hopeless_k1 hp h hr hT hPT hfl m (hup hgood hfo) (fun hcw => by rw [crowdB_iff.2 hcw] at hcr; cases hcr) (by omega) hK
        · intro w69; have m : Mem w w69 _ := m.allocL; (try have hmk : Mk _ 2 encR w69 _ _ := hmk.fr (show Fr F0 w60 w69 from Fr.alloc)); clear_value w69
          refine ⟨⟨m.sub 1 rfl, m.1.row hr fun h => h⟩, ?_⟩
          refine leastOf_spec (g := fun x => (floorQ (boundQ p f x).n (boundQ p f x).d, (boundQ p f x).ok)) hmk.vw (by omega) (hkey m.1 hgood) fun w70 a b n ok hf hfo => ?_; have m := m.fr hf
          refine ⟨⟨m.sub 1 rfl, m.1.row hr fun h => h⟩, ?_⟩
          refine ⟨m.wr 0 rfl rfl, ?_⟩
          intro w74; have m : Mem w w74 _ := m.set 0 rfl; clear_value w74; simp only [List.set_cons_zero] at m
          refine ⟨m.wr 0 rfl rfl, ?_⟩
          intro w75; have m : Mem w w75 _ := m.set 0 rfl; clear_value w75; simp only [List.set_cons_zero, List.set_cons_succ] at m
          exact hopeless_k1 hp h hr hT hPT hfl m (hup hgood hfo) (fun hcw => by rw [crowdB_iff.2 hcw] at hcr; cases hcr) (by omega) hK
      · intro w76; have m : Mem w w76 _ := m.allocL; (try have hmk : Mk _ 2 encR w76 _ _ := hmk.fr (show Fr F0 w46 w76 from Fr.alloc)); clear_value w76
        refine ⟨⟨m.sub 1 rfl, m.1.row hr fun h => h⟩, ?_⟩
        refine duals_spec hp (h.fr m.1) fun ds w77 l hmk hll hgood => ?_; have m := m.fr hmk.fr0
        refine ⟨⟨m.sub 1 rfl, m.1.row hr fun h => h⟩, ?_⟩
        refine leastOf_spec (g := fun x => (floorQ (boundQ p f x).n (boundQ p f x).d, (boundQ p f x).ok)) hmk.vw (by omega) (hkey m.1 hgood) fun w79 a b n ok hf hfo => ?_; have m := m.fr hf
        refine ⟨⟨m.sub 1 rfl, m.1.row hr fun h => h⟩, ?_⟩
        refine ⟨m.wr 0 rfl rfl, ?_⟩
        intro w83; have m : Mem w w83 _ := m.set 0 rfl; clear_value w83; simp only [List.set_cons_zero] at m
        refine ⟨m.wr 0 rfl rfl, ?_⟩
        intro w84; have m : Mem w w84 _ := m.set 0 rfl; clear_value w84; simp only [List.set_cons_zero, List.set_cons_succ] at m
        exact hopeless_k1 hp h hr hT hPT hfl m (hup hgood hfo) (fun hcw => by rw [crowdB_iff.2 hcw] at hcr; cases hcr) (by omega) hK
end
end Go.Proofs.Ytmkjcheafdionaa
