/- The lists that the laws make: some list of few numbers. Conditions: none. -/
import Derived.Test.YtmkjcheafdionaaGreatCF1
import Derived.Test.YtmkjcheafdionaaGreatCG6
import Derived.Test.YtmkjcheafdionaaGreatCEZ
namespace Pw
open Go
section
variable {α β : Type} {n n' : Nat} {enc : α -> List Value} {enc' : β -> List Value} {w0 w w' : World} {s s' : Sl} {l : List α} {l' : List β} {L : List (Nat × List Value)} {B : Nat -> Prop} {Q : World -> Prop}
theorem stN_mono {b : Nat} {K K' : World -> Prop} : ∀ (us : List Value) (i : Nat) (u : World), stN.go ⟨b, 0, none⟩ K us i u -> (∀ w', (∀ c, c ≠ b -> w'.heap[c]? = u.heap[c]?) -> K w' -> K' w') -> stN.go ⟨b, 0, none⟩ K' us i u
  | [], _, u, h, hk => hk u (fun _ _ => rfl) h
  | v :: us, i, u, h, hk => ⟨h.1, stN_mono us (i + 1) _ h.2 fun w' hf => hk w' fun c hc => (hf c hc).trans (heap_set_ne (by simpa [add_mk] using Ne.symm hc))⟩
theorem stN_far {w0 w : World} {l : List (Nat × List Value)} {b : Nat} {cs vs : List Value} {K : World -> Prop} (m : Mem w0 w l) (j : Nat) (hj : l[j]? = some (b, cs)) (hl : cs.length = vs.length)
    (hK : ∀ w', Mem w0 w' (l.set j (b, vs)) -> (∀ c, c ≠ b -> w'.heap[c]? = w.heap[c]?) -> K w') : stN w ⟨b, 0, none⟩ vs K :=
  stN_mono vs 0 w (stN_at m j hj hl fun _ m => m) fun w' hf m => hK w' m hf
theorem Sp.mk' (h : Sp w0 w L B Q n enc s l) : Mk w0 n enc w s l := ⟨h.m.1, h.ow, fun b hb => (h.os b hb).1⟩
end
end Pw
namespace Go.Proofs.YtmkjcheafdionaaGreat
open Go Pw
section
variable {w wB : World} {s s0 s1 s2 s5 : Sl} {l t : List Int} {p : Pr} {pb : Nat}
abbrev LS (wB w : World) (pb : Nat) (s0 s1 s2 : Sl) (p : Pr) (s : Sl) (t : List Int) : Prop :=
  Sp wB w [(pb, prC s0 s1 s2 p.most p.budget)] (fun _ => False) (fun _ => True) 1 (ie .i64 (id : Int -> Int)) s t
theorem list_k3 {i : Nat} {n : Int} {N0 : Sl -> Addr -> Sl -> Int -> World -> Prop} {K : Sl -> World -> Prop} (h : LS wB w pb s0 s1 s2 p s t) (ht : t.length <= 12) (hi : i < 100)
    (hN : ∀ w' r, LS wB w' pb s0 s1 s2 p r (t ++ [n]) -> N0 s5 ⟨pb, 0, none⟩ r ((i : Int) + 1) w') : probitylaw21_list_k3 s5 ⟨pb, 0, none⟩ s i n N0 K w := by
  refine ⟨?_⟩
  unfold probitylaw21_list_k3d
  intro w32
  exact h.push (a := n) rfl rfl (ie_ok _ _) rfl (by omega) (by omega) fun r w34 h => ⟨inR64 (by omega) (by omega), hN w34 r h⟩
theorem list_k2 {i : Nat} {n : Int} {N0 : Sl -> Addr -> Sl -> Int -> World -> Prop} {K : Sl -> World -> Prop} (hP : PV wB s0 s1 s2 p) (hv : VI wB s5 l) (hil : i < l.length) (hip : i < p.lots.length) (h : LS wB w pb s0 s1 s2 p s t) (ht : t.length <= 12) (hi : i < 100)
    (hN : ∀ w' r n, LS wB w' pb s0 s1 s2 p r (t ++ [n]) -> N0 s5 ⟨pb, 0, none⟩ r ((i : Int) + 1) w') : probitylaw21_list_k2 s5 ⟨pb, 0, none⟩ s i n N0 K w := by
  have e1 := hP.ch.len
  refine ⟨?_⟩
  unfold probitylaw21_list_k2d
  intro w22
  have h : LS wB w22 pb s0 s1 s2 p s t := h.drew
  clear_value w22
  have k3 : ∀ n, probitylaw21_list_k3 s5 ⟨pb, 0, none⟩ s i n N0 K w22 := fun n => list_k3 h ht hi fun w' r h => hN w' r n h
  have hP := hP.fr h.m.1
  have hv := hv.fr h.m.1
  refine cnd_prop.2 ⟨fun h0 => ⟨s1, h.ld 0 rfl rfl, cnd_prop.2 ⟨fun h1 => ⟨s1, h.ld 0 rfl rfl, ?_⟩, fun _ => k3 _⟩⟩, fun _ => k3 _⟩
  have hci : n.toNat < p.ch.length := by omega
  refine VC.ld hP.ch n.toNat (by omega) hci fun a hc => ?_
  obtain ⟨c0, _, _, _⟩ := hc w22 Fr.refl
  refine ⟨_, c0, s0, h.ld 0 rfl rfl, VI.ld hP.lots i rfl hip (cnd_bne.2 ⟨fun _ => VI.ld hv i rfl hil ⟨by decide, cnd_iff.2 ⟨fun _ => k3 _, fun _ => k3 _⟩⟩, fun _ => k3 _⟩)⟩
theorem list_l1 {i : Nat} {n : Int} {N0 : Sl -> Addr -> Sl -> Int -> World -> Prop} {K : Sl -> World -> Prop} (hP : PV wB s0 s1 s2 p) (hv : VI wB s5 l) (hil : i < l.length) (hip : i < p.lots.length) (h : LS wB w pb s0 s1 s2 p s t) (ht : t.length <= 12) (hi : i < 100) (hn : -1 <= n /\ n <= p.ch.length)
    (hN : ∀ w' r n, LS wB w' pb s0 s1 s2 p r (t ++ [n]) -> N0 s5 ⟨pb, 0, none⟩ r ((i : Int) + 1) w') : probitylaw21_list_l1 s5 ⟨pb, 0, none⟩ s i n 0 N0 K w := by
  have e1 := hP.ch.len
  have hl1 := hP.l1
  refine ⟨⟨fun n k w' => ∃ k' : Nat, k = k' /\ k' <= p.ch.length /\ (-1 <= n /\ n <= p.ch.length) /\ LS wB w' pb s0 s1 s2 p s t, fun _ k _ => p.ch.length - k.toNat, ⟨0, rfl, by omega, hn, h⟩, ?_⟩⟩
  rintro n k w1 ⟨k, rfl, hk, hn, h⟩
  unfold probitylaw21_list_b1
  intro w10
  have h : LS wB w10 pb s0 s1 s2 p s t := h.drew
  clear_value w10
  have k2 : probitylaw21_list_k2 s5 ⟨pb, 0, none⟩ s i n N0 K w10 := list_k2 hP hv hil hip h ht hi hN
  have hPw := hP.fr h.m.1
  have hvw := hv.fr h.m.1
  refine ⟨s1, h.ld 0 rfl rfl, cnd_prop.2 ⟨fun hlt => VI.ld hvw i rfl hil ⟨by decide, cnd_iff.2 ⟨fun _ => cnd_prop.2 ⟨fun h0 => ⟨s1, h.ld 0 rfl rfl, cnd_prop.2 ⟨fun h1 => ⟨s1, h.ld 0 rfl rfl, ?_⟩, fun _ => k2⟩⟩, fun _ => k2⟩, fun _ => k2⟩⟩, fun _ => k2⟩⟩
  have hci : n.toNat < p.ch.length := by omega
  refine VC.ld hPw.ch n.toNat (by omega) hci fun a hc => ?_
  obtain ⟨c0, _, _, _⟩ := hc w10 Fr.refl
  refine ⟨_, c0, s0, h.ld 0 rfl rfl, VI.ld hPw.lots i rfl hip (cnd_bne.2 ⟨fun _ => ⟨inR64 (by omega) (by omega), s1, h.ld 0 rfl rfl, by omega, inR64 (by omega) (by omega), ⟨⟨rfl, rfl, rfl, rfl, trivial⟩, k + 1, by omega, by omega, ?_, h⟩, by dsimp only; omega⟩, fun _ => k2⟩)⟩
  have h2 : (0 : Int) < (s1.l : Int) := by omega
  have q1 := Int.tmod_nonneg (s1.l : Int) (show 0 <= n + 1 by omega)
  have q2 := Int.tmod_lt_of_pos (n + 1) h2
  omega
theorem list_k4 {K : Sl -> World -> Prop} (hv : VI wB s5 l) (h : LS wB w pb s0 s1 s2 p s t) (ht : t.length <= 12) (hK : ∀ w' r t, Mk wB 1 (ie .i64 (id : Int -> Int)) w' r t -> t.length <= 13 -> K r w') : probitylaw21_list_k4 s5 s K w := by
  have el := hv.len
  refine ⟨?_⟩
  unfold probitylaw21_list_k4d
  have hk : K s w := hK w s t h.mk' (by omega)
  refine cnd_prop.2 ⟨fun h0 => VI.ld (hv.fr h.m.1) 0 rfl (by omega) ⟨by decide, cnd_iff.2 ⟨fun _ => ?_, fun _ => hk⟩⟩, fun _ => hk⟩
  intro w37
  exact h.push (a := -1) rfl rfl (ie_ok _ _) rfl (by omega) (by omega) fun r w39 h => hK w39 r _ h.mk' (by simp; omega)
theorem list_spec {K : Sl -> World -> Prop} (hP : PV w s0 s1 s2 p) (hv : VI w s5 l) (hK : ∀ w' r t, Mk w 1 (ie .i64 (id : Int -> Int)) w' r t -> t.length <= 13 -> K r w') : probitylaw21_list_sh s0 s1 s2 p.most p.budget s5 K w := by
  have el := hv.len
  have e0 := hP.lots.len
  have e1 := hP.ch.len
  have hl1 := hP.l1
  refine ⟨?_⟩
  unfold probitylaw21_list_sd
  intro w1
  have h : LS w w1 _ s0 s1 s2 p _ ([] : List Int) := Sp.start (Mem.nil.allocL (cs := prC s0 s1 s2 p.most p.budget))
  clear_value w1
  refine ⟨⟨fun out i w' => ∃ i' : Nat, i = i' /\ i' <= 12 /\ ∃ t : List Int, t.length = i' /\ LS w w' w.heap.size s0 s1 s2 p out t, fun _ i _ => 12 - i.toNat, ⟨0, rfl, by omega, [], rfl, h⟩, ?_⟩⟩
  rintro out i w2 ⟨i, rfl, hi, t, ht, h⟩
  unfold probitylaw21_list_b0
  have k4 : probitylaw21_list_k4 s5 out K w2 := list_k4 hv h (by omega) hK
  refine ⟨s0, h.ld 0 rfl rfl, cnd_prop.2 ⟨fun hlt => cnd_prop.2 ⟨fun h12 => ?_, fun _ => k4⟩, fun _ => k4⟩⟩
  have hN : ∀ w' r n, LS w w' w.heap.size s0 s1 s2 p r (t ++ [n]) -> (((s5 = s5 /\ (⟨w.heap.size, 0, none⟩ : Addr) = ⟨w.heap.size, 0, none⟩ /\ True) /\ ∃ i' : Nat, (i : Int) + 1 = i' /\ i' <= 12 /\ ∃ t : List Int, t.length = i' /\ LS w w' w.heap.size s0 s1 s2 p r t) /\ 12 - ((i : Int) + 1).toNat < 12 - (i : Int).toNat) := fun w' r n h => ⟨⟨⟨rfl, rfl, trivial⟩, i + 1, by omega, by omega, t ++ [n], by simp [ht], h⟩, by omega⟩
  refine cnd_prop.2 ⟨fun hil => ?_, fun _ => list_k3 h (by omega) (by omega) fun w' r h => hN w' r _ h⟩
  have hil : i < l.length := by omega
  have hip : i < p.lots.length := by omega
  intro w3
  have h : LS w w3 _ s0 s1 s2 p _ t := h.drew
  clear_value w3
  have hS : ∀ {u}, Fr F0 w u -> Row u w.heap.size (prC s0 s1 s2 p.most p.budget) -> (Row u w.heap.size (prC s0 s1 s2 p.most p.budget) /\ VI u s5 l) := fun hu hr => ⟨hr, hv.fr hu⟩
  have hS3 := hS h.m.1 (h.row 0 rfl)
  refine ⟨fun u => Row u w.heap.size (prC s0 s1 s2 p.most p.budget) /\ VI u s5 l, hS3, ?_⟩
  obtain ⟨ad, hp', _⟩ := hS3.2.at (fun a => ie_length _ _ a) (List.getElem?_eq_getElem hil) (by decide)
  refine nz_iff.2 ⟨ad, hp', ⟨by omega, by omega⟩, l[i], fun u hu => ?_, s1, fun u hu => hu.1.at rfl, inR64 (by omega) (by omega), ?_⟩
  . obtain ⟨ad', hp'', hc⟩ := hu.2.at (fun a => ie_length _ _ a) (List.getElem?_eq_getElem hil) (by decide)
    rw [hp'] at hp''
    cases hp''
    exact hc 0 _ rfl
  have r1 := Int.emod_nonneg l[i] (show ((s1.l : Int) + 2) ≠ 0 by omega)
  have r2 := Int.emod_lt_of_pos l[i] (show (0 : Int) < (s1.l : Int) + 2 by omega)
  exact Mod_spec (by omega) (by omega) ⟨hS3, inR64 (by omega) (by omega), list_l1 hP hv hil hip h (by omega) (by omega) (by omega) hN⟩
end
end Go.Proofs.YtmkjcheafdionaaGreat
