/- combine: Paid, Points, Better. Conditions: none. -/
import Derived.Test.YtmkjcheafdionaaCD9
namespace Pw
def paidR (p : Pr) (ri fi : Bool) (f : List Int) : Int × Bool := if ri && fi then (leastOf p f, true) else (0, false)
def pointsR (p : Pr) (ri fi : Bool) (f : List Int) : Int := if ri && fi then ptsOf p f else 0
end Pw
namespace Go.Proofs.Ytmkjcheafdionaa
open Go Pw

def betterR (p : Pr) (a b : List Int) : Bool := rightB p && (permB p a && (!permB p b || btB p a b))

section
variable {w w' w0 : World} {s s0 s1 s2 s5 t5 : Sl} {p : Pr} {f a b : List Int}

theorem Paid_spec {K : Int -> Bool -> World -> Prop} (h : PV w s0 s1 s2 p) (hv : VI w s5 f) (hl : f.length < 2 ^ 40) (hK : ∀ w', Fr F0 w w' -> K (paidR p (rightB p) (fitsB p f) f).1 (paidR p (rightB p) (fitsB p f) f).2 w') : Cb_Paid_sh s0 s1 s2 p.most p.budget s5 K w := by
  refine ⟨?_⟩
  unfold Cb_Paid_sd
  have hf : PF w s0 s1 s2 s5 p f := ⟨h, hv, hl⟩
  have hbad : ∀ w', Fr F0 w w' -> (rightB p && fitsB p f) = false -> K 0 false w' := fun w' hw he => by
    have := hK w' hw
    unfold paidR at this
    rw [he] at this
    exact this
  have hgood : ∀ w', Fr F0 w w' -> (rightB p && fitsB p f) = true -> K (leastOf p f) true w' := fun w' hw he => by
    have := hK w' hw
    unfold paidR at this
    rw [he] at this
    exact this
  have m : Mem w w [] := Mem.nil
  intro w1; have m : Mem w w1 _ := m.allocL; clear_value w1
  refine ⟨_, m.ld 0 rfl rfl, ?_⟩
  refine ⟨_, m.ld 0 rfl rfl, ?_⟩
  refine ⟨_, m.ld 0 rfl rfl, ?_⟩
  refine ⟨_, m.ld 0 rfl rfl, ?_⟩
  refine ⟨_, m.ld 0 rfl rfl, ?_⟩
  intro w7; have m : Mem w w7 _ := m.allocL; clear_value w7
  refine stN_at m 0 rfl rfl fun w8 m => ?_; simp only [List.set_cons_zero] at m; skip
  refine ⟨_, m.ld 1 rfl rfl, ?_⟩
  refine ⟨_, m.ld 1 rfl rfl, ?_⟩
  refine ⟨_, m.ld 1 rfl rfl, ?_⟩
  refine ⟨_, m.ld 1 rfl rfl, ?_⟩
  refine ⟨_, m.ld 1 rfl rfl, ?_⟩
  refine right_spec (h.fr m.1) fun w14 hx => ?_; have m := m.fr hx
  refine cnd_iff.2 ⟨fun hr => ?_, fun hr => ?_⟩
  · exact hbad _ m.1 (by simp at hr; rw [hr]; rfl)
  · refine ⟨_, m.ld 0 rfl rfl, ?_⟩
    refine ⟨_, m.ld 0 rfl rfl, ?_⟩
    refine ⟨_, m.ld 0 rfl rfl, ?_⟩
    refine ⟨_, m.ld 0 rfl rfl, ?_⟩
    refine ⟨_, m.ld 0 rfl rfl, ?_⟩
    refine ⟨_, m.ld 0 rfl rfl, ?_⟩
    refine fits_spec (hf.fr m.1) fun w22 hx => ?_; have m := m.fr hx
    have hp : RightPr p := rightB_iff.1 (by simpa using hr); refine cnd_iff.2 ⟨fun hq => ?_, fun hq => ?_⟩
    · exact hbad _ m.1 (by simp at hq; rw [hq, Bool.and_false])
    · refine ⟨_, m.ld 0 rfl rfl, ?_⟩
      refine ⟨_, m.ld 0 rfl rfl, ?_⟩
      refine ⟨_, m.ld 0 rfl rfl, ?_⟩
      refine ⟨_, m.ld 0 rfl rfl, ?_⟩
      refine ⟨_, m.ld 0 rfl rfl, ?_⟩
      refine ⟨_, m.ld 0 rfl rfl, ?_⟩
      have hd : Decs p p.lots f := by simp [fitsB] at hq; exact decsB_iff.1 hq.2
      refine least_spec hp (hf.fr m.1) hd fun w30 hx => ?_; have m := m.fr hx
      exact hgood _ m.1 (by simp at hr hq; rw [hr, hq]; rfl)

theorem Points_spec {K : Int -> World -> Prop} (h : PV w s0 s1 s2 p) (hv : VI w s5 f) (hl : f.length < 2 ^ 40) (hK : ∀ w', Fr F0 w w' -> K (pointsR p (rightB p) (fitsB p f) f) w') : Cb_Points_sh s0 s1 s2 p.most p.budget s5 K w := by
  refine ⟨?_⟩
  unfold Cb_Points_sd
  have hf : PF w s0 s1 s2 s5 p f := ⟨h, hv, hl⟩
  have hbad : ∀ w', Fr F0 w w' -> (rightB p && fitsB p f) = false -> K 0 w' := fun w' hw he => by
    have := hK w' hw
    unfold pointsR at this
    rw [he] at this
    exact this
  have hgood : ∀ w', Fr F0 w w' -> (rightB p && fitsB p f) = true -> K (ptsOf p f) w' := fun w' hw he => by
    have := hK w' hw
    unfold pointsR at this
    rw [he] at this
    exact this
  have m : Mem w w [] := Mem.nil
  intro w1; have m : Mem w w1 _ := m.allocL; clear_value w1
  refine ⟨_, m.ld 0 rfl rfl, ?_⟩
  refine ⟨_, m.ld 0 rfl rfl, ?_⟩
  refine ⟨_, m.ld 0 rfl rfl, ?_⟩
  refine ⟨_, m.ld 0 rfl rfl, ?_⟩
  refine ⟨_, m.ld 0 rfl rfl, ?_⟩
  intro w7; have m : Mem w w7 _ := m.allocL; clear_value w7
  refine stN_at m 0 rfl rfl fun w8 m => ?_; simp only [List.set_cons_zero] at m; skip
  refine ⟨_, m.ld 1 rfl rfl, ?_⟩
  refine ⟨_, m.ld 1 rfl rfl, ?_⟩
  refine ⟨_, m.ld 1 rfl rfl, ?_⟩
  refine ⟨_, m.ld 1 rfl rfl, ?_⟩
  refine ⟨_, m.ld 1 rfl rfl, ?_⟩
  refine right_spec (h.fr m.1) fun w14 hx => ?_; have m := m.fr hx
  refine cnd_iff.2 ⟨fun hr => ?_, fun hr => ?_⟩
  · exact hbad _ m.1 (by simp at hr; rw [hr]; rfl)
  · refine ⟨_, m.ld 0 rfl rfl, ?_⟩
    refine ⟨_, m.ld 0 rfl rfl, ?_⟩
    refine ⟨_, m.ld 0 rfl rfl, ?_⟩
    refine ⟨_, m.ld 0 rfl rfl, ?_⟩
    refine ⟨_, m.ld 0 rfl rfl, ?_⟩
    refine ⟨_, m.ld 0 rfl rfl, ?_⟩
    refine fits_spec (hf.fr m.1) fun w22 hx => ?_; have m := m.fr hx
    have hp : RightPr p := rightB_iff.1 (by simpa using hr); refine cnd_iff.2 ⟨fun hq => ?_, fun hq => ?_⟩
    · exact hbad _ m.1 (by simp at hq; rw [hq, Bool.and_false])
    · refine ⟨_, m.ld 0 rfl rfl, ?_⟩
      refine ⟨_, m.ld 0 rfl rfl, ?_⟩
      refine ⟨_, m.ld 0 rfl rfl, ?_⟩
      refine ⟨_, m.ld 0 rfl rfl, ?_⟩
      refine ⟨_, m.ld 0 rfl rfl, ?_⟩
      refine ⟨_, m.ld 0 rfl rfl, ?_⟩
      have hd : Decs p p.lots f := by simp [fitsB] at hq; exact decsB_iff.1 hq.2
      refine points_spec hp (hf.fr m.1) hd fun w30 hx => ?_; have m := m.fr hx
      exact hgood _ m.1 (by simp at hr hq; rw [hr, hq]; rfl)

theorem Better_k0 {l : List (Nat × List Value)} {pb xb yb : Nat} {K : Bool -> World -> Prop} (h : PV w0 s0 s1 s2 p) (ha : PF w0 s0 s1 s2 s5 p a) (hb : PF w0 s0 s1 s2 t5 p b) (m : Mem w0 w l) (jp jx jy : Nat)
    (hjp : l[jp]? = some (pb, prC s0 s1 s2 p.most p.budget)) (hjx : l[jx]? = some (xb, pfC s0 s1 s2 p.most p.budget s5)) (hjy : l[jy]? = some (yb, pfC s0 s1 s2 p.most p.budget t5))
    (hK : ∀ w', Fr F0 w0 w' -> K (betterR p a b) w') : Cb_Better_k0 ⟨pb, 0, none⟩ ⟨xb, 0, none⟩ ⟨yb, 0, none⟩ K w := by
  refine ⟨?_⟩
  unfold Cb_Better_k0d
  have hK' : ∀ {v : Bool} w', Fr F0 w0 w' -> betterR p a b = v -> K v w' := fun w' hw he => he ▸ hK w' hw
  unfold betterR at hK'
  refine ⟨_, m.ld jp hjp rfl, ?_⟩
  refine ⟨_, m.ld jp hjp rfl, ?_⟩
  refine ⟨_, m.ld jp hjp rfl, ?_⟩
  refine ⟨_, m.ld jp hjp rfl, ?_⟩
  refine ⟨_, m.ld jp hjp rfl, ?_⟩
  refine right_spec (h.fr m.1) fun w27 hx => ?_; have m := m.fr hx
  refine cnd_iff.2 ⟨fun hr => ?_, fun hr => ?_⟩
  · refine ⟨_, m.ld jx hjx rfl, ?_⟩
    refine ⟨_, m.ld jx hjx rfl, ?_⟩
    refine ⟨_, m.ld jx hjx rfl, ?_⟩
    refine ⟨_, m.ld jx hjx rfl, ?_⟩
    refine ⟨_, m.ld jx hjx rfl, ?_⟩
    refine ⟨_, m.ld jx hjx rfl, ?_⟩
    have hp : RightPr p := rightB_iff.1 hr
    refine permitted_spec hp (ha.fr m.1) fun w35 hx => ?_; have m := m.fr hx
    refine cnd_iff.2 ⟨fun hq => ?_, fun hq => ?_⟩
    · refine ⟨_, m.ld jy hjy rfl, ?_⟩
      refine ⟨_, m.ld jy hjy rfl, ?_⟩
      refine ⟨_, m.ld jy hjy rfl, ?_⟩
      refine ⟨_, m.ld jy hjy rfl, ?_⟩
      refine ⟨_, m.ld jy hjy rfl, ?_⟩
      refine ⟨_, m.ld jy hjy rfl, ?_⟩
      refine permitted_spec hp (hb.fr m.1) fun w43 hx => ?_; have m := m.fr hx
      have hpa : Perm p a := permB_iff.1 hq; refine cnd_iff.2 ⟨fun hs => ?_, fun hs => ?_⟩
      · exact hK' _ m.1 (by simp at hs; rw [hr, hq, hs]; rfl)
      · refine ⟨_, m.ld jx hjx rfl, ?_⟩
        refine ⟨_, m.ld jx hjx rfl, ?_⟩
        refine ⟨_, m.ld jx hjx rfl, ?_⟩
        refine ⟨_, m.ld jx hjx rfl, ?_⟩
        refine ⟨_, m.ld jx hjx rfl, ?_⟩
        refine ⟨_, m.ld jx hjx rfl, ?_⟩
        refine ⟨_, m.ld jy hjy rfl, ?_⟩
        refine ⟨_, m.ld jy hjy rfl, ?_⟩
        refine ⟨_, m.ld jy hjy rfl, ?_⟩
        refine ⟨_, m.ld jy hjy rfl, ?_⟩
        refine ⟨_, m.ld jy hjy rfl, ?_⟩
        refine ⟨_, m.ld jy hjy rfl, ?_⟩
        have hpb : Perm p b := permB_iff.1 (by simpa using hs)
        refine better_spec hp (ha.fr m.1) (hb.fr m.1) hpa.2.1 hpb.2.1 (by rw [hpa.1, hpb.1]) fun w57 hx => ?_; have m := m.fr hx
        exact hK' _ m.1 (by simp at hs; rw [hr, hq, hs]; rfl)
    · exact hK' _ m.1 (by rw [hr, hq]; rfl)
  · exact hK' _ m.1 (by rw [hr]; rfl)

theorem Better_spec {K : Bool -> World -> Prop} (h : PV w s0 s1 s2 p) (hva : VI w s5 a) (hla : a.length < 2 ^ 40) (hvb : VI w t5 b) (hlb : b.length < 2 ^ 40) (hK : ∀ w', Fr F0 w w' -> K (betterR p a b) w') : Cb_Better_sh s0 s1 s2 p.most p.budget s5 t5 K w := by
  refine ⟨?_⟩
  unfold Cb_Better_sd
  have ha : PF w s0 s1 s2 s5 p a := ⟨h, hva, hla⟩
  have hb : PF w s0 s1 s2 t5 p b := ⟨h, hvb, hlb⟩
  have m : Mem w w [] := Mem.nil
  intro w1; have m : Mem w w1 _ := m.allocL; clear_value w1
  intro w2; have m : Mem w w2 _ := m.drew; clear_value w2
  refine ⟨fun u => Rs u _, m.sub 0 rfl, ?_⟩
  refine ⟨_, fun _ h => h.ld 0 rfl rfl, ?_⟩
  refine ⟨_, fun _ h => h.ld 0 rfl rfl, ?_⟩
  refine ⟨_, fun _ h => h.ld 0 rfl rfl, ?_⟩
  refine ⟨_, fun _ h => h.ld 0 rfl rfl, ?_⟩
  refine ⟨_, fun _ h => h.ld 0 rfl rfl, ?_⟩
  refine ⟨_, fun _ h => h.ld 0 rfl rfl, ?_⟩
  refine ⟨_, fun _ h => h.ld 0 rfl rfl, ?_⟩
  refine ⟨_, fun _ h => h.ld 0 rfl rfl, ?_⟩
  refine ⟨_, fun _ h => h.ld 0 rfl rfl, ?_⟩
  refine ⟨_, fun _ h => h.ld 0 rfl rfl, ?_⟩
  refine ⟨?_, ?_⟩
  · intro w14; have m : Mem w w14 _ := m.allocL; clear_value w14
    refine ⟨m.sub 1 rfl, ?_⟩
    intro w15; have m : Mem w w15 _ := m.allocL; clear_value w15
    refine ⟨m.sub 2 rfl, ?_⟩
    refine stN_at m 1 rfl rfl fun w16 m => ?_; simp only [List.set_cons_zero, List.set_cons_succ] at m; skip
    refine ⟨m.sub 2 rfl, ?_⟩
    refine stN_at m 0 rfl rfl fun w17 m => ?_; simp only [List.set_cons_zero] at m; skip
    exact Better_k0 h ha hb m 2 1 0 rfl rfl rfl hK
  · intro w18; have m : Mem w w18 _ := m.allocL; clear_value w18
    refine ⟨m.sub 1 rfl, ?_⟩
    intro w19; have m : Mem w w19 _ := m.allocL; clear_value w19
    refine ⟨m.sub 2 rfl, ?_⟩
    refine stN_at m 0 rfl rfl fun w20 m => ?_; simp only [List.set_cons_zero] at m; skip
    refine ⟨m.sub 2 rfl, ?_⟩
    refine stN_at m 1 rfl rfl fun w21 m => ?_; simp only [List.set_cons_zero, List.set_cons_succ] at m; skip
    exact Better_k0 h ha hb m 2 0 1 rfl rfl rfl hK
end
end Go.Proofs.Ytmkjcheafdionaa
