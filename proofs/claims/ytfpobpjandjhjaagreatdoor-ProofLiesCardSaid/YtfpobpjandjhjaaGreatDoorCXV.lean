/- The reference's bound of a prefix. Conditions: none. -/
import Derived.Test.YtfpobpjandjhjaaGreatDoorCG5
import Derived.Test.YtfpobpjandjhjaaGreatDoorCXZ
import Derived.Test.YtfpobpjandjhjaaGreatDoorRXV
import Derived.Test.YtfpobpjandjhjaaGreatDoorCXY
import Derived.Lib.ItoaMem
import Derived.Lib.AtoiAllCases
import Derived.Lib.IndexBytes
import Derived.Lib.IndexMore
import Derived.Test.YtfpobpjandjhjaaGreatDoorPwS
namespace Go.Proofs.YtfpobpjandjhjaaGreatDoor
open Go Pw
theorem mulQ_one {n d : Int} (h : rightP n d) (hn : I64 n) (hd : I64 d) : mulQ 1 1 n d = ⟨n, d, true⟩ := by
 unfold mulQ
 rw [if_pos ⟨rightP_int 1, h⟩, val_int, show ((1 : Int) : Rat) * val n d = val n d by grind]
 unfold fitQ
 have e1 := val_num h
 have e2 := val_den h
 unfold I64 at hn hd
 rw [if_pos (by omega), e1, e2]
def upR (p : Pr) (f : List Int) (a b : Int) : Int × Bool := match (if rightB p && decsB p p.lots f then upB p f a b else none) with
 | some n => (n, true)
 | none => (0, false)
section
variable {w w' w0 : World} {s0 s1 s2 s5 : Sl} {p : Pr} {f : List Int} {bb sb db pb cb xb mb : Nat} {s st x : RR} {dn dd : Int} {c : Ch}
theorem refadd_spec {n d a b a' b' : Int} {K : Int -> Int -> Bool -> World -> Prop} (hn : I64 n) (hd : I64 d) (ha : I64 a) (hb : I64 b) (ha' : I64 a') (hb' : I64 b')
  (hK : ∀ w', Fr F0 w w' -> K (mulAdd ⟨n, d, true⟩ (a, b) (a', b')).n (mulAdd ⟨n, d, true⟩ (a, b) (a', b')).d (mulAdd ⟨n, d, true⟩ (a, b) (a', b')).ok w') : z2n_sh n d a b a' b' K w := by
 have hm := mulQ_I64 a b a' b'
 have hfin : ∀ {ok : Bool} (w' : World), Fr F0 w w' -> ok = (mulAdd ⟨n, d, true⟩ (a, b) (a', b')).ok -> K (mulAdd ⟨n, d, true⟩ (a, b) (a', b')).n (mulAdd ⟨n, d, true⟩ (a, b) (a', b')).d ok w' := fun w' hf e => e ▸ hK w' hf
 have m : Mem w w [] := Mem.nil
 refine ⟨?_⟩
 unfold z2n_sd
 intro w1; have m : Mem w w1 _ := m.allocL; clear_value w1
 intro w2; have m : Mem w w2 _ := m.allocL; clear_value w2
 intro w3; have m : Mem w w3 _ := m.allocL; clear_value w3
 intro w4; have m : Mem w w4 _ := m.allocL; clear_value w4
 refine ⟨_, m.ld 2 rfl rfl, ?_⟩
 refine ⟨_, m.ld 2 rfl rfl, ?_⟩
 refine ⟨_, m.ld 1 rfl rfl, ?_⟩
 refine ⟨_, m.ld 1 rfl rfl, ?_⟩
 refine rMul_spec ha hb ha' hb' fun w9 hf => ?_; have m := m.fr hf
 intro w12; have m : Mem w w12 _ := m.allocL; clear_value w12
 refine ⟨m.wr 0 rfl rfl, ?_⟩
 intro w13; have m : Mem w w13 _ := m.set 0 rfl; clear_value w13; simp only [List.set_cons_zero] at m
 refine ⟨m.wr 0 rfl rfl, ?_⟩
 intro w14; have m : Mem w w14 _ := m.set 0 rfl; clear_value w14; simp only [List.set_cons_zero, List.set_cons_succ] at m
 refine ⟨_, m.ld 4 rfl rfl, ?_⟩
 refine ⟨_, m.ld 4 rfl rfl, ?_⟩
 refine ⟨_, m.ld 0 rfl rfl, ?_⟩
 refine ⟨_, m.ld 0 rfl rfl, ?_⟩
 refine rAdd_spec hn hd hm.1 hm.2 fun w19 hf => ?_; have m := m.fr hf
 intro w22; have m : Mem w w22 _ := m.allocL; clear_value w22
 refine ⟨m.wr 0 rfl rfl, ?_⟩
 intro w23; have m : Mem w w23 _ := m.set 0 rfl; clear_value w23; simp only [List.set_cons_zero] at m
 refine ⟨m.wr 0 rfl rfl, ?_⟩
 intro w24; have m : Mem w w24 _ := m.set 0 rfl; clear_value w24; simp only [List.set_cons_zero, List.set_cons_succ] at m
 refine ⟨_, m.ld 0 rfl rfl, ?_⟩
 refine ⟨_, m.ld 0 rfl rfl, ?_⟩
 refine cnd_iff.2 ⟨fun hc1 => ?_, fun hc1 => ?_⟩
 ·refine ⟨m.wr 2 rfl rfl, ?_⟩
  intro w27; have m : Mem w w27 _ := m.set 2 rfl; clear_value w27; simp only [List.set_cons_zero, List.set_cons_succ] at m
  refine ⟨m.wr 2 rfl rfl, ?_⟩
  intro w28; have m : Mem w w28 _ := m.set 2 rfl; clear_value w28; simp only [List.set_cons_zero, List.set_cons_succ] at m
  refine ⟨_, m.ld 2 rfl rfl, ?_⟩
  refine ⟨_, m.ld 2 rfl rfl, ?_⟩
  exact hfin _ m.1 (by simp [mulAdd, hc1])
 ·refine ⟨m.wr 2 rfl rfl, ?_⟩
  intro w29; have m : Mem w w29 _ := m.set 2 rfl; clear_value w29; simp only [List.set_cons_zero, List.set_cons_succ] at m
  refine ⟨m.wr 2 rfl rfl, ?_⟩
  intro w30; have m : Mem w w30 _ := m.set 2 rfl; clear_value w30; simp only [List.set_cons_zero, List.set_cons_succ] at m
  refine ⟨_, m.ld 2 rfl rfl, ?_⟩
  refine ⟨_, m.ld 2 rfl rfl, ?_⟩
  exact hfin _ m.1 (by simp [mulAdd, hc1])
abbrev UL (sb db pb : Nat) (s : RR) (dn dd : Int) (C : List Value) : List (Nat × List Value) := [(sb, rrC s.n s.d), (db, rrC dn dd), (pb, C)]
theorem Upper_k6 {C : List Value} {ok : Bool} {i k : Nat} {N2 : Sl -> Addr -> Addr -> Addr -> Bool -> Int -> Addr -> Int -> World -> Prop} {N1 : Sl -> Addr -> Addr -> Addr -> Bool -> Int -> World -> Prop} {K : Int -> Bool -> World -> Prop}
  (m : Mem w0 w ((xb, rrC x.n x.d) :: (cb, encC c) :: (bb, rrC st.n st.d) :: UL sb db pb s dn dd C)) (hk : k < 2 ^ 40)
  (hN : ∀ w', Mem w0 w' ((bb, rrC x.n x.d) :: UL sb db pb s dn dd C) -> N2 s5 ⟨pb, 0, none⟩ ⟨db, 0, none⟩ ⟨sb, 0, none⟩ ok i ⟨bb, 0, none⟩ ((k : Int) + 1) w') :
  z1t_k6 s5 ⟨pb, 0, none⟩ ⟨db, 0, none⟩ ⟨sb, 0, none⟩ ok i ⟨bb, 0, none⟩ k ⟨xb, 0, none⟩ N2 N1 K w := by
 refine ⟨?_⟩
 unfold z1t_k6d
 refine ⟨_, m.ld 0 rfl rfl, _, m.ld 0 rfl rfl, m.wr 2 rfl rfl, ?_⟩
 intro w1; have m : Mem w0 w1 _ := m.set 2 rfl; clear_value w1; simp only [List.set_cons_zero, List.set_cons_succ] at m
 refine ⟨m.wr 2 rfl rfl, ?_⟩
 intro w2; have m : Mem w0 w2 _ := m.set 2 rfl; clear_value w2; simp only [List.set_cons_zero, List.set_cons_succ] at m
 exact ⟨inR64 (by omega) (by omega), hN w2 (m.dr 2 rfl)⟩
theorem Upper_k5 {C : List Value} {i k : Nat} {N2 : Sl -> Addr -> Addr -> Addr -> Bool -> Int -> Addr -> Int -> World -> Prop} {N1 : Sl -> Addr -> Addr -> Addr -> Bool -> Int -> World -> Prop} {K : Int -> Bool -> World -> Prop}
  (m : Mem w0 w ((xb, rrC x.n x.d) :: (cb, encC c) :: (bb, rrC st.n st.d) :: UL sb db pb s dn dd C)) (hk : k < 2 ^ 40) (el : s5.l = f.length) (hx : I64 x.n /\ I64 x.d) (hst : I64 st.n /\ I64 st.d)
  (hN : ∀ w' (st' : RR), st' = (if i < f.length \/ 0 < cmpQ x.n x.d st.n st.d then x else ⟨st.n, st.d, x.ok⟩) -> Mem w0 w' ((bb, rrC st'.n st'.d) :: UL sb db pb s dn dd C) -> N2 s5 ⟨pb, 0, none⟩ ⟨db, 0, none⟩ ⟨sb, 0, none⟩ st'.ok i ⟨bb, 0, none⟩ ((k : Int) + 1) w') :
  z1t_k5 s5 ⟨pb, 0, none⟩ ⟨db, 0, none⟩ ⟨sb, 0, none⟩ x.ok i ⟨bb, 0, none⟩ k ⟨xb, 0, none⟩ N2 N1 K w := by
 refine ⟨?_⟩
 unfold z1t_k5d
 refine cnd_prop.2 ⟨fun h => Upper_k6 m hk fun w' m' => hN w' x (if_pos (.inl (by omega))).symm m', fun h => ?_⟩
 refine ⟨_, m.ld 0 rfl rfl, _, m.ld 0 rfl rfl, _, m.ld 2 rfl rfl, _, m.ld 2 rfl rfl, rCmp_spec hx.1 hx.2 hst.1 hst.2 fun w1 hf => ?_⟩
 have m := m.fr hf
 refine cnd_prop.2 ⟨fun hc => Upper_k6 m hk fun w' m' => hN w' x (if_pos (.inr hc)).symm m', fun hc => ⟨inR64 (by omega) (by omega), hN w1 ⟨st.n, st.d, x.ok⟩ (if_neg ?_).symm (m.dr 2 rfl)⟩⟩
 rintro (q | q)
 ·omega
 ·exact hc q
theorem Upper_k3 {i k : Nat} {N2 : Sl -> Addr -> Addr -> Addr -> Bool -> Int -> Addr -> Int -> World -> Prop} {N1 : Sl -> Addr -> Addr -> Addr -> Bool -> Int -> World -> Prop} {K : Int -> Bool -> World -> Prop}
  (hp : RightPr p) (hc : c ∈ p.ch) (hdn : I64 dn) (hdd : I64 dd) (hst : I64 st.n /\ I64 st.d) (el : s5.l = f.length) (hk : k < 2 ^ 40)
  (m : Mem w0 w ((cb, encC c) :: (bb, rrC st.n st.d) :: UL sb db pb s dn dd (prC s0 s1 s2 p.most p.budget))) (hx : x = mulAdd ⟨netOf p c, 1, st.ok⟩ (dn, dd) (-c.price, 1))
  (hN : ∀ w' (st' : RR), st' = (if i < f.length \/ 0 < cmpQ x.n x.d st.n st.d then x else ⟨st.n, st.d, x.ok⟩) -> Mem w0 w' ((bb, rrC st'.n st'.d) :: UL sb db pb s dn dd (prC s0 s1 s2 p.most p.budget)) -> N2 s5 ⟨pb, 0, none⟩ ⟨db, 0, none⟩ ⟨sb, 0, none⟩ st'.ok i ⟨bb, 0, none⟩ ((k : Int) + 1) w') :
  z1t_k3 s5 ⟨pb, 0, none⟩ ⟨db, 0, none⟩ ⟨sb, 0, none⟩ st.ok i ⟨bb, 0, none⟩ k ⟨cb, 0, none⟩ N2 N1 K w := by
 refine ⟨?_⟩
 unfold z1t_k3d
 have hb := net_bound hp hc
 have hprW := (hp.ch c hc).2.1
 have hbu := hp.budget
 have ⟨b1, b2⟩ : 0 <= p.budget /\ p.budget <= 1000000000 := hbu
 have ⟨p1, p2⟩ : 0 <= c.price /\ c.price <= 1000000000 := hprW
 have hnet : I64 (c.pts * (p.budget + 1) - c.price) := ⟨by omega, by omega⟩
 have hpr : I64 (-c.price) := ⟨by omega, by omega⟩
 have hone : I64 1 := ⟨by decide, by decide⟩
 have hxi : I64 x.n /\ I64 x.d := hx ▸ mulAdd_I64 _ _ _
 have fin : ∀ {w' xb}, Mem w0 w' ((xb, [.int .i64 (mulAdd ⟨c.pts * (p.budget + 1) - c.price, 1, true⟩ (dn, dd) (-c.price, 1)).n, .int .i64 (mulAdd ⟨c.pts * (p.budget + 1) - c.price, 1, true⟩ (dn, dd) (-c.price, 1)).d]) :: (cb, encC c) :: (bb, rrC st.n st.d) :: UL sb db pb s dn dd (prC s0 s1 s2 p.most p.budget)) ->
   z1t_k4 s5 ⟨pb, 0, none⟩ ⟨db, 0, none⟩ ⟨sb, 0, none⟩ st.ok i ⟨bb, 0, none⟩ k ⟨xb, 0, none⟩ (mulAdd ⟨c.pts * (p.budget + 1) - c.price, 1, true⟩ (dn, dd) (-c.price, 1)).ok N2 N1 K w' := by
  intro w' xb m'
  have e1 : (mulAdd ⟨c.pts * (p.budget + 1) - c.price, 1, true⟩ (dn, dd) (-c.price, 1)).n = x.n := by rw [hx]; rfl
  have e2 : (mulAdd ⟨c.pts * (p.budget + 1) - c.price, 1, true⟩ (dn, dd) (-c.price, 1)).d = x.d := by rw [hx]; rfl
  have e3 : x.ok = (st.ok && (mulAdd ⟨c.pts * (p.budget + 1) - c.price, 1, true⟩ (dn, dd) (-c.price, 1)).ok) := by rw [hx]; simp [mulAdd, netOf]
  rw [e1, e2] at m'
  refine ⟨?_⟩
  unfold z1t_k4d
  have h5 := Upper_k5 (N1 := N1) (K := K) m' hk el hxi hst hN
  rw [e3] at h5
  refine cnd_iff.2 ⟨fun hc => ?_, fun hc => ?_⟩
  ·rw [hc, Bool.true_and] at h5; exact h5
  ·rw [hc, Bool.false_and] at h5; exact h5
 intro w83; have m : Mem w0 w83 _ := m.drew; clear_value w83
 refine ⟨fun u => Rs u _, m.sub 0 rfl, ?_⟩
 refine ⟨_, fun _ h => h.ld 0 rfl rfl, ?_⟩
 refine ⟨_, fun _ h => h.ld 4 rfl rfl, ?_⟩
 refine ⟨inR64 (by omega) (by omega), ?_⟩
 refine ⟨inR64 (by omega) (by omega), ?_⟩
 refine ⟨_, fun _ h => h.ld 0 rfl rfl, ?_⟩
 refine ⟨inR64 (by omega) (by omega), ?_⟩
 refine ⟨_, fun _ h => h.ld 3 rfl rfl, ?_⟩
 refine ⟨_, fun _ h => h.ld 3 rfl rfl, ?_⟩
 refine ⟨_, fun _ h => h.ld 0 rfl rfl, ?_⟩
 refine ⟨inR64 (by omega) (by omega), ?_⟩
 refine ⟨?_, ?_⟩
 ·refine rOf_spec fun w91 hf => ?_; have m := m.fr hf
  refine ⟨m.sub 0 rfl, ?_⟩
  refine ⟨?_, ?_⟩
  ·refine rOf_spec fun w93 hf => ?_; have m := m.fr hf
   refine ⟨m.sub 0 rfl, ?_⟩
   refine ⟨?_, ?_⟩
   ·refine refadd_spec hnet hone hdn hdd hpr hone fun w95 hf => ?_; have m := m.fr hf
    refine ⟨m.sub 0 rfl, ?_⟩
    intro w98; have m : Mem w0 w98 _ := m.allocL; clear_value w98
    refine ⟨m.sub 1 rfl, ?_⟩
    refine ⟨m.wr 0 rfl rfl, ?_⟩
    intro w99; have m : Mem w0 w99 _ := m.set 0 rfl; clear_value w99; simp only [List.set_cons_zero] at m
    refine ⟨m.wr 0 rfl rfl, ?_⟩
    intro w100; have m : Mem w0 w100 _ := m.set 0 rfl; clear_value w100; simp only [List.set_cons_zero, List.set_cons_succ] at m
    exact fin m
   ·intro w101; have m : Mem w0 w101 _ := m.allocL; clear_value w101
    refine ⟨m.sub 1 rfl, ?_⟩
    refine refadd_spec hnet hone hdn hdd hpr hone fun w102 hf => ?_; have m := m.fr hf
    refine ⟨m.sub 1 rfl, ?_⟩
    refine ⟨m.wr 0 rfl rfl, ?_⟩
    intro w105; have m : Mem w0 w105 _ := m.set 0 rfl; clear_value w105; simp only [List.set_cons_zero] at m
    refine ⟨m.wr 0 rfl rfl, ?_⟩
    intro w106; have m : Mem w0 w106 _ := m.set 0 rfl; clear_value w106; simp only [List.set_cons_zero, List.set_cons_succ] at m
    exact fin m
  ·intro w107; have m : Mem w0 w107 _ := m.allocL; clear_value w107
   refine ⟨m.sub 1 rfl, ?_⟩
   refine rOf_spec fun w108 hf => ?_; have m := m.fr hf
   refine ⟨m.sub 1 rfl, ?_⟩
   refine refadd_spec hnet hone hdn hdd hpr hone fun w110 hf => ?_; have m := m.fr hf
   refine ⟨m.sub 1 rfl, ?_⟩
   refine ⟨m.wr 0 rfl rfl, ?_⟩
   intro w113; have m : Mem w0 w113 _ := m.set 0 rfl; clear_value w113; simp only [List.set_cons_zero] at m
   refine ⟨m.wr 0 rfl rfl, ?_⟩
   intro w114; have m : Mem w0 w114 _ := m.set 0 rfl; clear_value w114; simp only [List.set_cons_zero, List.set_cons_succ] at m
   exact fin m
 ·intro w115; have m : Mem w0 w115 _ := m.allocL; clear_value w115
  refine ⟨m.sub 1 rfl, ?_⟩
  refine rOf_spec fun w116 hf => ?_; have m := m.fr hf
  refine ⟨m.sub 1 rfl, ?_⟩
  refine rOf_spec fun w118 hf => ?_; have m := m.fr hf
  refine ⟨m.sub 1 rfl, ?_⟩
  refine refadd_spec hnet hone hdn hdd hpr hone fun w120 hf => ?_; have m := m.fr hf
  refine ⟨m.sub 1 rfl, ?_⟩
  refine ⟨m.wr 0 rfl rfl, ?_⟩
  intro w123; have m : Mem w0 w123 _ := m.set 0 rfl; clear_value w123; simp only [List.set_cons_zero] at m
  refine ⟨m.wr 0 rfl rfl, ?_⟩
  intro w124; have m : Mem w0 w124 _ := m.set 0 rfl; clear_value w124; simp only [List.set_cons_zero, List.set_cons_succ] at m
  exact fin m
theorem Upper_l2 {i : Nat} {N1 : Sl -> Addr -> Addr -> Addr -> Bool -> Int -> World -> Prop} {K : Int -> Bool -> World -> Prop}
  (hp : RightPr p) (h : PF w0 s0 s1 s2 s5 p f) (hil : i < p.lots.length) (hdn : I64 dn) (hdd : I64 dd) (hs : I64 s.n /\ I64 s.d)
  (m : Mem w0 w ((bb, rrC 0 1) :: UL sb db pb s dn dd (prC s0 s1 s2 p.most p.budget)))
  (hN : ∀ w' (s' : RR), s' = lstep p f (dn, dd) i p.lots[i] s -> Mem w0 w' (UL sb db pb s' dn dd (prC s0 s1 s2 p.most p.budget)) -> N1 s5 ⟨pb, 0, none⟩ ⟨db, 0, none⟩ ⟨sb, 0, none⟩ s'.ok ((i : Int) + 1) w') :
  z1t_l2 s5 ⟨pb, 0, none⟩ ⟨db, 0, none⟩ ⟨sb, 0, none⟩ s.ok i ⟨bb, 0, none⟩ 0 N1 K w := by
 have l1 := h.pv.l1; have l5 := h.lt; have l0 := h.pv.l0
 have e1 := h.pv.ch.len; have e5 := h.tk.len
 have hzero : I64 0 := ⟨by decide, by decide⟩
 have hone : I64 1 := ⟨by decide, by decide⟩
 refine ⟨⟨fun ok j w' => ∃ (j' : Nat) (st : RR), j = j' /\ ok = st.ok /\ j' <= p.ch.length /\ (I64 st.n /\ I64 st.d) /\ bfold p f (dn, dd) i p.lots[i] j' (p.ch.drop j') st = bfold p f (dn, dd) i p.lots[i] 0 p.ch ⟨0, 1, s.ok⟩ /\ Mem w0 w' ((bb, rrC st.n st.d) :: UL sb db pb s dn dd (prC s0 s1 s2 p.most p.budget)), fun _ j _ => p.ch.length - j.toNat,
  ⟨0, ⟨0, 1, s.ok⟩, rfl, rfl, by omega, ⟨hzero, hone⟩, by simp, m⟩, ?_⟩⟩
 rintro ok j w2 ⟨j, st, rfl, rfl, hj, hst, he, m⟩
 unfold z1t_b2
 refine ⟨s1, m.ld 3 rfl rfl, cnd_prop.2 ⟨fun hlt => ?_, fun hge => ?_⟩⟩
 ·have hlt : j < p.ch.length := by omega
  have hcm := List.getElem_mem hlt
  rw [List.drop_eq_getElem_cons hlt, bfold] at he
  refine ⟨s1, m.ld 3 rfl rfl, VC.ld (h.fr m.1).pv.ch j rfl hlt fun a hc => ?_⟩
  obtain ⟨c0, c1, c2, c3⟩ := hc w2 Fr.refl
  refine ⟨_, c0, _, c1, _, c2, _, c3, ?_⟩
  refine stN_new rfl m fun w3 m3 => ?_
  have m3 : Mem w0 w3 ((w2.heap.size, encC p.ch[j]) :: (bb, rrC st.n st.d) :: UL sb db pb s dn dd (prC s0 s1 s2 p.most p.budget)) := m3
  intro w4; have m3 : Mem w0 w4 _ := m3.drew; clear_value w4
  have hnext : ∀ {w4 : World} {st' : RR}, bstep p f (dn, dd) i p.lots[i] st j p.ch[j] = st' -> Mem w0 w4 ((bb, rrC st'.n st'.d) :: UL sb db pb s dn dd (prC s0 s1 s2 p.most p.budget)) ->
    (((s5 = s5 /\ (⟨pb, 0, none⟩ : Addr) = ⟨pb, 0, none⟩ /\ (⟨db, 0, none⟩ : Addr) = ⟨db, 0, none⟩ /\ (⟨sb, 0, none⟩ : Addr) = ⟨sb, 0, none⟩ /\ (i : Int) = i /\ (⟨bb, 0, none⟩ : Addr) = ⟨bb, 0, none⟩ /\ True) /\
    ∃ (j' : Nat) (st : RR), (j : Int) + 1 = j' /\ st'.ok = st.ok /\ j' <= p.ch.length /\ (I64 st.n /\ I64 st.d) /\ bfold p f (dn, dd) i p.lots[i] j' (p.ch.drop j') st = bfold p f (dn, dd) i p.lots[i] 0 p.ch ⟨0, 1, s.ok⟩ /\ Mem w0 w4 ((bb, rrC st.n st.d) :: UL sb db pb s dn dd (prC s0 s1 s2 p.most p.budget))) /\ p.ch.length - ((j : Int) + 1).toNat < p.ch.length - (j : Int).toNat) :=
   fun {w4 st'} hb m4 => ⟨⟨⟨rfl, rfl, rfl, rfl, rfl, rfl, trivial⟩, j + 1, st', by omega, rfl, by omega, hb ▸ bstep_I64 hst, by rw [← hb]; exact he, m4⟩, by omega⟩
  have h3 := h.fr m3.1
  refine ⟨_, m3.ld 0 rfl rfl, s0, m3.ld 4 rfl rfl, VI.ld h3.pv.lots i rfl hil ?_⟩
  have hgo : ∀ {N2 : Sl -> Addr -> Addr -> Addr -> Bool -> Int -> Addr -> Int -> World -> Prop}, (∀ w4 st', bstep p f (dn, dd) i p.lots[i] st j p.ch[j] = st' -> Mem w0 w4 ((bb, rrC st'.n st'.d) :: UL sb db pb s dn dd (prC s0 s1 s2 p.most p.budget)) -> N2 s5 ⟨pb, 0, none⟩ ⟨db, 0, none⟩ ⟨sb, 0, none⟩ st'.ok i ⟨bb, 0, none⟩ ((j : Int) + 1) w4) -> ¬ (p.ch[j].lot ≠ p.lots[i] \/ (i < f.length /\ f.getD i 0 ≠ (j : Int))) -> z1t_k3 s5 ⟨pb, 0, none⟩ ⟨db, 0, none⟩ ⟨sb, 0, none⟩ st.ok i ⟨bb, 0, none⟩ j ⟨w2.heap.size, 0, none⟩ N2 N1 K w4 := fun {N2} hN2 hn =>
   Upper_k3 (f := f) hp hcm hdn hdd hst e5 (by omega) m3 rfl fun w5 st' hst' m5 => hN2 w5 st' (by unfold bstep; rw [if_neg hn]; exact hst'.symm) m5
  refine cnd_bne.2 ⟨fun hne => ⟨inR64 (by omega) (by omega), hnext (st' := st) ?_ (m3.dr 1 rfl)⟩, fun hlot => cnd_prop.2 ⟨fun hdec => ?_, fun hdec => hgo (fun w4 st' => hnext) ?_⟩⟩
  ·unfold bstep
   rw [if_pos (.inl hne)]
  ·have hif : i < f.length := by omega
   have hg : f.getD i 0 = f[i] := by simp [hif]
   refine VI.ld h3.tk i rfl hif (cnd_bne.2 ⟨fun hne => ⟨inR64 (by omega) (by omega), hnext (st' := st) ?_ (m3.dr 1 rfl)⟩, fun heq => hgo (fun w4 st' => hnext) ?_⟩)
   ·unfold bstep
    rw [if_pos (.inr ⟨hif, by rw [hg]; exact hne⟩)]
   ·rintro (q | q)
    ·exact q hlot
    ·rw [hg] at q; exact q.2 heq
  ·rintro (q | q)
   ·exact q hlot
   ·omega
 ·have : j = p.ch.length := by omega
  subst this
  rw [List.drop_of_length_le (Nat.le_refl _), bfold] at he
  have hr : rightP st.n st.d := he ▸ bfold_right _ _ _ (rightP_int 0)
  refine ⟨_, m.ld 1 rfl rfl, _, m.ld 1 rfl rfl, _, m.ld 0 rfl rfl, _, m.ld 0 rfl rfl, rAdd_spec hs.1 hs.2 hst.1 hst.2 fun w3 hf => ?_⟩
  have m := m.fr hf
  have hls : lstep p f (dn, dd) i p.lots[i] s = ⟨(addQ s.n s.d st.n st.d).n, (addQ s.n s.d st.n st.d).d, st.ok && (addQ s.n s.d st.n st.d).ok⟩ := by
   unfold lstep mulAdd
   rw [← he]
   simp only [mulQ_one hr hst.1 hst.2, Bool.true_and]
  intro w4; have m : Mem w0 w4 _ := m.allocL (cs := rrC 0 0); clear_value w4
  refine ⟨m.wr 0 rfl rfl, ?_⟩
  intro w5; have m : Mem w0 w5 _ := m.set 0 rfl; clear_value w5; simp only [List.set_cons_zero] at m
  refine ⟨m.wr 0 rfl rfl, ?_⟩
  intro w6; have m : Mem w0 w6 _ := m.set 0 rfl; clear_value w6; simp only [List.set_cons_zero, List.set_cons_succ] at m
  refine ⟨_, m.ld 0 rfl rfl, _, m.ld 0 rfl rfl, m.wr 2 rfl rfl, ?_⟩
  intro w7; have m : Mem w0 w7 _ := m.set 2 rfl; clear_value w7; simp only [List.set_cons_zero, List.set_cons_succ] at m
  refine ⟨m.wr 2 rfl rfl, ?_⟩
  intro w8; have m : Mem w0 w8 _ := m.set 2 rfl; clear_value w8; simp only [List.set_cons_zero, List.set_cons_succ] at m
  have hN' := hN w8 _ hls.symm (m.dr 2 rfl)
  refine cnd_iff.2 ⟨fun hc => ⟨inR64 (by omega) (by omega), ?_⟩, fun hc => ⟨inR64 (by omega) (by omega), ?_⟩⟩
  ·rw [hc, Bool.true_and] at hN'; exact hN'
  ·rw [hc, Bool.false_and] at hN'; exact hN'
theorem Upper_k8 {ok one : Bool} {mn md : Int} {K : Int -> Bool -> World -> Prop} (hp : RightPr p) (h : PF w0 s0 s1 s2 s5 p f) (hd : Decs p p.lots f) (hs : I64 s.n /\ I64 s.d) (hm : I64 mn /\ I64 md)
  (m : Mem w0 w ((mb, rrC mn md) :: UL sb db pb s dn dd (prC s0 s1 s2 p.most p.budget)))
  (hF : ∀ w', Fr F0 w0 w' -> (ok && one && (mulAdd ⟨s.n, s.d, true⟩ (mn, md) (offs p f, 1)).ok) = false -> K 0 false w')
  (hT : ∀ w', Fr F0 w0 w' -> (ok && one && (mulAdd ⟨s.n, s.d, true⟩ (mn, md) (offs p f, 1)).ok) = true -> K (floorQ (mulAdd ⟨s.n, s.d, true⟩ (mn, md) (offs p f, 1)).n (mulAdd ⟨s.n, s.d, true⟩ (mn, md) (offs p f, 1)).d) true w') :
  z1t_k8 s5 ⟨pb, 0, none⟩ ⟨sb, 0, none⟩ ok ⟨mb, 0, none⟩ one K w := by
 have hone : I64 1 := ⟨by decide, by decide⟩
 have hob := offs_bound (f := f) hp (List.prefix_refl p.de)
 have ho : I64 (offs p f) := by unfold offs; exact ⟨by omega, by omega⟩
 have hr := mulAdd_I64 ⟨s.n, s.d, true⟩ (mn, md) (offs p f, 1)
 refine ⟨?_⟩
 unfold z1t_k8d
 intro w175; have m : Mem w0 w175 _ := m.drew; clear_value w175
 refine ⟨fun u => Rs u _, m.sub 0 rfl, ?_⟩
 refine ⟨_, fun _ h => h.ld 1 rfl rfl, ?_⟩
 refine ⟨_, fun _ h => h.ld 1 rfl rfl, ?_⟩
 refine ⟨_, fun _ h => h.ld 0 rfl rfl, ?_⟩
 refine ⟨_, fun _ h => h.ld 0 rfl rfl, ?_⟩
 refine ⟨_, fun _ h => h.ld 3 rfl rfl, ?_⟩
 refine ⟨_, fun _ h => h.ld 3 rfl rfl, ?_⟩
 refine ⟨_, fun _ h => h.ld 3 rfl rfl, ?_⟩
 refine ⟨_, fun _ h => h.ld 3 rfl rfl, ?_⟩
 refine ⟨_, fun _ h => h.ld 3 rfl rfl, ?_⟩
 refine refoffs_spec hp (h.fr m.1) hd fun w186 hf => ?_; have m := m.fr hf
 refine ⟨m.sub 0 rfl, ?_⟩
 refine rOf_spec fun w188 hf => ?_; have m := m.fr hf
 refine ⟨m.sub 0 rfl, ?_⟩
 refine refadd_spec hs.1 hs.2 hm.1 hm.2 ho hone fun w190 hf => ?_; have m := m.fr hf
 refine ⟨m.sub 0 rfl, ?_⟩
 refine ⟨m.wr 1 rfl rfl, ?_⟩
 intro w193; have m : Mem w0 w193 _ := m.set 1 rfl; clear_value w193; simp only [List.set_cons_zero, List.set_cons_succ] at m
 refine ⟨m.wr 1 rfl rfl, ?_⟩
 intro w194; have m : Mem w0 w194 _ := m.set 1 rfl; clear_value w194; simp only [List.set_cons_zero, List.set_cons_succ] at m
 refine cnd_iff.2 ⟨fun hc1 => ?_, fun hc1 => ?_⟩
 ·exact hF _ m.1 (by simp_all)
 ·refine cnd_iff.2 ⟨fun hc2 => ?_, fun hc2 => ?_⟩
  ·exact hF _ m.1 (by simp_all)
  ·refine cnd_iff.2 ⟨fun hc3 => ?_, fun hc3 => ?_⟩
   ·exact hF _ m.1 (by simp_all)
   ·refine ⟨_, m.ld 1 rfl rfl, ?_⟩
    refine ⟨_, m.ld 1 rfl rfl, ?_⟩
    refine rFloor_spec hr.1 hr.2 fun w197 hf => ?_; have m := m.fr hf
    exact hT _ m.1 (by simp_all)
theorem Upper_k7 {R : RR} {K : Int -> Bool -> World -> Prop} (hp : RightPr p) (h : PF w0 s0 s1 s2 s5 p f) (hd : Decs p p.lots f) (hs : I64 s.n /\ I64 s.d) (hdn : I64 dn) (hdd : I64 dd) (hdr : rightP dn dd)
  (m : Mem w0 w (UL sb db pb s dn dd (prC s0 s1 s2 p.most p.budget))) (hR : s = R \/ (s.ok = false /\ R.ok = false))
  (hK : ∀ w', Fr F0 w0 w' -> K (if (blast p f R (bmore (dn, dd) R.ok)).ok then floorQ (blast p f R (bmore (dn, dd) R.ok)).n (blast p f R (bmore (dn, dd) R.ok)).d else 0) (blast p f R (bmore (dn, dd) R.ok)).ok w') :
  z1t_k7 s5 ⟨pb, 0, none⟩ ⟨db, 0, none⟩ ⟨sb, 0, none⟩ s.ok K w := by
 have hone : I64 1 := ⟨by decide, by decide⟩
 have ha := addQ_I64 1 1 dn dd
 have hbm : ∀ ok, bmore (dn, dd) ok = ⟨(addQ 1 1 dn dd).n, (addQ 1 1 dn dd).d, ok && (addQ 1 1 dn dd).ok⟩ := fun ok => by
  unfold bmore mulAdd
  simp only [mulQ_one hdr hdn hdd, Bool.true_and]
 have hbl : ∀ t : RR, blast p f t (bmore (dn, dd) t.ok) = ⟨(mulAdd ⟨t.n, t.d, true⟩ ((addQ 1 1 dn dd).n, (addQ 1 1 dn dd).d) (offs p f, 1)).n, (mulAdd ⟨t.n, t.d, true⟩ ((addQ 1 1 dn dd).n, (addQ 1 1 dn dd).d) (offs p f, 1)).d,
   t.ok && (addQ 1 1 dn dd).ok && (mulAdd ⟨t.n, t.d, true⟩ ((addQ 1 1 dn dd).n, (addQ 1 1 dn dd).d) (offs p f, 1)).ok⟩ := fun t => by
  rw [hbm]; simp [blast, mulAdd]
 have hF : ∀ w', Fr F0 w0 w' -> (s.ok && (addQ 1 1 dn dd).ok && (mulAdd ⟨s.n, s.d, true⟩ ((addQ 1 1 dn dd).n, (addQ 1 1 dn dd).d) (offs p f, 1)).ok) = false -> K 0 false w' := fun w' hf he => by
  have hk := hK w' hf
  have e : (blast p f R (bmore (dn, dd) R.ok)).ok = false := by
   rcases hR with rfl | ⟨_, h2⟩
   ·rw [hbl]; exact he
   ·rw [hbl]; simp [h2]
  rw [e] at hk
  exact hk
 have hT : ∀ w', Fr F0 w0 w' -> (s.ok && (addQ 1 1 dn dd).ok && (mulAdd ⟨s.n, s.d, true⟩ ((addQ 1 1 dn dd).n, (addQ 1 1 dn dd).d) (offs p f, 1)).ok) = true -> K (floorQ (mulAdd ⟨s.n, s.d, true⟩ ((addQ 1 1 dn dd).n, (addQ 1 1 dn dd).d) (offs p f, 1)).n (mulAdd ⟨s.n, s.d, true⟩ ((addQ 1 1 dn dd).n, (addQ 1 1 dn dd).d) (offs p f, 1)).d) true w' := fun w' hf he => by
  have hk := hK w' hf
  rcases hR with rfl | ⟨h1, _⟩
  ·rw [hbl] at hk
   simp only [he, if_true] at hk
   exact hk
  ·rw [h1] at he; cases he
 have fin : ∀ {w' mb}, Mem w0 w' ((mb, [.int .i64 (addQ 1 1 dn dd).n, .int .i64 (addQ 1 1 dn dd).d]) :: UL sb db pb s dn dd (prC s0 s1 s2 p.most p.budget)) -> z1t_k8 s5 ⟨pb, 0, none⟩ ⟨sb, 0, none⟩ s.ok ⟨mb, 0, none⟩ (addQ 1 1 dn dd).ok K w' := fun m => Upper_k8 hp h hd hs ha m hF hT
 refine ⟨?_⟩
 unfold z1t_k7d
 intro w149; have m : Mem w0 w149 _ := m.drew; clear_value w149
 refine ⟨fun u => Rs u _, m.sub 0 rfl, ?_⟩
 refine ⟨_, fun _ h => h.ld 1 rfl rfl, ?_⟩
 refine ⟨_, fun _ h => h.ld 1 rfl rfl, ?_⟩
 refine ⟨?_, ?_⟩
 ·refine rOf_spec fun w153 hf => ?_; have m := m.fr hf
  refine ⟨m.sub 0 rfl, ?_⟩
  refine ⟨?_, ?_⟩
  ·refine rAdd_spec hone hone hdn hdd fun w155 hf => ?_; have m := m.fr hf
   refine ⟨m.sub 0 rfl, ?_⟩
   intro w158; have m : Mem w0 w158 _ := m.allocL; clear_value w158
   refine ⟨m.sub 1 rfl, ?_⟩
   refine ⟨m.wr 0 rfl rfl, ?_⟩
   intro w159; have m : Mem w0 w159 _ := m.set 0 rfl; clear_value w159; simp only [List.set_cons_zero] at m
   refine ⟨m.wr 0 rfl rfl, ?_⟩
   intro w160; have m : Mem w0 w160 _ := m.set 0 rfl; clear_value w160; simp only [List.set_cons_zero, List.set_cons_succ] at m
   exact fin m
  ·intro w161; have m : Mem w0 w161 _ := m.allocL; clear_value w161
   refine ⟨m.sub 1 rfl, ?_⟩
   refine rAdd_spec hone hone hdn hdd fun w162 hf => ?_; have m := m.fr hf
   refine ⟨m.wr 0 rfl rfl, ?_⟩
   intro w165; have m : Mem w0 w165 _ := m.set 0 rfl; clear_value w165; simp only [List.set_cons_zero] at m
   refine ⟨m.wr 0 rfl rfl, ?_⟩
   intro w166; have m : Mem w0 w166 _ := m.set 0 rfl; clear_value w166; simp only [List.set_cons_zero, List.set_cons_succ] at m
   exact fin m
 ·intro w167; have m : Mem w0 w167 _ := m.allocL; clear_value w167
  refine ⟨m.sub 1 rfl, ?_⟩
  refine rOf_spec fun w168 hf => ?_; have m := m.fr hf
  refine ⟨m.sub 1 rfl, ?_⟩
  refine rAdd_spec hone hone hdn hdd fun w170 hf => ?_; have m := m.fr hf
  refine ⟨m.wr 0 rfl rfl, ?_⟩
  intro w173; have m : Mem w0 w173 _ := m.set 0 rfl; clear_value w173; simp only [List.set_cons_zero] at m
  refine ⟨m.wr 0 rfl rfl, ?_⟩
  intro w174; have m : Mem w0 w174 _ := m.set 0 rfl; clear_value w174; simp only [List.set_cons_zero, List.set_cons_succ] at m
  exact fin m
theorem Upper_k0 {K : Int -> Bool -> World -> Prop} (hp : RightPr p) (h : PF w0 s0 s1 s2 s5 p f) (hd : Decs p p.lots f) (hdn : I64 dn) (hdd : I64 dd) (hdr : rightP dn dd) (hs : s = bfirst p (dn, dd))
  (m : Mem w0 w (UL sb db pb s dn dd (prC s0 s1 s2 p.most p.budget)))
  (hK : ∀ w', Fr F0 w0 w' -> K (if (boundQ p f (dn, dd)).ok then floorQ (boundQ p f (dn, dd)).n (boundQ p f (dn, dd)).d else 0) (boundQ p f (dn, dd)).ok w') :
  z1t_k0 s5 ⟨pb, 0, none⟩ ⟨db, 0, none⟩ ⟨sb, 0, none⟩ s.ok K w := by
 have e0 := h.pv.lots.len
 have hfew := hp.few
 have hone : I64 1 := ⟨by decide, by decide⟩
 have hzero : I64 0 := ⟨by decide, by decide⟩
 refine ⟨?_⟩
 unfold z1t_k0d
 refine ⟨⟨fun ok i w' => ∃ (i' : Nat) (s : RR), i = i' /\ ok = s.ok /\ i' <= p.lots.length /\ (I64 s.n /\ I64 s.d) /\ lfold p f (dn, dd) i' (p.lots.drop i') s = lfold p f (dn, dd) 0 p.lots (bfirst p (dn, dd)) /\ Mem w0 w' (UL sb db pb s dn dd (prC s0 s1 s2 p.most p.budget)), fun _ i _ => p.lots.length - i.toNat,
  ⟨0, s, rfl, rfl, by omega, hs ▸ mulAdd_I64 _ _ _, by rw [hs, List.drop_zero], m⟩, ?_⟩⟩
 rintro ok i w2 ⟨i, s, rfl, rfl, hi, hsi, he, m⟩
 unfold z1t_b1
 have h7 : (s = lfold p f (dn, dd) 0 p.lots (bfirst p (dn, dd)) \/ (s.ok = false /\ (lfold p f (dn, dd) 0 p.lots (bfirst p (dn, dd))).ok = false)) -> z1t_k7 s5 ⟨pb, 0, none⟩ ⟨db, 0, none⟩ ⟨sb, 0, none⟩ s.ok K w2 := fun hR => Upper_k7 hp h hd hsi hdn hdd hdr m hR hK
 refine ⟨s0, m.ld 2 rfl rfl, cnd_prop.2 ⟨fun hlt => cnd_iff.2 ⟨fun hok => ?_, fun hok => h7 (.inr ⟨hok, ?_⟩)⟩, fun hge => h7 (.inl ?_)⟩⟩
 ·have hil : i < p.lots.length := by omega
  refine rOf_spec fun w3 hf => ?_
  have m := m.fr hf
  intro w4; have m : Mem w0 w4 _ := m.allocL (cs := rrC 0 0); clear_value w4
  refine ⟨m.wr 0 rfl rfl, ?_⟩
  intro w5; have m : Mem w0 w5 _ := m.set 0 rfl; clear_value w5; simp only [List.set_cons_zero] at m
  refine ⟨m.wr 0 rfl rfl, ?_⟩
  intro w6; have m : Mem w0 w6 _ := m.set 0 rfl; clear_value w6; simp only [List.set_cons_zero, List.set_cons_succ] at m
  refine Upper_l2 hp h hil hdn hdd hsi m fun w' s' hs' m' => ⟨⟨⟨rfl, rfl, rfl, rfl, trivial⟩, i + 1, s', by omega, rfl, by omega, hs' ▸ mulAdd_I64 _ _ _, ?_, m'⟩, by dsimp only; omega⟩
  rw [List.drop_eq_getElem_cons hil, lfold] at he
  rw [hs']
  exact he
 ·rw [← he]
  cases hq : (lfold p f (dn, dd) i (p.lots.drop i) s).ok with
  | false => rfl
  | true => rw [lfold_ok _ _ _ hq] at hok; cases hok
 ·have : i = p.lots.length := by omega
  subst this
  rw [List.drop_of_length_le (Nat.le_refl _), lfold] at he
  exact he
theorem refUpper_spec {K : Int -> Bool -> World -> Prop} (h : PF w s0 s1 s2 s5 p f) (hdn : I64 dn) (hdd : I64 dd) (hK : ∀ w', Fr F0 w w' -> K (upR p f dn dd).1 (upR p f dn dd).2 w') : z1t_sh s0 s1 s2 p.most p.budget s5 dn dd K w := by
 have hbad : ∀ w', Fr F0 w w' -> ((rightB p && decsB p p.lots f) = true -> rightP dn dd /\ 0 <= dn -> False) -> K 0 false w' := fun w' hf hn => by
  have hk := hK w' hf
  have e : upR p f dn dd = (0, false) := by
   unfold upR
   by_cases hg : (rightB p && decsB p p.lots f) = true
   ·rw [if_pos hg]
    unfold upB
    rw [if_neg fun q => hn hg ⟨q.1, q.2.2.2⟩]
   ·rw [if_neg hg]
  rw [e] at hk
  exact hk
 have hone : I64 1 := ⟨by decide, by decide⟩
 have hzero : I64 0 := ⟨by decide, by decide⟩
 have m : Mem w w [] := Mem.nil
 refine ⟨?_⟩
 unfold z1t_sd
 intro w1; have m : Mem w w1 _ := m.allocL; clear_value w1
 intro w2; have m : Mem w w2 _ := m.allocL; clear_value w2
 refine ⟨_, m.ld 1 rfl rfl, ?_⟩
 refine ⟨_, m.ld 1 rfl rfl, ?_⟩
 refine ⟨_, m.ld 1 rfl rfl, ?_⟩
 refine ⟨_, m.ld 1 rfl rfl, ?_⟩
 refine ⟨_, m.ld 1 rfl rfl, ?_⟩
 refine refRight_spec (h.pv.fr m.1) fun w8 hf => ?_; have m := m.fr hf
 refine ⟨_, m.ld 0 rfl rfl, ?_⟩
 refine ⟨_, m.ld 0 rfl rfl, ?_⟩
 refine rRight_spec hdn hdd fun w12 hf => ?_; have m := m.fr hf
 refine cnd_iff.2 ⟨fun hc1 => ?_, fun hc1 => ?_⟩
 ·exact hbad _ m.1 (fun q q2 => by first | (have := q2.2; omega) | simp_all)
 ·refine ⟨_, m.ld 1 rfl rfl, ?_⟩
  refine ⟨_, m.ld 1 rfl rfl, ?_⟩
  refine ⟨_, m.ld 1 rfl rfl, ?_⟩
  refine ⟨_, m.ld 1 rfl rfl, ?_⟩
  refine ⟨_, m.ld 1 rfl rfl, ?_⟩
  refine refPrefix_spec (h.fr m.1) fun w19 hf => ?_; have m := m.fr hf
  refine cnd_iff.2 ⟨fun hc2 => ?_, fun hc2 => ?_⟩
  ·exact hbad _ m.1 (fun q q2 => by first | (have := q2.2; omega) | simp_all)
  ·refine cnd_iff.2 ⟨fun hc3 => ?_, fun hc3 => ?_⟩
   ·exact hbad _ m.1 (fun q q2 => by first | (have := q2.2; omega) | simp_all)
   ·refine ⟨_, m.ld 0 rfl rfl, ?_⟩
    refine cnd_prop.2 ⟨fun hc4 => ?_, fun hc4 => ?_⟩
    ·exact hbad _ m.1 (fun q q2 => by first | (have := q2.2; omega) | simp_all)
    ·have hp : RightPr p := rightB_iff.1 (by simpa using hc1)
     have hd : Decs p p.lots f := decsB_iff.1 (by simpa using hc2)
     have hdr : rightP dn dd := by simpa using hc3
     have ⟨b1, b2⟩ : 0 <= p.budget /\ p.budget <= 1000000000 := hp.budget
     have hbud : I64 p.budget := ⟨by omega, by omega⟩
     have eU : upR p f dn dd = (if (boundQ p f (dn, dd)).ok then floorQ (boundQ p f (dn, dd)).n (boundQ p f (dn, dd)).d else 0, (boundQ p f (dn, dd)).ok) := by
      unfold upR
      rw [if_pos (by rw [rightB_iff.2 hp, decsB_iff.2 hd]; rfl)]
      unfold upB
      rw [if_pos ⟨hdr, hdn, hdd, by omega⟩]
      cases hq : (boundQ p f (dn, dd)).ok <;> rfl
     rw [eU] at hK
     have fin : ∀ {w' sb}, Mem w w' [(sb, [.int .i64 (mulAdd ⟨0, 1, true⟩ (dn, dd) (p.budget, 1)).n, .int .i64 (mulAdd ⟨0, 1, true⟩ (dn, dd) (p.budget, 1)).d]), (w1.heap.size, [.int .i64 dn, .int .i64 dd]), (w.heap.size, prC s0 s1 s2 p.most p.budget)] ->
       z1t_k0 s5 ⟨w.heap.size, 0, none⟩ ⟨w1.heap.size, 0, none⟩ ⟨sb, 0, none⟩ (mulAdd ⟨0, 1, true⟩ (dn, dd) (p.budget, 1)).ok K w' := fun m => Upper_k0 hp h hd hdn hdd hdr rfl m hK
     intro w22; have m : Mem w w22 _ := m.drew; clear_value w22
     refine ⟨fun u => Rs u _, m.sub 0 rfl, ?_⟩
     refine ⟨_, fun _ h => h.ld 0 rfl rfl, ?_⟩
     refine ⟨_, fun _ h => h.ld 0 rfl rfl, ?_⟩
     refine ⟨_, fun _ h => h.ld 1 rfl rfl, ?_⟩
     refine ⟨?_, ?_⟩
     ·refine rOf_spec fun w27 hf => ?_; have m := m.fr hf
      refine ⟨m.sub 0 rfl, ?_⟩
      refine ⟨?_, ?_⟩
      ·refine rOf_spec fun w29 hf => ?_; have m := m.fr hf
       refine ⟨m.sub 0 rfl, ?_⟩
       refine ⟨?_, ?_⟩
       ·refine refadd_spec hzero hone hdn hdd hbud hone fun w31 hf => ?_; have m := m.fr hf
        refine ⟨m.sub 0 rfl, ?_⟩
        intro w34; have m : Mem w w34 _ := m.allocL; clear_value w34
        refine ⟨m.sub 1 rfl, ?_⟩
        refine ⟨m.wr 0 rfl rfl, ?_⟩
        intro w35; have m : Mem w w35 _ := m.set 0 rfl; clear_value w35; simp only [List.set_cons_zero] at m
        refine ⟨m.wr 0 rfl rfl, ?_⟩
        intro w36; have m : Mem w w36 _ := m.set 0 rfl; clear_value w36; simp only [List.set_cons_zero, List.set_cons_succ] at m
        exact fin m
       ·intro w37; have m : Mem w w37 _ := m.allocL; clear_value w37
        refine ⟨m.sub 1 rfl, ?_⟩
        refine refadd_spec hzero hone hdn hdd hbud hone fun w38 hf => ?_; have m := m.fr hf
        refine ⟨m.sub 1 rfl, ?_⟩
        refine ⟨m.wr 0 rfl rfl, ?_⟩
        intro w41; have m : Mem w w41 _ := m.set 0 rfl; clear_value w41; simp only [List.set_cons_zero] at m
        refine ⟨m.wr 0 rfl rfl, ?_⟩
        intro w42; have m : Mem w w42 _ := m.set 0 rfl; clear_value w42; simp only [List.set_cons_zero, List.set_cons_succ] at m
        exact fin m
      ·intro w43; have m : Mem w w43 _ := m.allocL; clear_value w43
       refine ⟨m.sub 1 rfl, ?_⟩
       refine rOf_spec fun w44 hf => ?_; have m := m.fr hf
       refine ⟨m.sub 1 rfl, ?_⟩
       refine refadd_spec hzero hone hdn hdd hbud hone fun w46 hf => ?_; have m := m.fr hf
       refine ⟨m.sub 1 rfl, ?_⟩
       refine ⟨m.wr 0 rfl rfl, ?_⟩
       intro w49; have m : Mem w w49 _ := m.set 0 rfl; clear_value w49; simp only [List.set_cons_zero] at m
       refine ⟨m.wr 0 rfl rfl, ?_⟩
       intro w50; have m : Mem w w50 _ := m.set 0 rfl; clear_value w50; simp only [List.set_cons_zero, List.set_cons_succ] at m
       exact fin m
     ·intro w51; have m : Mem w w51 _ := m.allocL; clear_value w51
      refine ⟨m.sub 1 rfl, ?_⟩
      refine rOf_spec fun w52 hf => ?_; have m := m.fr hf
      refine ⟨m.sub 1 rfl, ?_⟩
      refine rOf_spec fun w54 hf => ?_; have m := m.fr hf
      refine ⟨m.sub 1 rfl, ?_⟩
      refine refadd_spec hzero hone hdn hdd hbud hone fun w56 hf => ?_; have m := m.fr hf
      refine ⟨m.sub 1 rfl, ?_⟩
      refine ⟨m.wr 0 rfl rfl, ?_⟩
      intro w59; have m : Mem w w59 _ := m.set 0 rfl; clear_value w59; simp only [List.set_cons_zero] at m
      refine ⟨m.wr 0 rfl rfl, ?_⟩
      intro w60; have m : Mem w w60 _ := m.set 0 rfl; clear_value w60; simp only [List.set_cons_zero, List.set_cons_succ] at m
      exact fin m
end
end Go.Proofs.YtfpobpjandjhjaaGreatDoor
namespace Pw
open Go
theorem Sp.one {α : Type} {n : Nat} {enc : α -> List Value} {w0 w : World} {L : List (Nat × List Value)} {a : α} {e : TypeId} (hn : ∀ a, (enc a).length = n) (h : Mem w0 w L) : Sp w0 (w.alloc (Obj.cells (enc a).toArray e)) L (fun _ => False) (fun _ => True) n enc ⟨some ⟨w.heap.size, 0, none⟩, 1, 1⟩ [a] := by
 refine ⟨h.fr Fr.alloc, Rests.top, trivial, fun _ hb => hb.elim, Row.ow hn (l := [a]) (by simpa using Row.new), fun b ⟨x, ha, hb⟩ => ?_⟩
 cases ha
 subst hb
 exact ⟨h.1.1, fun h => h, fun p hp e => by have := (h.2.1 p hp).lt; simp only at e; omega⟩
end Pw
namespace Go.Proofs.YtfpobpjandjhjaaGreatDoor
open Go Pw
section
variable {w wB : World} {s t s0 s1 s2 s5 t5 : Sl} {a b l f g : List Int} {p : Pr} {pb : Nat}
theorem dec_lt {i : Nat} (hd : Decs p p.lots f) (hi : i < f.length) (h0 : 0 <= f[i]) : f[i].toNat < p.ch.length := by
 obtain ⟨_, q⟩ := decs_at hd hi
 rcases q with q | ⟨c, q, _⟩
 ·omega
 ·obtain ⟨_, q2, _⟩ := chAt_some q; exact q2
def cntB (p : Pr) (f : List Int) (i k : Nat) : Nat := match chAt p (f.getD i 0) with
 | some c => (took p (f.take k)).countP (fun d => d.bid == c.bid)
 | none => 0
theorem cntB_succ {i k : Nat} (hk : k < f.length) : cntB p f i (k + 1) = cntB p f i k + (match chAt p (f.getD i 0), chAt p f[k] with | some c, some d => if c.bid = d.bid then 1 else 0 | _, _ => 0) := by
 unfold cntB
 cases chAt p (f.getD i 0) with
 | none => rfl
 | some c =>
  rw [took_succ hk]
  cases chAt p f[k] with
  | none => simp
  | some d =>
   simp only [List.countP_append, List.countP_cons, List.countP_nil]
   by_cases h : c.bid = d.bid
   ·simp [h]
   ·have : ¬ d.bid = c.bid := fun e => h e.symm
    simp [h, this]
theorem Crowded_l1 {i : Nat} {N0 : Sl -> Addr -> Int -> World -> Prop} {K : Bool -> World -> Prop} (hp : RightPr p) (h : PF wB s0 s1 s2 s5 p f) (hd : Decs p p.lots f) (hB : Fr F0 wB w) (hi : i < f.length)
  (hpr : Row w pb (prC s0 s1 s2 p.most p.budget)) (hT : 0 < p.most /\ p.most < cntB p f i f.length -> ∀ w', Fr F0 w w' -> K true w') (hF : ¬ (0 < p.most /\ p.most < cntB p f i f.length) -> ∀ w', Fr F0 w w' -> N0 s5 ⟨pb, 0, none⟩ ((i : Int) + 1) w') :
  z0z_l1 s5 ⟨pb, 0, none⟩ i 0 0 N0 K w := by
 have el := h.tk.len
 have hl12 := right_len hp hd
 have e1 := h.pv.ch.len
 have hgi : f.getD i 0 = f[i] := by simp [hi]
 refine ⟨⟨fun n k w' => ∃ k' : Nat, k = k' /\ k' <= f.length /\ n = cntB p f i k' /\ Fr F0 w w', fun _ k _ => f.length - k.toNat, ⟨0, rfl, by omega, by unfold cntB; cases chAt p (f.getD i 0) <;> simp [took], Fr.refl⟩, ?_⟩⟩
 rintro n k w1 ⟨k, rfl, hk, rfl, hf⟩
 have hcb : cntB p f i k <= 12 := by
  unfold cntB
  split
  ·exact Nat.le_trans (List.countP_le_length) (Nat.le_trans (took_len _) (by simp; omega))
  ·omega
 unfold z0z_b1
 rw [cnd_prop]
 refine ⟨fun hlt => ?_, fun hge => ?_⟩
 ·have hkf : k < f.length := by omega
  have hs := cntB_succ (p := p) (i := i) hkf
  rw [hgi] at hs
  intro w2
  have hf2 : Fr F0 w w2 := hf.t Fr.drew
  clear_value w2
  have h2 := h.fr (hB.t hf2)
  have hp2 := hf2.row hpr fun h => h
  refine VI.ld h2.tk i rfl hi ?_
  rw [cnd_prop]
  refine ⟨fun h0 => VI.ld h2.tk k rfl hkf ?_, fun h0 => ?_⟩
  ·have hci := dec_lt hd hi h0
   rw [chAt_get h0 hci] at hs
   rw [cnd_prop]
   refine ⟨fun h3 => ?_, fun h3 => ?_⟩
   ·have hck := dec_lt hd hkf h3
    rw [chAt_get h3 hck] at hs
    simp only at hs
    refine ⟨s1, hp2.at rfl, VI.ld h2.tk i rfl hi (VC.ld h2.pv.ch f[i].toNat (by omega) hci fun x hc => ?_)⟩
    obtain ⟨_, c1, _, _⟩ := hc w2 Fr.refl
    refine ⟨_, c1, s1, hp2.at rfl, VI.ld h2.tk k rfl hkf (VC.ld h2.pv.ch f[k].toNat (by omega) hck fun y hc' => ?_)⟩
    obtain ⟨_, d1, _, _⟩ := hc' w2 Fr.refl
    refine ⟨_, d1, ?_⟩
    rw [cnd_beq]
    refine ⟨fun he => ?_, fun hne => ?_⟩
    ·rw [if_pos he] at hs
     exact ⟨inR64 (by omega) (by omega), inR64 (by omega) (by omega), ⟨⟨rfl, rfl, rfl, trivial⟩, k + 1, by omega, by omega, by omega, hf2⟩, by dsimp only; omega⟩
    ·rw [if_neg hne] at hs
     exact ⟨inR64 (by omega) (by omega), ⟨⟨rfl, rfl, rfl, trivial⟩, k + 1, by omega, by omega, by omega, hf2⟩, by dsimp only; omega⟩
   ·rw [chAt_neg h3] at hs
    simp only at hs
    exact ⟨inR64 (by omega) (by omega), ⟨⟨rfl, rfl, rfl, trivial⟩, k + 1, by omega, by omega, by omega, hf2⟩, by dsimp only; omega⟩
  ·rw [chAt_neg h0] at hs
   simp only at hs
   exact ⟨inR64 (by omega) (by omega), ⟨⟨rfl, rfl, rfl, trivial⟩, k + 1, by omega, by omega, by omega, hf2⟩, by dsimp only; omega⟩
 ·have : k = f.length := by omega
  subst this
  have hp2 := hf.row hpr fun h => h
  refine ⟨_, hp2.at rfl, ?_⟩
  rw [cnd_prop]
  refine ⟨fun h1 => ⟨_, hp2.at rfl, ?_⟩, fun h1 => ⟨inR64 (by omega) (by omega), hF (fun q => h1 q.1) w1 hf⟩⟩
  rw [cnd_prop]
  exact ⟨fun h2 => hT ⟨h1, h2⟩ w1 hf, fun h2 => ⟨inR64 (by omega) (by omega), hF (fun q => h2 q.2) w1 hf⟩⟩
theorem refCrowded_spec {K : Bool -> World -> Prop} (hp : RightPr p) (h : PF w s0 s1 s2 s5 p f) (hd : Decs p p.lots f) (hK : ∀ w', Fr F0 w w' -> K (crowdB p f) w') : z0z_sh s0 s1 s2 p.most p.budget s5 K w := by
 have el := h.tk.len
 have hl12 := right_len hp hd
 have hcase : ∀ i, i < f.length -> (0 < p.most /\ p.most < cntB p f i f.length) -> crowdB p f = true := fun i hi q => by
  unfold cntB at q
  have hgi : f.getD i 0 = f[i] := by simp [hi]
  rw [hgi, List.take_length] at q
  cases hc : chAt p f[i] with
  | none => rw [hc] at q; simp at q; omega
  | some c =>
   rw [hc] at q
   exact crowdB_iff.2 ⟨q.1, c.bid, q.2⟩
 refine ⟨?_⟩
 unfold z0z_sd
 intro w1
 have m : Mem w w1 _ := Mem.nil.allocL (cs := prC s0 s1 s2 p.most p.budget)
 clear_value w1
 have hpr := m.row 0 rfl
 refine ⟨⟨fun i w' => ∃ i' : Nat, i = i' /\ i' <= f.length /\ Fr F0 w1 w' /\ ∀ j < i', ¬ (0 < p.most /\ p.most < cntB p f j f.length), fun i _ => f.length - i.toNat, ⟨0, rfl, by omega, Fr.refl, fun j hj => by omega⟩, ?_⟩⟩
 rintro i w2 ⟨i, rfl, hi, hf, hin⟩
 unfold z0z_b0
 rw [cnd_prop]
 refine ⟨fun hlt => ?_, fun hge => ?_⟩
 ·have hif : i < f.length := by omega
  refine Crowded_l1 hp h hd (m.1.t hf) hif (hf.row hpr fun h => h) (fun q w' hw => ?_) fun q w' hw => ⟨⟨⟨rfl, rfl, trivial⟩, i + 1, by omega, by omega, hf.t hw, fun j hj => ?_⟩, by dsimp only; omega⟩
  ·have hk := hK w' (m.1.t (hf.t hw))
   rwa [hcase i hif q] at hk
  ·rcases Nat.lt_succ_iff_lt_or_eq.1 hj with hj | rfl
   ·exact hin j hj
   ·exact q
 ·have : i = f.length := by omega
  subst this
  have hk := hK w2 (m.1.t hf)
  cases hc : crowdB p f with
  | false => rwa [hc] at hk
  | true =>
   exfalso
   obtain ⟨h0, bd, hb⟩ := crowdB_iff.1 hc
   have hpos : 0 < (took p f).countP (fun d => d.bid == bd) := by omega
   obtain ⟨c, hcm, hcb⟩ := List.countP_pos_iff.1 hpos
   obtain ⟨n, hn, hnc⟩ := List.mem_filterMap.1 hcm
   obtain ⟨j, hj, rfl⟩ := List.mem_iff_getElem.1 hn
   refine hin j hj ⟨h0, ?_⟩
   unfold cntB
   have hgj : f.getD j 0 = f[j] := by simp [hj]
   rw [hgj, hnc, List.take_length]
   have : c.bid = bd := by simpa using hcb
   subst this
   exact hb
theorem refPermitted_spec {K : Bool -> World -> Prop} (h : PF w s0 s1 s2 s5 p f) (hK : ∀ w', Fr F0 w w' -> K (rightB p && permB p f) w') : z0g_sh s0 s1 s2 p.most p.budget s5 K w := by
 refine ⟨?_⟩
 unfold z0g_sd
 intro w1
 have m : Mem w w1 _ := Mem.nil.allocL (cs := prC s0 s1 s2 p.most p.budget)
 clear_value w1
 refine ⟨s0, m.ld 0 rfl rfl, s1, m.ld 0 rfl rfl, s2, m.ld 0 rfl rfl, _, m.ld 0 rfl rfl, _, m.ld 0 rfl rfl, take_spec (h.fr m.1) fun w7 hf => ?_⟩
 have m := m.fr hf
 intro w9
 have m : Mem w w9 _ := m.drew
 clear_value w9
 refine ⟨fun u => Row u w.heap.size (prC s0 s1 s2 p.most p.budget), m.row 0 rfl, ?_⟩
 unfold permB at hK
 refine cnd_iff.2 ⟨fun hy => ?_, fun hn => ?_⟩
 ·obtain ⟨er, ef⟩ := Bool.and_eq_true_iff.1 hy
  have hp := rightB_iff.1 er
  have hd := fitsB_decs ef
  rw [er, ef, Bool.true_and, Bool.true_and] at hK
  refine ⟨s0, fun u hu => hu.at rfl, s1, fun u hu => hu.at rfl, s2, fun u hu => hu.at rfl, _, fun u hu => hu.at rfl, _, fun u hu => hu.at rfl, _, fun u hu => hu.at rfl, refLeast_spec hp (h.fr m.1) hd fun w17 hf => ?_⟩
  have m := m.fr hf
  refine ⟨m.row 0 rfl, ?_⟩
  rw [cnd_prop]
  refine ⟨fun hle => ?_, fun hgt => ?_⟩
  ·rw [decide_eq_true hle, Bool.true_and] at hK
   refine ⟨s0, fun u hu => hu.at rfl, s1, fun u hu => hu.at rfl, s2, fun u hu => hu.at rfl, _, fun u hu => hu.at rfl, _, fun u hu => hu.at rfl, refCrowded_spec hp (h.fr m.1) hd fun w24 hf => ?_⟩
   have m := m.fr hf
   exact ⟨m.row 0 rfl, hK w24 m.1⟩
  ·rw [decide_eq_false hgt, Bool.false_and] at hK
   exact hK w17 m.1
 ·have hk := hK w9 m.1
  rw [← Bool.and_assoc, hn, Bool.false_and] at hk
  exact hk
theorem refValue_spec {K : Int -> World -> Prop} (hp : RightPr p) (h : PF w s0 s1 s2 s5 p f) (hfit : fitsB p f = true) (hK : ∀ w', Fr F0 w w' -> K (worth p f) w') : z1u_sh s0 s1 s2 p.most p.budget s5 K w := by
 have hd := fitsB_decs hfit
 have hbu := hp.budget
 have ⟨b1, b2⟩ : 0 <= p.budget /\ p.budget <= 1000000000 := hbu
 obtain ⟨q1, q2, q3, q4⟩ := worth_bound hp hd
 have ep : pointsR p (rightB p) (fitsB p f) f = ptsOf p f := by
  unfold pointsR
  rw [rightB_iff.2 hp, hfit]
  rfl
 refine ⟨?_⟩
 unfold z1u_sd
 intro w1
 have m : Mem w w1 _ := Mem.nil.allocL (cs := prC s0 s1 s2 p.most p.budget)
 clear_value w1
 intro w2
 have m : Mem w w2 _ := m.drew
 clear_value w2
 refine ⟨fun u => Row u w.heap.size (prC s0 s1 s2 p.most p.budget), m.row 0 rfl, s0, fun u hu => hu.at rfl, s1, fun u hu => hu.at rfl, s2, fun u hu => hu.at rfl, _, fun u hu => hu.at rfl, _, fun u hu => hu.at rfl, _, fun u hu => hu.at rfl, inR64 (by omega) (by omega), s0, fun u hu => hu.at rfl, s1, fun u hu => hu.at rfl, s2, fun u hu => hu.at rfl, _, fun u hu => hu.at rfl, _, fun u hu => hu.at rfl, refPoints_spec (h.fr m.1) fun w15 hf => ?_⟩
 have m := m.fr hf
 rw [ep]
 refine ⟨m.row 0 rfl, inR64 (by omega) (by omega), refLeast_spec hp (h.fr m.1) hd fun w17 hf => ?_⟩
 have m := m.fr hf
 have hk := hK w17 m.1
 unfold worth at hk q3 q4
 exact ⟨m.row 0 rfl, inR64 (by omega) (by omega), hk⟩
theorem refGreater_spec {K : Bool -> World -> Prop} (ha : VI w s a) (hb : VI w t b) (hla : a.length < 2 ^ 63) (hK : ∀ w', Fr F0 w w' -> K (gtL a b) w') : z10_sh s t K w := by
 have ea := ha.len
 have eb := hb.len
 refine ⟨?_⟩
 unfold z10_sd
 refine ⟨⟨fun i w' => ∃ i' : Nat, i = i' /\ i' <= a.length /\ Fr F0 w w' /\ gtL a b = gtL (a.drop i') (b.drop i'), fun i _ => a.length - i.toNat, ⟨0, rfl, by omega, Fr.refl, rfl⟩, ?_⟩⟩
 rintro i w1 ⟨i, rfl, hi, hf, hg⟩
 unfold z10_b0
 rw [cnd_prop]
 refine ⟨fun hlt => ?_, fun hge => ?_⟩
 ·have hia : i < a.length := by omega
  rw [cnd_prop]
  refine ⟨fun hlt2 => ?_, fun hge2 => ?_⟩
  ·have hib : i < b.length := by omega
   rw [List.drop_eq_getElem_cons hia, List.drop_eq_getElem_cons hib, gtL] at hg
   intro w2
   have hf2 : Fr F0 w w2 := hf.t Fr.drew
   clear_value w2
   refine VI.ld (ha.fr hf2) i rfl hia (VI.ld (hb.fr hf2) i rfl hib ?_)
   rw [cnd_bne]
   refine ⟨fun hne => ?_, fun he => ?_⟩
   ·rw [if_neg hne] at hg
    intro w3
    have hf3 : Fr F0 w w3 := hf2.t Fr.drew
    clear_value w3
    refine VI.ld (ha.fr hf3) i rfl hia (VI.ld (hb.fr hf3) i rfl hib ?_)
    have hk := hK w3 hf3
    rwa [hg] at hk
   ·rw [if_pos he] at hg
    exact ⟨inR64 (by omega) (by omega), ⟨⟨rfl, rfl, trivial⟩, i + 1, by omega, by omega, hf2, hg⟩, by dsimp only; omega⟩
  ·rw [List.drop_of_length_le (show b.length <= i by omega)] at hg
   have hk := hK w1 hf
   rw [hg] at hk
   have e : gtL (a.drop i) [] = false := by cases a.drop i <;> rfl
   rwa [e] at hk
 ·rw [List.drop_of_length_le (show a.length <= i by omega)] at hg
  have hk := hK w1 hf
  rw [hg] at hk
  exact hk
theorem perm_fits {p : Pr} {f : List Int} (h : permB p f = true) : fitsB p f = true := (Bool.and_eq_true_iff.1 h).1
theorem refBetter_spec {K : Bool -> World -> Prop} (ha : PF w s0 s1 s2 s5 p a) (hb : PF w s0 s1 s2 t5 p b) (hK : ∀ w', Fr F0 w w' -> K (betterR p a b) w') : z1a_sh s0 s1 s2 p.most p.budget s5 t5 K w := by
 refine ⟨?_⟩
 unfold z1a_sd
 intro w1
 have m : Mem w w1 _ := Mem.nil.allocL (cs := prC s0 s1 s2 p.most p.budget)
 clear_value w1
 refine ⟨s0, m.ld 0 rfl rfl, s1, m.ld 0 rfl rfl, s2, m.ld 0 rfl rfl, _, m.ld 0 rfl rfl, _, m.ld 0 rfl rfl, refPermitted_spec (ha.fr m.1) fun w7 hf => ?_⟩
 have m := m.fr hf
 refine ⟨s0, m.ld 0 rfl rfl, s1, m.ld 0 rfl rfl, s2, m.ld 0 rfl rfl, _, m.ld 0 rfl rfl, _, m.ld 0 rfl rfl, refPermitted_spec (hb.fr m.1) fun w14 hf => ?_⟩
 have m := m.fr hf
 unfold betterR at hK
 refine cnd_iff.2 ⟨fun hn => ?_, fun hy => ?_⟩
 ·have hk := hK w14 m.1
  have e : (rightB p && permB p a) = false := by
   cases hq : (rightB p && permB p a) with
   | false => rfl
   | true => rw [hq] at hn; cases hn
  rw [← Bool.and_assoc, e, Bool.false_and] at hk
  rw [e]
  exact hk
 ·have e : (rightB p && permB p a) = true := by
   cases hq : (rightB p && permB p a) with
   | true => rfl
   | false => rw [hq] at hy; cases hy
  obtain ⟨er, ea⟩ := Bool.and_eq_true_iff.1 e
  have hp := rightB_iff.1 er
  rw [er, ea, Bool.true_and, Bool.true_and] at hK
  refine cnd_iff.2 ⟨fun hn => ?_, fun hy2 => ?_⟩
  ·have e2 : permB p b = false := by
    cases hq : permB p b with
    | false => rfl
    | true => rw [er, hq] at hn; cases hn
   have hk := hK w14 m.1
   rw [e2] at hk
   rw [er, ea]
   exact hk
  ·have e2 : permB p b = true := by
    cases hq : permB p b with
    | true => rfl
    | false => rw [hq, Bool.and_false] at hy2; cases hy2
   rw [e2, Bool.not_true, Bool.false_or] at hK
   refine ⟨s0, m.ld 0 rfl rfl, s1, m.ld 0 rfl rfl, s2, m.ld 0 rfl rfl, _, m.ld 0 rfl rfl, _, m.ld 0 rfl rfl, refValue_spec hp (ha.fr m.1) (perm_fits ea) fun w21 hf => ?_⟩
   have m := m.fr hf
   refine ⟨s0, m.ld 0 rfl rfl, s1, m.ld 0 rfl rfl, s2, m.ld 0 rfl rfl, _, m.ld 0 rfl rfl, _, m.ld 0 rfl rfl, refValue_spec hp (hb.fr m.1) (perm_fits e2) fun w28 hf => ?_⟩
   have m := m.fr hf
   unfold btB at hK
   rw [cnd_prop]
   refine ⟨fun hg => ?_, fun hng => ?_⟩
   ·have hk := hK w28 m.1
    rw [decide_eq_true (show worth p b < worth p a from hg), Bool.true_or] at hk
    exact hk
   ·rw [decide_eq_false (show ¬ worth p b < worth p a from hng), Bool.false_or] at hK
    rw [cnd_beq]
    refine ⟨fun he => ?_, fun hne => ?_⟩
    ·rw [decide_eq_true he, Bool.true_and] at hK
     exact refGreater_spec (hb.fr m.1).tk (ha.fr m.1).tk hb.lt fun w30 hf => hK w30 (m.1.t hf)
    ·have hk := hK w28 m.1
     rw [decide_eq_false hne, Bool.false_and] at hk
     exact hk
end
end Go.Proofs.YtfpobpjandjhjaaGreatDoor
namespace Go.Proofs.YtfpobpjandjhjaaGreatDoor
open Go Pw
def boundB (p : Pr) (f : List Int) (a b : Int) (T : List Int) : Bool := (upR p f a b).2 && (decide ((upR p f a b).1 < worth p T) || (decide ((upR p f a b).1 = worth p T) && gtL f T))
def closedB (p : Pr) (f : List Int) (a b : Int) (T : List Int) : Bool := crowdB p f || (decide (p.budget < leastOf p f) || ((decide (f.length = p.lots.length) && !betterR p f T) || boundB p f a b T))
section
variable {w w' w0 : World} {s0 s1 s2 s5 t5 : Sl} {p : Pr} {f T : List Int} {db pb : Nat} {dn dd : Int} {K : Bool -> World -> Prop}
theorem closed_k0 (hp : RightPr p) (h : PF w0 s0 s1 s2 s5 p f) (hT : PF w0 s0 s1 s2 t5 p T) (hfit : fitsB p T = true) (hdn : I64 dn) (hdd : I64 dd)
  (m : Mem w0 w [(db, rrC dn dd), (pb, prC s0 s1 s2 p.most p.budget)]) (hK : ∀ w', Fr F0 w0 w' -> K (boundB p f dn dd T) w') : z1d_k0 s5 t5 ⟨pb, 0, none⟩ ⟨db, 0, none⟩ K w := by
 have hfin : ∀ w' (b : Bool), Fr F0 w0 w' -> b = boundB p f dn dd T -> K b w' := fun w' b hf e => e ▸ hK w' hf
 unfold boundB at hfin
 refine ⟨?_⟩
 unfold z1d_k0d
 refine ⟨_, m.ld 1 rfl rfl, ?_⟩
 refine ⟨_, m.ld 1 rfl rfl, ?_⟩
 refine ⟨_, m.ld 1 rfl rfl, ?_⟩
 refine ⟨_, m.ld 1 rfl rfl, ?_⟩
 refine ⟨_, m.ld 1 rfl rfl, ?_⟩
 refine ⟨_, m.ld 0 rfl rfl, ?_⟩
 refine ⟨_, m.ld 0 rfl rfl, ?_⟩
 refine refUpper_spec (h.fr m.1) hdn hdd fun w35 hf => ?_; have m := m.fr hf
 refine ⟨_, m.ld 1 rfl rfl, ?_⟩
 refine ⟨_, m.ld 1 rfl rfl, ?_⟩
 refine ⟨_, m.ld 1 rfl rfl, ?_⟩
 refine ⟨_, m.ld 1 rfl rfl, ?_⟩
 refine ⟨_, m.ld 1 rfl rfl, ?_⟩
 refine refValue_spec hp (hT.fr m.1) hfit fun w43 hf => ?_; have m := m.fr hf
 refine cnd_iff.2 ⟨fun hc1 => ?_, fun hc1 => ?_⟩
 ·refine cnd_prop.2 ⟨fun hc2 => ?_, fun hc2 => ?_⟩
  ·exact hfin _ _ m.1 (by simp_all)
  ·refine cnd_beq.2 ⟨fun hc3 => ?_, fun hc3 => ?_⟩
   ·refine refGreater_spec (h.fr m.1).tk (hT.fr m.1).tk h.lt fun w45 hf => ?_; have m := m.fr hf
    exact hfin _ _ m.1 (by simp_all)
   ·exact hfin _ _ m.1 (by simp_all)
 ·exact hfin _ _ m.1 (by simp_all)
theorem closed_spec (hp : RightPr p) (h : PF w s0 s1 s2 s5 p f) (hd : Decs p p.lots f) (hT : PF w s0 s1 s2 t5 p T) (hfit : fitsB p T = true) (hdn : I64 dn) (hdd : I64 dd) (hK : ∀ w', Fr F0 w w' -> K (closedB p f dn dd T) w') :
  z1d_sh s0 s1 s2 p.most p.budget s5 dn dd t5 K w := by
 have e0 := h.pv.lots.len
 have e5 := h.tk.len
 have hfin : ∀ w', Fr F0 w w' -> closedB p f dn dd T = true -> K true w' := fun w' hf e => e ▸ hK w' hf
 have hk0 : ∀ {w' db pb}, Mem w w' [(db, rrC dn dd), (pb, prC s0 s1 s2 p.most p.budget)] -> (crowdB p f = false /\ leastOf p f <= p.budget) -> (f.length = p.lots.length -> betterR p f T = true) -> z1d_k0 s5 t5 ⟨pb, 0, none⟩ ⟨db, 0, none⟩ K w' := fun m h1 h2 =>
  closed_k0 hp h hT hfit hdn hdd m fun w' hf => by
   have hk := hK w' hf
   have e : closedB p f dn dd T = boundB p f dn dd T := by
    unfold closedB
    rw [h1.1, decide_eq_false (by omega)]
    by_cases hl : f.length = p.lots.length
    ·rw [h2 hl]; simp
    ·rw [decide_eq_false hl]; simp
   rw [e] at hk
   exact hk
 have m : Mem w w [] := Mem.nil
 refine ⟨?_⟩
 unfold z1d_sd
 intro w1; have m : Mem w w1 _ := m.allocL; clear_value w1
 intro w2; have m : Mem w w2 _ := m.allocL; clear_value w2
 intro w3; have m : Mem w w3 _ := m.drew; clear_value w3
 refine ⟨fun u => Rs u _, m.sub 0 rfl, ?_⟩
 refine ⟨_, fun _ h => h.ld 1 rfl rfl, ?_⟩
 refine ⟨_, fun _ h => h.ld 1 rfl rfl, ?_⟩
 refine ⟨_, fun _ h => h.ld 1 rfl rfl, ?_⟩
 refine ⟨_, fun _ h => h.ld 1 rfl rfl, ?_⟩
 refine ⟨_, fun _ h => h.ld 1 rfl rfl, ?_⟩
 refine refCrowded_spec hp (h.fr m.1) hd fun w10 hf => ?_; have m := m.fr hf
 refine ⟨m.sub 0 rfl, ?_⟩
 refine cnd_iff.2 ⟨fun hc1 => ?_, fun hc1 => ?_⟩
 ·exact hfin _ m.1 (by first | (unfold closedB; rw [hc1]; rfl) | (unfold closedB; rw [decide_eq_true (show p.budget < leastOf p f by omega)]; simp; done) | (unfold closedB; rw [decide_eq_true (show f.length = p.lots.length by omega), hc4]; simp))
 ·refine ⟨_, fun _ h => h.ld 1 rfl rfl, ?_⟩
  refine ⟨_, fun _ h => h.ld 1 rfl rfl, ?_⟩
  refine ⟨_, fun _ h => h.ld 1 rfl rfl, ?_⟩
  refine ⟨_, fun _ h => h.ld 1 rfl rfl, ?_⟩
  refine ⟨_, fun _ h => h.ld 1 rfl rfl, ?_⟩
  refine ⟨_, fun _ h => h.ld 1 rfl rfl, ?_⟩
  refine refLeast_spec hp (h.fr m.1) hd fun w18 hf => ?_; have m := m.fr hf
  refine ⟨m.sub 0 rfl, ?_⟩
  refine cnd_prop.2 ⟨fun hc2 => ?_, fun hc2 => ?_⟩
  ·exact hfin _ m.1 (by first | (unfold closedB; rw [hc1]; rfl) | (unfold closedB; rw [decide_eq_true (show p.budget < leastOf p f by omega)]; simp; done) | (unfold closedB; rw [decide_eq_true (show f.length = p.lots.length by omega), hc4]; simp))
  ·refine ⟨_, m.ld 1 rfl rfl, ?_⟩
   refine cnd_beq.2 ⟨fun hc3 => ?_, fun hc3 => ?_⟩
   ·refine ⟨_, m.ld 1 rfl rfl, ?_⟩
    refine ⟨_, m.ld 1 rfl rfl, ?_⟩
    refine ⟨_, m.ld 1 rfl rfl, ?_⟩
    refine ⟨_, m.ld 1 rfl rfl, ?_⟩
    refine ⟨_, m.ld 1 rfl rfl, ?_⟩
    refine refBetter_spec (h.fr m.1) (hT.fr m.1) fun w26 hf => ?_; have m := m.fr hf
    refine cnd_iff.2 ⟨fun hc4 => ?_, fun hc4 => ?_⟩
    ·exact hfin _ m.1 (by first | (unfold closedB; rw [hc1]; rfl) | (unfold closedB; rw [decide_eq_true (show p.budget < leastOf p f by omega)]; simp; done) | (unfold closedB; rw [decide_eq_true (show f.length = p.lots.length by omega), hc4]; simp))
    ·exact hk0 m ⟨hc1, by omega⟩ (fun hl => by first | (exact absurd (show (s5.l : Int) = s0.l by omega) hc3) | simpa using hc4)
   ·exact hk0 m ⟨hc1, by omega⟩ (fun hl => by first | (exact absurd (show (s5.l : Int) = s0.l by omega) hc3) | simpa using hc4)
end
end Go.Proofs.YtfpobpjandjhjaaGreatDoor
namespace Go.Proofs.YtfpobpjandjhjaaGreatDoor
open Go Pw
theorem optsFrom_app {lot : Int} {c : Ch} : ∀ (l : List Ch) (i : Nat), optsFrom lot i (l ++ [c]) = optsFrom lot i l ++ (if c.lot = lot then [((i + l.length : Nat) : Int)] else [])
 | [], i => by simp [optsFrom]
 | d :: l, i => by
  rw [List.cons_append, optsFrom, optsFrom, optsFrom_app l (i + 1)]
  have e : i + 1 + l.length = i + (d :: l).length := by simp; omega
  rw [e]
  split <;> simp
section
variable {w wB : World} {s t s0 s1 s2 s5 t5 : Sl} {a b l f g : List Int} {p : Pr} {pb : Nat}
theorem refoptions_mk {k : Nat} {K : Sl -> World -> Prop} (h : PV w s0 s1 s2 p) (hk : k < p.lots.length) (hK : ∀ w' s, Mk w 1 (ie .i64 (id : Int -> Int)) w' s (opts p p.lots[k]) -> K s w') : z12_sh s0 s1 s2 p.most p.budget k K w := by
 have e0 := h.lots.len
 have e1 := h.ch.len
 have hl1 := h.l1
 have hl0 := h.l0
 refine ⟨?_⟩
 unfold z12_sd
 intro w1
 have m : Mem w w1 _ := Mem.nil.allocL (cs := prC s0 s1 s2 p.most p.budget)
 clear_value w1
 intro w2
 have h2 : Sp w w2 _ _ _ _ _ _ _ := Sp.one (α := Int) (n := 1) (enc := ie .i64 (id : Int -> Int)) (a := -1) (fun a => ie_length _ _ a) m
 clear_value w2
 refine ⟨⟨fun out i w' => ∃ i' : Nat, i = i' /\ i' <= p.ch.length /\ Sp w w' [(w.heap.size, prC s0 s1 s2 p.most p.budget)] (fun _ => False) (fun _ => True) 1 (ie .i64 (id : Int -> Int)) out (-1 :: optsFrom p.lots[k] 0 (p.ch.take i')), fun _ i _ => p.ch.length - i.toNat, ⟨0, rfl, by omega, h2⟩, ?_⟩⟩
 rintro out i w3 ⟨i, rfl, hi, h3⟩
 unfold z12_b0
 refine ⟨s1, h3.ld 0 rfl rfl, ?_⟩
 rw [cnd_prop]
 refine ⟨fun hlt => ?_, fun hge => ?_⟩
 ·have hic : i < p.ch.length := by omega
  have hts := take_succ' hic
  have hlen : (optsFrom p.lots[k] 0 (p.ch.take i)).length <= i := by
   rw [optsFrom_len]
   have := List.countP_le_length (p := fun c : Ch => c.lot == p.lots[k]) (l := p.ch.take i)
   simp at this
   omega
  have hap : -1 :: optsFrom p.lots[k] 0 (p.ch.take (i + 1)) = (-1 :: optsFrom p.lots[k] 0 (p.ch.take i)) ++ (if p.ch[i].lot = p.lots[k] then [(i : Int)] else []) := by
   rw [hts, optsFrom_app]
   simp only [List.length_take, List.cons_append]
   rw [show 0 + min i p.ch.length = i by omega]
  intro w4
  have h4 : Sp w w4 _ _ _ _ _ _ _ := h3.drew
  clear_value w4
  have hp4 := h.fr h4.m.1
  refine ⟨s1, h4.ld 0 rfl rfl, VC.ld hp4.ch i rfl hic fun x hc => ?_⟩
  obtain ⟨c0, _, _, _⟩ := hc w4 Fr.refl
  refine ⟨_, c0, s0, h4.ld 0 rfl rfl, VI.ld hp4.lots k rfl hk ?_⟩
  rw [cnd_beq]
  refine ⟨fun he => ?_, fun hne => ?_⟩
  ·rw [if_pos he] at hap
   intro w5
   refine h4.push (a := (i : Int)) rfl rfl (ie_ok _ _) rfl (by simp; omega) (by simp; omega) fun r w6 h6 => ?_
   rw [← hap] at h6
   exact ⟨inR64 (by omega) (by omega), ⟨⟨rfl, rfl, trivial⟩, i + 1, by omega, by omega, h6⟩, by dsimp only; omega⟩
  ·rw [if_neg hne, List.append_nil] at hap
   rw [← hap] at h4
   exact ⟨inR64 (by omega) (by omega), ⟨⟨rfl, rfl, trivial⟩, i + 1, by omega, by omega, h4⟩, by dsimp only; omega⟩
 ·have : i = p.ch.length := by omega
  subst this
  rw [List.take_length] at h3
  exact hK w3 out ⟨h3.m.1, h3.ow, fun b hb => (h3.os b hb).1⟩
end
end Go.Proofs.YtfpobpjandjhjaaGreatDoor
namespace Go.Proofs.YtfpobpjandjhjaaGreatDoor
open Go Pw
def NdV (w : World) (c : NdC) (n : Nd) : Prop := (c.lot = n.lot /\ c.num = n.num /\ c.den = n.den) /\ VI w c.nx n.next /\ I64 n.num /\ I64 n.den
structure NV (w : World) (s : Sl) (N : List Nd) : Prop where
 nds : ∃ cs : List NdC, Vw 4 encN w s cs /\ cs.length = N.length /\ ∀ (i : Nat) c n, cs[i]? = some c -> N[i]? = some n -> NdV w c n
 lt : N.length < 2 ^ 47
theorem NV.fr {w w' : World} {s : Sl} {N : List Nd} (h : NV w s N) (hf : Fr F0 w w') : NV w' s N := by
 obtain ⟨⟨cs, h1, h2, h3⟩, h4⟩ := h
 exact ⟨⟨cs, h1.fr hf, h2, fun i c n hc hn => ⟨(h3 i c n hc hn).1, (h3 i c n hc hn).2.1.fr hf, (h3 i c n hc hn).2.2⟩⟩, h4⟩
theorem NV.len {w : World} {s : Sl} {N : List Nd} (h : NV w s N) : s.l = N.length := by
 obtain ⟨⟨cs, h1, h2, _⟩, _⟩ := h
 rw [h1.len, h2]
def be : Bool -> List Value := fun b => [.bool b]
@[simp] theorem be_length (b : Bool) : (be b).length = 1 := rfl
def kidsB (W : List Int -> Int -> List Bool -> Bool × List Bool) (n : Int) (f : List Int) : List Int -> List Int -> List Bool -> Bool × List Bool
 | o :: os, k :: ks, seen => if k <= n then (false, seen) else
   if (W (f ++ [o]) k seen).1 then kidsB W n f os ks (W (f ++ [o]) k seen).2 else (false, (W (f ++ [o]) k seen).2)
 | _, _, seen => (true, seen)
def walkB (p : Pr) (N : List Nd) (T : List Int) : List Int -> List Int -> Int -> List Bool -> Bool × List Bool
 | ls, f, n, seen => match (if 0 <= n then N[n.toNat]? else none) with
  | none => (false, seen)
  | some x => if seen.getD n.toNat true then (false, seen) else
   if x.next = [] then (closedB p f x.num x.den T, seen.set n.toNat true) else
   match ls with
   | [] => (false, seen.set n.toNat true)
   | lot :: ls => if x.lot ≠ f.length \/ x.next.length ≠ (opts p lot).length then (false, seen.set n.toNat true)
    else kidsB (walkB p N T ls) n f (opts p lot) x.next (seen.set n.toNat true)
end Go.Proofs.YtfpobpjandjhjaaGreatDoor
namespace Pw
open Go
theorem Fr.any {F : Nat -> Prop} {w w' : World} (h : Fr F0 w w') : Fr F w w' := ⟨h.1, fun b hb _ => h.2.1 b hb fun h => h, h.2.2⟩
theorem Sp.mk'' {α : Type} {n : Nat} {enc : α -> List Value} {w0 w : World} {s : Sl} {l : List α} {L : List (Nat × List Value)} {B : Nat -> Prop} {Q : World -> Prop} (h : Sp w0 w L B Q n enc s l) : Mk w0 n enc w s l := ⟨h.m.1, h.ow, fun b hb => (h.os b hb).1⟩
theorem Fr.comp {F : Nat -> Prop} {w w' w2 : World} (h : Fr F w w') (h' : Fr F w' w2) : Fr F w w2 := h.trans h' fun _ hb _ => hb
end Pw
namespace Go.Proofs.YtfpobpjandjhjaaGreatDoor
open Go Pw
section
variable {w w' w0 : World} {s : Sl} {l : List Bool} {N : List Nd}
theorem be_ld {i : Int} {K : Bool -> Prop} (h : Vw 1 be w s l) (i' : Nat) (hi : i = (i' : Int)) (h1 : i' < l.length) (hK : K l[i']) :
  nz s.p fun a => (0 <= i /\ i < (s.l : Nat)) /\ ∃ x : Bool, w.cell? (a.add (i.toNat * 1)) = some (Value.bool x) /\ K x := by
 subst hi
 obtain ⟨ad, hp, hc⟩ := h.at be_length (List.getElem?_eq_getElem h1) (by decide)
 have hl := h.len
 rw [hp]
 exact ⟨⟨by omega, by omega⟩, _, hc 0 _ rfl, hK⟩
theorem be_st {i : Int} (h : Mk w0 1 be w s l) (i' : Nat) (hi : i = (i' : Int)) (h1 : i' < l.length) :
  ∃ ad, s.p = some ad /\ (0 <= i /\ i < (s.l : Nat)) /\ wrOk w (ad.add (i.toNat * 1)) /\ ∀ a, Mk w0 1 be (w.setCell (ad.add (i.toNat * 1)) (Value.bool a)) s (l.set i' a) /\ Fr (inB s) w (w.setCell (ad.add (i.toNat * 1)) (Value.bool a)) := by
 subst hi
 obtain ⟨hl, hown⟩ := h.ow
 obtain ⟨hlen, hnil | ⟨b, cs, hp, hrow, hcs, hle, ht⟩⟩ := hown
 ·omega
 ·refine ⟨_, hp, ⟨by omega, by omega⟩, ?_⟩
  simp only [add_mk, Nat.mul_one, Nat.zero_add, Int.toNat_natCast]
  rw [fm_length be_length] at ht hlen
  have hi : i' < cs.length := by omega
  refine ⟨hrow.wr hi, fun a => ?_⟩
  have hfr : Fr (inB s) w (w.setCell ⟨b, i', none⟩ (Value.bool a)) := Fr.set ⟨_, hp, rfl⟩
  refine ⟨⟨h.fr0.trans hfr fun c hc hlt => absurd (h.nw c hc) (by omega), ⟨by simp [hl], ?_, .inr ⟨b, _, hp, hrow.set i' (Value.bool a), by simp [hcs], hle, ?_⟩⟩, h.nw⟩, hfr⟩
  ·rw [fm_length be_length]; simp [hl]
  ·rw [fm_length be_length]
   simp only [List.length_set, Nat.mul_one] at ht ⊢
   rw [List.take_set, ht]
   exact map_set_fm (fun a => Value.bool a) l i' a
theorem NV.ld {i : Int} {K : Addr -> Prop} (h : NV w0 s N) (hf : Fr F0 w0 w) (i' : Nat) (hi : i = (i' : Int)) (h1 : i' < N.length)
  (hK : ∀ (a : Addr) (nx : Sl), VI w0 nx N[i'].next -> (w.cell? (a.add (i.toNat * 4)) = some (.int .i64 N[i'].lot) /\ w.cell? ((a.add (i.toNat * 4)).add 1) = some (.int .i64 N[i'].num) /\ w.cell? ((a.add (i.toNat * 4)).add 2) = some (.int .i64 N[i'].den) /\ w.cell? ((a.add (i.toNat * 4)).add 3) = some (.slice nx.p nx.l nx.c)) -> K a) :
  nz s.p fun a => (0 <= i /\ i < (s.l : Nat)) /\ K a := by
 subst hi
 have hl := h.len
 obtain ⟨⟨cs, hv, hcl, hn⟩, _⟩ := h
 have h2 : i' < cs.length := by omega
 obtain ⟨⟨e1, e2, e3⟩, hx, _⟩ := hn i' _ _ (List.getElem?_eq_getElem h2) (List.getElem?_eq_getElem h1)
 obtain ⟨ad, hp, hc⟩ := (hv.fr hf).at (fun a => encN_length a) (List.getElem?_eq_getElem h2) (by decide)
 rw [hp]
 refine ⟨⟨by omega, by omega⟩, hK _ cs[i'].nx hx ⟨?_, ?_, ?_, ?_⟩⟩
 ·rw [← e1]; exact hc 0 _ rfl
 ·rw [← e2]; exact hc 1 _ rfl
 ·rw [← e3]; exact hc 2 _ rfl
 ·exact hc 3 _ rfl
theorem NV.i64 (h : NV w s N) {x : Nd} (hx : x ∈ N) : I64 x.num /\ I64 x.den := by
 obtain ⟨⟨cs, hv, hcl, hn⟩, _⟩ := h
 obtain ⟨i, hi, rfl⟩ := List.mem_iff_getElem.1 hx
 obtain ⟨_, _, h2, h3⟩ := hn i _ _ (List.getElem?_eq_getElem (by omega)) (List.getElem?_eq_getElem hi)
 exact ⟨h2, h3⟩
theorem kidsB_len {W : List Int -> Int -> List Bool -> Bool × List Bool} {n : Int} {f : List Int} {c : Nat} (hW : ∀ g k seen, seen.length = c -> (W g k seen).2.length = c) : ∀ (os ks : List Int) (seen : List Bool), seen.length = c -> (kidsB W n f os ks seen).2.length = c
 | [], [], _, h => h
 | [], _ :: _, _, h => h
 | _ :: _, [], _, h => h
 | o :: os, k :: ks, seen, h => by
  unfold kidsB
  split
  ·exact h
  ·split
   ·exact kidsB_len hW os ks _ (hW _ _ _ h)
   ·exact hW _ _ _ h
theorem walkB_len {p : Pr} {T : List Int} {c : Nat} : ∀ (ls f : List Int) (n : Int) (seen : List Bool), seen.length = c -> (walkB p N T ls f n seen).2.length = c := by
 intro ls
 induction ls with
 | nil =>
  intro f n seen h
  unfold walkB
  split
  ·exact h
  ·split
   ·exact h
   ·split <;> simpa using h
 | cons lot ls ih =>
  intro f n seen h
  unfold walkB
  split
  ·exact h
  ·split
   ·exact h
   ·split
    ·simpa using h
    ·simp only
     split
     ·simpa using h
     ·exact kidsB_len ih _ _ _ (by simpa using h)
end
section
variable {w w' w0 : World} {s0 s1 s2 t5 ns : Sl} {p : Pr} {T : List Int} {N : List Nd} {pts bnd : Int}
abbrev rsC (t5 : Sl) (pts bnd : Int) (ns : Sl) : List Value := [.slice t5.p t5.l t5.c, .int .i64 pts, .int .i64 bnd, .slice ns.p ns.l ns.c]
def WalkOk (w0 : World) (s0 s1 s2 : Sl) (p : Pr) (t5 : Sl) (T : List Int) (pts bnd : Int) (ns : Sl) (N : List Nd) (ls : List Int) : Prop :=
 ∀ (ds f : List Int) (n : Int) (seen : List Bool) (w : World) (s5 sn : Sl) (K : Bool -> World -> Prop), Mk w0 1 be w sn seen -> seen.length = N.length -> p.lots = ds ++ ls -> f.length = ds.length -> Decs p p.lots f -> VI w s5 f -> (∀ b, inB s5 b -> ¬ inB sn b) ->
  (∀ w', Mk w0 1 be w' sn (walkB p N T ls f n seen).2 -> Fr (inB sn) w w' -> K (walkB p N T ls f n seen).1 w') -> z28_sh s0 s1 s2 p.most p.budget t5 pts bnd ns n s5 sn K w
theorem decs_snoc {p : Pr} : ∀ {ds ls f : List Int} {lot o : Int}, Decs p (ds ++ lot :: ls) f -> f.length = ds.length -> Dec p lot o -> Decs p (ds ++ lot :: ls) (f ++ [o])
 | [], ls, [], lot, o, _, _, ho => ⟨ho, by cases ls <;> trivial⟩
 | [], _, _ :: _, _, _, _, h, _ => by simp at h
 | _ :: _, _, [], _, _, _, h, _ => by simp at h
 | d :: ds, ls, x :: f, lot, o, h, hl, ho => ⟨h.1, decs_snoc h.2 (by simpa using hl) ho⟩
theorem walk_step (hp : RightPr p) (hP0 : PV w0 s0 s1 s2 p) (hT0 : VI w0 t5 T) (hfit : fitsB p T = true) (hN0 : NV w0 ns N) (ls : List Int)
  (hIH : ∀ lot ls', ls = lot :: ls' -> WalkOk w0 s0 s1 s2 p t5 T pts bnd ns N ls') : WalkOk w0 s0 s1 s2 p t5 T pts bnd ns N ls := by
 intro ds f n seen w s5 sn K hm hsl hlots hfl hd hv hdj hK
 have e0 := hP0.lots.len
 have e5 := hv.len
 have en := hN0.len
 have hNl := hN0.lt
 have hfew := hp.few
 have hTl : T.length < 2 ^ 63 := by have := fitsB_decs hfit; have := decs_len this; omega
 have hsb : ∀ {b}, inB sn b -> b < w.heap.size := fun hb => hm.ow.lt' hb
 have hend : ∀ {u : World} {r : Bool × List Bool}, walkB p N T ls f n seen = r -> Mk w0 1 be u sn r.2 -> Fr (inB sn) w u -> K r.1 u := fun {u r} e hu hf => by
  have := hK u (e ▸ hu) hf
  rwa [e] at this
 apply z28_mk
 unfold z28_sd
 intro w1
 have m : Mem w0 w1 _ := (Mem.nil.fr hm.fr0).allocL (cs := prC s0 s1 s2 p.most p.budget)
 have hf1 : Fr F0 w w1 := Fr.alloc
 clear_value w1
 intro w2
 have m : Mem w0 w2 [(w1.heap.size, rsC t5 pts bnd ns), (w.heap.size, prC s0 s1 s2 p.most p.budget)] := m.allocL (cs := rsC t5 pts bnd ns)
 have hf2 : Fr F0 w w2 := hf1.t Fr.alloc
 have hsz1 : w.heap.size <= w1.heap.size := hf1.1
 clear_value w2
 have hm2 := hm.fr hf2
 refine cnd_prop.2 ⟨fun hneg => hend (r := (false, seen)) ?_ hm2 hf2.any, fun hpos => ?_⟩
 ·unfold walkB
  rw [if_neg (by omega)]
 refine ⟨ns, m.ld 0 rfl rfl, cnd_prop.2 ⟨fun hge => hend (r := (false, seen)) ?_ hm2 hf2.any, fun hlt => ?_⟩⟩
 ·unfold walkB
  rw [if_pos (by omega), List.getElem?_eq_none (by omega)]
 obtain ⟨n, rfl⟩ := Int.eq_ofNat_of_zero_le (show 0 <= n by omega)
 have hnN : n < N.length := by omega
 have hns : n < seen.length := by omega
 have hw : walkB p N T ls f (n : Int) seen = if seen[n] then (false, seen) else
   if N[n].next = [] then (closedB p f N[n].num N[n].den T, seen.set n true) else
   match (generalizing := false) ls with
   | [] => (false, seen.set n true)
   | lot :: ls => if N[n].lot ≠ f.length \/ N[n].next.length ≠ (opts p lot).length then (false, seen.set n true)
    else kidsB (walkB p N T ls) n f (opts p lot) N[n].next (seen.set n true) := by
  have h0 : (0 : Int) <= (n : Int) := by omega
  rw [walkB.eq_def]
  simp only [h0, if_true, Int.toNat_natCast, List.getElem?_eq_getElem hnN, List.getD_eq_getElem?_getD, List.getElem?_eq_getElem hns, Option.getD_some]
 refine be_ld hm2.vw n rfl hns (cnd_iff.2 ⟨fun hs => hend (r := (false, seen)) ?_ hm2 hf2.any, fun hs => ?_⟩)
 ·rw [hw, if_pos hs]
 rw [hw, if_neg (by rw [hs]; decide)] at hend
 obtain ⟨ad, hsp, hb, hwr, hst⟩ := be_st hm2 n rfl hns
 refine nz_iff.2 ⟨ad, hsp, hb, hwr, ?_⟩
 intro w7
 obtain ⟨hm7, hf7⟩ : Mk w0 1 be w7 sn (seen.set n true) /\ Fr (inB sn) w2 w7 := hst true
 have hrows : ∀ q ∈ [(w1.heap.size, rsC t5 pts bnd ns), (w.heap.size, prC s0 s1 s2 p.most p.budget)], ¬ inB sn q.1 := fun q hq hb => by
  have := hsb hb
  simp only [List.mem_cons, List.not_mem_nil, or_false] at hq
  rcases hq with rfl | rfl <;> simp only at this <;> omega
 have m : Mem w0 w7 _ := m.frF hf7 hrows hm.nw
 have hF7 : Fr (inB sn) w w7 := (hf2.any).comp hf7
 have hv7 : VI w7 s5 f := (hv.fr hf2).frF hf7 hdj
 clear_value w7
 refine ⟨ns, m.ld 0 rfl rfl, hN0.ld hm7.fr0 n rfl hnN fun a nx hnx hc => ?_⟩
 obtain ⟨c0, c1, c2, c3⟩ := hc
 obtain ⟨i1, i2⟩ := hN0.i64 (List.getElem_mem hnN)
 have enx := hnx.len
 refine ⟨_, c0, _, c1, _, c2, nx, c3, ?_⟩
 have hF8 : Fr F0 w7 w7 := Fr.refl
 refine stN_new (w0 := w7) (l := []) rfl Mem.nil fun w15 m15 => ?_
 have m : Mem w0 w15 [(w7.heap.size, [.int .i64 N[n].lot, .int .i64 N[n].num, .int .i64 N[n].den, .slice nx.p nx.l nx.c]), (w1.heap.size, rsC t5 pts bnd ns), (w.heap.size, prC s0 s1 s2 p.most p.budget)] := by
  refine ⟨m.1.t m15.1, fun q hq => ?_, ?_, fun q hq => ?_⟩
  ·rcases List.mem_cons.1 hq with rfl | hq
   ·exact m15.row 0 rfl
   ·exact m15.1.row (m.2.1 q hq) fun h => h
  ·have := m.2.2.1
   simp only [List.map_cons, List.pairwise_cons] at this ⊢
   refine ⟨fun b hb => ?_, this⟩
   have h1 := (m.row 0 rfl).lt
   have h2 := (m.row 1 rfl).lt
   simp only [List.mem_cons, List.map_nil, List.not_mem_nil, or_false] at hb
   rcases hb with rfl | rfl <;> omega
  ·rcases List.mem_cons.1 hq with rfl | hq
   ·exact m.1.1
   ·exact m.2.2.2 q hq
 have hm15 := hm7.fr m15.1
 have hF15 : Fr (inB sn) w w15 := hF7.comp m15.1.any
 have hv15 := hv7.fr m15.1
 have hm0 := hP0
 have pf15 : ∀ {u}, Fr F0 w15 u -> PF u s0 s1 s2 s5 p f := fun hu => ⟨hP0.fr (m.1.t hu), hv15.fr hu, by have := decs_len hd; omega⟩
 refine ⟨nx, m.ld 0 rfl rfl, cnd_beq.2 ⟨fun hz => ?_, fun hnz => ?_⟩⟩
 ·have hz' : N[n].next = [] := List.length_eq_zero_iff.1 (by omega)
  refine ⟨s0, m.ld 2 rfl rfl, s1, m.ld 2 rfl rfl, s2, m.ld 2 rfl rfl, _, m.ld 2 rfl rfl, _, m.ld 2 rfl rfl, _, m.ld 0 rfl rfl, _, m.ld 0 rfl rfl, t5, m.ld 1 rfl rfl, ?_⟩
  exact closed_spec hp (pf15 Fr.refl) hd ⟨hP0.fr m.1, hT0.fr m.1, hTl⟩ hfit i1 i2 fun w25 hf => hend (r := (_, seen.set n true)) (if_pos hz') (hm15.fr hf) (hF15.comp hf.any)
 rw [if_neg (fun h => hnz (by rw [enx, h]; rfl))] at hend
 have hl2 : p.lots.length = ds.length + ls.length := by rw [hlots]; simp
 refine ⟨s0, m.ld 2 rfl rfl, cnd_prop.2 ⟨fun hge => ?_, fun hlt2 => ?_⟩⟩
 ·have hge : (s5.l : Int) >= (s0.l : Int) := hge
  have : ls = [] := List.length_eq_zero_iff.1 (by omega)
  subst this
  exact hend (r := (false, seen.set n true)) rfl hm15 hF15
 have hlt2 : ¬ (s5.l : Int) >= (s0.l : Int) := hlt2
 cases ls with
 | nil => simp at hl2; omega
 | cons lot ls =>
 have ih := hIH lot ls rfl
 simp only at hend
 refine ⟨_, m.ld 0 rfl rfl, cnd_bne.2 ⟨fun hne => hend (r := (false, seen.set n true)) (if_pos (.inl (by have hne : N[n].lot ≠ (s5.l : Int) := hne; omega))) hm15 hF15, fun hloteq => ?_⟩⟩
 have hloteq : N[n].lot = (s5.l : Int) := hloteq
 refine ⟨s0, m.ld 2 rfl rfl, s1, m.ld 2 rfl rfl, s2, m.ld 2 rfl rfl, _, m.ld 2 rfl rfl, _, m.ld 2 rfl rfl, ?_⟩
 refine refoptions_mk (k := s5.l) (hP0.fr m.1) (by omega) fun w34 sl hsl34 => ?_
 have hlot : p.lots[s5.l]'(by omega) = lot := by
  have : p.lots[s5.l]? = some lot := by rw [hlots, e5, hfl]; simp
  rw [List.getElem?_eq_getElem (by omega)] at this
  exact Option.some.inj this
 rw [hlot] at hsl34
 have hf34 := hsl34.fr0
 have m := m.fr hf34
 have hm34 := hm15.fr hf34
 have hF34 : Fr (inB sn) w w34 := hF15.comp hf34.any
 have hv34 := hv15.fr hf34
 have esl := hsl34.vw.len
 have hol := opts_len p lot
 have hchs := hp.chs
 have hslj : ∀ b, inB sl b -> ¬ inB sn b := fun b hb hb' => by have := hsl34.nw b hb; have := hsb hb'; have := hF15.1; omega
 refine ⟨nx, m.ld 0 rfl rfl, cnd_bne.2 ⟨fun hne => hend (r := (false, seen.set n true)) (if_pos (.inr (by omega))) hm34 hF34, fun hleneq => ?_⟩⟩
 rw [if_neg (by rintro (q | q) <;> omega)] at hend
 have hln : N[n].next.length = (opts p lot).length := by omega
 generalize hos : opts p lot = os at *
 generalize hks : N[n].next = ks at *
 have hx0 : w.heap.size <= w34.heap.size := hF34.1
 have hrows34 : ∀ q ∈ [(w7.heap.size, [Value.int .i64 N[n].lot, .int .i64 N[n].num, .int .i64 N[n].den, .slice nx.p nx.l nx.c]), (w1.heap.size, rsC t5 pts bnd ns), (w.heap.size, prC s0 s1 s2 p.most p.budget)], ¬ inB sn q.1 := fun q hq hb => by
  have := hsb hb
  have := hF7.1
  simp only [List.mem_cons, List.not_mem_nil, or_false] at hq
  rcases hq with rfl | rfl | rfl <;> simp only at this <;> omega
 have hS : ∀ {u}, Fr F0 w0 u -> Fr (inB sn) w34 u -> Rs u [(w7.heap.size, [.int .i64 N[n].lot, .int .i64 N[n].num, .int .i64 N[n].den, .slice nx.p nx.l nx.c]), (w1.heap.size, rsC t5 pts bnd ns), (w.heap.size, prC s0 s1 s2 p.most p.budget)] /\ VI u sl os /\ VI u nx ks :=
  fun {u} h0 hu => ⟨fun q hq => hu.row (m.2.1 q hq) (hrows34 q hq), hsl34.vw.frF hu hslj, hnx.fr h0⟩
 refine ⟨⟨fun i u => ∃ (i' : Nat) (sq : List Bool), i = i' /\ i' <= os.length /\ sq.length = N.length /\ Mk w0 1 be u sn sq /\ Fr (inB sn) w34 u /\ kidsB (walkB p N T ls) n f (os.drop i') (ks.drop i') sq = kidsB (walkB p N T ls) n f os ks (seen.set n true), fun i _ => os.length - i.toNat,
  ⟨0, seen.set n true, rfl, by omega, by simp [hsl], hm34, Fr.refl, rfl⟩, ?_⟩⟩
 rintro i u1 ⟨i, sq, rfl, hi, hsq, hmq, hFq, he⟩
 unfold z28_b0
 refine cnd_prop.2 ⟨fun hlt3 => ?_, fun hge3 => ?_⟩
 ·have hio : i < os.length := by omega
  have hik : i < ks.length := by omega
  rw [List.drop_eq_getElem_cons hio, List.drop_eq_getElem_cons hik, kidsB] at he
  intro w37
  have hm37 : Mk w0 1 be w37 sn sq := hmq.fr Fr.drew
  have hF37 : Fr (inB sn) w34 w37 := hFq.comp Fr.drew
  clear_value w37
  refine ⟨fun u => Rs u [(w7.heap.size, [.int .i64 N[n].lot, .int .i64 N[n].num, .int .i64 N[n].den, .slice nx.p nx.l nx.c]), (w1.heap.size, rsC t5 pts bnd ns), (w.heap.size, prC s0 s1 s2 p.most p.budget)] /\ VI u sl os /\ VI u nx ks, hS hm37.fr0 hF37, nx, fun u hu => hu.1.ld 0 rfl rfl, ?_⟩
  obtain ⟨ka, hkp, _⟩ := (hS hm37.fr0 hF37).2.2.at (fun a => ie_length _ _ a) (List.getElem?_eq_getElem hik) (by decide)
  obtain ⟨oa, hop, _⟩ := (hS hm37.fr0 hF37).2.1.at (fun a => ie_length _ _ a) (List.getElem?_eq_getElem hio) (by decide)
  have hkc : ∀ u, VI u nx ks -> u.cell? (ka.add ((i : Int).toNat * 1)) = some (.int .i64 ks[i]) := fun u hu => by
   obtain ⟨ad', hp'', hc⟩ := hu.at (fun a => ie_length _ _ a) (List.getElem?_eq_getElem hik) (by decide)
   rw [hkp] at hp''
   cases hp''
   exact hc 0 _ rfl
  have hoc : ∀ u, VI u sl os -> u.cell? (oa.add ((i : Int).toNat * 1)) = some (.int .i64 os[i]) := fun u hu => by
   obtain ⟨ad', hp'', hc⟩ := hu.at (fun a => ie_length _ _ a) (List.getElem?_eq_getElem hio) (by decide)
   rw [hop] at hp''
   cases hp''
   exact hc 0 _ rfl
  refine nz_iff.2 ⟨ka, hkp, ⟨by omega, by omega⟩, ks[i], fun u hu => hkc u hu.2.2, cnd_prop.2 ⟨fun hle => ?_, fun hgt => ?_⟩⟩
  ·rw [if_pos hle] at he
   exact hend (r := (false, sq)) he.symm hm37 (hF34.comp hF37)
  rw [if_neg hgt] at he
  refine ⟨s0, fun u hu => hu.1.ld 2 rfl rfl, s1, fun u hu => hu.1.ld 2 rfl rfl, s2, fun u hu => hu.1.ld 2 rfl rfl, _, fun u hu => hu.1.ld 2 rfl rfl, _, fun u hu => hu.1.ld 2 rfl rfl, t5, fun u hu => hu.1.ld 1 rfl rfl, _, fun u hu => hu.1.ld 1 rfl rfl, _, fun u hu => hu.1.ld 1 rfl rfl, ns, fun u hu => hu.1.ld 1 rfl rfl, nx, fun u hu => hu.1.ld 0 rfl rfl, ?_⟩
  have hdo : Dec p lot os[i] := opts_mem.1 (by rw [hos]; exact List.getElem_mem hio)
  have hv37 : VI w37 s5 f := hv34.frF hF37 hdj
  have hal : ∀ {u}, Fr F0 w37 u -> Rs u _ /\ VI u sl os /\ VI u nx ks := fun hu => hS (hm37.fr0.t hu) (hF37.comp hu.any)
  have hsb37 : ∀ {b}, inB sn b -> b < w37.heap.size := fun hb => hm37.ow.lt' hb
  have hrec : ∀ {u : World} {r : Sl} {K' : Bool -> World -> Prop}, Mk w37 1 (ie .i64 (id : Int -> Int)) u r (f ++ [os[i]]) -> (∀ w' b, (Rs w' [(w7.heap.size, [.int .i64 N[n].lot, .int .i64 N[n].num, .int .i64 N[n].den, .slice nx.p nx.l nx.c]), (w1.heap.size, rsC t5 pts bnd ns), (w.heap.size, prC s0 s1 s2 p.most p.budget)] /\ VI w' sl os /\ VI w' nx ks) -> Mk w0 1 be w' sn (walkB p N T ls (f ++ [os[i]]) ks[i] sq).2 -> Fr (inB sn) w34 w' -> b = (walkB p N T ls (f ++ [os[i]]) ks[i] sq).1 -> K' b w') -> z28_sh s0 s1 s2 p.most p.budget t5 pts bnd ns ks[i] r sn K' u := fun {u r K'} hr hk =>
   ih (ds ++ [lot]) (f ++ [os[i]]) ks[i] sq u r sn K' (hm37.fr hr.fr0) hsq (by rw [hlots]; simp) (by simp [hfl]) (by rw [hlots]; exact decs_snoc (hlots ▸ hd) hfl hdo) hr.vw (fun b hb hb' => by have := hr.nw b hb; have := hsb37 hb'; omega) fun w' hm' hf' =>
    hk w' _ (hS hm'.fr0 ((hF37.comp hr.fr0.any).comp hf')) hm' ((hF37.comp hr.fr0.any).comp hf') rfl
  have hfin : ∀ {w' : World} {b : Bool}, Mk w0 1 be w' sn (walkB p N T ls (f ++ [os[i]]) ks[i] sq).2 -> Fr (inB sn) w34 w' -> b = (walkB p N T ls (f ++ [os[i]]) ks[i] sq).1 -> ((!b) = true -> K false w') /\ ((!b) = false -> inR .i64 ((i : Int) + 1) /\ (((n : Int) = n /\ s5 = s5 /\ sn = sn /\ (⟨w.heap.size, 0, none⟩ : Addr) = ⟨w.heap.size, 0, none⟩ /\ (⟨w1.heap.size, 0, none⟩ : Addr) = ⟨w1.heap.size, 0, none⟩ /\ (⟨w7.heap.size, 0, none⟩ : Addr) = ⟨w7.heap.size, 0, none⟩ /\ sl = sl /\ True) /\
    ∃ (i' : Nat) (sq : List Bool), (i : Int) + 1 = i' /\ i' <= os.length /\ sq.length = N.length /\ Mk w0 1 be w' sn sq /\ Fr (inB sn) w34 w' /\ kidsB (walkB p N T ls) n f (os.drop i') (ks.drop i') sq = kidsB (walkB p N T ls) n f os ks (seen.set n true)) /\ os.length - ((i : Int) + 1).toNat < os.length - (i : Int).toNat) := fun {w' b} hm' hF' hb => by
   refine ⟨fun hnb => ?_, fun hyb => ⟨inR64 (by omega) (by omega), ⟨⟨rfl, rfl, rfl, rfl, rfl, rfl, rfl, trivial⟩, i + 1, _, by omega, by omega, walkB_len _ _ _ _ hsq, hm', hF', ?_⟩, by omega⟩⟩
   ·rw [if_neg (by rw [← hb]; cases b; decide; cases hnb)] at he
    exact hend (r := (false, _)) he.symm hm' (hF34.comp hF')
   ·rw [if_pos (by rw [← hb]; cases b; cases hyb; rfl)] at he
    exact he
  refine nz_iff.2 ⟨ka, hkp, ⟨by omega, by omega⟩, ks[i], fun u hu => hkc u hu.2.2, nz_iff.2 ⟨oa, hop, ⟨by omega, by omega⟩, os[i], fun u hu => hoc u hu.2.1, ?_, ?_⟩⟩
  ·intro w56
   have h : Sp w37 w56 [] _ _ _ _ _ _ := Sp.empty (α := Int) (n := 1) (enc := ie .i64 (id : Int -> Int)) (fun a => ie_length _ _ a) Mem.nil
   clear_value w56
   refine ⟨hal h.m.1, ?_, ?_⟩
   ·refine h.app (hv37.fr h.m.1) (ie_ok _ _) rfl (by simp; omega) (by simp; omega) fun s30 w31 h => ⟨hal h.m.1, ?_⟩
    rw [List.nil_append] at h
    intro w32
    refine ⟨hal (h.fr (Fr.alloc : Fr F0 w31 w32)).m.1, h.push (a := os[i]) rfl rfl (ie_ok _ _) rfl (by omega) (by omega) fun s33 w34' h => ⟨hal h.m.1, hrec h.mk'' fun w' b hs hm' hF' hb => ⟨hs, ?_⟩⟩⟩
    obtain ⟨g1, g2⟩ := hfin hm' hF' hb
    exact cnd_iff.2 ⟨g1, g2⟩
   ·intro w37'
    have h : Sp w37 w37' _ _ _ _ _ _ _ := h.allocL (vs := ([os[i]] : List Int).map (Value.int .i64))
    clear_value w37'
    refine ⟨hal h.m.1, h.app (hv37.fr h.m.1) (ie_ok _ _) rfl (by simp; omega) (by simp; omega) fun s38 w39 h => ⟨hal h.m.1, ?_⟩⟩
    rw [List.nil_append] at h
    refine h.app (m := [os[i]]) (Ow.row (l := [os[i]]) (h.row 0 rfl)).vw (ie_ok _ _) rfl (by simp; omega) (by simp; omega) fun s40 w41 h => ⟨hal h.m.1, hrec h.mk'' fun w' b hs hm' hF' hb => ⟨hs, ?_⟩⟩
    obtain ⟨g1, g2⟩ := hfin hm' hF' hb
    exact cnd_iff.2 ⟨g1, g2⟩
  ·intro w44
   have m : Mem w37 w44 _ := Mem.nil.allocL (cs := ([os[i]] : List Int).map (Value.int .i64))
   clear_value w44
   refine ⟨hal m.1, ?_⟩
   intro w45
   have h : Sp w37 w45 _ _ _ _ _ _ _ := Sp.empty (α := Int) (n := 1) (enc := ie .i64 (id : Int -> Int)) (fun a => ie_length _ _ a) m
   clear_value w45
   refine ⟨hal h.m.1, h.app (hv37.fr h.m.1) (ie_ok _ _) rfl (by simp; omega) (by simp; omega) fun s46 w47 h => ⟨hal h.m.1, ?_⟩⟩
   rw [List.nil_append] at h
   refine h.app (m := [os[i]]) (Ow.row (l := [os[i]]) (h.row 0 rfl)).vw (ie_ok _ _) rfl (by simp; omega) (by simp; omega) fun s48 w49 h => ⟨hal h.m.1, hrec h.mk'' fun w' b hs hm' hF' hb => ⟨hs, ?_⟩⟩
   obtain ⟨g1, g2⟩ := hfin hm' hF' hb
   exact cnd_iff.2 ⟨g1, g2⟩
 ·have : i = os.length := by omega
  subst this
  rw [List.drop_length, kidsB.eq_def] at he
  simp only at he
  exact hend (r := (true, sq)) he.symm hmq (hF34.comp hFq)
end
end Go.Proofs.YtfpobpjandjhjaaGreatDoor
namespace Go.Proofs.YtfpobpjandjhjaaGreatDoor
open Go Pw
def proofB (p : Pr) (N : List Nd) (T : List Int) : Bool := (rightB p && permB p T) && ((walkB p N T p.lots [] 0 (List.replicate N.length false)).1 && (walkB p N T p.lots [] 0 (List.replicate N.length false)).2.all id)
section
variable {w wB w0 : World} {s0 s1 s2 t5 ns : Sl} {p : Pr} {T : List Int} {N : List Nd} {pts bnd : Int}
theorem walk_ok (hp : RightPr p) (hP0 : PV w0 s0 s1 s2 p) (hT0 : VI w0 t5 T) (hfit : fitsB p T = true) (hN0 : NV w0 ns N) : ∀ ls, WalkOk w0 s0 s1 s2 p t5 T pts bnd ns N ls := by
 intro ls
 induction ls with
 | nil => exact walk_step hp hP0 hT0 hfit hN0 [] fun lot ls' h => by cases h
 | cons lot ls ih =>
  refine walk_step hp hP0 hT0 hfit hN0 _ fun lot' ls' h => ?_
  cases h
  exact ih
theorem Proof_spec {K : Bool -> World -> Prop} (hP : PV w s0 s1 s2 p) (hT : VI w t5 T) (hTl : T.length < 2 ^ 63) (hN : NV w ns N) (hK : ∀ w', Fr F0 w w' -> K (proofB p N T) w') : z1r_sh s0 s1 s2 p.most p.budget t5 pts bnd ns K w := by
 have en := hN.len
 have hNl := hN.lt
 refine ⟨?_⟩
 unfold z1r_sd
 intro w1
 have m : Mem w w1 _ := Mem.nil.allocL (cs := prC s0 s1 s2 p.most p.budget)
 clear_value w1
 intro w2
 have m : Mem w w2 [(w1.heap.size, rsC t5 pts bnd ns), (w.heap.size, prC s0 s1 s2 p.most p.budget)] := m.allocL (cs := rsC t5 pts bnd ns)
 clear_value w2
 refine ⟨s0, m.ld 1 rfl rfl, s1, m.ld 1 rfl rfl, s2, m.ld 1 rfl rfl, _, m.ld 1 rfl rfl, _, m.ld 1 rfl rfl, t5, m.ld 0 rfl rfl, ?_⟩
 refine refPermitted_spec ⟨hP.fr m.1, hT.fr m.1, hTl⟩ fun w9 hf => ?_
 have m := m.fr hf
 have hb9 : Fr F0 w w9 := m.1
 refine ⟨ns, m.ld 0 rfl rfl, Mk.make (w0 := w9) (enc := be) (z := false) Fr.refl rfl rfl (by omega) (by omega) (by omega) fun sn w13 hmk hf13 => ?_⟩
 rw [show ((ns.l : Int)).toNat = N.length by omega] at hmk
 have m := m.fr hf13
 have hw9 : Fr F0 w w13 := m.1
 unfold proofB at hK
 refine cnd_iff.2 ⟨fun hn => ?_, fun hy => ?_⟩
 ·have e : (rightB p && permB p T) = false := by cases hq : (rightB p && permB p T) <;> simp_all
  have hk := hK w13 hw9
  rw [e, Bool.false_and] at hk
  exact hk
 have e : (rightB p && permB p T) = true := by cases hq : (rightB p && permB p T) <;> simp_all
 obtain ⟨er, ep⟩ := Bool.and_eq_true_iff.1 e
 have hp := rightB_iff.1 er
 rw [e, Bool.true_and] at hK
 refine ⟨s0, m.ld 1 rfl rfl, s1, m.ld 1 rfl rfl, s2, m.ld 1 rfl rfl, _, m.ld 1 rfl rfl, _, m.ld 1 rfl rfl, t5, m.ld 0 rfl rfl, _, m.ld 0 rfl rfl, _, m.ld 0 rfl rfl, ns, m.ld 0 rfl rfl, ?_⟩
 refine walk_ok (w0 := w9) hp (hP.fr hb9) (hT.fr hb9) (perm_fits ep) (hN.fr hb9) p.lots [] [] 0 _ w13 ⟨none, 0, 0⟩ sn _ hmk (by simp) rfl rfl (by cases p.lots <;> trivial) Vw.nil (fun b ⟨a, ha, _⟩ => by cases ha) fun w23 hm23 hF => ?_
 have hf23 : Fr F0 w w23 := hb9.t hm23.fr0
 refine cnd_iff.2 ⟨fun hn => ?_, fun hy => ?_⟩
 ·have hk := hK w23 hf23
  rw [show (walkB p N T p.lots [] 0 (List.replicate N.length false)).1 = false by simpa using hn, Bool.false_and] at hk
  exact hk
 rw [show (walkB p N T p.lots [] 0 (List.replicate N.length false)).1 = true by simpa using hy, Bool.true_and] at hK
 have hlen := walkB_len (N := N) (p := p) (T := T) p.lots [] 0 (List.replicate N.length false) (by simp : _ = N.length)
 generalize (walkB p N T p.lots [] 0 (List.replicate N.length false)).2 = sq at *
 have esn := hm23.vw.len
 refine ⟨⟨fun i u => ∃ i' : Nat, i = i' /\ i' <= sq.length /\ Fr F0 w23 u /\ (sq.take i').all id = true, fun i _ => sq.length - i.toNat, ⟨0, rfl, by omega, Fr.refl, rfl⟩, ?_⟩⟩
 rintro i u ⟨i, rfl, hi, hfu, hall⟩
 unfold z1r_b0
 refine cnd_prop.2 ⟨fun hlt => ?_, fun hge => ?_⟩
 ·have hil : i < sq.length := by omega
  refine be_ld (hm23.vw.fr hfu) i rfl hil (cnd_iff.2 ⟨fun hn => ?_, fun hy => ⟨inR64 (by omega) (by omega), ⟨⟨rfl, trivial⟩, i + 1, by omega, by omega, hfu, ?_⟩, by dsimp only; omega⟩⟩)
  ·have hk := hK u (hf23.t hfu)
   have e : sq.all id = false := by
    rw [List.all_eq_false]
    exact ⟨sq[i], List.getElem_mem hil, by simpa using hn⟩
   rw [e] at hk
   exact hk
  ·rw [take_succ' hil, List.all_append, hall]
   simpa using hy
 ·have : i = sq.length := by omega
  subst this
  rw [List.take_length] at hall
  have hk := hK u (hf23.t hfu)
  rw [hall] at hk
  exact hk
end
end Go.Proofs.YtfpobpjandjhjaaGreatDoor

