/- The reference's bound of a prefix. Conditions: none. -/
import Derived.Test.YtfpobpjandjhjaaGreatDoorCG5
import Derived.Test.YtfpobpjandjhjaaGreatDoorCF1
import Derived.Test.YtfpobpjandjhjaaGreatDoorRZX
import Derived.Test.YtfpobpjandjhjaaGreatDoorCDY
namespace Go.Proofs.YtfpobpjandjhjaaGreatDoor
open Go Pw
theorem mulQ_one {n d : Int} (h : rightP n d) (hn : I64 n) (hd : I64 d) : mulQ 1 1 n d = ⟨n, d, true⟩ := by
 unfold mulQ
 rw [if_pos ⟨rightP_int 1, h⟩, val_int, show ((1 : Int) : Rat) * val n d = val n d by grind]
 unfold fitQ
 have e1 := val_num h
 have e2 := val_den h
 unfold I64 at hn hd
 rw [if_pos (by omega), e1, e2]
def upR (p : Pr) (f : List Int) (a b : Int) : Int × Bool := match (if rightB p && decsB p p.lots f then upB p f a b else none) with
 | some n => (n, true)
 | none => (0, false)
section
variable {w w' w0 : World} {s0 s1 s2 s5 : Sl} {p : Pr} {f : List Int} {bb sb db pb cb xb mb : Nat} {s st x : RR} {dn dd : Int} {c : Ch}
theorem refadd_spec {n d a b a' b' : Int} {K : Int -> Int -> Bool -> World -> Prop} (hn : I64 n) (hd : I64 d) (ha : I64 a) (hb : I64 b) (ha' : I64 a') (hb' : I64 b')
  (hK : ∀ w', Fr F0 w w' -> K (mulAdd ⟨n, d, true⟩ (a, b) (a', b')).n (mulAdd ⟨n, d, true⟩ (a, b) (a', b')).d (mulAdd ⟨n, d, true⟩ (a, b) (a', b')).ok w') : z2l_sh n d a b a' b' K w := by
 have hm := mulQ_I64 a b a' b'
 have hfin : ∀ {ok : Bool} (w' : World), Fr F0 w w' -> ok = (mulAdd ⟨n, d, true⟩ (a, b) (a', b')).ok -> K (mulAdd ⟨n, d, true⟩ (a, b) (a', b')).n (mulAdd ⟨n, d, true⟩ (a, b) (a', b')).d ok w' := fun w' hf e => e ▸ hK w' hf
 have m : Mem w w [] := Mem.nil
 refine ⟨?_⟩
 unfold z2l_sd
 intro w1; have m : Mem w w1 _ := m.allocL; clear_value w1
 intro w2; have m : Mem w w2 _ := m.allocL; clear_value w2
 intro w3; have m : Mem w w3 _ := m.allocL; clear_value w3
 intro w4; have m : Mem w w4 _ := m.allocL; clear_value w4
 refine ⟨_, m.ld 2 rfl rfl, ?_⟩
 refine ⟨_, m.ld 2 rfl rfl, ?_⟩
 refine ⟨_, m.ld 1 rfl rfl, ?_⟩
 refine ⟨_, m.ld 1 rfl rfl, ?_⟩
 refine rMul_spec ha hb ha' hb' fun w9 hf => ?_; have m := m.fr hf
 intro w12; have m : Mem w w12 _ := m.allocL; clear_value w12
 refine ⟨m.wr 0 rfl rfl, ?_⟩
 intro w13; have m : Mem w w13 _ := m.set 0 rfl; clear_value w13; simp only [List.set_cons_zero] at m
 refine ⟨m.wr 0 rfl rfl, ?_⟩
 intro w14; have m : Mem w w14 _ := m.set 0 rfl; clear_value w14; simp only [List.set_cons_zero, List.set_cons_succ] at m
 refine ⟨_, m.ld 4 rfl rfl, ?_⟩
 refine ⟨_, m.ld 4 rfl rfl, ?_⟩
 refine ⟨_, m.ld 0 rfl rfl, ?_⟩
 refine ⟨_, m.ld 0 rfl rfl, ?_⟩
 refine rAdd_spec hn hd hm.1 hm.2 fun w19 hf => ?_; have m := m.fr hf
 intro w22; have m : Mem w w22 _ := m.allocL; clear_value w22
 refine ⟨m.wr 0 rfl rfl, ?_⟩
 intro w23; have m : Mem w w23 _ := m.set 0 rfl; clear_value w23; simp only [List.set_cons_zero] at m
 refine ⟨m.wr 0 rfl rfl, ?_⟩
 intro w24; have m : Mem w w24 _ := m.set 0 rfl; clear_value w24; simp only [List.set_cons_zero, List.set_cons_succ] at m
 refine ⟨_, m.ld 0 rfl rfl, ?_⟩
 refine ⟨_, m.ld 0 rfl rfl, ?_⟩
 refine cnd_iff.2 ⟨fun hc1 => ?_, fun hc1 => ?_⟩
 ·refine ⟨m.wr 2 rfl rfl, ?_⟩
  intro w27; have m : Mem w w27 _ := m.set 2 rfl; clear_value w27; simp only [List.set_cons_zero, List.set_cons_succ] at m
  refine ⟨m.wr 2 rfl rfl, ?_⟩
  intro w28; have m : Mem w w28 _ := m.set 2 rfl; clear_value w28; simp only [List.set_cons_zero, List.set_cons_succ] at m
  refine ⟨_, m.ld 2 rfl rfl, ?_⟩
  refine ⟨_, m.ld 2 rfl rfl, ?_⟩
  exact hfin _ m.1 (by simp [mulAdd, hc1])
 ·refine ⟨m.wr 2 rfl rfl, ?_⟩
  intro w29; have m : Mem w w29 _ := m.set 2 rfl; clear_value w29; simp only [List.set_cons_zero, List.set_cons_succ] at m
  refine ⟨m.wr 2 rfl rfl, ?_⟩
  intro w30; have m : Mem w w30 _ := m.set 2 rfl; clear_value w30; simp only [List.set_cons_zero, List.set_cons_succ] at m
  refine ⟨_, m.ld 2 rfl rfl, ?_⟩
  refine ⟨_, m.ld 2 rfl rfl, ?_⟩
  exact hfin _ m.1 (by simp [mulAdd, hc1])
abbrev UL (sb db pb : Nat) (s : RR) (dn dd : Int) (C : List Value) : List (Nat × List Value) := [(sb, rrC s.n s.d), (db, rrC dn dd), (pb, C)]
theorem Upper_k6 {C : List Value} {ok : Bool} {i k : Nat} {N2 : Sl -> Addr -> Addr -> Addr -> Bool -> Int -> Addr -> Int -> World -> Prop} {N1 : Sl -> Addr -> Addr -> Addr -> Bool -> Int -> World -> Prop} {K : Int -> Bool -> World -> Prop}
  (m : Mem w0 w ((xb, rrC x.n x.d) :: (cb, encC c) :: (bb, rrC st.n st.d) :: UL sb db pb s dn dd C)) (hk : k < 2 ^ 40)
  (hN : ∀ w', Mem w0 w' ((bb, rrC x.n x.d) :: UL sb db pb s dn dd C) -> N2 s5 ⟨pb, 0, none⟩ ⟨db, 0, none⟩ ⟨sb, 0, none⟩ ok i ⟨bb, 0, none⟩ ((k : Int) + 1) w') :
  z1r_k6 s5 ⟨pb, 0, none⟩ ⟨db, 0, none⟩ ⟨sb, 0, none⟩ ok i ⟨bb, 0, none⟩ k ⟨xb, 0, none⟩ N2 N1 K w := by
 refine ⟨?_⟩
 unfold z1r_k6d
 refine ⟨_, m.ld 0 rfl rfl, _, m.ld 0 rfl rfl, m.wr 2 rfl rfl, ?_⟩
 intro w1; have m : Mem w0 w1 _ := m.set 2 rfl; clear_value w1; simp only [List.set_cons_zero, List.set_cons_succ] at m
 refine ⟨m.wr 2 rfl rfl, ?_⟩
 intro w2; have m : Mem w0 w2 _ := m.set 2 rfl; clear_value w2; simp only [List.set_cons_zero, List.set_cons_succ] at m
 exact ⟨inR64 (by omega) (by omega), hN w2 (m.dr 2 rfl)⟩
theorem Upper_k5 {C : List Value} {i k : Nat} {N2 : Sl -> Addr -> Addr -> Addr -> Bool -> Int -> Addr -> Int -> World -> Prop} {N1 : Sl -> Addr -> Addr -> Addr -> Bool -> Int -> World -> Prop} {K : Int -> Bool -> World -> Prop}
  (m : Mem w0 w ((xb, rrC x.n x.d) :: (cb, encC c) :: (bb, rrC st.n st.d) :: UL sb db pb s dn dd C)) (hk : k < 2 ^ 40) (el : s5.l = f.length) (hx : I64 x.n /\ I64 x.d) (hst : I64 st.n /\ I64 st.d)
  (hN : ∀ w' (st' : RR), st' = (if i < f.length \/ 0 < cmpQ x.n x.d st.n st.d then x else ⟨st.n, st.d, x.ok⟩) -> Mem w0 w' ((bb, rrC st'.n st'.d) :: UL sb db pb s dn dd C) -> N2 s5 ⟨pb, 0, none⟩ ⟨db, 0, none⟩ ⟨sb, 0, none⟩ st'.ok i ⟨bb, 0, none⟩ ((k : Int) + 1) w') :
  z1r_k5 s5 ⟨pb, 0, none⟩ ⟨db, 0, none⟩ ⟨sb, 0, none⟩ x.ok i ⟨bb, 0, none⟩ k ⟨xb, 0, none⟩ N2 N1 K w := by
 refine ⟨?_⟩
 unfold z1r_k5d
 refine cnd_prop.2 ⟨fun h => Upper_k6 m hk fun w' m' => hN w' x (if_pos (.inl (by omega))).symm m', fun h => ?_⟩
 refine ⟨_, m.ld 0 rfl rfl, _, m.ld 0 rfl rfl, _, m.ld 2 rfl rfl, _, m.ld 2 rfl rfl, rCmp_spec hx.1 hx.2 hst.1 hst.2 fun w1 hf => ?_⟩
 have m := m.fr hf
 refine cnd_prop.2 ⟨fun hc => Upper_k6 m hk fun w' m' => hN w' x (if_pos (.inr hc)).symm m', fun hc => ⟨inR64 (by omega) (by omega), hN w1 ⟨st.n, st.d, x.ok⟩ (if_neg ?_).symm (m.dr 2 rfl)⟩⟩
 rintro (q | q)
 ·omega
 ·exact hc q
theorem Upper_k3 {i k : Nat} {N2 : Sl -> Addr -> Addr -> Addr -> Bool -> Int -> Addr -> Int -> World -> Prop} {N1 : Sl -> Addr -> Addr -> Addr -> Bool -> Int -> World -> Prop} {K : Int -> Bool -> World -> Prop}
  (hp : RightPr p) (hc : c ∈ p.ch) (hdn : I64 dn) (hdd : I64 dd) (hst : I64 st.n /\ I64 st.d) (el : s5.l = f.length) (hk : k < 2 ^ 40)
  (m : Mem w0 w ((cb, encC c) :: (bb, rrC st.n st.d) :: UL sb db pb s dn dd (prC s0 s1 s2 p.most p.budget))) (hx : x = mulAdd ⟨netOf p c, 1, st.ok⟩ (dn, dd) (-c.price, 1))
  (hN : ∀ w' (st' : RR), st' = (if i < f.length \/ 0 < cmpQ x.n x.d st.n st.d then x else ⟨st.n, st.d, x.ok⟩) -> Mem w0 w' ((bb, rrC st'.n st'.d) :: UL sb db pb s dn dd (prC s0 s1 s2 p.most p.budget)) -> N2 s5 ⟨pb, 0, none⟩ ⟨db, 0, none⟩ ⟨sb, 0, none⟩ st'.ok i ⟨bb, 0, none⟩ ((k : Int) + 1) w') :
  z1r_k3 s5 ⟨pb, 0, none⟩ ⟨db, 0, none⟩ ⟨sb, 0, none⟩ st.ok i ⟨bb, 0, none⟩ k ⟨cb, 0, none⟩ N2 N1 K w := by
 refine ⟨?_⟩
 unfold z1r_k3d
 have hb := net_bound hp hc
 have hprW := (hp.ch c hc).2.1
 have hbu := hp.budget
 have ⟨b1, b2⟩ : 0 <= p.budget /\ p.budget <= 1000000000 := hbu
 have ⟨p1, p2⟩ : 0 <= c.price /\ c.price <= 1000000000 := hprW
 have hnet : I64 (c.pts * (p.budget + 1) - c.price) := ⟨by omega, by omega⟩
 have hpr : I64 (-c.price) := ⟨by omega, by omega⟩
 have hone : I64 1 := ⟨by decide, by decide⟩
 have hxi : I64 x.n /\ I64 x.d := hx ▸ mulAdd_I64 _ _ _
 have fin : ∀ {w' xb}, Mem w0 w' ((xb, [.int .i64 (mulAdd ⟨c.pts * (p.budget + 1) - c.price, 1, true⟩ (dn, dd) (-c.price, 1)).n, .int .i64 (mulAdd ⟨c.pts * (p.budget + 1) - c.price, 1, true⟩ (dn, dd) (-c.price, 1)).d]) :: (cb, encC c) :: (bb, rrC st.n st.d) :: UL sb db pb s dn dd (prC s0 s1 s2 p.most p.budget)) ->
   z1r_k4 s5 ⟨pb, 0, none⟩ ⟨db, 0, none⟩ ⟨sb, 0, none⟩ st.ok i ⟨bb, 0, none⟩ k ⟨xb, 0, none⟩ (mulAdd ⟨c.pts * (p.budget + 1) - c.price, 1, true⟩ (dn, dd) (-c.price, 1)).ok N2 N1 K w' := by
  intro w' xb m'
  have e1 : (mulAdd ⟨c.pts * (p.budget + 1) - c.price, 1, true⟩ (dn, dd) (-c.price, 1)).n = x.n := by rw [hx]; rfl
  have e2 : (mulAdd ⟨c.pts * (p.budget + 1) - c.price, 1, true⟩ (dn, dd) (-c.price, 1)).d = x.d := by rw [hx]; rfl
  have e3 : x.ok = (st.ok && (mulAdd ⟨c.pts * (p.budget + 1) - c.price, 1, true⟩ (dn, dd) (-c.price, 1)).ok) := by rw [hx]; simp [mulAdd, netOf]
  rw [e1, e2] at m'
  refine ⟨?_⟩
  unfold z1r_k4d
  have h5 := Upper_k5 (N1 := N1) (K := K) m' hk el hxi hst hN
  rw [e3] at h5
  refine cnd_iff.2 ⟨fun hc => ?_, fun hc => ?_⟩
  ·rw [hc, Bool.true_and] at h5; exact h5
  ·rw [hc, Bool.false_and] at h5; exact h5
 intro w83; have m : Mem w0 w83 _ := m.drew; clear_value w83
 refine ⟨fun u => Rs u _, m.sub 0 rfl, ?_⟩
 refine ⟨_, fun _ h => h.ld 0 rfl rfl, ?_⟩
 refine ⟨_, fun _ h => h.ld 4 rfl rfl, ?_⟩
 refine ⟨inR64 (by omega) (by omega), ?_⟩
 refine ⟨inR64 (by omega) (by omega), ?_⟩
 refine ⟨_, fun _ h => h.ld 0 rfl rfl, ?_⟩
 refine ⟨inR64 (by omega) (by omega), ?_⟩
 refine ⟨_, fun _ h => h.ld 3 rfl rfl, ?_⟩
 refine ⟨_, fun _ h => h.ld 3 rfl rfl, ?_⟩
 refine ⟨_, fun _ h => h.ld 0 rfl rfl, ?_⟩
 refine ⟨inR64 (by omega) (by omega), ?_⟩
 refine ⟨?_, ?_⟩
 ·refine rOf_spec fun w91 hf => ?_; have m := m.fr hf
  refine ⟨m.sub 0 rfl, ?_⟩
  refine ⟨?_, ?_⟩
  ·refine rOf_spec fun w93 hf => ?_; have m := m.fr hf
   refine ⟨m.sub 0 rfl, ?_⟩
   refine ⟨?_, ?_⟩
   ·refine refadd_spec hnet hone hdn hdd hpr hone fun w95 hf => ?_; have m := m.fr hf
    refine ⟨m.sub 0 rfl, ?_⟩
    intro w98; have m : Mem w0 w98 _ := m.allocL; clear_value w98
    refine ⟨m.sub 1 rfl, ?_⟩
    refine ⟨m.wr 0 rfl rfl, ?_⟩
    intro w99; have m : Mem w0 w99 _ := m.set 0 rfl; clear_value w99; simp only [List.set_cons_zero] at m
    refine ⟨m.wr 0 rfl rfl, ?_⟩
    intro w100; have m : Mem w0 w100 _ := m.set 0 rfl; clear_value w100; simp only [List.set_cons_zero, List.set_cons_succ] at m
    exact fin m
   ·intro w101; have m : Mem w0 w101 _ := m.allocL; clear_value w101
    refine ⟨m.sub 1 rfl, ?_⟩
    refine refadd_spec hnet hone hdn hdd hpr hone fun w102 hf => ?_; have m := m.fr hf
    refine ⟨m.sub 1 rfl, ?_⟩
    refine ⟨m.wr 0 rfl rfl, ?_⟩
    intro w105; have m : Mem w0 w105 _ := m.set 0 rfl; clear_value w105; simp only [List.set_cons_zero] at m
    refine ⟨m.wr 0 rfl rfl, ?_⟩
    intro w106; have m : Mem w0 w106 _ := m.set 0 rfl; clear_value w106; simp only [List.set_cons_zero, List.set_cons_succ] at m
    exact fin m
  ·intro w107; have m : Mem w0 w107 _ := m.allocL; clear_value w107
   refine ⟨m.sub 1 rfl, ?_⟩
   refine rOf_spec fun w108 hf => ?_; have m := m.fr hf
   refine ⟨m.sub 1 rfl, ?_⟩
   refine refadd_spec hnet hone hdn hdd hpr hone fun w110 hf => ?_; have m := m.fr hf
   refine ⟨m.sub 1 rfl, ?_⟩
   refine ⟨m.wr 0 rfl rfl, ?_⟩
   intro w113; have m : Mem w0 w113 _ := m.set 0 rfl; clear_value w113; simp only [List.set_cons_zero] at m
   refine ⟨m.wr 0 rfl rfl, ?_⟩
   intro w114; have m : Mem w0 w114 _ := m.set 0 rfl; clear_value w114; simp only [List.set_cons_zero, List.set_cons_succ] at m
   exact fin m
 ·intro w115; have m : Mem w0 w115 _ := m.allocL; clear_value w115
  refine ⟨m.sub 1 rfl, ?_⟩
  refine rOf_spec fun w116 hf => ?_; have m := m.fr hf
  refine ⟨m.sub 1 rfl, ?_⟩
  refine rOf_spec fun w118 hf => ?_; have m := m.fr hf
  refine ⟨m.sub 1 rfl, ?_⟩
  refine refadd_spec hnet hone hdn hdd hpr hone fun w120 hf => ?_; have m := m.fr hf
  refine ⟨m.sub 1 rfl, ?_⟩
  refine ⟨m.wr 0 rfl rfl, ?_⟩
  intro w123; have m : Mem w0 w123 _ := m.set 0 rfl; clear_value w123; simp only [List.set_cons_zero] at m
  refine ⟨m.wr 0 rfl rfl, ?_⟩
  intro w124; have m : Mem w0 w124 _ := m.set 0 rfl; clear_value w124; simp only [List.set_cons_zero, List.set_cons_succ] at m
  exact fin m
theorem Upper_l2 {i : Nat} {N1 : Sl -> Addr -> Addr -> Addr -> Bool -> Int -> World -> Prop} {K : Int -> Bool -> World -> Prop}
  (hp : RightPr p) (h : PF w0 s0 s1 s2 s5 p f) (hil : i < p.lots.length) (hdn : I64 dn) (hdd : I64 dd) (hs : I64 s.n /\ I64 s.d)
  (m : Mem w0 w ((bb, rrC 0 1) :: UL sb db pb s dn dd (prC s0 s1 s2 p.most p.budget)))
  (hN : ∀ w' (s' : RR), s' = lstep p f (dn, dd) i p.lots[i] s -> Mem w0 w' (UL sb db pb s' dn dd (prC s0 s1 s2 p.most p.budget)) -> N1 s5 ⟨pb, 0, none⟩ ⟨db, 0, none⟩ ⟨sb, 0, none⟩ s'.ok ((i : Int) + 1) w') :
  z1r_l2 s5 ⟨pb, 0, none⟩ ⟨db, 0, none⟩ ⟨sb, 0, none⟩ s.ok i ⟨bb, 0, none⟩ 0 N1 K w := by
 have l1 := h.pv.l1; have l5 := h.lt; have l0 := h.pv.l0
 have e1 := h.pv.ch.len; have e5 := h.tk.len
 have hzero : I64 0 := ⟨by decide, by decide⟩
 have hone : I64 1 := ⟨by decide, by decide⟩
 refine ⟨⟨fun ok j w' => ∃ (j' : Nat) (st : RR), j = j' /\ ok = st.ok /\ j' <= p.ch.length /\ (I64 st.n /\ I64 st.d) /\ bfold p f (dn, dd) i p.lots[i] j' (p.ch.drop j') st = bfold p f (dn, dd) i p.lots[i] 0 p.ch ⟨0, 1, s.ok⟩ /\ Mem w0 w' ((bb, rrC st.n st.d) :: UL sb db pb s dn dd (prC s0 s1 s2 p.most p.budget)), fun _ j _ => p.ch.length - j.toNat,
  ⟨0, ⟨0, 1, s.ok⟩, rfl, rfl, by omega, ⟨hzero, hone⟩, by simp, m⟩, ?_⟩⟩
 rintro ok j w2 ⟨j, st, rfl, rfl, hj, hst, he, m⟩
 unfold z1r_b2
 refine ⟨s1, m.ld 3 rfl rfl, cnd_prop.2 ⟨fun hlt => ?_, fun hge => ?_⟩⟩
 ·have hlt : j < p.ch.length := by omega
  have hcm := List.getElem_mem hlt
  rw [List.drop_eq_getElem_cons hlt, bfold] at he
  refine ⟨s1, m.ld 3 rfl rfl, VC.ld (h.fr m.1).pv.ch j rfl hlt fun a hc => ?_⟩
  obtain ⟨c0, c1, c2, c3⟩ := hc w2 Fr.refl
  refine ⟨_, c0, _, c1, _, c2, _, c3, ?_⟩
  refine stN_new rfl m fun w3 m3 => ?_
  have m3 : Mem w0 w3 ((w2.heap.size, encC p.ch[j]) :: (bb, rrC st.n st.d) :: UL sb db pb s dn dd (prC s0 s1 s2 p.most p.budget)) := m3
  intro w4; have m3 : Mem w0 w4 _ := m3.drew; clear_value w4
  have hnext : ∀ {w4 : World} {st' : RR}, bstep p f (dn, dd) i p.lots[i] st j p.ch[j] = st' -> Mem w0 w4 ((bb, rrC st'.n st'.d) :: UL sb db pb s dn dd (prC s0 s1 s2 p.most p.budget)) ->
    (((s5 = s5 /\ (⟨pb, 0, none⟩ : Addr) = ⟨pb, 0, none⟩ /\ (⟨db, 0, none⟩ : Addr) = ⟨db, 0, none⟩ /\ (⟨sb, 0, none⟩ : Addr) = ⟨sb, 0, none⟩ /\ (i : Int) = i /\ (⟨bb, 0, none⟩ : Addr) = ⟨bb, 0, none⟩ /\ True) /\
    ∃ (j' : Nat) (st : RR), (j : Int) + 1 = j' /\ st'.ok = st.ok /\ j' <= p.ch.length /\ (I64 st.n /\ I64 st.d) /\ bfold p f (dn, dd) i p.lots[i] j' (p.ch.drop j') st = bfold p f (dn, dd) i p.lots[i] 0 p.ch ⟨0, 1, s.ok⟩ /\ Mem w0 w4 ((bb, rrC st.n st.d) :: UL sb db pb s dn dd (prC s0 s1 s2 p.most p.budget))) /\ p.ch.length - ((j : Int) + 1).toNat < p.ch.length - (j : Int).toNat) :=
   fun {w4 st'} hb m4 => ⟨⟨⟨rfl, rfl, rfl, rfl, rfl, rfl, trivial⟩, j + 1, st', by omega, rfl, by omega, hb ▸ bstep_I64 hst, by rw [← hb]; exact he, m4⟩, by omega⟩
  have h3 := h.fr m3.1
  refine ⟨_, m3.ld 0 rfl rfl, s0, m3.ld 4 rfl rfl, VI.ld h3.pv.lots i rfl hil ?_⟩
  have hgo : ∀ {N2 : Sl -> Addr -> Addr -> Addr -> Bool -> Int -> Addr -> Int -> World -> Prop}, (∀ w4 st', bstep p f (dn, dd) i p.lots[i] st j p.ch[j] = st' -> Mem w0 w4 ((bb, rrC st'.n st'.d) :: UL sb db pb s dn dd (prC s0 s1 s2 p.most p.budget)) -> N2 s5 ⟨pb, 0, none⟩ ⟨db, 0, none⟩ ⟨sb, 0, none⟩ st'.ok i ⟨bb, 0, none⟩ ((j : Int) + 1) w4) -> ¬ (p.ch[j].lot ≠ p.lots[i] \/ (i < f.length /\ f.getD i 0 ≠ (j : Int))) -> z1r_k3 s5 ⟨pb, 0, none⟩ ⟨db, 0, none⟩ ⟨sb, 0, none⟩ st.ok i ⟨bb, 0, none⟩ j ⟨w2.heap.size, 0, none⟩ N2 N1 K w4 := fun {N2} hN2 hn =>
   Upper_k3 (f := f) hp hcm hdn hdd hst e5 (by omega) m3 rfl fun w5 st' hst' m5 => hN2 w5 st' (by unfold bstep; rw [if_neg hn]; exact hst'.symm) m5
  refine cnd_bne.2 ⟨fun hne => ⟨inR64 (by omega) (by omega), hnext (st' := st) ?_ (m3.dr 1 rfl)⟩, fun hlot => cnd_prop.2 ⟨fun hdec => ?_, fun hdec => hgo (fun w4 st' => hnext) ?_⟩⟩
  ·unfold bstep
   rw [if_pos (.inl hne)]
  ·have hif : i < f.length := by omega
   have hg : f.getD i 0 = f[i] := by simp [hif]
   refine VI.ld h3.tk i rfl hif (cnd_bne.2 ⟨fun hne => ⟨inR64 (by omega) (by omega), hnext (st' := st) ?_ (m3.dr 1 rfl)⟩, fun heq => hgo (fun w4 st' => hnext) ?_⟩)
   ·unfold bstep
    rw [if_pos (.inr ⟨hif, by rw [hg]; exact hne⟩)]
   ·rintro (q | q)
    ·exact q hlot
    ·rw [hg] at q; exact q.2 heq
  ·rintro (q | q)
   ·exact q hlot
   ·omega
 ·have : j = p.ch.length := by omega
  subst this
  rw [List.drop_of_length_le (Nat.le_refl _), bfold] at he
  have hr : rightP st.n st.d := he ▸ bfold_right _ _ _ (rightP_int 0)
  refine ⟨_, m.ld 1 rfl rfl, _, m.ld 1 rfl rfl, _, m.ld 0 rfl rfl, _, m.ld 0 rfl rfl, rAdd_spec hs.1 hs.2 hst.1 hst.2 fun w3 hf => ?_⟩
  have m := m.fr hf
  have hls : lstep p f (dn, dd) i p.lots[i] s = ⟨(addQ s.n s.d st.n st.d).n, (addQ s.n s.d st.n st.d).d, st.ok && (addQ s.n s.d st.n st.d).ok⟩ := by
   unfold lstep mulAdd
   rw [← he]
   simp only [mulQ_one hr hst.1 hst.2, Bool.true_and]
  intro w4; have m : Mem w0 w4 _ := m.allocL (cs := rrC 0 0); clear_value w4
  refine ⟨m.wr 0 rfl rfl, ?_⟩
  intro w5; have m : Mem w0 w5 _ := m.set 0 rfl; clear_value w5; simp only [List.set_cons_zero] at m
  refine ⟨m.wr 0 rfl rfl, ?_⟩
  intro w6; have m : Mem w0 w6 _ := m.set 0 rfl; clear_value w6; simp only [List.set_cons_zero, List.set_cons_succ] at m
  refine ⟨_, m.ld 0 rfl rfl, _, m.ld 0 rfl rfl, m.wr 2 rfl rfl, ?_⟩
  intro w7; have m : Mem w0 w7 _ := m.set 2 rfl; clear_value w7; simp only [List.set_cons_zero, List.set_cons_succ] at m
  refine ⟨m.wr 2 rfl rfl, ?_⟩
  intro w8; have m : Mem w0 w8 _ := m.set 2 rfl; clear_value w8; simp only [List.set_cons_zero, List.set_cons_succ] at m
  have hN' := hN w8 _ hls.symm (m.dr 2 rfl)
  refine cnd_iff.2 ⟨fun hc => ⟨inR64 (by omega) (by omega), ?_⟩, fun hc => ⟨inR64 (by omega) (by omega), ?_⟩⟩
  ·rw [hc, Bool.true_and] at hN'; exact hN'
  ·rw [hc, Bool.false_and] at hN'; exact hN'
theorem Upper_k8 {ok one : Bool} {mn md : Int} {K : Int -> Bool -> World -> Prop} (hp : RightPr p) (h : PF w0 s0 s1 s2 s5 p f) (hd : Decs p p.lots f) (hs : I64 s.n /\ I64 s.d) (hm : I64 mn /\ I64 md)
  (m : Mem w0 w ((mb, rrC mn md) :: UL sb db pb s dn dd (prC s0 s1 s2 p.most p.budget)))
  (hF : ∀ w', Fr F0 w0 w' -> (ok && one && (mulAdd ⟨s.n, s.d, true⟩ (mn, md) (offs p f, 1)).ok) = false -> K 0 false w')
  (hT : ∀ w', Fr F0 w0 w' -> (ok && one && (mulAdd ⟨s.n, s.d, true⟩ (mn, md) (offs p f, 1)).ok) = true -> K (floorQ (mulAdd ⟨s.n, s.d, true⟩ (mn, md) (offs p f, 1)).n (mulAdd ⟨s.n, s.d, true⟩ (mn, md) (offs p f, 1)).d) true w') :
  z1r_k8 s5 ⟨pb, 0, none⟩ ⟨sb, 0, none⟩ ok ⟨mb, 0, none⟩ one K w := by
 have hone : I64 1 := ⟨by decide, by decide⟩
 have hob := offs_bound (f := f) hp (List.prefix_refl p.de)
 have ho : I64 (offs p f) := by unfold offs; exact ⟨by omega, by omega⟩
 have hr := mulAdd_I64 ⟨s.n, s.d, true⟩ (mn, md) (offs p f, 1)
 refine ⟨?_⟩
 unfold z1r_k8d
 intro w175; have m : Mem w0 w175 _ := m.drew; clear_value w175
 refine ⟨fun u => Rs u _, m.sub 0 rfl, ?_⟩
 refine ⟨_, fun _ h => h.ld 1 rfl rfl, ?_⟩
 refine ⟨_, fun _ h => h.ld 1 rfl rfl, ?_⟩
 refine ⟨_, fun _ h => h.ld 0 rfl rfl, ?_⟩
 refine ⟨_, fun _ h => h.ld 0 rfl rfl, ?_⟩
 refine ⟨_, fun _ h => h.ld 3 rfl rfl, ?_⟩
 refine ⟨_, fun _ h => h.ld 3 rfl rfl, ?_⟩
 refine ⟨_, fun _ h => h.ld 3 rfl rfl, ?_⟩
 refine ⟨_, fun _ h => h.ld 3 rfl rfl, ?_⟩
 refine ⟨_, fun _ h => h.ld 3 rfl rfl, ?_⟩
 refine refoffs_spec hp (h.fr m.1) hd fun w186 hf => ?_; have m := m.fr hf
 refine ⟨m.sub 0 rfl, ?_⟩
 refine rOf_spec fun w188 hf => ?_; have m := m.fr hf
 refine ⟨m.sub 0 rfl, ?_⟩
 refine refadd_spec hs.1 hs.2 hm.1 hm.2 ho hone fun w190 hf => ?_; have m := m.fr hf
 refine ⟨m.sub 0 rfl, ?_⟩
 refine ⟨m.wr 1 rfl rfl, ?_⟩
 intro w193; have m : Mem w0 w193 _ := m.set 1 rfl; clear_value w193; simp only [List.set_cons_zero, List.set_cons_succ] at m
 refine ⟨m.wr 1 rfl rfl, ?_⟩
 intro w194; have m : Mem w0 w194 _ := m.set 1 rfl; clear_value w194; simp only [List.set_cons_zero, List.set_cons_succ] at m
 refine cnd_iff.2 ⟨fun hc1 => ?_, fun hc1 => ?_⟩
 ·exact hF _ m.1 (by simp_all)
 ·refine cnd_iff.2 ⟨fun hc2 => ?_, fun hc2 => ?_⟩
  ·exact hF _ m.1 (by simp_all)
  ·refine cnd_iff.2 ⟨fun hc3 => ?_, fun hc3 => ?_⟩
   ·exact hF _ m.1 (by simp_all)
   ·refine ⟨_, m.ld 1 rfl rfl, ?_⟩
    refine ⟨_, m.ld 1 rfl rfl, ?_⟩
    refine rFloor_spec hr.1 hr.2 fun w197 hf => ?_; have m := m.fr hf
    exact hT _ m.1 (by simp_all)
theorem Upper_k7 {R : RR} {K : Int -> Bool -> World -> Prop} (hp : RightPr p) (h : PF w0 s0 s1 s2 s5 p f) (hd : Decs p p.lots f) (hs : I64 s.n /\ I64 s.d) (hdn : I64 dn) (hdd : I64 dd) (hdr : rightP dn dd)
  (m : Mem w0 w (UL sb db pb s dn dd (prC s0 s1 s2 p.most p.budget))) (hR : s = R \/ (s.ok = false /\ R.ok = false))
  (hK : ∀ w', Fr F0 w0 w' -> K (if (blast p f R (bmore (dn, dd) R.ok)).ok then floorQ (blast p f R (bmore (dn, dd) R.ok)).n (blast p f R (bmore (dn, dd) R.ok)).d else 0) (blast p f R (bmore (dn, dd) R.ok)).ok w') :
  z1r_k7 s5 ⟨pb, 0, none⟩ ⟨db, 0, none⟩ ⟨sb, 0, none⟩ s.ok K w := by
 have hone : I64 1 := ⟨by decide, by decide⟩
 have ha := addQ_I64 1 1 dn dd
 have hbm : ∀ ok, bmore (dn, dd) ok = ⟨(addQ 1 1 dn dd).n, (addQ 1 1 dn dd).d, ok && (addQ 1 1 dn dd).ok⟩ := fun ok => by
  unfold bmore mulAdd
  simp only [mulQ_one hdr hdn hdd, Bool.true_and]
 have hbl : ∀ t : RR, blast p f t (bmore (dn, dd) t.ok) = ⟨(mulAdd ⟨t.n, t.d, true⟩ ((addQ 1 1 dn dd).n, (addQ 1 1 dn dd).d) (offs p f, 1)).n, (mulAdd ⟨t.n, t.d, true⟩ ((addQ 1 1 dn dd).n, (addQ 1 1 dn dd).d) (offs p f, 1)).d,
   t.ok && (addQ 1 1 dn dd).ok && (mulAdd ⟨t.n, t.d, true⟩ ((addQ 1 1 dn dd).n, (addQ 1 1 dn dd).d) (offs p f, 1)).ok⟩ := fun t => by
  rw [hbm]; simp [blast, mulAdd]
 have hF : ∀ w', Fr F0 w0 w' -> (s.ok && (addQ 1 1 dn dd).ok && (mulAdd ⟨s.n, s.d, true⟩ ((addQ 1 1 dn dd).n, (addQ 1 1 dn dd).d) (offs p f, 1)).ok) = false -> K 0 false w' := fun w' hf he => by
  have hk := hK w' hf
  have e : (blast p f R (bmore (dn, dd) R.ok)).ok = false := by
   rcases hR with rfl | ⟨_, h2⟩
   ·rw [hbl]; exact he
   ·rw [hbl]; simp [h2]
  rw [e] at hk
  exact hk
 have hT : ∀ w', Fr F0 w0 w' -> (s.ok && (addQ 1 1 dn dd).ok && (mulAdd ⟨s.n, s.d, true⟩ ((addQ 1 1 dn dd).n, (addQ 1 1 dn dd).d) (offs p f, 1)).ok) = true -> K (floorQ (mulAdd ⟨s.n, s.d, true⟩ ((addQ 1 1 dn dd).n, (addQ 1 1 dn dd).d) (offs p f, 1)).n (mulAdd ⟨s.n, s.d, true⟩ ((addQ 1 1 dn dd).n, (addQ 1 1 dn dd).d) (offs p f, 1)).d) true w' := fun w' hf he => by
  have hk := hK w' hf
  rcases hR with rfl | ⟨h1, _⟩
  ·rw [hbl] at hk
   simp only [he, if_true] at hk
   exact hk
  ·rw [h1] at he; cases he
 have fin : ∀ {w' mb}, Mem w0 w' ((mb, [.int .i64 (addQ 1 1 dn dd).n, .int .i64 (addQ 1 1 dn dd).d]) :: UL sb db pb s dn dd (prC s0 s1 s2 p.most p.budget)) -> z1r_k8 s5 ⟨pb, 0, none⟩ ⟨sb, 0, none⟩ s.ok ⟨mb, 0, none⟩ (addQ 1 1 dn dd).ok K w' := fun m => Upper_k8 hp h hd hs ha m hF hT
 refine ⟨?_⟩
 unfold z1r_k7d
 intro w149; have m : Mem w0 w149 _ := m.drew; clear_value w149
 refine ⟨fun u => Rs u _, m.sub 0 rfl, ?_⟩
 refine ⟨_, fun _ h => h.ld 1 rfl rfl, ?_⟩
 refine ⟨_, fun _ h => h.ld 1 rfl rfl, ?_⟩
 refine ⟨?_, ?_⟩
 ·refine rOf_spec fun w153 hf => ?_; have m := m.fr hf
  refine ⟨m.sub 0 rfl, ?_⟩
  refine ⟨?_, ?_⟩
  ·refine rAdd_spec hone hone hdn hdd fun w155 hf => ?_; have m := m.fr hf
   refine ⟨m.sub 0 rfl, ?_⟩
   intro w158; have m : Mem w0 w158 _ := m.allocL; clear_value w158
   refine ⟨m.sub 1 rfl, ?_⟩
   refine ⟨m.wr 0 rfl rfl, ?_⟩
   intro w159; have m : Mem w0 w159 _ := m.set 0 rfl; clear_value w159; simp only [List.set_cons_zero] at m
   refine ⟨m.wr 0 rfl rfl, ?_⟩
   intro w160; have m : Mem w0 w160 _ := m.set 0 rfl; clear_value w160; simp only [List.set_cons_zero, List.set_cons_succ] at m
   exact fin m
  ·intro w161; have m : Mem w0 w161 _ := m.allocL; clear_value w161
   refine ⟨m.sub 1 rfl, ?_⟩
   refine rAdd_spec hone hone hdn hdd fun w162 hf => ?_; have m := m.fr hf
   refine ⟨m.wr 0 rfl rfl, ?_⟩
   intro w165; have m : Mem w0 w165 _ := m.set 0 rfl; clear_value w165; simp only [List.set_cons_zero] at m
   refine ⟨m.wr 0 rfl rfl, ?_⟩
   intro w166; have m : Mem w0 w166 _ := m.set 0 rfl; clear_value w166; simp only [List.set_cons_zero, List.set_cons_succ] at m
   exact fin m
 ·intro w167; have m : Mem w0 w167 _ := m.allocL; clear_value w167
  refine ⟨m.sub 1 rfl, ?_⟩
  refine rOf_spec fun w168 hf => ?_; have m := m.fr hf
  refine ⟨m.sub 1 rfl, ?_⟩
  refine rAdd_spec hone hone hdn hdd fun w170 hf => ?_; have m := m.fr hf
  refine ⟨m.wr 0 rfl rfl, ?_⟩
  intro w173; have m : Mem w0 w173 _ := m.set 0 rfl; clear_value w173; simp only [List.set_cons_zero] at m
  refine ⟨m.wr 0 rfl rfl, ?_⟩
  intro w174; have m : Mem w0 w174 _ := m.set 0 rfl; clear_value w174; simp only [List.set_cons_zero, List.set_cons_succ] at m
  exact fin m
theorem Upper_k0 {K : Int -> Bool -> World -> Prop} (hp : RightPr p) (h : PF w0 s0 s1 s2 s5 p f) (hd : Decs p p.lots f) (hdn : I64 dn) (hdd : I64 dd) (hdr : rightP dn dd) (hs : s = bfirst p (dn, dd))
  (m : Mem w0 w (UL sb db pb s dn dd (prC s0 s1 s2 p.most p.budget)))
  (hK : ∀ w', Fr F0 w0 w' -> K (if (boundQ p f (dn, dd)).ok then floorQ (boundQ p f (dn, dd)).n (boundQ p f (dn, dd)).d else 0) (boundQ p f (dn, dd)).ok w') :
  z1r_k0 s5 ⟨pb, 0, none⟩ ⟨db, 0, none⟩ ⟨sb, 0, none⟩ s.ok K w := by
 have e0 := h.pv.lots.len
 have hfew := hp.few
 have hone : I64 1 := ⟨by decide, by decide⟩
 have hzero : I64 0 := ⟨by decide, by decide⟩
 refine ⟨?_⟩
 unfold z1r_k0d
 refine ⟨⟨fun ok i w' => ∃ (i' : Nat) (s : RR), i = i' /\ ok = s.ok /\ i' <= p.lots.length /\ (I64 s.n /\ I64 s.d) /\ lfold p f (dn, dd) i' (p.lots.drop i') s = lfold p f (dn, dd) 0 p.lots (bfirst p (dn, dd)) /\ Mem w0 w' (UL sb db pb s dn dd (prC s0 s1 s2 p.most p.budget)), fun _ i _ => p.lots.length - i.toNat,
  ⟨0, s, rfl, rfl, by omega, hs ▸ mulAdd_I64 _ _ _, by rw [hs, List.drop_zero], m⟩, ?_⟩⟩
 rintro ok i w2 ⟨i, s, rfl, rfl, hi, hsi, he, m⟩
 unfold z1r_b1
 have h7 : (s = lfold p f (dn, dd) 0 p.lots (bfirst p (dn, dd)) \/ (s.ok = false /\ (lfold p f (dn, dd) 0 p.lots (bfirst p (dn, dd))).ok = false)) -> z1r_k7 s5 ⟨pb, 0, none⟩ ⟨db, 0, none⟩ ⟨sb, 0, none⟩ s.ok K w2 := fun hR => Upper_k7 hp h hd hsi hdn hdd hdr m hR hK
 refine ⟨s0, m.ld 2 rfl rfl, cnd_prop.2 ⟨fun hlt => cnd_iff.2 ⟨fun hok => ?_, fun hok => h7 (.inr ⟨hok, ?_⟩)⟩, fun hge => h7 (.inl ?_)⟩⟩
 ·have hil : i < p.lots.length := by omega
  refine rOf_spec fun w3 hf => ?_
  have m := m.fr hf
  intro w4; have m : Mem w0 w4 _ := m.allocL (cs := rrC 0 0); clear_value w4
  refine ⟨m.wr 0 rfl rfl, ?_⟩
  intro w5; have m : Mem w0 w5 _ := m.set 0 rfl; clear_value w5; simp only [List.set_cons_zero] at m
  refine ⟨m.wr 0 rfl rfl, ?_⟩
  intro w6; have m : Mem w0 w6 _ := m.set 0 rfl; clear_value w6; simp only [List.set_cons_zero, List.set_cons_succ] at m
  refine Upper_l2 hp h hil hdn hdd hsi m fun w' s' hs' m' => ⟨⟨⟨rfl, rfl, rfl, rfl, trivial⟩, i + 1, s', by omega, rfl, by omega, hs' ▸ mulAdd_I64 _ _ _, ?_, m'⟩, by dsimp only; omega⟩
  rw [List.drop_eq_getElem_cons hil, lfold] at he
  rw [hs']
  exact he
 ·rw [← he]
  cases hq : (lfold p f (dn, dd) i (p.lots.drop i) s).ok with
  | false => rfl
  | true => rw [lfold_ok _ _ _ hq] at hok; cases hok
 ·have : i = p.lots.length := by omega
  subst this
  rw [List.drop_of_length_le (Nat.le_refl _), lfold] at he
  exact he
theorem refUpper_spec {K : Int -> Bool -> World -> Prop} (h : PF w s0 s1 s2 s5 p f) (hdn : I64 dn) (hdd : I64 dd) (hK : ∀ w', Fr F0 w w' -> K (upR p f dn dd).1 (upR p f dn dd).2 w') : z1r_sh s0 s1 s2 p.most p.budget s5 dn dd K w := by
 have hbad : ∀ w', Fr F0 w w' -> ((rightB p && decsB p p.lots f) = true -> rightP dn dd /\ 0 <= dn -> False) -> K 0 false w' := fun w' hf hn => by
  have hk := hK w' hf
  have e : upR p f dn dd = (0, false) := by
   unfold upR
   by_cases hg : (rightB p && decsB p p.lots f) = true
   ·rw [if_pos hg]
    unfold upB
    rw [if_neg fun q => hn hg ⟨q.1, q.2.2.2⟩]
   ·rw [if_neg hg]
  rw [e] at hk
  exact hk
 have hone : I64 1 := ⟨by decide, by decide⟩
 have hzero : I64 0 := ⟨by decide, by decide⟩
 have m : Mem w w [] := Mem.nil
 refine ⟨?_⟩
 unfold z1r_sd
 intro w1; have m : Mem w w1 _ := m.allocL; clear_value w1
 intro w2; have m : Mem w w2 _ := m.allocL; clear_value w2
 refine ⟨_, m.ld 1 rfl rfl, ?_⟩
 refine ⟨_, m.ld 1 rfl rfl, ?_⟩
 refine ⟨_, m.ld 1 rfl rfl, ?_⟩
 refine ⟨_, m.ld 1 rfl rfl, ?_⟩
 refine ⟨_, m.ld 1 rfl rfl, ?_⟩
 refine refRight_spec (h.pv.fr m.1) fun w8 hf => ?_; have m := m.fr hf
 refine ⟨_, m.ld 0 rfl rfl, ?_⟩
 refine ⟨_, m.ld 0 rfl rfl, ?_⟩
 refine rRight_spec hdn hdd fun w12 hf => ?_; have m := m.fr hf
 refine cnd_iff.2 ⟨fun hc1 => ?_, fun hc1 => ?_⟩
 ·exact hbad _ m.1 (fun q q2 => by first | (have := q2.2; omega) | simp_all)
 ·refine ⟨_, m.ld 1 rfl rfl, ?_⟩
  refine ⟨_, m.ld 1 rfl rfl, ?_⟩
  refine ⟨_, m.ld 1 rfl rfl, ?_⟩
  refine ⟨_, m.ld 1 rfl rfl, ?_⟩
  refine ⟨_, m.ld 1 rfl rfl, ?_⟩
  refine refPrefix_spec (h.fr m.1) fun w19 hf => ?_; have m := m.fr hf
  refine cnd_iff.2 ⟨fun hc2 => ?_, fun hc2 => ?_⟩
  ·exact hbad _ m.1 (fun q q2 => by first | (have := q2.2; omega) | simp_all)
  ·refine cnd_iff.2 ⟨fun hc3 => ?_, fun hc3 => ?_⟩
   ·exact hbad _ m.1 (fun q q2 => by first | (have := q2.2; omega) | simp_all)
   ·refine ⟨_, m.ld 0 rfl rfl, ?_⟩
    refine cnd_prop.2 ⟨fun hc4 => ?_, fun hc4 => ?_⟩
    ·exact hbad _ m.1 (fun q q2 => by first | (have := q2.2; omega) | simp_all)
    ·have hp : RightPr p := rightB_iff.1 (by simpa using hc1)
     have hd : Decs p p.lots f := decsB_iff.1 (by simpa using hc2)
     have hdr : rightP dn dd := by simpa using hc3
     have ⟨b1, b2⟩ : 0 <= p.budget /\ p.budget <= 1000000000 := hp.budget
     have hbud : I64 p.budget := ⟨by omega, by omega⟩
     have eU : upR p f dn dd = (if (boundQ p f (dn, dd)).ok then floorQ (boundQ p f (dn, dd)).n (boundQ p f (dn, dd)).d else 0, (boundQ p f (dn, dd)).ok) := by
      unfold upR
      rw [if_pos (by rw [rightB_iff.2 hp, decsB_iff.2 hd]; rfl)]
      unfold upB
      rw [if_pos ⟨hdr, hdn, hdd, by omega⟩]
      cases hq : (boundQ p f (dn, dd)).ok <;> rfl
     rw [eU] at hK
     have fin : ∀ {w' sb}, Mem w w' [(sb, [.int .i64 (mulAdd ⟨0, 1, true⟩ (dn, dd) (p.budget, 1)).n, .int .i64 (mulAdd ⟨0, 1, true⟩ (dn, dd) (p.budget, 1)).d]), (w1.heap.size, [.int .i64 dn, .int .i64 dd]), (w.heap.size, prC s0 s1 s2 p.most p.budget)] ->
       z1r_k0 s5 ⟨w.heap.size, 0, none⟩ ⟨w1.heap.size, 0, none⟩ ⟨sb, 0, none⟩ (mulAdd ⟨0, 1, true⟩ (dn, dd) (p.budget, 1)).ok K w' := fun m => Upper_k0 hp h hd hdn hdd hdr rfl m hK
     intro w22; have m : Mem w w22 _ := m.drew; clear_value w22
     refine ⟨fun u => Rs u _, m.sub 0 rfl, ?_⟩
     refine ⟨_, fun _ h => h.ld 0 rfl rfl, ?_⟩
     refine ⟨_, fun _ h => h.ld 0 rfl rfl, ?_⟩
     refine ⟨_, fun _ h => h.ld 1 rfl rfl, ?_⟩
     refine ⟨?_, ?_⟩
     ·refine rOf_spec fun w27 hf => ?_; have m := m.fr hf
      refine ⟨m.sub 0 rfl, ?_⟩
      refine ⟨?_, ?_⟩
      ·refine rOf_spec fun w29 hf => ?_; have m := m.fr hf
       refine ⟨m.sub 0 rfl, ?_⟩
       refine ⟨?_, ?_⟩
       ·refine refadd_spec hzero hone hdn hdd hbud hone fun w31 hf => ?_; have m := m.fr hf
        refine ⟨m.sub 0 rfl, ?_⟩
        intro w34; have m : Mem w w34 _ := m.allocL; clear_value w34
        refine ⟨m.sub 1 rfl, ?_⟩
        refine ⟨m.wr 0 rfl rfl, ?_⟩
        intro w35; have m : Mem w w35 _ := m.set 0 rfl; clear_value w35; simp only [List.set_cons_zero] at m
        refine ⟨m.wr 0 rfl rfl, ?_⟩
        intro w36; have m : Mem w w36 _ := m.set 0 rfl; clear_value w36; simp only [List.set_cons_zero, List.set_cons_succ] at m
        exact fin m
       ·intro w37; have m : Mem w w37 _ := m.allocL; clear_value w37
        refine ⟨m.sub 1 rfl, ?_⟩
        refine refadd_spec hzero hone hdn hdd hbud hone fun w38 hf => ?_; have m := m.fr hf
        refine ⟨m.sub 1 rfl, ?_⟩
        refine ⟨m.wr 0 rfl rfl, ?_⟩
        intro w41; have m : Mem w w41 _ := m.set 0 rfl; clear_value w41; simp only [List.set_cons_zero] at m
        refine ⟨m.wr 0 rfl rfl, ?_⟩
        intro w42; have m : Mem w w42 _ := m.set 0 rfl; clear_value w42; simp only [List.set_cons_zero, List.set_cons_succ] at m
        exact fin m
      ·intro w43; have m : Mem w w43 _ := m.allocL; clear_value w43
       refine ⟨m.sub 1 rfl, ?_⟩
       refine rOf_spec fun w44 hf => ?_; have m := m.fr hf
       refine ⟨m.sub 1 rfl, ?_⟩
       refine refadd_spec hzero hone hdn hdd hbud hone fun w46 hf => ?_; have m := m.fr hf
       refine ⟨m.sub 1 rfl, ?_⟩
       refine ⟨m.wr 0 rfl rfl, ?_⟩
       intro w49; have m : Mem w w49 _ := m.set 0 rfl; clear_value w49; simp only [List.set_cons_zero] at m
       refine ⟨m.wr 0 rfl rfl, ?_⟩
       intro w50; have m : Mem w w50 _ := m.set 0 rfl; clear_value w50; simp only [List.set_cons_zero, List.set_cons_succ] at m
       exact fin m
     ·intro w51; have m : Mem w w51 _ := m.allocL; clear_value w51
      refine ⟨m.sub 1 rfl, ?_⟩
      refine rOf_spec fun w52 hf => ?_; have m := m.fr hf
      refine ⟨m.sub 1 rfl, ?_⟩
      refine rOf_spec fun w54 hf => ?_; have m := m.fr hf
      refine ⟨m.sub 1 rfl, ?_⟩
      refine refadd_spec hzero hone hdn hdd hbud hone fun w56 hf => ?_; have m := m.fr hf
      refine ⟨m.sub 1 rfl, ?_⟩
      refine ⟨m.wr 0 rfl rfl, ?_⟩
      intro w59; have m : Mem w w59 _ := m.set 0 rfl; clear_value w59; simp only [List.set_cons_zero] at m
      refine ⟨m.wr 0 rfl rfl, ?_⟩
      intro w60; have m : Mem w w60 _ := m.set 0 rfl; clear_value w60; simp only [List.set_cons_zero, List.set_cons_succ] at m
      exact fin m
end
end Go.Proofs.YtfpobpjandjhjaaGreatDoor
