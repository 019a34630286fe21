/- combine: the bound of a prefix for a multiplier. Conditions: none. -/
import Derived.Test.YtmkjcheafdionaaCD6
namespace Go.Proofs.Ytmkjcheafdionaa
open Go Pw

/-- A fraction's cells. -/
def rrC (n d : Int) : List Value := [.int .i64 n, .int .i64 d]

/-- The variables of the bound's loop over the lots, newest first. -/
abbrev BL (sb ob nb db fb : Nat) (s : RR) (dn dd : Int) (F : List Value) : List (Nat × List Value) :=
  [(sb, [.int .i64 s.n, .int .i64 s.d]), (ob, [.int .i64 1, .int .i64 1]), (nb, [.bool s.ok]), (db, [.int .i64 dn, .int .i64 dd]), (fb, F)]

/-- The variables of the loop over the choices. -/
abbrev BC (bb sb ob nb db fb : Nat) (st s : RR) (dn dd : Int) (F : List Value) : List (Nat × List Value) :=
  (bb, [.int .i64 st.n, .int .i64 st.d]) :: [(sb, [.int .i64 s.n, .int .i64 s.d]), (ob, [.int .i64 1, .int .i64 1]), (nb, [.bool st.ok]), (db, [.int .i64 dn, .int .i64 dd]), (fb, F)]

theorem i64_small {n : Int} (h0 : -1000000000000000000 <= n) (h1 : n <= 1000000000000000000) : I64 n := ⟨by omega, by omega⟩

section
variable {w w' w0 : World} {s0 s1 s2 s5 : Sl} {p : Pr} {f : List Int} {bb sb ob nb db fb cb xb : Nat} {s st : RR} {dn dd : Int} {c : Ch} {n : Nat}

theorem bound_k5 {F : List Value} {x : RR} {i lot : Int} {t1 t2 : Sl} {a1 a2 a3 a4 : Int} {N2 : Addr -> Addr -> Addr -> Addr -> Addr -> Addr -> Int -> Int -> Addr -> Sl -> Int -> Int -> Sl -> Int -> Int -> World -> Prop} {N1 : Addr -> Addr -> Addr -> Addr -> Addr -> Addr -> Sl -> Int -> Int -> World -> Prop} {K : Int -> Bool -> World -> Prop}
    (m : Mem w0 w ((xb, [.int .i64 x.n, .int .i64 x.d]) :: (cb, encC c) :: BC bb sb ob nb db fb ⟨st.n, st.d, x.ok⟩ s dn dd F)) (hi : 0 <= a4 /\ a4 < 2 ^ 60)
    (hN : ∀ w', Mem w0 w' (BC bb sb ob nb db fb x s dn dd F) -> N2 ⟨fb, 0, none⟩ ⟨db, 0, none⟩ ⟨nb, 0, none⟩ ⟨nb, 0, none⟩ ⟨ob, 0, none⟩ ⟨sb, 0, none⟩ i lot ⟨bb, 0, none⟩ t1 a1 a2 t2 a3 (a4 + 1) w') :
    Cp_bound_k5 ⟨fb, 0, none⟩ ⟨db, 0, none⟩ ⟨nb, 0, none⟩ ⟨nb, 0, none⟩ ⟨ob, 0, none⟩ ⟨sb, 0, none⟩ i lot ⟨bb, 0, none⟩ ⟨xb, 0, none⟩ t1 a1 a2 t2 a3 a4 N2 N1 K w := by
  refine ⟨?_⟩
  unfold Cp_bound_k5d
  refine ⟨_, m.ld 0 rfl rfl, _, m.ld 0 rfl rfl, m.wr 2 rfl rfl, ?_⟩
  intro w1
  have m : Mem w0 w1 _ := m.set 2 rfl
  clear_value w1
  simp only [List.set_cons_zero, List.set_cons_succ] at m
  refine ⟨m.wr 2 rfl rfl, ?_⟩
  intro w2
  have m : Mem w0 w2 _ := m.set 2 rfl
  clear_value w2
  simp only [List.set_cons_zero, List.set_cons_succ] at m
  exact ⟨inR64 (by omega) (by omega), hN w2 (m.dr 2 rfl)⟩

theorem bound_k4 {F : List Value} {x : RR} {i lot : Int} {t1 t2 : Sl} {a1 a2 a3 a4 : Int} {dec : Bool} {N2 : Addr -> Addr -> Addr -> Addr -> Addr -> Addr -> Int -> Int -> Addr -> Sl -> Int -> Int -> Sl -> Int -> Int -> World -> Prop} {N1 : Addr -> Addr -> Addr -> Addr -> Addr -> Addr -> Sl -> Int -> Int -> World -> Prop} {K : Int -> Bool -> World -> Prop}
    (m : Mem w0 w ((xb, [.int .i64 x.n, .int .i64 x.d]) :: (cb, encC c) :: BC bb sb ob nb db fb ⟨st.n, st.d, x.ok⟩ s dn dd F)) (hi : 0 <= a4 /\ a4 < 2 ^ 60) (hx : I64 x.n /\ I64 x.d) (hst : I64 st.n /\ I64 st.d)
    (hN : ∀ w', Mem w0 w' (BC bb sb ob nb db fb (if dec = true \/ 0 < cmpQ x.n x.d st.n st.d then x else ⟨st.n, st.d, x.ok⟩) s dn dd F) -> N2 ⟨fb, 0, none⟩ ⟨db, 0, none⟩ ⟨nb, 0, none⟩ ⟨nb, 0, none⟩ ⟨ob, 0, none⟩ ⟨sb, 0, none⟩ i lot ⟨bb, 0, none⟩ t1 a1 a2 t2 a3 (a4 + 1) w') :
    Cp_bound_k4 ⟨fb, 0, none⟩ ⟨db, 0, none⟩ ⟨nb, 0, none⟩ ⟨nb, 0, none⟩ ⟨ob, 0, none⟩ ⟨sb, 0, none⟩ i lot ⟨bb, 0, none⟩ dec ⟨xb, 0, none⟩ t1 a1 a2 t2 a3 a4 N2 N1 K w := by
  refine ⟨?_⟩
  unfold Cp_bound_k4d
  rw [cnd_iff]
  refine ⟨fun hd => bound_k5 m hi fun w' m' => hN w' (by rw [if_pos (.inl hd)]; exact m'), fun hd => ?_⟩
  refine ⟨_, m.ld 0 rfl rfl, _, m.ld 0 rfl rfl, _, m.ld 2 rfl rfl, _, m.ld 2 rfl rfl, Cmp_spec hx.1 hx.2 hst.1 hst.2 fun w1 hf => ?_⟩
  have m := m.fr hf
  rw [cnd_prop]
  refine ⟨fun hc => bound_k5 m hi fun w' m' => hN w' (by rw [if_pos (.inr hc)]; exact m'), fun hc => ⟨inR64 (by omega) (by omega), hN w1 ?_⟩⟩
  rw [if_neg (by rw [hd]; rintro (h | h); cases h; exact hc h)]
  exact m.dr 2 rfl

theorem bound_k3 {x : RR} {i lot : Int} {t1 t2 : Sl} {a1 a2 a3 a4 : Int} {dec : Bool} {N2 : Addr -> Addr -> Addr -> Addr -> Addr -> Addr -> Int -> Int -> Addr -> Sl -> Int -> Int -> Sl -> Int -> Int -> World -> Prop} {N1 : Addr -> Addr -> Addr -> Addr -> Addr -> Addr -> Sl -> Int -> Int -> World -> Prop} {K : Int -> Bool -> World -> Prop}
    (hp : RightPr p) (hc : c ∈ p.ch) (hdn : I64 dn) (hdd : I64 dd) (hst : I64 st.n /\ I64 st.d)
    (m : Mem w0 w ((cb, encC c) :: BC bb sb ob nb db fb st s dn dd (pfC s0 s1 s2 p.most p.budget s5))) (hi : 0 <= a4 /\ a4 < 2 ^ 60)
    (hx : x = mulAdd ⟨netOf p c, 1, st.ok⟩ (dn, dd) (-c.price, 1))
    (hN : ∀ w', Mem w0 w' (BC bb sb ob nb db fb (if dec = true \/ 0 < cmpQ x.n x.d st.n st.d then x else ⟨st.n, st.d, x.ok⟩) s dn dd (pfC s0 s1 s2 p.most p.budget s5)) -> N2 ⟨fb, 0, none⟩ ⟨db, 0, none⟩ ⟨nb, 0, none⟩ ⟨nb, 0, none⟩ ⟨ob, 0, none⟩ ⟨sb, 0, none⟩ i lot ⟨bb, 0, none⟩ t1 a1 a2 t2 a3 (a4 + 1) w') :
    Cp_bound_k3 ⟨fb, 0, none⟩ ⟨db, 0, none⟩ ⟨nb, 0, none⟩ ⟨nb, 0, none⟩ ⟨ob, 0, none⟩ ⟨sb, 0, none⟩ i lot ⟨bb, 0, none⟩ ⟨cb, 0, none⟩ dec t1 a1 a2 t2 a3 a4 N2 N1 K w := by
  refine ⟨?_⟩
  unfold Cp_bound_k3d
  have hb := net_bound hp hc
  have hprW := (hp.ch c hc).2.1
  have hbu := hp.budget
  have hnet : I64 (c.pts * (p.budget + 1) - c.price) := by have := hprW.1; have := hprW.2; exact ⟨by omega, by omega⟩
  have hpr : I64 (-c.price) := by have := hprW.1; have := hprW.2; exact ⟨by omega, by omega⟩
  have hone : I64 1 := ⟨by decide, by decide⟩
  have hxi : I64 x.n /\ I64 x.d := hx ▸ mulAdd_I64 _ _ _
  have fin : ∀ {w' xb}, Mem w0 w' ((xb, [.int .i64 (mulAdd ⟨c.pts * (p.budget + 1) - c.price, 1, st.ok⟩ (dn, dd) (-c.price, 1)).n, .int .i64 (mulAdd ⟨c.pts * (p.budget + 1) - c.price, 1, st.ok⟩ (dn, dd) (-c.price, 1)).d]) :: (cb, encC c) :: BC bb sb ob nb db fb ⟨st.n, st.d, (mulAdd ⟨c.pts * (p.budget + 1) - c.price, 1, st.ok⟩ (dn, dd) (-c.price, 1)).ok⟩ s dn dd (pfC s0 s1 s2 p.most p.budget s5)) ->
      Cp_bound_k4 ⟨fb, 0, none⟩ ⟨db, 0, none⟩ ⟨nb, 0, none⟩ ⟨nb, 0, none⟩ ⟨ob, 0, none⟩ ⟨sb, 0, none⟩ i lot ⟨bb, 0, none⟩ dec ⟨xb, 0, none⟩ t1 a1 a2 t2 a3 a4 N2 N1 K w' := by
    intro w' xb m'
    have e : mulAdd ⟨c.pts * (p.budget + 1) - c.price, 1, st.ok⟩ (dn, dd) (-c.price, 1) = x := hx.symm
    rw [e] at m'
    exact bound_k4 m' hi hxi hst hN
  intro w66; have m : Mem w0 w66 _ := m.drew; clear_value w66
  refine ⟨fun u => Rs u _, m.skip 4 0 rfl, ?_⟩
  refine ⟨_, fun _ h => h.ld 5 rfl rfl, ?_⟩
  refine ⟨_, fun _ h => h.ld 5 rfl rfl, ?_⟩
  refine ⟨_, fun _ h => h.ld 5 rfl rfl, ?_⟩
  refine ⟨_, fun _ h => h.ld 5 rfl rfl, ?_⟩
  refine ⟨_, fun _ h => h.ld 5 rfl rfl, ?_⟩
  refine ⟨_, fun _ h => h.ld 5 rfl rfl, ?_⟩
  refine ⟨_, fun _ h => h.ld 0 rfl rfl, ?_⟩
  refine ⟨_, fun _ h => h.ld 0 rfl rfl, ?_⟩
  refine ⟨_, fun _ h => h.ld 0 rfl rfl, ?_⟩
  refine ⟨_, fun _ h => h.ld 0 rfl rfl, ?_⟩
  refine ⟨_, fun _ h => h.ld 4 rfl rfl, ?_⟩
  refine ⟨_, fun _ h => h.ld 4 rfl rfl, ?_⟩
  refine ⟨_, fun _ h => h.ld 0 rfl rfl, ?_⟩
  refine ⟨inR64 (by have := hpr.1; omega) (by have := hpr.2; omega), ?_⟩
  refine ⟨?_, ?_⟩
  · refine net_spec hp hc fun w81 hf => ?_; have m := m.fr hf
    refine ⟨m.skip 4 0 rfl, ?_⟩
    refine ⟨?_, ?_⟩
    · refine Of_spec fun w83 hf => ?_; have m := m.fr hf
      refine ⟨m.skip 4 0 rfl, ?_⟩
      refine ⟨?_, ?_⟩
      · refine Of_spec fun w85 hf => ?_; have m := m.fr hf
        refine ⟨m.skip 4 0 rfl, ?_⟩
        refine ⟨?_, ?_⟩
        · refine bound1_spec m 4 rfl hnet hone hdn hdd hpr hone fun w87 m => ?_; simp only [List.set_cons_zero, List.set_cons_succ] at m
          refine ⟨m.skip 4 0 rfl, ?_⟩
          intro w89; have m : Mem w0 w89 _ := m.allocL; clear_value w89
          refine ⟨m.skip 5 1 rfl, ?_⟩
          refine ⟨m.wr 0 rfl rfl, ?_⟩
          intro w90; have m : Mem w0 w90 _ := m.set 0 rfl; clear_value w90; simp only [List.set_cons_zero] at m
          refine ⟨m.wr 0 rfl rfl, ?_⟩
          intro w91; have m : Mem w0 w91 _ := m.set 0 rfl; clear_value w91; simp only [List.set_cons_zero, List.set_cons_succ] at m
          exact fin m
        · intro w92; have m : Mem w0 w92 _ := m.allocL; clear_value w92
          refine ⟨m.skip 5 1 rfl, ?_⟩
          refine bound1_spec m 5 rfl hnet hone hdn hdd hpr hone fun w93 m => ?_; simp only [List.set_cons_zero, List.set_cons_succ] at m
          refine ⟨m.skip 5 1 rfl, ?_⟩
          refine ⟨m.wr 0 rfl rfl, ?_⟩
          intro w95; have m : Mem w0 w95 _ := m.set 0 rfl; clear_value w95; simp only [List.set_cons_zero] at m
          refine ⟨m.wr 0 rfl rfl, ?_⟩
          intro w96; have m : Mem w0 w96 _ := m.set 0 rfl; clear_value w96; simp only [List.set_cons_zero, List.set_cons_succ] at m
          exact fin m
      · intro w97; have m : Mem w0 w97 _ := m.allocL; clear_value w97
        refine ⟨m.skip 5 1 rfl, ?_⟩
        refine Of_spec fun w98 hf => ?_; have m := m.fr hf
        refine ⟨m.skip 5 1 rfl, ?_⟩
        refine bound1_spec m 5 rfl hnet hone hdn hdd hpr hone fun w100 m => ?_; simp only [List.set_cons_zero, List.set_cons_succ] at m
        refine ⟨m.skip 5 1 rfl, ?_⟩
        refine ⟨m.wr 0 rfl rfl, ?_⟩
        intro w102; have m : Mem w0 w102 _ := m.set 0 rfl; clear_value w102; simp only [List.set_cons_zero] at m
        refine ⟨m.wr 0 rfl rfl, ?_⟩
        intro w103; have m : Mem w0 w103 _ := m.set 0 rfl; clear_value w103; simp only [List.set_cons_zero, List.set_cons_succ] at m
        exact fin m
    · intro w104; have m : Mem w0 w104 _ := m.allocL; clear_value w104
      refine ⟨m.skip 5 1 rfl, ?_⟩
      refine Of_spec fun w105 hf => ?_; have m := m.fr hf
      refine ⟨m.skip 5 1 rfl, ?_⟩
      refine Of_spec fun w107 hf => ?_; have m := m.fr hf
      refine ⟨m.skip 5 1 rfl, ?_⟩
      refine bound1_spec m 5 rfl hnet hone hdn hdd hpr hone fun w109 m => ?_; simp only [List.set_cons_zero, List.set_cons_succ] at m
      refine ⟨m.skip 5 1 rfl, ?_⟩
      refine ⟨m.wr 0 rfl rfl, ?_⟩
      intro w111; have m : Mem w0 w111 _ := m.set 0 rfl; clear_value w111; simp only [List.set_cons_zero] at m
      refine ⟨m.wr 0 rfl rfl, ?_⟩
      intro w112; have m : Mem w0 w112 _ := m.set 0 rfl; clear_value w112; simp only [List.set_cons_zero, List.set_cons_succ] at m
      exact fin m
  · intro w113; have m : Mem w0 w113 _ := m.allocL; clear_value w113
    refine ⟨m.skip 5 1 rfl, ?_⟩
    refine net_spec hp hc fun w114 hf => ?_; have m := m.fr hf
    refine ⟨m.skip 5 1 rfl, ?_⟩
    refine Of_spec fun w116 hf => ?_; have m := m.fr hf
    refine ⟨m.skip 5 1 rfl, ?_⟩
    refine Of_spec fun w118 hf => ?_; have m := m.fr hf
    refine ⟨m.skip 5 1 rfl, ?_⟩
    refine bound1_spec m 5 rfl hnet hone hdn hdd hpr hone fun w120 m => ?_; simp only [List.set_cons_zero, List.set_cons_succ] at m
    refine ⟨m.skip 5 1 rfl, ?_⟩
    refine ⟨m.wr 0 rfl rfl, ?_⟩
    intro w122; have m : Mem w0 w122 _ := m.set 0 rfl; clear_value w122; simp only [List.set_cons_zero] at m
    refine ⟨m.wr 0 rfl rfl, ?_⟩
    intro w123; have m : Mem w0 w123 _ := m.set 0 rfl; clear_value w123; simp only [List.set_cons_zero, List.set_cons_succ] at m
    exact fin m

theorem bound_l2 {i : Nat} {lot : Int} {t1 : Sl} {a1 : Int} {N1 : Addr -> Addr -> Addr -> Addr -> Addr -> Addr -> Sl -> Int -> Int -> World -> Prop} {K : Int -> Bool -> World -> Prop}
    (hp : RightPr p) (h : PF w0 s0 s1 s2 s5 p f) (hdn : I64 dn) (hdd : I64 dd) (hi : (i : Int) < 2 ^ 60) (hs : I64 s.n /\ I64 s.d)
    (m : Mem w0 w (BC bb sb ob nb db fb ⟨0, 1, s.ok⟩ s dn dd (pfC s0 s1 s2 p.most p.budget s5)))
    (hN : ∀ w', Mem w0 w' (BL sb ob nb db fb (lstep p f (dn, dd) i lot s) dn dd (pfC s0 s1 s2 p.most p.budget s5)) -> N1 ⟨fb, 0, none⟩ ⟨db, 0, none⟩ ⟨nb, 0, none⟩ ⟨nb, 0, none⟩ ⟨ob, 0, none⟩ ⟨sb, 0, none⟩ t1 a1 ((i : Int) + 1) w') :
    Cp_bound_l2 ⟨fb, 0, none⟩ ⟨db, 0, none⟩ ⟨nb, 0, none⟩ ⟨nb, 0, none⟩ ⟨ob, 0, none⟩ ⟨sb, 0, none⟩ i lot ⟨bb, 0, none⟩ t1 a1 i s1 (s1.l : Int) 0 N1 K w := by
  have l1 := h.pv.l1; have l5 := h.lt
  have e1 := h.pv.ch.len; have e5 := h.tk.len
  have hzero : I64 0 := ⟨by decide, by decide⟩
  have hone : I64 1 := ⟨by decide, by decide⟩
  refine ⟨⟨fun j w' => ∃ (j' : Nat) (st : RR), j = j' /\ j' <= p.ch.length /\ (I64 st.n /\ I64 st.d) /\ bfold p f (dn, dd) i lot j' (p.ch.drop j') st = bfold p f (dn, dd) i lot 0 p.ch ⟨0, 1, s.ok⟩ /\ Mem w0 w' (BC bb sb ob nb db fb st s dn dd (pfC s0 s1 s2 p.most p.budget s5)), fun j _ => p.ch.length - j.toNat,
    ⟨0, ⟨0, 1, s.ok⟩, rfl, by omega, ⟨hzero, hone⟩, by simp, m⟩, ?_⟩⟩
  rintro j w2 ⟨j, st, rfl, hj, hst, he, m⟩
  unfold Cp_bound_b2
  rw [cnd_prop]
  refine ⟨fun hlt => ?_, fun hge => ?_⟩
  · have hlt : j < p.ch.length := by omega
    have hcm := List.getElem_mem hlt
    rw [List.drop_eq_getElem_cons hlt, bfold] at he
    refine VC.ld (h.fr m.1).pv.ch j rfl hlt fun a hc => ?_
    obtain ⟨c0, c1, c2, c3⟩ := hc w2 Fr.refl
    refine ⟨_, c0, _, c1, _, c2, _, c3, ?_⟩
    refine stN_new rfl m fun w3 m3 => ?_
    have m3 : Mem w0 w3 ((w2.heap.size, encC p.ch[j]) :: BC bb sb ob nb db fb st s dn dd (pfC s0 s1 s2 p.most p.budget s5)) := m3
    refine ⟨s5, m3.ld 6 rfl rfl, _, m3.ld 0 rfl rfl, ?_⟩
    have hnext : ∀ {w4 : World} {st' : RR}, bstep p f (dn, dd) i lot st j p.ch[j] = st' -> Mem w0 w4 (BC bb sb ob nb db fb st' s dn dd (pfC s0 s1 s2 p.most p.budget s5)) -> ((((⟨fb, 0, none⟩ : Addr) = ⟨fb, 0, none⟩ /\ (⟨db, 0, none⟩ : Addr) = ⟨db, 0, none⟩ /\ (⟨nb, 0, none⟩ : Addr) = ⟨nb, 0, none⟩ /\ (⟨nb, 0, none⟩ : Addr) = ⟨nb, 0, none⟩ /\ (⟨ob, 0, none⟩ : Addr) = ⟨ob, 0, none⟩ /\ (⟨sb, 0, none⟩ : Addr) = ⟨sb, 0, none⟩ /\ (i : Int) = i /\ lot = lot /\ (⟨bb, 0, none⟩ : Addr) = ⟨bb, 0, none⟩ /\ t1 = t1 /\ a1 = a1 /\ (i : Int) = i /\ s1 = s1 /\ (s1.l : Int) = s1.l /\ True) /\
        ∃ (j' : Nat) (st : RR), (j : Int) + 1 = j' /\ j' <= p.ch.length /\ (I64 st.n /\ I64 st.d) /\ bfold p f (dn, dd) i lot j' (p.ch.drop j') st = bfold p f (dn, dd) i lot 0 p.ch ⟨0, 1, s.ok⟩ /\ Mem w0 w4 (BC bb sb ob nb db fb st s dn dd (pfC s0 s1 s2 p.most p.budget s5))) /\ p.ch.length - ((j : Int) + 1).toNat < p.ch.length - (j : Int).toNat) :=
      fun {w4 st'} hb m4 => ⟨⟨⟨rfl, rfl, rfl, rfl, rfl, rfl, rfl, rfl, rfl, rfl, rfl, rfl, rfl, rfl, trivial⟩, j + 1, st', by omega, by omega, hb ▸ bstep_I64 hst, by rw [← hb]; exact he, m4⟩, by omega⟩
    rw [cnd_bne]
    refine ⟨fun hne => ?_, fun hlot => ?_⟩
    · refine ⟨inR64 (by omega) (by omega), hnext ?_ (m3.dr 1 rfl)⟩
      unfold bstep
      rw [if_pos (.inl hne)]
    rw [cnd_prop]
    have hstep : ∀ {dec : Bool}, dec = decide (i < f.length) -> ¬ (i < f.length /\ f.getD i 0 ≠ (j : Int)) -> bstep p f (dn, dd) i lot st j p.ch[j] = if dec = true \/ 0 < cmpQ (mulAdd ⟨netOf p p.ch[j], 1, st.ok⟩ (dn, dd) (-p.ch[j].price, 1)).n (mulAdd ⟨netOf p p.ch[j], 1, st.ok⟩ (dn, dd) (-p.ch[j].price, 1)).d st.n st.d then mulAdd ⟨netOf p p.ch[j], 1, st.ok⟩ (dn, dd) (-p.ch[j].price, 1) else ⟨st.n, st.d, (mulAdd ⟨netOf p p.ch[j], 1, st.ok⟩ (dn, dd) (-p.ch[j].price, 1)).ok⟩ := fun {dec} hdec hnd => by
      unfold bstep
      rw [if_neg (by rintro (h | h); exact h hlot; exact hnd h)]
      subst hdec
      simp only [decide_eq_true_eq]
    refine ⟨fun hdec => ?_, fun hdec => ?_⟩
    · have hil : i < f.length := by omega
      refine ⟨s5, m3.ld 6 rfl rfl, ?_⟩
      refine VI.ld (h.fr m3.1).tk i rfl hil ?_
      have hg : f.getD i 0 = f[i] := by simp [hil]
      rw [cnd_bne]
      refine ⟨fun hne => ⟨inR64 (by omega) (by omega), hnext ?_ (m3.dr 1 rfl)⟩, fun heq => bound_k3 hp hcm hdn hdd hst m3 (by omega) rfl fun w4 m4 => hnext (hstep (decide_eq_decide.2 (by omega)) (by rw [hg]; exact fun h => h.2 heq)) m4⟩
      unfold bstep
      rw [if_pos (.inr ⟨hil, by rw [hg]; exact hne⟩)]
    · exact bound_k3 hp hcm hdn hdd hst m3 (by omega) rfl fun w4 m4 => hnext (hstep (decide_eq_decide.2 (by omega)) (fun h => hdec (by omega))) m4
  · have : j = p.ch.length := by omega
    subst this
    rw [List.drop_of_length_le (Nat.le_refl _), bfold] at he
    refine ⟨_, m.ld 1 rfl rfl, _, m.ld 1 rfl rfl, _, m.ld 2 rfl rfl, _, m.ld 2 rfl rfl, _, m.ld 0 rfl rfl, _, m.ld 0 rfl rfl, ?_⟩
    refine bound1_spec m 3 rfl hs.1 hs.2 hone hone hst.1 hst.2 fun w3 m => ?_
    simp only [List.set_cons_zero, List.set_cons_succ] at m
    have hls : lstep p f (dn, dd) i lot s = mulAdd ⟨s.n, s.d, st.ok⟩ (1, 1) (st.n, st.d) := by unfold lstep; rw [← he]
    rw [← hls] at m ⊢
    refine ⟨m.wr 1 rfl rfl, ?_⟩
    intro w4
    have m : Mem w0 w4 _ := m.set 1 rfl
    clear_value w4
    simp only [List.set_cons_zero, List.set_cons_succ] at m
    refine ⟨m.wr 1 rfl rfl, ?_⟩
    intro w5
    have m : Mem w0 w5 _ := m.set 1 rfl
    clear_value w5
    simp only [List.set_cons_zero, List.set_cons_succ] at m
    exact ⟨inR64 (by omega) (by omega), hN w5 (m.dr 1 rfl)⟩

theorem bound_k0 {K : Int -> Bool -> World -> Prop} (hp : RightPr p) (h : PF w0 s0 s1 s2 s5 p f)
    (m : Mem w0 w (BL sb ob nb db fb (bfirst p (dn, dd)) dn dd (pfC s0 s1 s2 p.most p.budget s5))) (hd : Decs p p.lots f) (hdn : I64 dn) (hdd : I64 dd)
    (hK : ∀ w', Fr F0 w0 w' -> K (floorQ (boundQ p f (dn, dd)).n (boundQ p f (dn, dd)).d) (boundQ p f (dn, dd)).ok w') :
    Cp_bound_k0 ⟨fb, 0, none⟩ ⟨db, 0, none⟩ ⟨nb, 0, none⟩ ⟨nb, 0, none⟩ ⟨ob, 0, none⟩ ⟨sb, 0, none⟩ K w := by
  refine ⟨?_⟩
  unfold Cp_bound_k0d
  have l0 := h.pv.l0
  have e0 := h.pv.lots.len
  have hone : I64 1 := ⟨by decide, by decide⟩
  refine ⟨s0, m.ld 4 rfl rfl, ⟨⟨fun j w' => ∃ (j' : Nat) (s : RR), j = j' /\ j' <= p.lots.length /\ (I64 s.n /\ I64 s.d) /\ lfold p f (dn, dd) j' (p.lots.drop j') s = lfold p f (dn, dd) 0 p.lots (bfirst p (dn, dd)) /\ Mem w0 w' (BL sb ob nb db fb s dn dd (pfC s0 s1 s2 p.most p.budget s5)), fun j _ => p.lots.length - j.toNat,
    ⟨0, bfirst p (dn, dd), rfl, by omega, mulAdd_I64 _ _ _, by simp, m⟩, ?_⟩⟩⟩
  rintro j w2 ⟨j, s, rfl, hj, hs, he, m⟩
  unfold Cp_bound_b1
  rw [cnd_prop]
  refine ⟨fun hlt => ?_, fun hge => ?_⟩
  · have hlt : j < p.lots.length := by omega
    rw [List.drop_eq_getElem_cons hlt, lfold] at he
    refine VI.ld (h.fr m.1).pv.lots j rfl hlt ?_
    refine Of_spec fun w3 hf => ?_
    have m := m.fr hf
    intro w4
    have m : Mem w0 w4 _ := m.allocL
    clear_value w4
    refine ⟨m.wr 0 rfl rfl, ?_⟩
    intro w5
    have m : Mem w0 w5 _ := m.set 0 rfl
    clear_value w5
    simp only [List.set_cons_zero] at m
    refine ⟨m.wr 0 rfl rfl, ?_⟩
    intro w6
    have m : Mem w0 w6 _ := m.set 0 rfl
    clear_value w6
    simp only [List.set_cons_zero, List.set_cons_succ] at m
    refine ⟨s1, m.ld 5 rfl rfl, ?_⟩
    exact bound_l2 hp h hdn hdd (by omega) hs m fun w7 m7 => ⟨⟨⟨rfl, rfl, rfl, rfl, rfl, rfl, rfl, rfl, trivial⟩, j + 1, _, by omega, by omega, mulAdd_I64 _ _ _, he, m7⟩, by dsimp only; omega⟩
  · have : j = p.lots.length := by omega
    subst this
    rw [List.drop_of_length_le (Nat.le_refl _), lfold] at he
    refine ⟨_, m.ld 1 rfl rfl, _, m.ld 1 rfl rfl, _, m.ld 1 rfl rfl, _, m.ld 1 rfl rfl, _, m.ld 3 rfl rfl, _, m.ld 3 rfl rfl, ?_⟩
    refine bound1_spec m 2 rfl hone hone hone hone hdn hdd fun w3 m => ?_
    simp only [List.set_cons_zero, List.set_cons_succ] at m
    have hmi := mulAdd_I64 ⟨1, 1, s.ok⟩ (1, 1) (dn, dd)
    have hmo : mulAdd ⟨1, 1, s.ok⟩ (1, 1) (dn, dd) = bmore (dn, dd) s.ok := rfl
    rw [hmo] at m hmi ⊢
    generalize hmr : bmore (dn, dd) s.ok = mr at *
    intro w4
    have m : Mem w0 w4 _ := m.allocL
    clear_value w4
    refine ⟨m.wr 0 rfl rfl, ?_⟩
    intro w5
    have m : Mem w0 w5 _ := m.set 0 rfl
    clear_value w5
    simp only [List.set_cons_zero] at m
    refine ⟨m.wr 0 rfl rfl, ?_⟩
    intro w6
    have m : Mem w0 w6 _ := m.set 0 rfl
    clear_value w6
    simp only [List.set_cons_zero, List.set_cons_succ] at m
    intro w7
    have m : Mem w0 w7 _ := m.drew
    clear_value w7
    refine ⟨fun u => Rs u _, m.skip 3 0 rfl, _, fun _ h => h.ld 1 rfl rfl, _, fun _ h => h.ld 1 rfl rfl, _, fun _ h => h.ld 0 rfl rfl, _, fun _ h => h.ld 0 rfl rfl, _, fun _ h => h.ld 4 rfl rfl, _, fun _ h => h.ld 4 rfl rfl, _, fun _ h => h.ld 4 rfl rfl, _, fun _ h => h.ld 4 rfl rfl, _, fun _ h => h.ld 4 rfl rfl, _, fun _ h => h.ld 4 rfl rfl, ?_⟩
    refine offs_spec hp (h.fr m.1) hd fun w8 hf => ?_
    have m := m.fr hf
    refine ⟨m.skip 3 0 rfl, Of_spec fun w9 hf => ?_⟩
    have m := m.fr hf
    have ho : 0 <= offs p f /\ offs p f <= 100000000000 := offs_bound (f := f) hp (List.prefix_refl p.de)
    refine ⟨m.skip 3 0 rfl, bound1_spec m 3 rfl hs.1 hs.2 hmi.1 hmi.2 ⟨by omega, by omega⟩ hone fun w10 m => ?_⟩
    simp only [List.set_cons_zero, List.set_cons_succ] at m
    have hbq : boundQ p f (dn, dd) = mulAdd ⟨s.n, s.d, mr.ok⟩ (mr.n, mr.d) (offs p f, 1) := by
      unfold boundQ blast
      rw [← he, hmr]
    rw [← hbq] at m ⊢
    have hbi : I64 (boundQ p f (dn, dd)).n /\ I64 (boundQ p f (dn, dd)).d := mulAdd_I64 _ _ _
    refine ⟨m.skip 3 0 rfl, m.wr 1 rfl rfl, ?_⟩
    intro w11
    have m : Mem w0 w11 _ := m.set 1 rfl
    clear_value w11
    simp only [List.set_cons_zero, List.set_cons_succ] at m
    refine ⟨m.wr 1 rfl rfl, ?_⟩
    intro w12
    have m : Mem w0 w12 _ := m.set 1 rfl
    clear_value w12
    simp only [List.set_cons_zero, List.set_cons_succ] at m
    intro w13
    have m : Mem w0 w13 _ := m.drew
    clear_value w13
    refine ⟨fun u => Rs u _, m.sub 0 rfl, _, fun _ h => h.ld 1 rfl rfl, _, fun _ h => h.ld 1 rfl rfl, _, fun _ h => h.ld 3 rfl rfl, Floor_spec hbi.1 hbi.2 fun w14 hf => ?_⟩
    have m := m.fr hf
    exact ⟨m.sub 0 rfl, hK w14 m.1⟩

theorem bound_spec {K : Int -> Bool -> World -> Prop} (hp : RightPr p) (h : PF w s0 s1 s2 s5 p f) (hd : Decs p p.lots f) (hdn : I64 dn) (hdd : I64 dd)
    (hK : ∀ w', Fr F0 w w' -> K (floorQ (boundQ p f (dn, dd)).n (boundQ p f (dn, dd)).d) (boundQ p f (dn, dd)).ok w') : Cp_bound_sh s0 s1 s2 p.most p.budget s5 dn dd K w := by
  refine ⟨?_⟩
  unfold Cp_bound_sd
  have hone : I64 1 := ⟨by decide, by decide⟩
  have hzero : I64 0 := ⟨by decide, by decide⟩
  have hbud : I64 p.budget := by have := hp.budget; exact ⟨by have := this.1; omega, by have := this.2; omega⟩
  have m : Mem w w [] := Mem.nil
  intro w1; have m : Mem w w1 _ := m.allocL; clear_value w1
  intro w2; have m : Mem w w2 _ := m.allocL; clear_value w2
  intro w3; have m : Mem w w3 _ := m.allocL; clear_value w3
  refine ⟨m.wr 0 rfl rfl, ?_⟩
  intro w4; have m : Mem w w4 _ := m.set 0 rfl; clear_value w4; simp only [List.set_cons_zero] at m
  refine Of_spec fun w5 hf => ?_; have m := m.fr hf
  intro w7; have m : Mem w w7 _ := m.allocL; clear_value w7
  refine ⟨m.wr 0 rfl rfl, ?_⟩
  intro w8; have m : Mem w w8 _ := m.set 0 rfl; clear_value w8; simp only [List.set_cons_zero] at m
  refine ⟨m.wr 0 rfl rfl, ?_⟩
  intro w9; have m : Mem w w9 _ := m.set 0 rfl; clear_value w9; simp only [List.set_cons_zero, List.set_cons_succ] at m
  intro w10; have m : Mem w w10 _ := m.drew; clear_value w10
  refine ⟨fun u => Rs u _, m.skip 1 0 rfl, ?_⟩
  refine ⟨_, fun _ h => h.ld 1 rfl rfl, ?_⟩
  refine ⟨_, fun _ h => h.ld 1 rfl rfl, ?_⟩
  refine ⟨_, fun _ h => h.ld 2 rfl rfl, ?_⟩
  refine ⟨?_, ?_⟩
  · refine Of_spec fun w15 hf => ?_; have m := m.fr hf
    refine ⟨m.skip 1 0 rfl, ?_⟩
    refine ⟨?_, ?_⟩
    · refine Of_spec fun w17 hf => ?_; have m := m.fr hf
      refine ⟨m.skip 1 0 rfl, ?_⟩
      refine ⟨?_, ?_⟩
      · refine bound1_spec m 1 rfl hzero hone hdn hdd hbud hone fun w19 m => ?_; simp only [List.set_cons_zero, List.set_cons_succ] at m
        refine ⟨m.skip 1 0 rfl, ?_⟩
        intro w21; have m : Mem w w21 _ := m.allocL; clear_value w21
        refine ⟨m.skip 2 1 rfl, ?_⟩
        refine ⟨m.wr 0 rfl rfl, ?_⟩
        intro w22; have m : Mem w w22 _ := m.set 0 rfl; clear_value w22; simp only [List.set_cons_zero] at m
        refine ⟨m.wr 0 rfl rfl, ?_⟩
        intro w23; have m : Mem w w23 _ := m.set 0 rfl; clear_value w23; simp only [List.set_cons_zero, List.set_cons_succ] at m
        exact bound_k0 hp h m hd hdn hdd hK
      · intro w24; have m : Mem w w24 _ := m.allocL; clear_value w24
        refine ⟨m.skip 2 1 rfl, ?_⟩
        refine bound1_spec m 2 rfl hzero hone hdn hdd hbud hone fun w25 m => ?_; simp only [List.set_cons_zero, List.set_cons_succ] at m
        refine ⟨m.skip 2 1 rfl, ?_⟩
        refine ⟨m.wr 0 rfl rfl, ?_⟩
        intro w27; have m : Mem w w27 _ := m.set 0 rfl; clear_value w27; simp only [List.set_cons_zero] at m
        refine ⟨m.wr 0 rfl rfl, ?_⟩
        intro w28; have m : Mem w w28 _ := m.set 0 rfl; clear_value w28; simp only [List.set_cons_zero, List.set_cons_succ] at m
        exact bound_k0 hp h m hd hdn hdd hK
    · intro w29; have m : Mem w w29 _ := m.allocL; clear_value w29
      refine ⟨m.skip 2 1 rfl, ?_⟩
      refine Of_spec fun w30 hf => ?_; have m := m.fr hf
      refine ⟨m.skip 2 1 rfl, ?_⟩
      refine bound1_spec m 2 rfl hzero hone hdn hdd hbud hone fun w32 m => ?_; simp only [List.set_cons_zero, List.set_cons_succ] at m
      refine ⟨m.skip 2 1 rfl, ?_⟩
      refine ⟨m.wr 0 rfl rfl, ?_⟩
      intro w34; have m : Mem w w34 _ := m.set 0 rfl; clear_value w34; simp only [List.set_cons_zero] at m
      refine ⟨m.wr 0 rfl rfl, ?_⟩
      intro w35; have m : Mem w w35 _ := m.set 0 rfl; clear_value w35; simp only [List.set_cons_zero, List.set_cons_succ] at m
      exact bound_k0 hp h m hd hdn hdd hK
  · intro w36; have m : Mem w w36 _ := m.allocL; clear_value w36
    refine ⟨m.skip 2 1 rfl, ?_⟩
    refine Of_spec fun w37 hf => ?_; have m := m.fr hf
    refine ⟨m.skip 2 1 rfl, ?_⟩
    refine Of_spec fun w39 hf => ?_; have m := m.fr hf
    refine ⟨m.skip 2 1 rfl, ?_⟩
    refine bound1_spec m 2 rfl hzero hone hdn hdd hbud hone fun w41 m => ?_; simp only [List.set_cons_zero, List.set_cons_succ] at m
    refine ⟨m.skip 2 1 rfl, ?_⟩
    refine ⟨m.wr 0 rfl rfl, ?_⟩
    intro w43; have m : Mem w w43 _ := m.set 0 rfl; clear_value w43; simp only [List.set_cons_zero] at m
    refine ⟨m.wr 0 rfl rfl, ?_⟩
    intro w44; have m : Mem w w44 _ := m.set 0 rfl; clear_value w44; simp only [List.set_cons_zero, List.set_cons_succ] at m
    exact bound_k0 hp h m hd hdn hdd hK

end
end Go.Proofs.Ytmkjcheafdionaa
