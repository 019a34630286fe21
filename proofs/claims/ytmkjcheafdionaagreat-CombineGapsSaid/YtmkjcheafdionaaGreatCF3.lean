/- The reference's options, best and Best: what trying all takes answers. Conditions: none. -/
import Derived.Test.YtmkjcheafdionaaGreatCF2
namespace Go.Proofs.YtmkjcheafdionaaGreat
open Go Pw
def bF (p : Pr) : List Int -> List Int -> List Int -> List Int
 | f, [], kn => if betterR p f kn then f else kn
 | f, lot :: ls, kn => (opts p lot).foldl (fun kn o => bF p (f ++ [o]) ls kn) kn
structure BestOf (p : Pr) (S : List Int -> Prop) (kn R : List Int) : Prop where
 one : R = kn \/ (Perm p R /\ S R)
 all : ∀ t, S t -> Perm p t -> Perm p R /\ ¬ Bt p t R
 old : Perm p kn -> Perm p R /\ ¬ Bt p kn R
theorem bt_le {p : Pr} {a b c : List Int} (hb : Perm p b) (h1 : ¬ Bt p a b) (h2 : ¬ Bt p b c) (hc : Perm p c) : ¬ Bt p a c := fun h => by
 by_cases e : b = c
 ·exact h1 (e ▸ h)
 ·rcases Bt.total (p := p) (show b.length = c.length by rw [hb.1, hc.1]) e with q | q
  ·exact h2 q
  ·exact h1 (h.trans q)
theorem BestOf.comp {p : Pr} {S1 S2 : List Int -> Prop} {kn R1 R2 : List Int} (h1 : BestOf p S1 kn R1) (h2 : BestOf p S2 R1 R2) : BestOf p (fun t => S1 t \/ S2 t) kn R2 := by
 refine ⟨?_, fun t ht hp => ?_, fun hp => ?_⟩
 ·rcases h2.one with e | ⟨q, s⟩
  ·rcases h1.one with e1 | ⟨q, s⟩
   ·exact .inl (e.trans e1)
   ·exact .inr ⟨e ▸ q, .inl (e ▸ s)⟩
  ·exact .inr ⟨q, .inr s⟩
 ·rcases ht with ht | ht
  ·obtain ⟨q1, q2⟩ := h1.all t ht hp
   obtain ⟨q3, q4⟩ := h2.old q1
   exact ⟨q3, bt_le q1 q2 q4 q3⟩
  ·exact h2.all t ht hp
 ·obtain ⟨q1, q2⟩ := h1.old hp
  obtain ⟨q3, q4⟩ := h2.old q1
  exact ⟨q3, bt_le q1 q2 q4 q3⟩
theorem bF_ok {p : Pr} (hp : RightPr p) : ∀ (ls f kn : List Int), BestOf p (fun t => ∃ r, t = f ++ r /\ r.length = ls.length /\ Decs p ls r) kn (bF p f ls kn)
 | [], f, kn => by
  unfold bF
  cases hb : betterR p f kn with
  | true =>
   unfold betterR at hb
   rw [Bool.and_eq_true, Bool.and_eq_true] at hb
   obtain ⟨_, ha, hb⟩ := hb
   have hpa := permB_iff.1 ha
   rw [if_pos rfl]
   refine ⟨.inr ⟨hpa, [], by simp, rfl, trivial⟩, ?_, fun hk => ⟨hpa, ?_⟩⟩
   ·rintro t ⟨r, rfl, hr, _⟩ _
    obtain rfl := List.length_eq_zero_iff.1 hr
    rw [List.append_nil]
    exact ⟨hpa, Bt.irrefl⟩
   ·rw [permB_iff.2 hk, Bool.not_true, Bool.false_or] at hb
    exact (btB_iff.1 hb).asymm
  | false =>
   rw [if_neg (by decide)]
   refine ⟨.inl rfl, ?_, fun hk => ⟨hk, Bt.irrefl⟩⟩
   rintro t ⟨r, rfl, hr, _⟩ hpt
   obtain rfl := List.length_eq_zero_iff.1 hr
   rw [List.append_nil] at hpt ⊢
   unfold betterR at hb
   rw [rightB_iff.2 hp, permB_iff.2 hpt, Bool.true_and, Bool.true_and, Bool.or_eq_false_iff] at hb
   obtain ⟨h1, h2⟩ := hb
   refine ⟨permB_iff.1 (by simpa using h1), fun h => ?_⟩
   rw [btB_iff.2 h] at h2
   cases h2
 | lot :: ls, f, kn => by
  unfold bF
  have key : ∀ (os : List Int) (kn : List Int), BestOf p (fun t => ∃ o ∈ os, ∃ r, t = f ++ [o] ++ r /\ r.length = ls.length /\ Decs p ls r) kn (os.foldl (fun kn o => bF p (f ++ [o]) ls kn) kn) := by
   intro os
   induction os with
   | nil => exact fun kn => ⟨.inl rfl, fun t ⟨o, ho, _⟩ => (by cases ho), fun hk => ⟨hk, Bt.irrefl⟩⟩
   | cons o os ih =>
    intro kn
    have h := (bF_ok hp ls (f ++ [o]) kn).comp (ih (bF p (f ++ [o]) ls kn))
    refine ⟨?_, fun t ht => ?_, h.old⟩
    ·rcases h.one with e | ⟨q, s⟩
     ·exact .inl e
     ·refine .inr ⟨q, ?_⟩
      rcases s with ⟨r, s⟩ | ⟨o', ho, s⟩
      ·exact ⟨o, List.mem_cons_self .., r, s⟩
      ·exact ⟨o', List.mem_cons_of_mem _ ho, s⟩
    ·obtain ⟨o', ho, r, s⟩ := ht
     rcases List.mem_cons.1 ho with rfl | ho
     ·exact h.all t (.inl ⟨r, s⟩)
     ·exact h.all t (.inr ⟨o', ho, r, s⟩)
  have h := key (opts p lot) kn
  refine ⟨?_, ?_, h.old⟩
  ·rcases h.one with e | ⟨q, o, ho, r, s1, s2, s3⟩
   ·exact .inl e
   ·exact .inr ⟨q, o :: r, by rw [s1]; simp, by simp [s2], opts_mem.1 ho, s3⟩
  ·rintro t ⟨r, rfl, hr, hd⟩ hpt
   cases r with
   | nil => simp at hr
   | cons o r => exact h.all _ ⟨o, opts_mem.2 hd.1, r, by simp, by simpa using hr, hd.2⟩ hpt
theorem bF_best {p : Pr} (hp : RightPr p) : IsBest p (bF p [] p.lots []) := by
 have h := bF_ok hp p.lots [] []
 have hs : ∀ t, Perm p t -> (∃ r, t = [] ++ r /\ r.length = p.lots.length /\ Decs p p.lots r) := fun t ht => ⟨t, by simp, ht.1, ht.2.1⟩
 have h0 := perm_none hp
 exact ⟨(h.all _ (hs _ h0) h0).1, fun u hu => (h.all u (hs u hu) hu).2⟩
theorem optsFrom_app {lot : Int} {c : Ch} : ∀ (l : List Ch) (i : Nat), optsFrom lot i (l ++ [c]) = optsFrom lot i l ++ (if c.lot = lot then [((i + l.length : Nat) : Int)] else [])
 | [], i => by simp [optsFrom]
 | d :: l, i => by
  rw [List.cons_append, optsFrom, optsFrom, optsFrom_app l (i + 1)]
  have e : i + 1 + l.length = i + (d :: l).length := by simp; omega
  rw [e]
  split <;> simp
section
variable {w wB : World} {s t s0 s1 s2 s5 t5 : Sl} {a b l f g : List Int} {p : Pr} {pb : Nat}
theorem refoptions_mk {k : Nat} {K : Sl -> World -> Prop} (h : PV w s0 s1 s2 p) (hk : k < p.lots.length) (hK : ∀ w' s, Mk w 1 (ie .i64 (id : Int -> Int)) w' s (opts p p.lots[k]) -> K s w') : z12_sh s0 s1 s2 p.most p.budget k K w := by
 have e0 := h.lots.len
 have e1 := h.ch.len
 have hl1 := h.l1
 have hl0 := h.l0
 refine ⟨?_⟩
 unfold z12_sd
 intro w1
 have m : Mem w w1 _ := Mem.nil.allocL (cs := prC s0 s1 s2 p.most p.budget)
 clear_value w1
 intro w2
 have h2 : Sp w w2 _ _ _ _ _ _ _ := Sp.one (α := Int) (n := 1) (enc := ie .i64 (id : Int -> Int)) (a := -1) (fun a => ie_length _ _ a) m
 clear_value w2
 refine ⟨⟨fun out i w' => ∃ i' : Nat, i = i' /\ i' <= p.ch.length /\ Sp w w' [(w.heap.size, prC s0 s1 s2 p.most p.budget)] (fun _ => False) (fun _ => True) 1 (ie .i64 (id : Int -> Int)) out (-1 :: optsFrom p.lots[k] 0 (p.ch.take i')), fun _ i _ => p.ch.length - i.toNat, ⟨0, rfl, by omega, h2⟩, ?_⟩⟩
 rintro out i w3 ⟨i, rfl, hi, h3⟩
 unfold z12_b0
 refine ⟨s1, h3.ld 0 rfl rfl, ?_⟩
 rw [cnd_prop]
 refine ⟨fun hlt => ?_, fun hge => ?_⟩
 ·have hic : i < p.ch.length := by omega
  have hts := take_succ' hic
  have hlen : (optsFrom p.lots[k] 0 (p.ch.take i)).length <= i := by
   rw [optsFrom_len]
   have := List.countP_le_length (p := fun c : Ch => c.lot == p.lots[k]) (l := p.ch.take i)
   simp at this
   omega
  have hap : -1 :: optsFrom p.lots[k] 0 (p.ch.take (i + 1)) = (-1 :: optsFrom p.lots[k] 0 (p.ch.take i)) ++ (if p.ch[i].lot = p.lots[k] then [(i : Int)] else []) := by
   rw [hts, optsFrom_app]
   simp only [List.length_take, List.cons_append]
   rw [show 0 + min i p.ch.length = i by omega]
  intro w4
  have h4 : Sp w w4 _ _ _ _ _ _ _ := h3.drew
  clear_value w4
  have hp4 := h.fr h4.m.1
  refine ⟨s1, h4.ld 0 rfl rfl, VC.ld hp4.ch i rfl hic fun x hc => ?_⟩
  obtain ⟨c0, _, _, _⟩ := hc w4 Fr.refl
  refine ⟨_, c0, s0, h4.ld 0 rfl rfl, VI.ld hp4.lots k rfl hk ?_⟩
  rw [cnd_beq]
  refine ⟨fun he => ?_, fun hne => ?_⟩
  ·rw [if_pos he] at hap
   intro w5
   refine h4.push (a := (i : Int)) rfl rfl (ie_ok _ _) rfl (by simp; omega) (by simp; omega) fun r w6 h6 => ?_
   rw [← hap] at h6
   exact ⟨inR64 (by omega) (by omega), ⟨⟨rfl, rfl, trivial⟩, i + 1, by omega, by omega, h6⟩, by dsimp only; omega⟩
  ·rw [if_neg hne, List.append_nil] at hap
   rw [← hap] at h4
   exact ⟨inR64 (by omega) (by omega), ⟨⟨rfl, rfl, trivial⟩, i + 1, by omega, by omega, h4⟩, by dsimp only; omega⟩
 ·have : i = p.ch.length := by omega
  subst this
  rw [List.take_length] at h3
  exact hK w3 out ⟨h3.m.1, h3.ow, fun b hb => (h3.os b hb).1⟩
theorem refoptions_spec {k : Nat} {K : Sl -> World -> Prop} (h : PV w s0 s1 s2 p) (hk : k < p.lots.length) (hK : ∀ w' s, Fr F0 w w' -> VI w' s (opts p p.lots[k]) -> K s w') : z12_sh s0 s1 s2 p.most p.budget k K w :=
 refoptions_mk h hk fun w' s hm => hK w' s hm.fr0 hm.vw
theorem best_spec (hp : RightPr p) (hP0 : PV wB s0 s1 s2 p) : ∀ (ls ds f kn : List Int) (w : World) (s5 t5 : Sl) (K : Sl -> World -> Prop), Fr F0 wB w -> p.lots = ds ++ ls -> f.length = ds.length -> VI w s5 f -> VI w t5 kn -> kn.length <= 12 ->
  (∀ w' s, Fr F0 w w' -> VI w' s (bF p f ls kn) -> K s w') -> z26_sh s0 s1 s2 p.most p.budget s5 t5 K w := by
 intro ls
 induction ls with
 | nil =>
  intro ds f kn w s5 t5 K hB hl hfl hv hkn hkl hK
  have hP := hP0.fr hB
  have hds : p.lots.length = f.length := by rw [hl, hfl]; simp
  have e0 := hP.lots.len
  have e5 := hv.len
  have hfew := hp.few
  apply z26_mk
  unfold z26_sd
  intro w1
  have m : Mem w w1 _ := Mem.nil.allocL (cs := prC s0 s1 s2 p.most p.budget)
  clear_value w1
  refine ⟨s0, m.ld 0 rfl rfl, ?_⟩
  rw [cnd_beq]
  refine ⟨fun _ => ⟨s0, m.ld 0 rfl rfl, s1, m.ld 0 rfl rfl, s2, m.ld 0 rfl rfl, _, m.ld 0 rfl rfl, _, m.ld 0 rfl rfl, ?_⟩, fun h => absurd (show (s5.l : Int) = (s0.l : Int) by omega) h⟩
  refine refBetter_spec (a := f) (b := kn) ⟨hP.fr m.1, hv.fr m.1, by omega⟩ ⟨hP.fr m.1, hkn.fr m.1, by omega⟩ fun w8 hf => ?_
  have m := m.fr hf
  unfold bF at hK
  refine cnd_iff.2 ⟨fun hb => ?_, fun hb => ?_⟩
  ·rw [if_pos hb] at hK
   intro w10
   have h : Sp w w10 _ _ _ _ _ _ _ := Sp.empty (α := Int) (n := 1) (enc := ie .i64 (id : Int -> Int)) (fun a => ie_length _ _ a) m
   clear_value w10
   refine h.app (hv.fr h.m.1) (ie_ok _ _) rfl (by simp; omega) (by simp; omega) fun r w12 h => ?_
   rw [List.nil_append] at h
   exact hK w12 r h.m.1 h.ow.vw
  ·rw [if_neg (by rw [hb]; decide)] at hK
   exact hK w8 t5 m.1 (hkn.fr m.1)
 | cons lot ls ih =>
  intro ds f kn w s5 t5 K hB hl hfl hv hkn hkl hK
  have hP := hP0.fr hB
  have hds : p.lots.length = f.length + (ls.length + 1) := by rw [hl, hfl]; simp
  have e0 := hP.lots.len
  have e5 := hv.len
  have hfew := hp.few
  have hch := hp.chs
  have hkf : f.length < p.lots.length := by omega
  have hlot : ∀ (k : Nat) (hk : k < p.lots.length), k = f.length -> p.lots[k] = lot := by
   rintro k hk rfl
   have : p.lots[f.length]? = some lot := by rw [hl, hfl]; simp
   rw [List.getElem?_eq_getElem hkf] at this
   exact Option.some.inj this
  apply z26_mk
  unfold z26_sd
  intro w1
  have m : Mem w w1 _ := Mem.nil.allocL (cs := prC s0 s1 s2 p.most p.budget)
  clear_value w1
  have hpr := m.row 0 rfl
  refine ⟨s0, m.ld 0 rfl rfl, ?_⟩
  rw [cnd_beq]
  refine ⟨fun h => absurd (show (s5.l : Int) = s0.l from h) (by omega), fun _ => ⟨s0, m.ld 0 rfl rfl, s1, m.ld 0 rfl rfl, s2, m.ld 0 rfl rfl, _, m.ld 0 rfl rfl, _, m.ld 0 rfl rfl, ?_⟩⟩
  refine refoptions_spec (k := s5.l) (hP.fr m.1) (by omega) fun w18 sl hf hsl => ?_
  rw [hlot s5.l (by omega) e5] at hsl
  have hf18 := m.1.t hf
  have hol := opts_len p lot
  have esl := hsl.len
  have hbl : ∀ (os kn : List Int), kn.length <= 12 -> (os.foldl (fun kn o => bF p (f ++ [o]) ls kn) kn).length <= 12 := by
   intro os
   induction os with
   | nil => exact fun kn h => h
   | cons o os ih2 =>
    intro kn h
    refine ih2 _ ?_
    show (bF p (f ++ [o]) ls kn).length <= 12
    rcases (bF_ok hp ls (f ++ [o]) kn).one with e | ⟨q, _⟩
    ·rw [e]; exact h
    ·rw [q.1]; exact hfew
  refine ⟨⟨fun kn' i w' => ∃ i' : Nat, i = i' /\ i' <= (opts p lot).length /\ Fr F0 w18 w' /\ VI w' kn' (((opts p lot).take i').foldl (fun kn o => bF p (f ++ [o]) ls kn) kn), fun _ i _ => (opts p lot).length - i.toNat, ⟨0, rfl, by omega, Fr.refl, hkn.fr hf18⟩, ?_⟩⟩
  rintro kn' i w2 ⟨i, rfl, hi, hf2, hkv⟩
  unfold z26_b0
  rw [cnd_prop]
  refine ⟨fun hlt => ?_, fun hge => ?_⟩
  ·have hio : i < (opts p lot).length := by omega
   have hfold : ((opts p lot).take (i + 1)).foldl (fun kn o => bF p (f ++ [o]) ls kn) kn = bF p (f ++ [(opts p lot)[i]]) ls (((opts p lot).take i).foldl (fun kn o => bF p (f ++ [o]) ls kn) kn) := by
    rw [take_succ' hio, List.foldl_append]
    rfl
   have hkl' := hbl ((opts p lot).take i) kn hkl
   intro w20
   have hf20 : Fr F0 w18 w20 := hf2.t Fr.drew
   have hkv : VI w20 kn' _ := hkv.fr Fr.drew
   clear_value w20
   have hS : ∀ {u}, Fr F0 w20 u -> (Row u w.heap.size (prC s0 s1 s2 p.most p.budget) /\ VI u sl (opts p lot)) := fun hu => ⟨(hf.t (hf20.t hu)).row hpr fun h => h, hsl.fr (hf20.t hu)⟩
   refine ⟨fun u => Row u w.heap.size (prC s0 s1 s2 p.most p.budget) /\ VI u sl (opts p lot), hS Fr.refl, s0, fun u hu => hu.1.at rfl, s1, fun u hu => hu.1.at rfl, s2, fun u hu => hu.1.at rfl, _, fun u hu => hu.1.at rfl, _, fun u hu => hu.1.at rfl, ?_⟩
   obtain ⟨ad, hp', _⟩ := hsl.at (fun a => ie_length _ _ a) (List.getElem?_eq_getElem hio) (by decide)
   have hv20 := hv.fr (hf18.t hf20)
   have hrec : ∀ {u : World} {r : Sl} {K' : Sl -> World -> Prop}, Fr F0 w20 u -> VI u r (f ++ [(opts p lot)[i]]) -> (∀ w' s, Fr F0 w20 w' -> VI w' s (((opts p lot).take (i + 1)).foldl (fun kn o => bF p (f ++ [o]) ls kn) kn) -> K' s w') -> z26_sh s0 s1 s2 p.most p.budget r kn' K' u := fun {u r K'} hu hr hk =>
    ih (ds ++ [lot]) (f ++ [(opts p lot)[i]]) _ u r kn' K' (hB.t (hf18.t (hf20.t hu))) (by rw [hl]; simp) (by simp [hfl]) hr (hkv.fr hu) hkl' fun w' s hw hs => hk w' s (hu.t hw) (hfold ▸ hs)
   have hfin : ∀ {w' : World} {r : Sl}, Fr F0 w20 w' -> VI w' r (((opts p lot).take (i + 1)).foldl (fun kn o => bF p (f ++ [o]) ls kn) kn) -> ∃ i' : Nat, (i : Int) + 1 = i' /\ i' <= (opts p lot).length /\ Fr F0 w18 w' /\ VI w' r (((opts p lot).take i').foldl (fun kn o => bF p (f ++ [o]) ls kn) kn) := fun hw hr => ⟨i + 1, by omega, by omega, hf20.t hw, hr⟩
   refine nz_iff.2 ⟨ad, hp', ⟨by omega, by omega⟩, (opts p lot)[i], fun u hu => ?_, ?_, ?_⟩
   ·obtain ⟨ad', hp'', hc⟩ := hu.2.at (fun a => ie_length _ _ a) (List.getElem?_eq_getElem hio) (by decide)
    rw [hp'] at hp''
    cases hp''
    exact hc 0 _ rfl
   ·intro w29
    have h : Sp w20 w29 [] _ _ _ _ _ _ := Sp.empty (α := Int) (n := 1) (enc := ie .i64 (id : Int -> Int)) (fun a => ie_length _ _ a) Mem.nil
    clear_value w29
    refine ⟨hS h.m.1, ?_, ?_⟩
    ·refine h.app (hv20.fr h.m.1) (ie_ok _ _) rfl (by simp; omega) (by simp; omega) fun s30 w31 h => ⟨hS h.m.1, ?_⟩
     rw [List.nil_append] at h
     intro w32
     refine ⟨hS (h.fr (Fr.alloc : Fr F0 w31 w32)).m.1, h.push (a := (opts p lot)[i]) rfl rfl (ie_ok _ _) rfl (by omega) (by omega) fun s33 w34 h => ⟨hS h.m.1, hrec h.m.1 h.ow.vw fun w35 r hw hr => ⟨hS hw, inR64 (by omega) (by omega), ⟨⟨rfl, rfl, rfl, trivial⟩, hfin hw hr⟩, by dsimp only; omega⟩⟩⟩
    ·intro w37
     have h : Sp w20 w37 _ _ _ _ _ _ _ := h.allocL (vs := ([(opts p lot)[i]] : List Int).map (Value.int .i64))
     clear_value w37
     refine ⟨hS h.m.1, h.app (hv20.fr h.m.1) (ie_ok _ _) rfl (by simp; omega) (by simp; omega) fun s38 w39 h => ⟨hS h.m.1, ?_⟩⟩
     rw [List.nil_append] at h
     exact h.app (m := [(opts p lot)[i]]) (Ow.row (l := [(opts p lot)[i]]) (h.row 0 rfl)).vw (ie_ok _ _) rfl (by simp; omega) (by simp; omega) fun s40 w41 h => ⟨hS h.m.1, hrec h.m.1 h.ow.vw fun w35 r hw hr => ⟨hS hw, inR64 (by omega) (by omega), ⟨⟨rfl, rfl, rfl, trivial⟩, hfin hw hr⟩, by dsimp only; omega⟩⟩
   ·intro w44
    have m : Mem w20 w44 _ := Mem.nil.allocL (cs := ([(opts p lot)[i]] : List Int).map (Value.int .i64))
    clear_value w44
    refine ⟨hS m.1, ?_⟩
    intro w45
    have h : Sp w20 w45 _ _ _ _ _ _ _ := Sp.empty (α := Int) (n := 1) (enc := ie .i64 (id : Int -> Int)) (fun a => ie_length _ _ a) m
    clear_value w45
    refine ⟨hS h.m.1, h.app (hv20.fr h.m.1) (ie_ok _ _) rfl (by simp; omega) (by simp; omega) fun s46 w47 h => ⟨hS h.m.1, ?_⟩⟩
    rw [List.nil_append] at h
    exact h.app (m := [(opts p lot)[i]]) (Ow.row (l := [(opts p lot)[i]]) (h.row 0 rfl)).vw (ie_ok _ _) rfl (by simp; omega) (by simp; omega) fun s48 w49 h => ⟨hS h.m.1, hrec h.m.1 h.ow.vw fun w35 r hw hr => ⟨hS hw, inR64 (by omega) (by omega), ⟨⟨rfl, rfl, rfl, trivial⟩, hfin hw hr⟩, by dsimp only; omega⟩⟩
  ·have : i = (opts p lot).length := by omega
   subst this
   rw [List.take_length] at hkv
   exact hK w2 kn' (hf18.t hf2) hkv
theorem refBest_spec {K : Sl -> World -> Prop} (hp : RightPr p) (h : PV w s0 s1 s2 p) (hK : ∀ w' s, Fr F0 w w' -> VI w' s (bF p [] p.lots []) -> K s w') : z22_sh s0 s1 s2 p.most p.budget K w := by
 refine ⟨?_⟩
 unfold z22_sd
 intro w1
 have m : Mem w w1 _ := Mem.nil.allocL (cs := prC s0 s1 s2 p.most p.budget)
 clear_value w1
 exact ⟨s0, m.ld 0 rfl rfl, s1, m.ld 0 rfl rfl, s2, m.ld 0 rfl rfl, _, m.ld 0 rfl rfl, _, m.ld 0 rfl rfl, best_spec hp h p.lots [] [] [] w1 _ _ _ m.1 rfl rfl Vw.nil Vw.nil (by simp) fun w' s hw hs => hK w' s (m.1.t hw) hs⟩
end
end Go.Proofs.YtmkjcheafdionaaGreat
