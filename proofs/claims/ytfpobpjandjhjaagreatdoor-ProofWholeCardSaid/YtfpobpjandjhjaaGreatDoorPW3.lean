/- ProofWhole: the tree is grown. Conditions: none. -/
import Derived.Test.YtfpobpjandjhjaaGreatDoorPW2
import Derived.Test.YtfpobpjandjhjaaGreatDoorPG6
import Derived.Test.YtfpobpjandjhjaaGreatDoorCXZ
namespace Go.Proofs.YtfpobpjandjhjaaGreatDoor
open Go Pw
abbrev gfn (mb pb gb : Nat) : Value := fnv (idOf z05_ok) [mb, pb, gb]
section
variable {wB w w' : World} {s0 s1 s2 : Sl} {p : Pr} {T : List Int} {pb mb gb : Nat}
abbrev gRows (mb pb gb : Nat) (ns : Sl) : List (Nat × List Value) := [(gb, [gfn mb pb gb]), (mb, [.slice ns.p ns.l ns.c])]
def PGrow (wB : World) (p : Pr) (T : List Int) (pb mb gb : Nat) (ls : List Int) : Prop :=
 ∀ (ds f : List Int) (w : World) (ns : Sl) (cs : List NdC) (N : List Nd) (s5 : Sl) (R : List (Sl × List Int)) (K : Int -> World -> Prop), G wB w (gRows mb pb gb ns) ((s5, f) :: R) ns cs N -> p.lots = ds ++ ls -> f.length = ds.length -> N.length + prefN p ls <= 2 ^ 20 ->
  (∀ w' ns' cs' N', G wB w' (gRows mb pb gb ns') ((s5, f) :: R) ns' cs' N' -> N <+: N' -> TreeF p T N' ls f N.length N'.length -> N'.length = N.length + prefN p ls -> K (N.length : Int) w') ->
  z05_sh s5 ⟨mb, 0, none⟩ ⟨pb, 0, none⟩ ⟨gb, 0, none⟩ K w
theorem pgrow_step (hp : RightPr p) (hP : PV wB s0 s1 s2 p) (hpr : Row wB pb (prC s0 s1 s2 p.most p.budget)) (hbest : IsBest p T) (ls : List Int) (hIH : ∀ lot ls', ls = lot :: ls' -> PGrow wB p T pb mb gb ls') : PGrow wB p T pb mb gb ls := by
 intro ds f w ns cs N s5 R K h hlots hfl hsz hK
 have e0 := hP.lots.len
 have e1 := hP.ch.len
 have hfew := hp.few
 have hchs := hp.chs
 have e5 : s5.l = f.length := (h.r _ (List.mem_cons_self ..)).len
 have en : ns.l = N.length := by rw [h.o.nds.vw.len, h.o.len]
 have hcl := h.o.len
 have hflN : f.length <= 12 := by rw [hlots] at hfew; simp at hfew; omega
 have hpos := prefN_pos p ls
 refine ⟨?_⟩
 unfold z05_sd
 refine ⟨ns, h.m.ld 1 rfl rfl, ns, h.m.ld 1 rfl rfl, ?_⟩
 intro w3
 refine h.push (c := ⟨(s5.l : Int), 0, 1, nilS⟩) (n := ⟨(f.length : Int), 0, 1, []⟩) ⟨⟨by simp [e5], rfl, rfl⟩, rfl, rfl, (show I64 0 from ⟨by decide, by decide⟩), (show I64 1 from ⟨by decide, by decide⟩)⟩ rfl (by omega) fun s4 w5 h5 => ?_
 refine ⟨h5.m.wr 1 rfl rfl, ?_⟩
 intro w6
 have h6 : G wB w6 (gRows mb pb gb s4) ((s5, f) :: R) s4 (cs ++ [⟨(s5.l : Int), 0, 1, nilS⟩]) (N ++ [⟨(f.length : Int), 0, 1, []⟩]) := h5.setRow (j := 1) (i := 0) (v := .slice s4.p s4.l s4.c) rfl
 clear_value w6
 have hpr6 := h6.m.1.row hpr fun h => h
 rw [en]
 refine ⟨s0, hpr6.at rfl, cnd_beq.2 ⟨fun hfull => ?_, fun hnf => ?_⟩⟩
 ·have hls : ls = [] := by
   have : p.lots.length = ds.length + ls.length := by rw [hlots]; simp
   exact List.length_eq_zero_iff.1 (by omega)
  subst hls
  refine hK w6 s4 _ _ h6 (List.prefix_append ..) ⟨⟨(f.length : Int), 0, 1, []⟩, by simp, rfl, by simp, full_closed hbest (by rw [hlots]; simp [hfl])⟩ (by simp [prefN])
 cases ls with
 | nil => rw [hlots] at e0; simp at e0; omega
 | cons lot ls =>
 have ih := hIH lot ls rfl
 have hlotf : p.lots[f.length]'(by rw [hlots]; simp; omega) = lot := by
  have : p.lots[f.length]? = some lot := by rw [hlots, hfl]; simp
  rw [List.getElem?_eq_getElem (by rw [hlots]; simp; omega)] at this
  exact Option.some.inj this
 have hfl2 : f.length < p.lots.length := by rw [hlots]; simp; omega
 have hol := opts_len p lot
 rw [prefN] at hsz hK
 refine ⟨⟨fun c u => ∃ (j : Nat) (ns' : Sl) (cs' : List NdC) (N' : List Nd) (os ks : List Int), c = (j : Int) - 1 /\ j <= p.ch.length + 1 /\ G wB u (gRows mb pb gb ns') ((s5, f) :: R) ns' cs' N' /\ N'[N.length]? = some ⟨(f.length : Int), 0, 1, ks⟩ /\ N <+: N' /\ os ++ restO p lot j = opts p lot /\
   kidsF (TreeF p T N' ls) f os ks (N.length + 1) N'.length /\ N'.length = N.length + 1 + os.length * prefN p ls, fun c _ => ((p.ch.length : Int) - c).toNat,
  ⟨0, s4, _, _, [], [], rfl, by omega, h6, by simp, List.prefix_append .., rfl, by show N.length + 1 = (N ++ [_]).length; simp, by simp⟩, ?_⟩⟩
 clear h6 hpr6 h5
 rintro c u ⟨j, ns', cs', N', os, ks, rfl, hj, h, hget, hpre, hos, hkids, hlen⟩
 unfold z05_b0
 have hpru := h.m.1.row hpr fun h => h
 refine ⟨s1, hpru.at rfl, cnd_prop.2 ⟨fun hlt => ?_, fun hge => ?_⟩⟩
 ·intro w9
  have h : G wB w9 (gRows mb pb gb ns') ((s5, f) :: R) ns' cs' N' := h.fr Fr.drew
  clear_value w9
  have hpru := h.m.1.row hpr fun h => h
  have hk1 : ∀ (N0 : Sl -> Addr -> Addr -> Addr -> Int -> Int -> World -> Prop),
    (∀ u' ns2 cs2 N2 ks2, G wB u' (gRows mb pb gb ns2) ((s5, f) :: R) ns2 cs2 N2 -> N2[N.length]? = some ⟨(f.length : Int), 0, 1, ks2⟩ -> N <+: N2 -> (os ++ [(j : Int) - 1]) ++ restO p lot (j + 1) = opts p lot -> kidsF (TreeF p T N2 ls) f (os ++ [(j : Int) - 1]) ks2 (N.length + 1) N2.length ->
     N2.length = N.length + 1 + (os ++ [(j : Int) - 1]).length * prefN p ls -> N0 s5 ⟨mb, 0, none⟩ ⟨pb, 0, none⟩ ⟨gb, 0, none⟩ (N.length : Int) ((j : Int) - 1 + 1) u') ->
    restO p lot j = ((j : Int) - 1) :: restO p lot (j + 1) -> z05_k1 s5 ⟨mb, 0, none⟩ ⟨pb, 0, none⟩ ⟨gb, 0, none⟩ (N.length : Int) ((j : Int) - 1) N0 K w9 := by
   intro N0 hN hro
   have hos2 : (os ++ [(j : Int) - 1]) ++ restO p lot (j + 1) = opts p lot := by rw [← hos, hro]; simp
   have hosl : os.length + 1 <= (opts p lot).length := by rw [← hos2]; simp
   have hmul := Nat.mul_le_mul_right (prefN p ls) hosl
   rw [Nat.add_mul, Nat.one_mul] at hmul
   refine ⟨?_⟩
   unfold z05_k1d
   intro w16
   have h : G wB w16 (gRows mb pb gb ns') ((s5, f) :: R) ns' cs' N' := h.fr Fr.drew
   clear_value w16
   have hS : ∀ {v}, Fr F0 w16 v -> Row v gb [gfn mb pb gb] := fun hv => hv.row (h.m.row 0 rfl) fun h => h
   have hv16 : VI w16 s5 f := h.r _ (List.mem_cons_self ..)
   have hk2 : ∀ {v : World} {ns2 : Sl} {cs2 : List NdC} {N2 : List Nd}, G wB v (gRows mb pb gb ns2) ((s5, f) :: R) ns2 cs2 N2 -> N' <+: N2 -> TreeF p T N2 ls (f ++ [(j : Int) - 1]) N'.length N2.length -> N2.length = N'.length + prefN p ls ->
     z05_k2 s5 ⟨mb, 0, none⟩ ⟨pb, 0, none⟩ ⟨gb, 0, none⟩ (N.length : Int) ((j : Int) - 1) (N'.length : Int) N0 K v := fun {v ns2 cs2 N2} h hp2 ht hl2 => by
    have hcl2 := h.o.len
    have hi : N.length < N2.length := by omega
    have hic : N.length < cs2.length := by omega
    have hlt' : N.length < N'.length := by omega
    have hget2 : N2[N.length]? = some ⟨(f.length : Int), 0, 1, ks⟩ := by rw [prefix_get hp2 hlt']; exact hget
    have hg2 : N2[N.length] = ⟨(f.length : Int), 0, 1, ks⟩ := by
     rw [List.getElem?_eq_getElem hi] at hget2
     exact Option.some.inj hget2
    have hksl := kidsF_len _ _ _ _ hkids
    obtain ⟨nb, hnp, _⟩ := Ow.nodeAt h.o.nds (List.getElem?_eq_getElem hic)
    have en2 : ns2.l = cs2.length := h.o.nds.vw.len
    refine ⟨?_⟩
    unfold z05_k2d
    intro w45
    have h : G wB w45 (gRows mb pb gb ns2) ((s5, f) :: R) ns2 cs2 N2 := h.fr Fr.drew
    clear_value w45
    refine ⟨fun v => Row v mb [.slice ns2.p ns2.l ns2.c] /\ Vw 4 encN v ns2 cs2, ⟨h.m.row 1 rfl, h.o.nds.vw⟩, ns2, fun v hv => hv.1.at rfl, ns2, fun v hv => hv.1.at rfl, nz_iff.2 ⟨_, hnp, ⟨by omega, by omega⟩, ?_⟩⟩
    simp -zeta only [add_mk, Nat.zero_add, Int.toNat_natCast]
    refine ⟨cs2[N.length].nx, fun v hv => nodeLd (k := 3) hv.2 hnp (List.getElem?_eq_getElem hic) rfl, ?_⟩
    intro w51
    have h : G wB w51 (gRows mb pb gb ns2) ((s5, f) :: R) ns2 cs2 N2 := h.fr Fr.alloc
    have hx : Vw 1 (ie .i64 (id : Int -> Int)) w51 ⟨some ⟨w45.heap.size, 0, none⟩, 1, 1⟩ [(N'.length : Int)] := Vw.new rfl rfl
    clear_value w51
    refine ⟨⟨h.m.row 1 rfl, h.o.nds.vw⟩, h.appNx hic hi hnp hx (by rw [hg2]; show ks.length < _; omega) fun s52 w53 hrs hvw hw hG => ?_⟩
    refine ⟨⟨hrs (mb, _) (List.mem_cons_of_mem _ (List.mem_cons_self ..)), hvw⟩, nz_iff.2 ⟨_, hnp, ⟨by omega, by omega⟩, ?_⟩⟩
    simp -zeta only [add_mk, Nat.zero_add, Int.toNat_natCast]
    refine ⟨hw, ?_⟩
    intro w55
    have hG : G wB w55 (gRows mb pb gb ns2) ((s5, f) :: R) ns2 _ (N2.set N.length { N2[N.length] with next := N2[N.length].next ++ [(N'.length : Int)] }) := hG
    clear_value w55
    rw [hg2] at hG
    have hset : ∀ i, N.length + 1 <= i -> (N2.set N.length ⟨(f.length : Int), 0, 1, ks ++ [(N'.length : Int)]⟩)[i]? = N2[i]? := fun i hi' => by rw [List.getElem?_set_ne (by omega)]
    refine ⟨inR64 (by omega) (by omega), hN w55 ns2 _ _ (ks ++ [(N'.length : Int)]) hG (by simp [hi]) ?_ hos2 ?_ ?_⟩
    ·obtain ⟨r, hr⟩ := hpre.trans hp2
     rw [← hr, List.set_append_right (h := Nat.le_refl _)]
     exact List.prefix_append ..
    ·rw [List.length_set]
     refine kidsF_snoc (treeF_congr _ _ _ _ (fun i h1 _ => hset i (by omega)) ht) _ _ _ (kidsF_congr (fun i h1 h2 => ?_) hkids)
     rw [hset i h1, prefix_get hp2 h2]
    ·rw [List.length_set, hl2, hlen]
     simp [Nat.add_mul]
     omega
   have hrec : ∀ {v : World} {s : Sl}, Mk w16 1 (ie .i64 (id : Int -> Int)) v s (f ++ [(j : Int) - 1]) -> CallV Tryz.prog (gfn mb pb gb) [(Value.slice s.p s.l s.c)] v fun (u25 : Value) (w26 : World) => ∃ x27 : Int, u25 = (Value.int .i64 x27) /\ z05_k2 s5 ⟨mb, 0, none⟩ ⟨pb, 0, none⟩ ⟨gb, 0, none⟩ (N.length : Int) ((j : Int) - 1) x27 N0 K w26 := fun {v s} hs => by
    refine callV_of z05_ok ?_
    refine ih (ds ++ [lot]) (f ++ [(j : Int) - 1]) v ns' cs' N' s ((s5, f) :: R) _ (h.add hs) (by rw [hlots]; simp) (by simp [hfl]) (by omega) fun w' ns2 cs2 N2 hG2 hp2 ht2 hl2 => ?_
    exact ⟨_, rfl, hk2 (hG2.dR fun x hx => List.mem_cons_of_mem _ hx) hp2 ht2 hl2⟩
   refine ⟨fun v => Row v gb [gfn mb pb gb], hS Fr.refl, _, fun v hv => hv.at rfl, ?_, ?_⟩
   ·intro w19
    have g : Sp w16 w19 [] _ _ 1 (ie .i64 (id : Int -> Int)) _ _ := Sp.empty (fun a => ie_length _ _ a) Mem.nil
    clear_value w19
    refine ⟨hS g.m.1, ?_, ?_⟩
    ·refine g.app (hv16.fr g.m.1) (ie_ok _ _) rfl (by simp; omega) (by simp; omega) fun s20 w21 g => ⟨hS g.m.1, ?_⟩
     rw [List.nil_append] at g
     intro w22
     refine ⟨hS (g.fr (Fr.alloc : Fr F0 w21 w22)).m.1, g.push (a := (j : Int) - 1) rfl rfl (ie_ok _ _) rfl (by omega) (by omega) fun s23 w24 g => ⟨hS g.m.1, hrec g.mk''⟩⟩
    ·intro w28
     have g : Sp w16 w28 _ _ _ _ _ _ _ := g.allocL (vs := ([(j : Int) - 1] : List Int).map (Value.int .i64))
     clear_value w28
     refine ⟨hS g.m.1, g.app (hv16.fr g.m.1) (ie_ok _ _) rfl (by simp; omega) (by simp; omega) fun s29 w30 g => ⟨hS g.m.1, ?_⟩⟩
     rw [List.nil_append] at g
     exact g.app (m := [(j : Int) - 1]) (Ow.row (l := [(j : Int) - 1]) (g.row 0 rfl)).vw (ie_ok _ _) rfl (by simp; omega) (by simp; omega) fun s31 w32 g => ⟨hS g.m.1, hrec g.mk''⟩
   ·intro w36
    have m : Mem w16 w36 _ := Mem.nil.allocL (cs := ([(j : Int) - 1] : List Int).map (Value.int .i64))
    clear_value w36
    refine ⟨hS m.1, ?_⟩
    intro w37
    have g : Sp w16 w37 _ _ _ 1 (ie .i64 (id : Int -> Int)) _ _ := Sp.empty (fun a => ie_length _ _ a) m
    clear_value w37
    refine ⟨hS g.m.1, g.app (hv16.fr g.m.1) (ie_ok _ _) rfl (by simp; omega) (by simp; omega) fun s38 w39 g => ⟨hS g.m.1, ?_⟩⟩
    rw [List.nil_append] at g
    exact g.app (m := [(j : Int) - 1]) (Ow.row (l := [(j : Int) - 1]) (g.row 0 rfl)).vw (ie_ok _ _) rfl (by simp; omega) (by simp; omega) fun s40 w41 g => ⟨hS g.m.1, hrec g.mk''⟩
  have hP9 := hP.fr h.m.1
  refine cnd_prop.2 ⟨fun hc0 => ?_, fun hc0 => ?_⟩
  ·obtain rfl : j = 0 := by omega
   exact hk1 _ (fun u' ns2 cs2 N2 ks2 a1 a2 a3 a4 a5 a6 => ⟨⟨⟨rfl, rfl, rfl, rfl, rfl, trivial⟩, 0 + 1, ns2, cs2, N2, _, ks2, by omega, by omega, a1, a2, a3, a4, a5, a6⟩, by dsimp only; omega⟩) restO_zero
  ·obtain ⟨j, rfl⟩ : ∃ j', j = j' + 1 := ⟨j - 1, by omega⟩
   have hjc : j < p.ch.length := by omega
   refine ⟨s1, hpru.at rfl, VC.ld hP9.ch j (by omega) hjc fun x hcx => ?_⟩
   obtain ⟨c0, _, _, _⟩ := hcx w9 Fr.refl
   refine ⟨_, c0, s0, hpru.at rfl, VI.ld hP9.lots f.length (by omega) hfl2 (cnd_beq.2 ⟨fun heq => ?_, fun hne => ?_⟩)⟩
   ·rw [hlotf] at heq
    refine hk1 _ (fun u' ns2 cs2 N2 ks2 a1 a2 a3 a4 a5 a6 => ⟨⟨⟨rfl, rfl, rfl, rfl, rfl, trivial⟩, j + 1 + 1, ns2, cs2, N2, _, ks2, by omega, by omega, a1, a2, a3, a4, a5, a6⟩, by dsimp only; omega⟩) ?_
    rw [restO_hit hjc heq]
    congr 1
    omega
   ·rw [hlotf] at hne
    exact ⟨inR64 (by omega) (by omega), ⟨⟨rfl, rfl, rfl, rfl, rfl, trivial⟩, j + 1 + 1, ns', cs', N', os, ks, by omega, by omega, h, hget, hpre, by rw [← restO_miss hjc hne]; exact hos, hkids, hlen⟩, by dsimp only; omega⟩
 ·have : j = p.ch.length + 1 := by omega
  subst this
  rw [restO_end, List.append_nil] at hos
  subst hos
  exact hK u ns' cs' N' h hpre ⟨_, hget, rfl, hkids⟩ (by omega)
theorem pgrow_ok (hp : RightPr p) (hP : PV wB s0 s1 s2 p) (hpr : Row wB pb (prC s0 s1 s2 p.most p.budget)) (hbest : IsBest p T) : ∀ ls, PGrow wB p T pb mb gb ls
 | [] => pgrow_step hp hP hpr hbest [] fun _ _ h => by cases h
 | lot :: ls => pgrow_step hp hP hpr hbest (lot :: ls) fun _ _ h => by
   cases h
   exact pgrow_ok hp hP hpr hbest ls
end
end Go.Proofs.YtfpobpjandjhjaaGreatDoor
