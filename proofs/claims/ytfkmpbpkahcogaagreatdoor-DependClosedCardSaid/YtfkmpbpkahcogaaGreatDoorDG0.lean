/- The bodies' formulas, by program. -/
import Derived.Test.YtfkmpbpkahcogaaGreatDoorProg
import Derived.KernelRfl
import Derived.Test.YtfkmpbpkahcogaaGreatDoorPwY
import Derived.Test.YtfkmpbpkahcogaaGreatDoorDT
import Derived.Test.YtfkmpbpkahcogaaGreatDoorCG0
import Derived.Test.YtfkmpbpkahcogaaGreatDoorCG1
set_option maxRecDepth 20000
namespace Go.Proofs.YtfkmpbpkahcogaaGreatDoor
open Go Pw
def z2o_b0 (s_0:Sl) (v_1:ByteArray) (t_7 t_8:Int) (N0:Sl->ByteArray->Int->Int->World->Prop) (K:Pw.T2) (w:World):Prop :=
 cnd (decide (t_8 < t_7))
 (nz s_0.p fun a1=>(0 <= t_8/\t_8 < (s_0.l:Nat))/\∃ x2:ByteArray, w.cell? (a1.add (t_8.toNat * 1))=some (Value.string x2)/\cnd (decide (v_1=x2))
 (K t_8 w)
 (inR .i64 (t_8 + (1:Int))/\N0 s_0 v_1 t_7 (t_8 + (1:Int)) w))
 (K (-1:Int) w)
def z2o_l0d (s_0:Sl) (v_1:ByteArray) (t_7 t_8:Int) (K:Pw.T2) (w:World):Prop :=
 ∃ (I:Int->World->Prop) (μ:Int->World->Nat), I t_8 w/\∀ (t_81:Int) (w1:World), I t_81 w1 ->
 z2o_b0 s_0 v_1 t_7 t_81 (fun s_0' v_1' t_7' t_8' w'=>((s_0'=s_0/\v_1'=v_1/\t_7'=t_7/\True)/\I t_8' w')/\μ t_8' w' < μ t_81 w1) K w1
structure z2o_l0 (s_0:Sl) (v_1:ByteArray) (t_7 t_8:Int) (K:Pw.T2) (w:World):Prop where
 out:z2o_l0d s_0 v_1 t_7 t_8 K w
def z2o_sd (s_0:Sl) (v_1:ByteArray) (K:Pw.T2) (w:World):Prop :=
 z2o_l0 s_0 v_1 (s_0.l:Int) (0:Int) K w
structure z2o_sh (s_0:Sl) (v_1:ByteArray) (K:Pw.T2) (w:World):Prop where
 out:z2o_sd s_0 v_1 K w
def z2o_L0 (Kv:VW):Cur [tL, tS, tI, tI] WP := fun s_0 v_1 t_7 t_8=>z2o_l0 s_0 v_1 t_7 t_8 (kk [tI] Kv)
noncomputable def z2o_S:Pw.Spec := fun vs w Kv=>un [tL, tS] (fun s_0 v_1=>z2o_sh s_0 v_1 (kk [tI] Kv)) nF vs w
def z2o_A (Kv:VW):A := (qr 1 (qs (qr 3 (qb (A.loop [0, 1, 7, 8] (uR0 [tL, tS, tI, tI] (z2o_L0 Kv)) (qr 1 (qs (qc ql ql) (qs (qb (qr 2 (qr 6 (qc (qr 2 ql) ql)))) (qe 2))))))) (qr 1 ql)))
theorem z2o_ok:Sound Tryz.prog 57 z2o_S := okS (x := z2o_A) (fun Kv s_0 v_1=>z2o_sd s_0 v_1 (kk [tI] Kv)) progMixed (Γ := []) trivial Tryz.call57 Tryz.func57 (fun Kv=>hStep (hLoop0 (L := z2o_L0 Kv) (fun N0 s_0 v_1 t_7 t_8=>z2o_b0 s_0 v_1 t_7 t_8 N0 (kk [tI] Kv)) (fun ⟨a0, a1, a2, _, _⟩ _ h=>let ⟨I, μ, h0, hr⟩ := h.out; ⟨fun b0 b1 b2 b3 w=>(b0=a0/\b1=a1/\b2=a2/\True)/\I b3 w, fun _ _ _ b3 w=>μ b3 w, ⟨⟨rfl, rfl, rfl, trivial⟩, h0⟩, fun ⟨_, _, _, _, _⟩ _ ⟨⟨e0, e1, e2, _⟩, hI⟩=>by cases e0; cases e1; cases e2; exact hr _ _ hI⟩)) <| hEnd)
def z2a_sd (s_0:Sl) (v_1:ByteArray) (K:Pw.T1) (w:World):Prop :=
 z2o_sh s_0 v_1 (fun r2 w1=>K (decide (r2 >= (0:Int))) w1) w
structure z2a_sh (s_0:Sl) (v_1:ByteArray) (K:Pw.T1) (w:World):Prop where
 out:z2a_sd s_0 v_1 K w
noncomputable def z2a_S:Pw.Spec := fun vs w Kv=>un [tL, tS] (fun s_0 v_1=>z2a_sh s_0 v_1 (kk [tB] Kv)) nF vs w
def z2a_A (_:VW):A := (qr 1 (qr 5 ql))
theorem z2a_ok:Sound Tryz.prog 31 z2a_S := okS (x := z2a_A) (fun Kv s_0 v_1=>z2a_sd s_0 v_1 (kk [tB] Kv)) progMixed (Γ := [(57, z2o_S)]) ⟨.inl z2o_ok, trivial⟩ Tryz.call31 Tryz.func31 (fun _=>hEnd)
structure z2q_sh (a0:Int) (K:Pw.T3) (w:World):Prop where
 out:Calls Tryz.prog 33 #[(Value.int .i64 a0)] w fun e w'=>∃ r0:ByteArray, e=.returned (Value.string r0)/\K r0 w'
noncomputable def z2q_S:Pw.Spec := fun vs w Kv =>
 match vs with
 | [.int .i64 a0]=>z2q_sh a0 (fun r0 w'=>Kv (Value.string r0) w') w
 | _=>False
theorem z2q_ok:Sound Tryz.prog 33 z2q_S := ⟨Tryz.call33, fun vs w Kv h=>by
  unfold z2q_S at h
  split at h
  · exact h.out.mono fun e w' he=>by
      obtain ⟨_, he, hk⟩ := he
      exact ⟨_, he, hk⟩
  · exact h.elim⟩
def z0d_sd (s_0 prefix_1:ByteArray) (K:Pw.T1) (w:World):Prop :=
 cnd (decide ((s_0.size:Int) >= (prefix_1.size:Int)))
 ((0 <= (0:Int)/\(0:Int) <= (prefix_1.size:Int)/\(prefix_1.size:Int) <= (s_0.size:Nat))/\K (decide ((s_0.extract 0 (prefix_1.size:Int).toNat)=prefix_1)) w)
 (K false w)
structure z0d_sh (s_0 prefix_1:ByteArray) (K:Pw.T1) (w:World):Prop where
 out:z0d_sd s_0 prefix_1 K w
noncomputable def z0d_S:Pw.Spec := fun vs w Kv=>un [tS, tS] (fun s_0 prefix_1=>z0d_sh s_0 prefix_1 (kk [tB] Kv)) nF vs w
def z0d_A (_:VW):A := (qr 1 (qs (A.reg (qn 6 (RA.spl 10 (qn 8 RA.done) (qk 6 (qn 2 RA.done))))) ql))
theorem z0d_ok:Sound Tryz.prog 79 z0d_S := okS (x := z0d_A) (fun Kv s_0 prefix_1=>z0d_sd s_0 prefix_1 (kk [tB] Kv)) progMixed (Γ := []) trivial Tryz.call79 Tryz.func79 (fun _=>hEnd)
def z0c_sd (s_0 prefix_1:ByteArray) (K:Pw.T12) (w:World):Prop :=
 z0d_sh s_0 prefix_1 (fun r2 w1=>cnd (!r2)
 (K s_0 false w1)
 ((0 <= (prefix_1.size:Int)/\(prefix_1.size:Int) <= (s_0.size:Nat))/\K (s_0.extract (prefix_1.size:Int).toNat s_0.size) true w1)) w
structure z0c_sh (s_0 prefix_1:ByteArray) (K:Pw.T12) (w:World):Prop where
 out:z0c_sd s_0 prefix_1 K w
noncomputable def z0c_S:Pw.Spec := fun vs w Kv=>un [tS, tS] (fun s_0 prefix_1=>z0c_sh s_0 prefix_1 (kk [.u 2, tS, tB] Kv)) nF vs w
def z0c_A (_:VW):A := (qr 2 (qs (qr 4 (qc (qr 3 ql) ql)) (qr 6 ql)))
theorem z0c_ok:Sound Tryz.prog 87 z0c_S := okS (x := z0c_A) (fun Kv s_0 prefix_1=>z0c_sd s_0 prefix_1 (kk [.u 2, tS, tB] Kv)) progMixed (Γ := [(79, z0d_S)]) ⟨.inl z0d_ok, trivial⟩ Tryz.call87 Tryz.func87 (fun _=>hEnd)
def z1n_sd (s_0 prefix_1:ByteArray) (K:Pw.T12) (w:World):Prop :=
 z0c_sh s_0 prefix_1 (fun r2 r3 w1=>K r2 r3 w1) w
structure z1n_sh (s_0 prefix_1:ByteArray) (K:Pw.T12) (w:World):Prop where
 out:z1n_sd s_0 prefix_1 K w
noncomputable def z1n_S:Pw.Spec := fun vs w Kv=>un [tS, tS] (fun s_0 prefix_1=>z1n_sh s_0 prefix_1 (kk [.u 2, tS, tB] Kv)) nF vs w
def z1n_A (_:VW):A := (qr 2 (qr 7 ql))
theorem z1n_ok:Sound Tryz.prog 60 z1n_S := okS (x := z1n_A) (fun Kv s_0 prefix_1=>z1n_sd s_0 prefix_1 (kk [.u 2, tS, tB] Kv)) progMixed (Γ := [(87, z0c_S)]) ⟨.inl z0c_ok, trivial⟩ Tryz.call60 Tryz.func60 (fun _=>hEnd)
def z1o_sd (s_0 prefix_1:ByteArray) (K:Pw.T1) (w:World):Prop :=
 z0d_sh s_0 prefix_1 (fun r2 w1=>K r2 w1) w
structure z1o_sh (s_0 prefix_1:ByteArray) (K:Pw.T1) (w:World):Prop where
 out:z1o_sd s_0 prefix_1 K w
noncomputable def z1o_S:Pw.Spec := fun vs w Kv=>un [tS, tS] (fun s_0 prefix_1=>z1o_sh s_0 prefix_1 (kk [tB] Kv)) nF vs w
def z1o_A (_:VW):A := (qr 1 (qr 4 ql))
theorem z1o_ok:Sound Tryz.prog 50 z1o_S := okS (x := z1o_A) (fun Kv s_0 prefix_1=>z1o_sd s_0 prefix_1 (kk [tB] Kv)) progMixed (Γ := [(79, z0d_S)]) ⟨.inl z0d_ok, trivial⟩ Tryz.call50 Tryz.func50 (fun _=>hEnd)
def z0a_sd (s_0 prefix_1:ByteArray) (K:Pw.T3) (w:World):Prop :=
 z0d_sh s_0 prefix_1 (fun r2 w1=>cnd r2
 ((0 <= (prefix_1.size:Int)/\(prefix_1.size:Int) <= (s_0.size:Nat))/\K (s_0.extract (prefix_1.size:Int).toNat s_0.size) w1)
 (K s_0 w1)) w
structure z0a_sh (s_0 prefix_1:ByteArray) (K:Pw.T3) (w:World):Prop where
 out:z0a_sd s_0 prefix_1 K w
noncomputable def z0a_S:Pw.Spec := fun vs w Kv=>un [tS, tS] (fun s_0 prefix_1=>z0a_sh s_0 prefix_1 (kk [tS] Kv)) nF vs w
def z0a_A (_:VW):A := (qr 1 (qs (qr 3 (qc (qr 5 ql) ql)) (qr 2 ql)))
theorem z0a_ok:Sound Tryz.prog 110 z0a_S := okS (x := z0a_A) (fun Kv s_0 prefix_1=>z0a_sd s_0 prefix_1 (kk [tS] Kv)) progMixed (Γ := [(79, z0d_S)]) ⟨.inl z0d_ok, trivial⟩ Tryz.call110 Tryz.func110 (fun _=>hEnd)
def z18_sd (s_0 prefix_1:ByteArray) (K:Pw.T3) (w:World):Prop :=
 z0a_sh s_0 prefix_1 (fun r2 w1=>K r2 w1) w
structure z18_sh (s_0 prefix_1:ByteArray) (K:Pw.T3) (w:World):Prop where
 out:z18_sd s_0 prefix_1 K w
noncomputable def z18_S:Pw.Spec := fun vs w Kv=>un [tS, tS] (fun s_0 prefix_1=>z18_sh s_0 prefix_1 (kk [tS] Kv)) nF vs w
def z18_A (_:VW):A := (qr 1 (qr 4 ql))
theorem z18_ok:Sound Tryz.prog 89 z18_S := okS (x := z18_A) (fun Kv s_0 prefix_1=>z18_sd s_0 prefix_1 (kk [tS] Kv)) progMixed (Γ := [(110, z0a_S)]) ⟨.inl z0a_ok, trivial⟩ Tryz.call89 Tryz.func89 (fun _=>hEnd)
structure z2p_sh (a0:ByteArray) (K:Int->Value->World->Prop) (w:World):Prop where
 out:Calls Tryz.prog 88 #[(Value.string a0)] w fun e w'=>∃ r0:Int, ∃ r1:Value, e=.returned (Value.tuple #[(Value.int .i64 r0), r1])/\K r0 r1 w'
noncomputable def z2p_S:Pw.Spec := fun vs w Kv =>
 match vs with
 | [.string a0]=>z2p_sh a0 (fun r0 r1 w'=>Kv (Value.tuple #[(Value.int .i64 r0), r1]) w') w
 | _=>False
theorem z2p_ok:Sound Tryz.prog 88 z2p_S := ⟨Tryz.call88, fun vs w Kv h=>by
  unfold z2p_S at h
  split at h
  · exact h.out.mono fun e w' he=>by
      obtain ⟨_, _, he, hk⟩ := he
      exact ⟨_, he, hk⟩
  · exact h.elim⟩
structure z1p_sh (a0 a1:ByteArray) (K:Pw.T3) (w:World):Prop where
 out:Calls Tryz.prog 151 #[(Value.string a0), (Value.string a1)] w fun e w'=>∃ r0:ByteArray, e=.returned (Value.string r0)/\K r0 w'
noncomputable def z1p_S:Pw.Spec := fun vs w Kv =>
 match vs with
 | [.string a0, .string a1]=>z1p_sh a0 a1 (fun r0 w'=>Kv (Value.string r0) w') w
 | _=>False
theorem z1p_ok:Sound Tryz.prog 151 z1p_S := ⟨Tryz.call151, fun vs w Kv h=>by
  unfold z1p_S at h
  split at h
  · exact h.out.mono fun e w' he=>by
      obtain ⟨_, he, hk⟩ := he
      exact ⟨_, he, hk⟩
  · exact h.elim⟩
def z0n_b0 (s_0:Sl) (f_1:Value) (t_7 t_8:Int) (N0:Sl->Value->Int->Int->World->Prop) (K:Pw.T2) (w:World):Prop :=
 cnd (decide (t_8 < t_7))
 (nz s_0.p fun a1=>(0 <= t_8/\t_8 < (s_0.l:Nat))/\∃ x2:Int, w.cell? (a1.add (t_8.toNat * 1))=some (Value.int .i64 x2)/\CallV Tryz.prog f_1 [(Value.int .i64 x2)] w fun u3 w4=>∃ x5:Bool, u3=(Value.bool x5)/\cnd x5
 (K t_8 w4)
 (inR .i64 (t_8 + (1:Int))/\N0 s_0 f_1 t_7 (t_8 + (1:Int)) w4))
 (K (-1:Int) w)
def z0n_l0d (s_0:Sl) (f_1:Value) (t_7 t_8:Int) (K:Pw.T2) (w:World):Prop :=
 ∃ (I:Int->World->Prop) (μ:Int->World->Nat), I t_8 w/\∀ (t_81:Int) (w1:World), I t_81 w1 ->
 z0n_b0 s_0 f_1 t_7 t_81 (fun s_0' f_1' t_7' t_8' w'=>((s_0'=s_0/\f_1'=f_1/\t_7'=t_7/\True)/\I t_8' w')/\μ t_8' w' < μ t_81 w1) K w1
structure z0n_l0 (s_0:Sl) (f_1:Value) (t_7 t_8:Int) (K:Pw.T2) (w:World):Prop where
 out:z0n_l0d s_0 f_1 t_7 t_8 K w
def z0n_sd (s_0:Sl) (f_1:Value) (K:Pw.T2) (w:World):Prop :=
 z0n_l0 s_0 f_1 (s_0.l:Int) (0:Int) K w
structure z0n_sh (s_0:Sl) (f_1:Value) (K:Pw.T2) (w:World):Prop where
 out:z0n_sd s_0 f_1 K w
def z0n_L0 (Kv:VW):Cur [tL, tV, tI, tI] WP := fun s_0 f_1 t_7 t_8=>z0n_l0 s_0 f_1 t_7 t_8 (kk [tI] Kv)
noncomputable def z0n_S:Pw.Spec := fun vs w Kv=>un [tL, tV] (fun s_0 f_1=>z0n_sh s_0 f_1 (kk [tI] Kv)) nF vs w
def z0n_A (Kv:VW):A := (qr 1 (qs (qr 3 (qb (A.loop [0, 1, 7, 8] (uR0 [tL, tV, tI, tI] (z0n_L0 Kv)) (qr 1 (qs (qc ql ql) (qs (qb (qr 2 (qs (A.reg (qn 5 (RA.dyn (Value.bool false) RA.done))) (qc (qr 2 ql) ql)))) (qe 2))))))) (qr 1 ql)))
theorem z0n_ok:Sound Tryz.prog 80 z0n_S := okS (x := z0n_A) (fun Kv s_0 f_1=>z0n_sd s_0 f_1 (kk [tI] Kv)) progMixed (Γ := []) trivial Tryz.call80 Tryz.func80 (fun Kv=>hStep (hLoop0 (L := z0n_L0 Kv) (fun N0 s_0 f_1 t_7 t_8=>z0n_b0 s_0 f_1 t_7 t_8 N0 (kk [tI] Kv)) (fun ⟨a0, a1, a2, _, _⟩ _ h=>let ⟨I, μ, h0, hr⟩ := h.out; ⟨fun b0 b1 b2 b3 w=>(b0=a0/\b1=a1/\b2=a2/\True)/\I b3 w, fun _ _ _ b3 w=>μ b3 w, ⟨⟨rfl, rfl, rfl, trivial⟩, h0⟩, fun ⟨_, _, _, _, _⟩ _ ⟨⟨e0, e1, e2, _⟩, hI⟩=>by cases e0; cases e1; cases e2; exact hr _ _ hI⟩)) <| hEnd)
def z05_sd (s_0:Sl) (f_1:Value) (K:Pw.T1) (w:World):Prop :=
 z0n_sh s_0 f_1 (fun r2 w1=>K (decide (r2 >= (0:Int))) w1) w
structure z05_sh (s_0:Sl) (f_1:Value) (K:Pw.T1) (w:World):Prop where
 out:z05_sd s_0 f_1 K w
noncomputable def z05_S:Pw.Spec := fun vs w Kv=>un [tL, tV] (fun s_0 f_1=>z05_sh s_0 f_1 (kk [tB] Kv)) nF vs w
def z05_A (_:VW):A := (qr 1 (qr 5 ql))
theorem z05_ok:Sound Tryz.prog 51 z05_S := okS (x := z05_A) (fun Kv s_0 f_1=>z05_sd s_0 f_1 (kk [tB] Kv)) progMixed (Γ := [(80, z0n_S)]) ⟨.inl z0n_ok, trivial⟩ Tryz.call51 Tryz.func51 (fun _=>hEnd)
def z09_b0 (s_0:Sl) (f_1:Value) (t_7 t_8:Int) (N0:Sl->Value->Int->Int->World->Prop) (K:Pw.T2) (w:World):Prop :=
 cnd (decide (t_8 < t_7))
 (nz s_0.p fun a1=>(0 <= t_8/\t_8 < (s_0.l:Nat))/\∃ x2:Sl, w.cell? (a1.add (t_8.toNat * 1))=some (Value.slice x2.p x2.l x2.c)/\CallV Tryz.prog f_1 [(Value.slice x2.p x2.l x2.c)] w fun u3 w4=>∃ x5:Bool, u3=(Value.bool x5)/\cnd x5
 (K t_8 w4)
 (inR .i64 (t_8 + (1:Int))/\N0 s_0 f_1 t_7 (t_8 + (1:Int)) w4))
 (K (-1:Int) w)
def z09_l0d (s_0:Sl) (f_1:Value) (t_7 t_8:Int) (K:Pw.T2) (w:World):Prop :=
 ∃ (I:Int->World->Prop) (μ:Int->World->Nat), I t_8 w/\∀ (t_81:Int) (w1:World), I t_81 w1 ->
 z09_b0 s_0 f_1 t_7 t_81 (fun s_0' f_1' t_7' t_8' w'=>((s_0'=s_0/\f_1'=f_1/\t_7'=t_7/\True)/\I t_8' w')/\μ t_8' w' < μ t_81 w1) K w1
structure z09_l0 (s_0:Sl) (f_1:Value) (t_7 t_8:Int) (K:Pw.T2) (w:World):Prop where
 out:z09_l0d s_0 f_1 t_7 t_8 K w
def z09_sd (s_0:Sl) (f_1:Value) (K:Pw.T2) (w:World):Prop :=
 z09_l0 s_0 f_1 (s_0.l:Int) (0:Int) K w
structure z09_sh (s_0:Sl) (f_1:Value) (K:Pw.T2) (w:World):Prop where
 out:z09_sd s_0 f_1 K w
def z09_L0 (Kv:VW):Cur [tL, tV, tI, tI] WP := fun s_0 f_1 t_7 t_8=>z09_l0 s_0 f_1 t_7 t_8 (kk [tI] Kv)
noncomputable def z09_S:Pw.Spec := fun vs w Kv=>un [tL, tV] (fun s_0 f_1=>z09_sh s_0 f_1 (kk [tI] Kv)) nF vs w
def z09_A (Kv:VW):A := (qr 1 (qs (qr 3 (qb (A.loop [0, 1, 7, 8] (uR0 [tL, tV, tI, tI] (z09_L0 Kv)) (qr 1 (qs (qc ql ql) (qs (qb (qr 2 (qs (A.reg (qn 5 (RA.dyn (Value.bool false) RA.done))) (qc (qr 2 ql) ql)))) (qe 2))))))) (qr 1 ql)))
theorem z09_ok:Sound Tryz.prog 92 z09_S := okS (x := z09_A) (fun Kv s_0 f_1=>z09_sd s_0 f_1 (kk [tI] Kv)) progMixed (Γ := []) trivial Tryz.call92 Tryz.func92 (fun Kv=>hStep (hLoop0 (L := z09_L0 Kv) (fun N0 s_0 f_1 t_7 t_8=>z09_b0 s_0 f_1 t_7 t_8 N0 (kk [tI] Kv)) (fun ⟨a0, a1, a2, _, _⟩ _ h=>let ⟨I, μ, h0, hr⟩ := h.out; ⟨fun b0 b1 b2 b3 w=>(b0=a0/\b1=a1/\b2=a2/\True)/\I b3 w, fun _ _ _ b3 w=>μ b3 w, ⟨⟨rfl, rfl, rfl, trivial⟩, h0⟩, fun ⟨_, _, _, _, _⟩ _ ⟨⟨e0, e1, e2, _⟩, hI⟩=>by cases e0; cases e1; cases e2; exact hr _ _ hI⟩)) <| hEnd)
def z23_b0 (s_0:Sl) (f_1:Value) (t_7 t_8:Int) (N0:Sl->Value->Int->Int->World->Prop) (K:Pw.T2) (w:World):Prop :=
 cnd (decide (t_8 < t_7))
 (nz s_0.p fun a1=>(0 <= t_8/\t_8 < (s_0.l:Nat))/\∃ x2:ByteArray, w.cell? (a1.add (t_8.toNat * 1))=some (Value.string x2)/\CallV Tryz.prog f_1 [(Value.string x2)] w fun u3 w4=>∃ x5:Bool, u3=(Value.bool x5)/\cnd x5
 (K t_8 w4)
 (inR .i64 (t_8 + (1:Int))/\N0 s_0 f_1 t_7 (t_8 + (1:Int)) w4))
 (K (-1:Int) w)
def z23_l0d (s_0:Sl) (f_1:Value) (t_7 t_8:Int) (K:Pw.T2) (w:World):Prop :=
 ∃ (I:Int->World->Prop) (μ:Int->World->Nat), I t_8 w/\∀ (t_81:Int) (w1:World), I t_81 w1 ->
 z23_b0 s_0 f_1 t_7 t_81 (fun s_0' f_1' t_7' t_8' w'=>((s_0'=s_0/\f_1'=f_1/\t_7'=t_7/\True)/\I t_8' w')/\μ t_8' w' < μ t_81 w1) K w1
structure z23_l0 (s_0:Sl) (f_1:Value) (t_7 t_8:Int) (K:Pw.T2) (w:World):Prop where
 out:z23_l0d s_0 f_1 t_7 t_8 K w
def z23_sd (s_0:Sl) (f_1:Value) (K:Pw.T2) (w:World):Prop :=
 z23_l0 s_0 f_1 (s_0.l:Int) (0:Int) K w
structure z23_sh (s_0:Sl) (f_1:Value) (K:Pw.T2) (w:World):Prop where
 out:z23_sd s_0 f_1 K w
def z23_L0 (Kv:VW):Cur [tL, tV, tI, tI] WP := fun s_0 f_1 t_7 t_8=>z23_l0 s_0 f_1 t_7 t_8 (kk [tI] Kv)
noncomputable def z23_S:Pw.Spec := fun vs w Kv=>un [tL, tV] (fun s_0 f_1=>z23_sh s_0 f_1 (kk [tI] Kv)) nF vs w
def z23_A (Kv:VW):A := (qr 1 (qs (qr 3 (qb (A.loop [0, 1, 7, 8] (uR0 [tL, tV, tI, tI] (z23_L0 Kv)) (qr 1 (qs (qc ql ql) (qs (qb (qr 2 (qs (A.reg (qn 5 (RA.dyn (Value.bool false) RA.done))) (qc (qr 2 ql) ql)))) (qe 2))))))) (qr 1 ql)))
theorem z23_ok:Sound Tryz.prog 59 z23_S := okS (x := z23_A) (fun Kv s_0 f_1=>z23_sd s_0 f_1 (kk [tI] Kv)) progMixed (Γ := []) trivial Tryz.call59 Tryz.func59 (fun Kv=>hStep (hLoop0 (L := z23_L0 Kv) (fun N0 s_0 f_1 t_7 t_8=>z23_b0 s_0 f_1 t_7 t_8 N0 (kk [tI] Kv)) (fun ⟨a0, a1, a2, _, _⟩ _ h=>let ⟨I, μ, h0, hr⟩ := h.out; ⟨fun b0 b1 b2 b3 w=>(b0=a0/\b1=a1/\b2=a2/\True)/\I b3 w, fun _ _ _ b3 w=>μ b3 w, ⟨⟨rfl, rfl, rfl, trivial⟩, h0⟩, fun ⟨_, _, _, _, _⟩ _ ⟨⟨e0, e1, e2, _⟩, hI⟩=>by cases e0; cases e1; cases e2; exact hr _ _ hI⟩)) <| hEnd)
def z1m_b0 (s_0:Sl) (del_1:Value) (i_5 j_6:Int) (N0:Sl->Value->Int->Int->World->Prop) (K:Pw.T0) (w:World):Prop :=
 cnd (decide (j_6 < (s_0.l:Int)))
 (nz s_0.p fun a3=>(0 <= j_6/\j_6 < (s_0.l:Nat))/\∃ x4:ByteArray, w.cell? (a3.add (j_6.toNat * 1))=some (Value.string x4)/\CallV Tryz.prog del_1 [(Value.string x4)] w fun u5 w6=>∃ x7:Bool, u5=(Value.bool x7)/\cnd (!x7)
 (nz s_0.p fun a8=>(0 <= i_5/\i_5 < (s_0.l:Nat))/\wrOk w6 (a8.add (i_5.toNat * 1))/\
 (let w9 := w6.setCell (a8.add (i_5.toNat * 1)) (Value.string x4)
 inR .i64 (i_5 + (1:Int))/\inR .i64 (j_6 + (1:Int))/\N0 s_0 del_1 (i_5 + (1:Int)) (j_6 + (1:Int)) w9))
 (inR .i64 (j_6 + (1:Int))/\N0 s_0 del_1 i_5 (j_6 + (1:Int)) w6))
 ((0 <= i_5/\i_5 <= (s_0.l:Nat))/\clS [(Value.string (str []))] (Sl.mk (subP s_0.p i_5.toNat s_0.c 1) (s_0.l - i_5.toNat) (s_0.c - i_5.toNat)) w fun w10=>(0 <= (0:Int)/\(0:Int) <= i_5/\i_5 <= (s_0.c:Nat))/\K (Sl.mk (subP s_0.p 0 s_0.c 1) (i_5.toNat - 0) (s_0.c - 0)) w10)
def z1m_l0d (s_0:Sl) (del_1:Value) (i_5 j_6:Int) (K:Pw.T0) (w:World):Prop :=
 ∃ (I:Int->Int->World->Prop) (μ:Int->Int->World->Nat), I i_5 j_6 w/\∀ (i_51 j_61:Int) (w1:World), I i_51 j_61 w1 ->
 z1m_b0 s_0 del_1 i_51 j_61 (fun s_0' del_1' i_5' j_6' w'=>((s_0'=s_0/\del_1'=del_1/\True)/\I i_5' j_6' w')/\μ i_5' j_6' w' < μ i_51 j_61 w1) K w1
structure z1m_l0 (s_0:Sl) (del_1:Value) (i_5 j_6:Int) (K:Pw.T0) (w:World):Prop where
 out:z1m_l0d s_0 del_1 i_5 j_6 K w
def z1m_sd (s_0:Sl) (del_1:Value) (K:Pw.T0) (w:World):Prop :=
 z23_sh s_0 del_1 (fun r2 w1=>cnd (r2 == (-1:Int))
 (K s_0 w1)
 (inR .i64 (r2 + (1:Int))/\z1m_l0 s_0 del_1 r2 (r2 + (1:Int)) K w1)) w
structure z1m_sh (s_0:Sl) (del_1:Value) (K:Pw.T0) (w:World):Prop where
 out:z1m_sd s_0 del_1 K w
def z1m_L0 (Kv:VW):Cur [tL, tV, tI, tI] WP := fun s_0 del_1 i_5 j_6=>z1m_l0 s_0 del_1 i_5 j_6 (kk [tL] Kv)
noncomputable def z1m_S:Pw.Spec := fun vs w Kv=>un [tL, tV] (fun s_0 del_1=>z1m_sh s_0 del_1 (kk [tL] Kv)) nF vs w
def z1m_A (Kv:VW):A := (qr 1 (qr 4 (qs (qr 2 (qc (qr 2 ql) ql)) (qs (qr 3 (qb (A.loop [0, 1, 5, 6] (uR0 [tL, tV, tI, tI] (z1m_L0 Kv)) (qs (qr 4 (qc ql ql)) (qs (qb (qr 5 (qs (A.reg (qn 2 (RA.dyn (Value.bool false) (qn 1 RA.done)))) (qc (qr 5 (qe 3)) ql)))) (qe 3)))))) (qr 4 (qr 4 ql))))))
theorem z1m_ok:Sound Tryz.prog 37 z1m_S := okS (x := z1m_A) (fun Kv s_0 del_1=>z1m_sd s_0 del_1 (kk [tL] Kv)) progMixed (Γ := [(59, z23_S)]) ⟨.inl z23_ok, trivial⟩ Tryz.call37 Tryz.func37 (fun Kv=>hStep (hLoop0 (L := z1m_L0 Kv) (fun N0 s_0 del_1 i_5 j_6=>z1m_b0 s_0 del_1 i_5 j_6 N0 (kk [tL] Kv)) (fun ⟨a0, a1, _, _, _⟩ _ h=>let ⟨I, μ, h0, hr⟩ := h.out; ⟨fun b0 b1 b2 b3 w=>(b0=a0/\b1=a1/\True)/\I b2 b3 w, fun _ _ b2 b3 w=>μ b2 b3 w, ⟨⟨rfl, rfl, trivial⟩, h0⟩, fun ⟨_, _, _, _, _⟩ _ ⟨⟨e0, e1, _⟩, hI⟩=>by cases e0; cases e1; exact hr _ _ _ hI⟩)) <| hEnd)
def z04_b0 (s2_1:Sl) (eq_2:Value) (t_15:Sl) (t_16 t_17:Int) (N0:Sl->Value->Sl->Int->Int->World->Prop) (K:Pw.T1) (w:World):Prop :=
 cnd (decide (t_17 < t_16))
 (nz t_15.p fun a1=>(0 <= t_17/\t_17 < (t_15.l:Nat))/\∃ x2:ByteArray, w.cell? (a1.add (t_17.toNat * 5))=some (Value.string x2)/\∃ x3:Int, w.cell? ((a1.add (t_17.toNat * 5)).add 1)=some (Value.int .i64 x3)/\∃ x4:Int, w.cell? ((a1.add (t_17.toNat * 5)).add 2)=some (Value.int .i64 x4)/\∃ x5:ByteArray, w.cell? ((a1.add (t_17.toNat * 5)).add 3)=some (Value.string x5)/\∃ x6:Sl, w.cell? ((a1.add (t_17.toNat * 5)).add 4)=some (Value.slice x6.p x6.l x6.c)/\let w7 := w.alloc (Obj.cells #[(Value.string (str [])), (Value.int .i64 0), (Value.int .i64 0), (Value.string (str [])), (Value.slice none 0 0)] 38)
 stN w7 (Addr.mk w.heap.size 0 none) [(Value.string x2), (Value.int .i64 x3), (Value.int .i64 x4), (Value.string x5), (Value.slice x6.p x6.l x6.c)] fun w8=>nz s2_1.p fun a9=>(0 <= t_17/\t_17 < (s2_1.l:Nat))/\∃ x10:ByteArray, w8.cell? (a9.add (t_17.toNat * 5))=some (Value.string x10)/\∃ x11:Int, w8.cell? ((a9.add (t_17.toNat * 5)).add 1)=some (Value.int .i64 x11)/\∃ x12:Int, w8.cell? ((a9.add (t_17.toNat * 5)).add 2)=some (Value.int .i64 x12)/\∃ x13:ByteArray, w8.cell? ((a9.add (t_17.toNat * 5)).add 3)=some (Value.string x13)/\∃ x14:Sl, w8.cell? ((a9.add (t_17.toNat * 5)).add 4)=some (Value.slice x14.p x14.l x14.c)/\let w15 := w8.alloc (Obj.cells #[(Value.string (str [])), (Value.int .i64 0), (Value.int .i64 0), (Value.string (str [])), (Value.slice none 0 0)] 38)
 stN w15 (Addr.mk w8.heap.size 0 none) [(Value.string x10), (Value.int .i64 x11), (Value.int .i64 x12), (Value.string x13), (Value.slice x14.p x14.l x14.c)] fun w16=>∃ x17:ByteArray, w16.cell? (Addr.mk w.heap.size 0 none)=some (Value.string x17)/\∃ x18:Int, w16.cell? (Addr.mk w.heap.size 1 none)=some (Value.int .i64 x18)/\∃ x19:Int, w16.cell? (Addr.mk w.heap.size 2 none)=some (Value.int .i64 x19)/\∃ x20:ByteArray, w16.cell? (Addr.mk w.heap.size 3 none)=some (Value.string x20)/\∃ x21:Sl, w16.cell? (Addr.mk w.heap.size 4 none)=some (Value.slice x21.p x21.l x21.c)/\∃ x22:ByteArray, w16.cell? (Addr.mk w8.heap.size 0 none)=some (Value.string x22)/\∃ x23:Int, w16.cell? (Addr.mk w8.heap.size 1 none)=some (Value.int .i64 x23)/\∃ x24:Int, w16.cell? (Addr.mk w8.heap.size 2 none)=some (Value.int .i64 x24)/\∃ x25:ByteArray, w16.cell? (Addr.mk w8.heap.size 3 none)=some (Value.string x25)/\∃ x26:Sl, w16.cell? (Addr.mk w8.heap.size 4 none)=some (Value.slice x26.p x26.l x26.c)/\CallV Tryz.prog eq_2 [(Value.agg #[(Value.string x17), (Value.int .i64 x18), (Value.int .i64 x19), (Value.string x20), (Value.slice x21.p x21.l x21.c)]), (Value.agg #[(Value.string x22), (Value.int .i64 x23), (Value.int .i64 x24), (Value.string x25), (Value.slice x26.p x26.l x26.c)])] w16 fun u27 w28=>∃ x29:Bool, u27=(Value.bool x29)/\cnd (!x29)
 (K false w28)
 (inR .i64 (t_17 + (1:Int))/\N0 s2_1 eq_2 t_15 t_16 (t_17 + (1:Int)) w28))
 (K true w)
def z04_l0d (s2_1:Sl) (eq_2:Value) (t_15:Sl) (t_16 t_17:Int) (K:Pw.T1) (w:World):Prop :=
 ∃ (I:Int->World->Prop) (μ:Int->World->Nat), I t_17 w/\∀ (t_171:Int) (w1:World), I t_171 w1 ->
 z04_b0 s2_1 eq_2 t_15 t_16 t_171 (fun s2_1' eq_2' t_15' t_16' t_17' w'=>((s2_1'=s2_1/\eq_2'=eq_2/\t_15'=t_15/\t_16'=t_16/\True)/\I t_17' w')/\μ t_17' w' < μ t_171 w1) K w1
structure z04_l0 (s2_1:Sl) (eq_2:Value) (t_15:Sl) (t_16 t_17:Int) (K:Pw.T1) (w:World):Prop where
 out:z04_l0d s2_1 eq_2 t_15 t_16 t_17 K w
def z04_sd (s1_0 s2_1:Sl) (eq_2:Value) (K:Pw.T1) (w:World):Prop :=
 cnd ((s1_0.l:Int) != (s2_1.l:Int))
 (K false w)
 (z04_l0 s2_1 eq_2 s1_0 (s1_0.l:Int) (0:Int) K w)
structure z04_sh (s1_0 s2_1:Sl) (eq_2:Value) (K:Pw.T1) (w:World):Prop where
 out:z04_sd s1_0 s2_1 eq_2 K w
def z04_L0 (Kv:VW):Cur [tL, tV, tL, tI, tI] WP := fun s2_1 eq_2 t_15 t_16 t_17=>z04_l0 s2_1 eq_2 t_15 t_16 t_17 (kk [tB] Kv)
noncomputable def z04_S:Pw.Spec := fun vs w Kv=>un [tL, tL, tV] (fun s1_0 s2_1 eq_2=>z04_sh s1_0 s2_1 eq_2 (kk [tB] Kv)) nF vs w
def z04_A (Kv:VW):A := (qr 1 (qs (qr 5 (qc (qr 1 ql) ql)) (qs (qr 3 (qb (A.loop [1, 2, 15, 16, 17] (uR0 [tL, tV, tL, tI, tI] (z04_L0 Kv)) (qr 1 (qs (qc ql ql) (qs (qb (qr 6 (qr 6 (qs (A.reg (qn 3 (RA.dyn (Value.bool false) (qn 1 RA.done)))) (qc (qr 1 ql) ql))))) (qe 2))))))) (qr 1 ql))))
theorem z04_ok:Sound Tryz.prog 97 z04_S := okS (x := z04_A) (fun Kv s1_0 s2_1 eq_2=>z04_sd s1_0 s2_1 eq_2 (kk [tB] Kv)) progMixed (Γ := []) trivial Tryz.call97 Tryz.func97 (fun Kv=>hStep (hLoop0 (L := z04_L0 Kv) (fun N0 s2_1 eq_2 t_15 t_16 t_17=>z04_b0 s2_1 eq_2 t_15 t_16 t_17 N0 (kk [tB] Kv)) (fun ⟨a0, a1, a2, a3, _, _⟩ _ h=>let ⟨I, μ, h0, hr⟩ := h.out; ⟨fun b0 b1 b2 b3 b4 w=>(b0=a0/\b1=a1/\b2=a2/\b3=a3/\True)/\I b4 w, fun _ _ _ _ b4 w=>μ b4 w, ⟨⟨rfl, rfl, rfl, rfl, trivial⟩, h0⟩, fun ⟨_, _, _, _, _, _⟩ _ ⟨⟨e0, e1, e2, e3, _⟩, hI⟩=>by cases e0; cases e1; cases e2; cases e3; exact hr _ _ hI⟩)) <| hEnd)
def z2n_b0 (s1_0 s2_1:Sl) (t_12 t_13:Int) (N0:Sl->Sl->Int->Int->World->Prop) (K:Pw.T1) (w:World):Prop :=
 cnd (decide (t_13 < t_12))
 (let w1 := w.drew
 nz s1_0.p fun a2=>(0 <= t_13/\t_13 < (s1_0.l:Nat))/\∃ x3:ByteArray, w1.cell? (a2.add (t_13.toNat * 1))=some (Value.string x3)/\nz s2_1.p fun a4=>(0 <= t_13/\t_13 < (s2_1.l:Nat))/\∃ x5:ByteArray, w1.cell? (a4.add (t_13.toNat * 1))=some (Value.string x5)/\cnd (!decide (x3=x5))
 (K false w1)
 (inR .i64 (t_13 + (1:Int))/\N0 s1_0 s2_1 t_12 (t_13 + (1:Int)) w1))
 (K true w)
def z2n_l0d (s1_0 s2_1:Sl) (t_12 t_13:Int) (K:Pw.T1) (w:World):Prop :=
 ∃ (I:Int->World->Prop) (μ:Int->World->Nat), I t_13 w/\∀ (t_131:Int) (w1:World), I t_131 w1 ->
 z2n_b0 s1_0 s2_1 t_12 t_131 (fun s1_0' s2_1' t_12' t_13' w'=>((s1_0'=s1_0/\s2_1'=s2_1/\t_12'=t_12/\True)/\I t_13' w')/\μ t_13' w' < μ t_131 w1) K w1
structure z2n_l0 (s1_0 s2_1:Sl) (t_12 t_13:Int) (K:Pw.T1) (w:World):Prop where
 out:z2n_l0d s1_0 s2_1 t_12 t_13 K w
def z2n_sd (s1_0 s2_1:Sl) (K:Pw.T1) (w:World):Prop :=
 cnd ((s1_0.l:Int) != (s2_1.l:Int))
 (K false w)
 (z2n_l0 s1_0 s2_1 (s1_0.l:Int) (0:Int) K w)
structure z2n_sh (s1_0 s2_1:Sl) (K:Pw.T1) (w:World):Prop where
 out:z2n_sd s1_0 s2_1 K w
def z2n_L0 (Kv:VW):Cur [tL, tL, tI, tI] WP := fun s1_0 s2_1 t_12 t_13=>z2n_l0 s1_0 s2_1 t_12 t_13 (kk [tB] Kv)
noncomputable def z2n_S:Pw.Spec := fun vs w Kv=>un [tL, tL] (fun s1_0 s2_1=>z2n_sh s1_0 s2_1 (kk [tB] Kv)) nF vs w
def z2n_A (Kv:VW):A := (qr 1 (qs (qr 5 (qc (qr 1 ql) ql)) (qs (qr 3 (qb (A.loop [0, 1, 12, 13] (uR0 [tL, tL, tI, tI] (z2n_L0 Kv)) (qr 1 (qs (qc ql ql) (qs (qb (qr 2 (qs (A.drp (dp [0, 1, 2, 3, 4, 5, 6, 7, 8] DA.done)) (qc (qr 1 ql) ql)))) (qe 2))))))) (qr 1 ql))))
theorem z2n_ok:Sound Tryz.prog 69 z2n_S := okS (x := z2n_A) (fun Kv s1_0 s2_1=>z2n_sd s1_0 s2_1 (kk [tB] Kv)) progMixed (Γ := []) trivial Tryz.call69 Tryz.func69 (fun Kv=>hStep (hLoop0 (L := z2n_L0 Kv) (fun N0 s1_0 s2_1 t_12 t_13=>z2n_b0 s1_0 s2_1 t_12 t_13 N0 (kk [tB] Kv)) (fun ⟨a0, a1, a2, _, _⟩ _ h=>let ⟨I, μ, h0, hr⟩ := h.out; ⟨fun b0 b1 b2 b3 w=>(b0=a0/\b1=a1/\b2=a2/\True)/\I b3 w, fun _ _ _ b3 w=>μ b3 w, ⟨⟨rfl, rfl, rfl, trivial⟩, h0⟩, fun ⟨_, _, _, _, _⟩ _ ⟨⟨e0, e1, e2, _⟩, hI⟩=>by cases e0; cases e1; cases e2; exact hr _ _ hI⟩)) <| hEnd)
def z21_b0 (s2_1:Sl) (eq_2:Value) (t_15:Sl) (t_16 t_17:Int) (N0:Sl->Value->Sl->Int->Int->World->Prop) (K:Pw.T1) (w:World):Prop :=
 cnd (decide (t_17 < t_16))
 (nz t_15.p fun a1=>(0 <= t_17/\t_17 < (t_15.l:Nat))/\∃ x2:Sl, w.cell? (a1.add (t_17.toNat * 1))=some (Value.slice x2.p x2.l x2.c)/\nz s2_1.p fun a3=>(0 <= t_17/\t_17 < (s2_1.l:Nat))/\∃ x4:Sl, w.cell? (a3.add (t_17.toNat * 1))=some (Value.slice x4.p x4.l x4.c)/\CallV Tryz.prog eq_2 [(Value.slice x2.p x2.l x2.c), (Value.slice x4.p x4.l x4.c)] w fun u5 w6=>∃ x7:Bool, u5=(Value.bool x7)/\cnd (!x7)
 (K false w6)
 (inR .i64 (t_17 + (1:Int))/\N0 s2_1 eq_2 t_15 t_16 (t_17 + (1:Int)) w6))
 (K true w)
def z21_l0d (s2_1:Sl) (eq_2:Value) (t_15:Sl) (t_16 t_17:Int) (K:Pw.T1) (w:World):Prop :=
 ∃ (I:Int->World->Prop) (μ:Int->World->Nat), I t_17 w/\∀ (t_171:Int) (w1:World), I t_171 w1 ->
 z21_b0 s2_1 eq_2 t_15 t_16 t_171 (fun s2_1' eq_2' t_15' t_16' t_17' w'=>((s2_1'=s2_1/\eq_2'=eq_2/\t_15'=t_15/\t_16'=t_16/\True)/\I t_17' w')/\μ t_17' w' < μ t_171 w1) K w1
structure z21_l0 (s2_1:Sl) (eq_2:Value) (t_15:Sl) (t_16 t_17:Int) (K:Pw.T1) (w:World):Prop where
 out:z21_l0d s2_1 eq_2 t_15 t_16 t_17 K w
def z21_sd (s1_0 s2_1:Sl) (eq_2:Value) (K:Pw.T1) (w:World):Prop :=
 cnd ((s1_0.l:Int) != (s2_1.l:Int))
 (K false w)
 (z21_l0 s2_1 eq_2 s1_0 (s1_0.l:Int) (0:Int) K w)
structure z21_sh (s1_0 s2_1:Sl) (eq_2:Value) (K:Pw.T1) (w:World):Prop where
 out:z21_sd s1_0 s2_1 eq_2 K w
def z21_L0 (Kv:VW):Cur [tL, tV, tL, tI, tI] WP := fun s2_1 eq_2 t_15 t_16 t_17=>z21_l0 s2_1 eq_2 t_15 t_16 t_17 (kk [tB] Kv)
noncomputable def z21_S:Pw.Spec := fun vs w Kv=>un [tL, tL, tV] (fun s1_0 s2_1 eq_2=>z21_sh s1_0 s2_1 eq_2 (kk [tB] Kv)) nF vs w
def z21_A (Kv:VW):A := (qr 1 (qs (qr 5 (qc (qr 1 ql) ql)) (qs (qr 3 (qb (A.loop [1, 2, 15, 16, 17] (uR0 [tL, tV, tL, tI, tI] (z21_L0 Kv)) (qr 1 (qs (qc ql ql) (qs (qb (qr 5 (qr 5 (qs (A.reg (qn 3 (RA.dyn (Value.bool false) (qn 1 RA.done)))) (qc (qr 1 ql) ql))))) (qe 2))))))) (qr 1 ql))))
theorem z21_ok:Sound Tryz.prog 70 z21_S := okS (x := z21_A) (fun Kv s1_0 s2_1 eq_2=>z21_sd s1_0 s2_1 eq_2 (kk [tB] Kv)) progMixed (Γ := []) trivial Tryz.call70 Tryz.func70 (fun Kv=>hStep (hLoop0 (L := z21_L0 Kv) (fun N0 s2_1 eq_2 t_15 t_16 t_17=>z21_b0 s2_1 eq_2 t_15 t_16 t_17 N0 (kk [tB] Kv)) (fun ⟨a0, a1, a2, a3, _, _⟩ _ h=>let ⟨I, μ, h0, hr⟩ := h.out; ⟨fun b0 b1 b2 b3 b4 w=>(b0=a0/\b1=a1/\b2=a2/\b3=a3/\True)/\I b4 w, fun _ _ _ _ b4 w=>μ b4 w, ⟨⟨rfl, rfl, rfl, rfl, trivial⟩, h0⟩, fun ⟨_, _, _, _, _, _⟩ _ ⟨⟨e0, e1, e2, e3, _⟩, hI⟩=>by cases e0; cases e1; cases e2; cases e3; exact hr _ _ hI⟩)) <| hEnd)
def z22_b0 (s1_0 s2_1:Sl) (t_12 t_13:Int) (N0:Sl->Sl->Int->Int->World->Prop) (K:Pw.T1) (w:World):Prop :=
 cnd (decide (t_13 < t_12))
 (let w1 := w.drew
 nz s1_0.p fun a2=>(0 <= t_13/\t_13 < (s1_0.l:Nat))/\∃ x3:Int, w1.cell? (a2.add (t_13.toNat * 1))=some (Value.int .i64 x3)/\nz s2_1.p fun a4=>(0 <= t_13/\t_13 < (s2_1.l:Nat))/\∃ x5:Int, w1.cell? (a4.add (t_13.toNat * 1))=some (Value.int .i64 x5)/\cnd (x3 != x5)
 (K false w1)
 (inR .i64 (t_13 + (1:Int))/\N0 s1_0 s2_1 t_12 (t_13 + (1:Int)) w1))
 (K true w)
def z22_l0d (s1_0 s2_1:Sl) (t_12 t_13:Int) (K:Pw.T1) (w:World):Prop :=
 ∃ (I:Int->World->Prop) (μ:Int->World->Nat), I t_13 w/\∀ (t_131:Int) (w1:World), I t_131 w1 ->
 z22_b0 s1_0 s2_1 t_12 t_131 (fun s1_0' s2_1' t_12' t_13' w'=>((s1_0'=s1_0/\s2_1'=s2_1/\t_12'=t_12/\True)/\I t_13' w')/\μ t_13' w' < μ t_131 w1) K w1
structure z22_l0 (s1_0 s2_1:Sl) (t_12 t_13:Int) (K:Pw.T1) (w:World):Prop where
 out:z22_l0d s1_0 s2_1 t_12 t_13 K w
def z22_sd (s1_0 s2_1:Sl) (K:Pw.T1) (w:World):Prop :=
 cnd ((s1_0.l:Int) != (s2_1.l:Int))
 (K false w)
 (z22_l0 s1_0 s2_1 (s1_0.l:Int) (0:Int) K w)
structure z22_sh (s1_0 s2_1:Sl) (K:Pw.T1) (w:World):Prop where
 out:z22_sd s1_0 s2_1 K w
def z22_L0 (Kv:VW):Cur [tL, tL, tI, tI] WP := fun s1_0 s2_1 t_12 t_13=>z22_l0 s1_0 s2_1 t_12 t_13 (kk [tB] Kv)
noncomputable def z22_S:Pw.Spec := fun vs w Kv=>un [tL, tL] (fun s1_0 s2_1=>z22_sh s1_0 s2_1 (kk [tB] Kv)) nF vs w
def z22_A (Kv:VW):A := (qr 1 (qs (qr 5 (qc (qr 1 ql) ql)) (qs (qr 3 (qb (A.loop [0, 1, 12, 13] (uR0 [tL, tL, tI, tI] (z22_L0 Kv)) (qr 1 (qs (qc ql ql) (qs (qb (qr 2 (qs (A.drp (dp [0, 1, 2, 3, 4, 5, 6, 7, 8] DA.done)) (qc (qr 1 ql) ql)))) (qe 2))))))) (qr 1 ql))))
theorem z22_ok:Sound Tryz.prog 72 z22_S := okS (x := z22_A) (fun Kv s1_0 s2_1=>z22_sd s1_0 s2_1 (kk [tB] Kv)) progMixed (Γ := []) trivial Tryz.call72 Tryz.func72 (fun Kv=>hStep (hLoop0 (L := z22_L0 Kv) (fun N0 s1_0 s2_1 t_12 t_13=>z22_b0 s1_0 s2_1 t_12 t_13 N0 (kk [tB] Kv)) (fun ⟨a0, a1, a2, _, _⟩ _ h=>let ⟨I, μ, h0, hr⟩ := h.out; ⟨fun b0 b1 b2 b3 w=>(b0=a0/\b1=a1/\b2=a2/\True)/\I b3 w, fun _ _ _ b3 w=>μ b3 w, ⟨⟨rfl, rfl, rfl, trivial⟩, h0⟩, fun ⟨_, _, _, _, _⟩ _ ⟨⟨e0, e1, e2, _⟩, hI⟩=>by cases e0; cases e1; cases e2; exact hr _ _ hI⟩)) <| hEnd)
def z06_b0 (s_0:Sl) (f_1:Value) (t_7 t_8:Int) (N0:Sl->Value->Int->Int->World->Prop) (K:Pw.T2) (w:World):Prop :=
 cnd (decide (t_8 < t_7))
 (nz s_0.p fun a1=>(0 <= t_8/\t_8 < (s_0.l:Nat))/\∃ x2:Int, w.cell? (a1.add (t_8.toNat * 2))=some (Value.int .i64 x2)/\∃ x3:Int, w.cell? ((a1.add (t_8.toNat * 2)).add 1)=some (Value.int .i64 x3)/\CallV Tryz.prog f_1 [(Value.agg #[(Value.int .i64 x2), (Value.int .i64 x3)])] w fun u4 w5=>∃ x6:Bool, u4=(Value.bool x6)/\cnd x6
 (K t_8 w5)
 (inR .i64 (t_8 + (1:Int))/\N0 s_0 f_1 t_7 (t_8 + (1:Int)) w5))
 (K (-1:Int) w)
def z06_l0d (s_0:Sl) (f_1:Value) (t_7 t_8:Int) (K:Pw.T2) (w:World):Prop :=
 ∃ (I:Int->World->Prop) (μ:Int->World->Nat), I t_8 w/\∀ (t_81:Int) (w1:World), I t_81 w1 ->
 z06_b0 s_0 f_1 t_7 t_81 (fun s_0' f_1' t_7' t_8' w'=>((s_0'=s_0/\f_1'=f_1/\t_7'=t_7/\True)/\I t_8' w')/\μ t_8' w' < μ t_81 w1) K w1
structure z06_l0 (s_0:Sl) (f_1:Value) (t_7 t_8:Int) (K:Pw.T2) (w:World):Prop where
 out:z06_l0d s_0 f_1 t_7 t_8 K w
def z06_sd (s_0:Sl) (f_1:Value) (K:Pw.T2) (w:World):Prop :=
 z06_l0 s_0 f_1 (s_0.l:Int) (0:Int) K w
structure z06_sh (s_0:Sl) (f_1:Value) (K:Pw.T2) (w:World):Prop where
 out:z06_sd s_0 f_1 K w
def z06_L0 (Kv:VW):Cur [tL, tV, tI, tI] WP := fun s_0 f_1 t_7 t_8=>z06_l0 s_0 f_1 t_7 t_8 (kk [tI] Kv)
noncomputable def z06_S:Pw.Spec := fun vs w Kv=>un [tL, tV] (fun s_0 f_1=>z06_sh s_0 f_1 (kk [tI] Kv)) nF vs w
def z06_A (Kv:VW):A := (qr 1 (qs (qr 3 (qb (A.loop [0, 1, 7, 8] (uR0 [tL, tV, tI, tI] (z06_L0 Kv)) (qr 1 (qs (qc ql ql) (qs (qb (qr 2 (qs (A.reg (qn 5 (RA.dyn (Value.bool false) RA.done))) (qc (qr 2 ql) ql)))) (qe 2))))))) (qr 1 ql)))
theorem z06_ok:Sound Tryz.prog 98 z06_S := okS (x := z06_A) (fun Kv s_0 f_1=>z06_sd s_0 f_1 (kk [tI] Kv)) progMixed (Γ := []) trivial Tryz.call98 Tryz.func98 (fun Kv=>hStep (hLoop0 (L := z06_L0 Kv) (fun N0 s_0 f_1 t_7 t_8=>z06_b0 s_0 f_1 t_7 t_8 N0 (kk [tI] Kv)) (fun ⟨a0, a1, a2, _, _⟩ _ h=>let ⟨I, μ, h0, hr⟩ := h.out; ⟨fun b0 b1 b2 b3 w=>(b0=a0/\b1=a1/\b2=a2/\True)/\I b3 w, fun _ _ _ b3 w=>μ b3 w, ⟨⟨rfl, rfl, rfl, trivial⟩, h0⟩, fun ⟨_, _, _, _, _⟩ _ ⟨⟨e0, e1, e2, _⟩, hI⟩=>by cases e0; cases e1; cases e2; exact hr _ _ hI⟩)) <| hEnd)
def z00_b0 (s_0:Sl) (f_1:Value) (t_7 t_8:Int) (N0:Sl->Value->Int->Int->World->Prop) (K:Pw.T2) (w:World):Prop :=
 cnd (decide (t_8 < t_7))
 (nz s_0.p fun a1=>(0 <= t_8/\t_8 < (s_0.l:Nat))/\∃ x2:ByteArray, w.cell? (a1.add (t_8.toNat * 5))=some (Value.string x2)/\∃ x3:Int, w.cell? ((a1.add (t_8.toNat * 5)).add 1)=some (Value.int .i64 x3)/\∃ x4:Int, w.cell? ((a1.add (t_8.toNat * 5)).add 2)=some (Value.int .i64 x4)/\∃ x5:Int, w.cell? ((a1.add (t_8.toNat * 5)).add 3)=some (Value.int .i64 x5)/\∃ x6:Bool, w.cell? ((a1.add (t_8.toNat * 5)).add 4)=some (Value.bool x6)/\CallV Tryz.prog f_1 [(Value.agg #[(Value.string x2), (Value.int .i64 x3), (Value.int .i64 x4), (Value.int .i64 x5), (Value.bool x6)])] w fun u7 w8=>∃ x9:Bool, u7=(Value.bool x9)/\cnd x9
 (K t_8 w8)
 (inR .i64 (t_8 + (1:Int))/\N0 s_0 f_1 t_7 (t_8 + (1:Int)) w8))
 (K (-1:Int) w)
def z00_l0d (s_0:Sl) (f_1:Value) (t_7 t_8:Int) (K:Pw.T2) (w:World):Prop :=
 ∃ (I:Int->World->Prop) (μ:Int->World->Nat), I t_8 w/\∀ (t_81:Int) (w1:World), I t_81 w1 ->
 z00_b0 s_0 f_1 t_7 t_81 (fun s_0' f_1' t_7' t_8' w'=>((s_0'=s_0/\f_1'=f_1/\t_7'=t_7/\True)/\I t_8' w')/\μ t_8' w' < μ t_81 w1) K w1
structure z00_l0 (s_0:Sl) (f_1:Value) (t_7 t_8:Int) (K:Pw.T2) (w:World):Prop where
 out:z00_l0d s_0 f_1 t_7 t_8 K w
def z00_sd (s_0:Sl) (f_1:Value) (K:Pw.T2) (w:World):Prop :=
 z00_l0 s_0 f_1 (s_0.l:Int) (0:Int) K w
structure z00_sh (s_0:Sl) (f_1:Value) (K:Pw.T2) (w:World):Prop where
 out:z00_sd s_0 f_1 K w
def z00_L0 (Kv:VW):Cur [tL, tV, tI, tI] WP := fun s_0 f_1 t_7 t_8=>z00_l0 s_0 f_1 t_7 t_8 (kk [tI] Kv)
noncomputable def z00_S:Pw.Spec := fun vs w Kv=>un [tL, tV] (fun s_0 f_1=>z00_sh s_0 f_1 (kk [tI] Kv)) nF vs w
def z00_A (Kv:VW):A := (qr 1 (qs (qr 3 (qb (A.loop [0, 1, 7, 8] (uR0 [tL, tV, tI, tI] (z00_L0 Kv)) (qr 1 (qs (qc ql ql) (qs (qb (qr 2 (qs (A.reg (qn 5 (RA.dyn (Value.bool false) RA.done))) (qc (qr 2 ql) ql)))) (qe 2))))))) (qr 1 ql)))
theorem z00_ok:Sound Tryz.prog 99 z00_S := okS (x := z00_A) (fun Kv s_0 f_1=>z00_sd s_0 f_1 (kk [tI] Kv)) progMixed (Γ := []) trivial Tryz.call99 Tryz.func99 (fun Kv=>hStep (hLoop0 (L := z00_L0 Kv) (fun N0 s_0 f_1 t_7 t_8=>z00_b0 s_0 f_1 t_7 t_8 N0 (kk [tI] Kv)) (fun ⟨a0, a1, a2, _, _⟩ _ h=>let ⟨I, μ, h0, hr⟩ := h.out; ⟨fun b0 b1 b2 b3 w=>(b0=a0/\b1=a1/\b2=a2/\True)/\I b3 w, fun _ _ _ b3 w=>μ b3 w, ⟨⟨rfl, rfl, rfl, trivial⟩, h0⟩, fun ⟨_, _, _, _, _⟩ _ ⟨⟨e0, e1, e2, _⟩, hI⟩=>by cases e0; cases e1; cases e2; exact hr _ _ hI⟩)) <| hEnd)
def z0t_sd (s_0:Sl) (f_1:Value) (K:Pw.T1) (w:World):Prop :=
 z23_sh s_0 f_1 (fun r2 w1=>K (decide (r2 >= (0:Int))) w1) w
structure z0t_sh (s_0:Sl) (f_1:Value) (K:Pw.T1) (w:World):Prop where
 out:z0t_sd s_0 f_1 K w
noncomputable def z0t_S:Pw.Spec := fun vs w Kv=>un [tL, tV] (fun s_0 f_1=>z0t_sh s_0 f_1 (kk [tB] Kv)) nF vs w
def z0t_A (_:VW):A := (qr 1 (qr 5 ql))
theorem z0t_ok:Sound Tryz.prog 46 z0t_S := okS (x := z0t_A) (fun Kv s_0 f_1=>z0t_sd s_0 f_1 (kk [tB] Kv)) progMixed (Γ := [(59, z23_S)]) ⟨.inl z23_ok, trivial⟩ Tryz.call46 Tryz.func46 (fun _=>hEnd)
end Go.Proofs.YtfkmpbpkahcogaaGreatDoor
