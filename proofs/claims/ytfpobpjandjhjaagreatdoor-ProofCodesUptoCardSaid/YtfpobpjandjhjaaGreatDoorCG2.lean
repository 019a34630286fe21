/- The bodies' formulas, by program. -/
import Derived.Test.YtfpobpjandjhjaaGreatDoorProg
import Derived.KernelRfl
import Derived.Test.YtfpobpjandjhjaaGreatDoorPwY
import Derived.Test.YtfpobpjandjhjaaGreatDoorCG0
set_option maxRecDepth 20000
namespace Go.Proofs.YtfpobpjandjhjaaGreatDoor
open Go Pw
def z33_b0 (s_0:Sl) (f_1:Value) (t_7 t_8:Int) (N0:Sl->Value->Int->Int->World->Prop) (K:Pw.T1) (w:World):Prop :=
 cnd (decide (t_8 < t_7))
 (nz s_0.p fun a1=>(0 <= t_8/\t_8 < (s_0.l:Nat))/\∃ x2:Int, w.cell? (a1.add (t_8.toNat * 1))=some (Value.int .i64 x2)/\CallV Tryz.prog f_1 [(Value.int .i64 x2)] w fun u3 w4=>∃ x5:Bool, u3=(Value.bool x5)/\cnd x5
 (K t_8 w4)
 (inR .i64 (t_8 + (1:Int))/\N0 s_0 f_1 t_7 (t_8 + (1:Int)) w4))
 (K (-1:Int) w)
def z33_l0d (s_0:Sl) (f_1:Value) (t_7 t_8:Int) (K:Pw.T1) (w:World):Prop :=
 ∃ (I:Int->World->Prop) (μ:Int->World->Nat), I t_8 w/\∀ (t_81:Int) (w1:World), I t_81 w1 ->
 z33_b0 s_0 f_1 t_7 t_81 (fun s_0' f_1' t_7' t_8' w'=>((s_0'=s_0/\f_1'=f_1/\t_7'=t_7/\True)/\I t_8' w')/\μ t_8' w' < μ t_81 w1) K w1
structure z33_l0 (s_0:Sl) (f_1:Value) (t_7 t_8:Int) (K:Pw.T1) (w:World):Prop where
 out:z33_l0d s_0 f_1 t_7 t_8 K w
def z33_sd (s_0:Sl) (f_1:Value) (K:Pw.T1) (w:World):Prop :=
 z33_l0 s_0 f_1 (s_0.l:Int) (0:Int) K w
structure z33_sh (s_0:Sl) (f_1:Value) (K:Pw.T1) (w:World):Prop where
 out:z33_sd s_0 f_1 K w
def z33_L0 (Kv:VW):Cur [tL, tV, tI, tI] WP := fun s_0 f_1 t_7 t_8=>z33_l0 s_0 f_1 t_7 t_8 (kk [tI] Kv)
noncomputable def z33_S:Pw.Spec := fun vs w Kv=>un [tL, tV] (fun s_0 f_1=>z33_sh s_0 f_1 (kk [tI] Kv)) nF vs w
def z33_A (Kv:VW):A := (qr 1 (qs (qr 3 (qb (A.loop [0, 1, 7, 8] (uR0 [tL, tV, tI, tI] (z33_L0 Kv)) (qr 1 (qs (qc ql ql) (qs (qb (qr 2 (qs (A.reg (qn 5 (RA.dyn (Value.bool false) RA.done))) (qc (qr 2 ql) ql)))) (qe 2))))))) (qr 1 ql)))
theorem z33_ok:Sound Tryz.prog 123 z33_S := okS (x := z33_A) (fun Kv s_0 f_1=>z33_sd s_0 f_1 (kk [tI] Kv)) progMixed (Γ := []) trivial Tryz.call123 Tryz.func123 (fun Kv=>hStep (hLoop0 (L := z33_L0 Kv) (fun N0 s_0 f_1 t_7 t_8=>z33_b0 s_0 f_1 t_7 t_8 N0 (kk [tI] Kv)) (fun ⟨a0, a1, a2, _, _⟩ _ h=>let ⟨I, μ, h0, hr⟩ := h.out; ⟨fun b0 b1 b2 b3 w=>(b0=a0/\b1=a1/\b2=a2/\True)/\I b3 w, fun _ _ _ b3 w=>μ b3 w, ⟨⟨rfl, rfl, rfl, trivial⟩, h0⟩, fun ⟨_, _, _, _, _⟩ _ ⟨⟨e0, e1, e2, _⟩, hI⟩=>by cases e0; cases e1; cases e2; exact hr _ _ hI⟩)) <| hEnd)
def z1r_sd (s_0:Sl) (f_1:Value) (K:Pw.T0) (w:World):Prop :=
 z33_sh s_0 f_1 (fun r2 w1=>K (decide (r2 >= (0:Int))) w1) w
structure z1r_sh (s_0:Sl) (f_1:Value) (K:Pw.T0) (w:World):Prop where
 out:z1r_sd s_0 f_1 K w
noncomputable def z1r_S:Pw.Spec := fun vs w Kv=>un [tL, tV] (fun s_0 f_1=>z1r_sh s_0 f_1 (kk [tB] Kv)) nF vs w
def z1r_A (_:VW):A := (qr 1 (qr 5 ql))
theorem z1r_ok:Sound Tryz.prog 71 z1r_S := okS (x := z1r_A) (fun Kv s_0 f_1=>z1r_sd s_0 f_1 (kk [tB] Kv)) progMixed (Γ := [(123, z33_S)]) ⟨.inl z33_ok, trivial⟩ Tryz.call71 Tryz.func71 (fun _=>hEnd)
def z05_b0 (s_0:Sl) (f_1:Value) (t_7 t_8:Int) (N0:Sl->Value->Int->Int->World->Prop) (K:Pw.T1) (w:World):Prop :=
 cnd (decide (t_8 < t_7))
 (nz s_0.p fun a1=>(0 <= t_8/\t_8 < (s_0.l:Nat))/\∃ x2:Int, w.cell? (a1.add (t_8.toNat * 4))=some (Value.int .i64 x2)/\∃ x3:Int, w.cell? ((a1.add (t_8.toNat * 4)).add 1)=some (Value.int .i64 x3)/\∃ x4:Int, w.cell? ((a1.add (t_8.toNat * 4)).add 2)=some (Value.int .i64 x4)/\∃ x5:Int, w.cell? ((a1.add (t_8.toNat * 4)).add 3)=some (Value.int .i64 x5)/\CallV Tryz.prog f_1 [(Value.agg #[(Value.int .i64 x2), (Value.int .i64 x3), (Value.int .i64 x4), (Value.int .i64 x5)])] w fun u6 w7=>∃ x8:Bool, u6=(Value.bool x8)/\cnd x8
 (K t_8 w7)
 (inR .i64 (t_8 + (1:Int))/\N0 s_0 f_1 t_7 (t_8 + (1:Int)) w7))
 (K (-1:Int) w)
def z05_l0d (s_0:Sl) (f_1:Value) (t_7 t_8:Int) (K:Pw.T1) (w:World):Prop :=
 ∃ (I:Int->World->Prop) (μ:Int->World->Nat), I t_8 w/\∀ (t_81:Int) (w1:World), I t_81 w1 ->
 z05_b0 s_0 f_1 t_7 t_81 (fun s_0' f_1' t_7' t_8' w'=>((s_0'=s_0/\f_1'=f_1/\t_7'=t_7/\True)/\I t_8' w')/\μ t_8' w' < μ t_81 w1) K w1
structure z05_l0 (s_0:Sl) (f_1:Value) (t_7 t_8:Int) (K:Pw.T1) (w:World):Prop where
 out:z05_l0d s_0 f_1 t_7 t_8 K w
def z05_sd (s_0:Sl) (f_1:Value) (K:Pw.T1) (w:World):Prop :=
 z05_l0 s_0 f_1 (s_0.l:Int) (0:Int) K w
structure z05_sh (s_0:Sl) (f_1:Value) (K:Pw.T1) (w:World):Prop where
 out:z05_sd s_0 f_1 K w
def z05_L0 (Kv:VW):Cur [tL, tV, tI, tI] WP := fun s_0 f_1 t_7 t_8=>z05_l0 s_0 f_1 t_7 t_8 (kk [tI] Kv)
noncomputable def z05_S:Pw.Spec := fun vs w Kv=>un [tL, tV] (fun s_0 f_1=>z05_sh s_0 f_1 (kk [tI] Kv)) nF vs w
def z05_A (Kv:VW):A := (qr 1 (qs (qr 3 (qb (A.loop [0, 1, 7, 8] (uR0 [tL, tV, tI, tI] (z05_L0 Kv)) (qr 1 (qs (qc ql ql) (qs (qb (qr 2 (qs (A.reg (qn 5 (RA.dyn (Value.bool false) RA.done))) (qc (qr 2 ql) ql)))) (qe 2))))))) (qr 1 ql)))
theorem z05_ok:Sound Tryz.prog 180 z05_S := okS (x := z05_A) (fun Kv s_0 f_1=>z05_sd s_0 f_1 (kk [tI] Kv)) progMixed (Γ := []) trivial Tryz.call180 Tryz.func180 (fun Kv=>hStep (hLoop0 (L := z05_L0 Kv) (fun N0 s_0 f_1 t_7 t_8=>z05_b0 s_0 f_1 t_7 t_8 N0 (kk [tI] Kv)) (fun ⟨a0, a1, a2, _, _⟩ _ h=>let ⟨I, μ, h0, hr⟩ := h.out; ⟨fun b0 b1 b2 b3 w=>(b0=a0/\b1=a1/\b2=a2/\True)/\I b3 w, fun _ _ _ b3 w=>μ b3 w, ⟨⟨rfl, rfl, rfl, trivial⟩, h0⟩, fun ⟨_, _, _, _, _⟩ _ ⟨⟨e0, e1, e2, _⟩, hI⟩=>by cases e0; cases e1; cases e2; exact hr _ _ hI⟩)) <| hEnd)
def z00_sd (s_0:Sl) (f_1:Value) (K:Pw.T0) (w:World):Prop :=
 z05_sh s_0 f_1 (fun r2 w1=>K (decide (r2 >= (0:Int))) w1) w
structure z00_sh (s_0:Sl) (f_1:Value) (K:Pw.T0) (w:World):Prop where
 out:z00_sd s_0 f_1 K w
noncomputable def z00_S:Pw.Spec := fun vs w Kv=>un [tL, tV] (fun s_0 f_1=>z00_sh s_0 f_1 (kk [tB] Kv)) nF vs w
def z00_A (_:VW):A := (qr 1 (qr 5 ql))
theorem z00_ok:Sound Tryz.prog 132 z00_S := okS (x := z00_A) (fun Kv s_0 f_1=>z00_sd s_0 f_1 (kk [tB] Kv)) progMixed (Γ := [(180, z05_S)]) ⟨.inl z05_ok, trivial⟩ Tryz.call132 Tryz.func132 (fun _=>hEnd)
def z3k_b0 (s1_0 s2_1 t_9:Sl) (t_10 t_11:Int) (N0:Sl->Sl->Sl->Int->Int->World->Prop) (K:Pw.T1) (w:World):Prop :=
 cnd (decide (t_11 < t_10))
 (nz t_9.p fun a1=>(0 <= t_11/\t_11 < (t_9.l:Nat))/\∃ x2:Int, w.cell? (a1.add (t_11.toNat * 1))=some (Value.int .i64 x2)/\cnd (decide (t_11 >= (s2_1.l:Int)))
 (K (1:Int) w)
 (nz s2_1.p fun a3=>(0 <= t_11/\t_11 < (s2_1.l:Nat))/\∃ x4:Int, w.cell? (a3.add (t_11.toNat * 1))=some (Value.int .i64 x4)/\z49_sh x2 x4 (fun r6 w5=>cnd (r6 != (0:Int))
 (K r6 w5)
 (inR .i64 (t_11 + (1:Int))/\N0 s1_0 s2_1 t_9 t_10 (t_11 + (1:Int)) w5)) w))
 (cnd (decide ((s1_0.l:Int) < (s2_1.l:Int)))
 (K (-1:Int) w)
 (K (0:Int) w))
def z3k_l0d (s1_0 s2_1 t_9:Sl) (t_10 t_11:Int) (K:Pw.T1) (w:World):Prop :=
 ∃ (I:Int->World->Prop) (μ:Int->World->Nat), I t_11 w/\∀ (t_111:Int) (w1:World), I t_111 w1 ->
 z3k_b0 s1_0 s2_1 t_9 t_10 t_111 (fun s1_0' s2_1' t_9' t_10' t_11' w'=>((s1_0'=s1_0/\s2_1'=s2_1/\t_9'=t_9/\t_10'=t_10/\True)/\I t_11' w')/\μ t_11' w' < μ t_111 w1) K w1
structure z3k_l0 (s1_0 s2_1 t_9:Sl) (t_10 t_11:Int) (K:Pw.T1) (w:World):Prop where
 out:z3k_l0d s1_0 s2_1 t_9 t_10 t_11 K w
def z3k_sd (s1_0 s2_1:Sl) (K:Pw.T1) (w:World):Prop :=
 z3k_l0 s1_0 s2_1 s1_0 (s1_0.l:Int) (0:Int) K w
structure z3k_sh (s1_0 s2_1:Sl) (K:Pw.T1) (w:World):Prop where
 out:z3k_sd s1_0 s2_1 K w
def z3k_L0 (Kv:VW):Cur [tL, tL, tL, tI, tI] WP := fun s1_0 s2_1 t_9 t_10 t_11=>z3k_l0 s1_0 s2_1 t_9 t_10 t_11 (kk [tI] Kv)
noncomputable def z3k_S:Pw.Spec := fun vs w Kv=>un [tL, tL] (fun s1_0 s2_1=>z3k_sh s1_0 s2_1 (kk [tI] Kv)) nF vs w
def z3k_A (Kv:VW):A := (qr 1 (qs (qr 3 (qb (A.loop [0, 1, 9, 10, 11] (uR0 [tL, tL, tL, tI, tI] (z3k_L0 Kv)) (qr 1 (qs (qc ql ql) (qs (qb (qr 5 (qs (qr 4 (qc (qr 1 ql) ql)) (qr 5 (qr 4 (qr 2 (qc (qr 2 ql) ql))))))) (qe 2))))))) (qs (qr 5 (qc (qr 1 ql) ql)) (qr 1 ql))))
theorem z3k_ok:Sound Tryz.prog 92 z3k_S := okS (x := z3k_A) (fun Kv s1_0 s2_1=>z3k_sd s1_0 s2_1 (kk [tI] Kv)) progMixed (Γ := [(127, z49_S)]) ⟨.inl z49_ok, trivial⟩ Tryz.call92 Tryz.func92 (fun Kv=>hStep (hLoop0 (L := z3k_L0 Kv) (fun N0 s1_0 s2_1 t_9 t_10 t_11=>z3k_b0 s1_0 s2_1 t_9 t_10 t_11 N0 (kk [tI] Kv)) (fun ⟨a0, a1, a2, a3, _, _⟩ _ h=>let ⟨I, μ, h0, hr⟩ := h.out; ⟨fun b0 b1 b2 b3 b4 w=>(b0=a0/\b1=a1/\b2=a2/\b3=a3/\True)/\I b4 w, fun _ _ _ _ b4 w=>μ b4 w, ⟨⟨rfl, rfl, rfl, rfl, trivial⟩, h0⟩, fun ⟨_, _, _, _, _, _⟩ _ ⟨⟨e0, e1, e2, e3, _⟩, hI⟩=>by cases e0; cases e1; cases e2; cases e3; exact hr _ _ hI⟩)) <| hEnd)
end Go.Proofs.YtfpobpjandjhjaaGreatDoor
set_option maxRecDepth 20000
set_option maxRecDepth 20000
