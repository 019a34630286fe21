/- The bodies' formulas, by program. -/
import Derived.Test.YtfkmpbpkahcogaaGreatDoorProg
import Derived.KernelRfl
import Derived.Test.YtfkmpbpkahcogaaGreatDoorPwY
import Derived.Test.YtfkmpbpkahcogaaGreatDoorDT
import Derived.Test.YtfkmpbpkahcogaaGreatDoorCG0
import Derived.Test.YtfkmpbpkahcogaaGreatDoorCG1
import Derived.Test.YtfkmpbpkahcogaaGreatDoorDG0
import Derived.Test.YtfkmpbpkahcogaaGreatDoorDG1
import Derived.Test.YtfkmpbpkahcogaaGreatDoorDG2
import Derived.Test.YtfkmpbpkahcogaaGreatDoorDG3
set_option maxRecDepth 20000
namespace Go.Proofs.YtfkmpbpkahcogaaGreatDoor
open Go Pw
def z1k_b0 (a_0 b_1:Sl) (k_5:Int) (N0:Sl->Sl->Int->World->Prop) (K:Pw.T1) (w:World):Prop :=
 cnd (decide (k_5 < (a_0.l:Int)))
 (let w1 := w.drew
 nz a_0.p fun a2=>(0 <= k_5/\k_5 < (a_0.l:Nat))/\∃ x3:ByteArray, w1.cell? (a2.add (k_5.toNat * 1))=some (Value.string x3)/\nz b_1.p fun a4=>(0 <= k_5/\k_5 < (b_1.l:Nat))/\∃ x5:ByteArray, w1.cell? (a4.add (k_5.toNat * 1))=some (Value.string x5)/\cnd (!decide (x3=x5))
 (K false w1)
 (inR .i64 (k_5 + (1:Int))/\N0 a_0 b_1 (k_5 + (1:Int)) w1))
 (K true w)
def z1k_l0d (a_0 b_1:Sl) (k_5:Int) (K:Pw.T1) (w:World):Prop :=
 ∃ (I:Int->World->Prop) (μ:Int->World->Nat), I k_5 w/\∀ (k_51:Int) (w1:World), I k_51 w1 ->
 z1k_b0 a_0 b_1 k_51 (fun a_0' b_1' k_5' w'=>((a_0'=a_0/\b_1'=b_1/\True)/\I k_5' w')/\μ k_5' w' < μ k_51 w1) K w1
structure z1k_l0 (a_0 b_1:Sl) (k_5:Int) (K:Pw.T1) (w:World):Prop where
 out:z1k_l0d a_0 b_1 k_5 K w
def z1k_sd (a_0 b_1:Sl) (K:Pw.T1) (w:World):Prop :=
 cnd ((a_0.l:Int) != (b_1.l:Int))
 (K false w)
 (z1k_l0 a_0 b_1 (0:Int) K w)
structure z1k_sh (a_0 b_1:Sl) (K:Pw.T1) (w:World):Prop where
 out:z1k_sd a_0 b_1 K w
def z1k_L0 (Kv:VW):Cur [tL, tL, tI] WP := fun a_0 b_1 k_5=>z1k_l0 a_0 b_1 k_5 (kk [tB] Kv)
noncomputable def z1k_S:Pw.Spec := fun vs w Kv=>un [tL, tL] (fun a_0 b_1=>z1k_sh a_0 b_1 (kk [tB] Kv)) nF vs w
def z1k_A (Kv:VW):A := (qr 1 (qs (qr 5 (qc (qr 1 ql) ql)) (qs (qr 1 (qb (A.loop [0, 1, 5] (uR0 [tL, tL, tI] (z1k_L0 Kv)) (qs (qr 4 (qc ql ql)) (qs (qb (qs (A.drp (dp [0, 1, 2, 3, 4, 5, 6, 7, 8] DA.done)) (qc (qr 1 ql) ql))) (qe 3)))))) (qr 1 ql))))
theorem z1k_ok:Sound Tryz.prog 34 z1k_S := okS (x := z1k_A) (fun Kv a_0 b_1=>z1k_sd a_0 b_1 (kk [tB] Kv)) progMixed (Γ := []) trivial Tryz.call34 Tryz.func34 (fun Kv=>hStep (hLoop0 (L := z1k_L0 Kv) (fun N0 a_0 b_1 k_5=>z1k_b0 a_0 b_1 k_5 N0 (kk [tB] Kv)) (fun ⟨a0, a1, _, _⟩ _ h=>let ⟨I, μ, h0, hr⟩ := h.out; ⟨fun b0 b1 b2 w=>(b0=a0/\b1=a1/\True)/\I b2 w, fun _ _ b2 w=>μ b2 w, ⟨⟨rfl, rfl, trivial⟩, h0⟩, fun ⟨_, _, _, _⟩ _ ⟨⟨e0, e1, _⟩, hI⟩=>by cases e0; cases e1; exact hr _ _ hI⟩)) <| hEnd)
structure z0l_sh (n_0:Int) (K:Pw.T3) (w:World):Prop where
 out:Calls Tryz.prog 26 #[(Value.int .i64 n_0)] w fun e w'=>∃ r0:ByteArray, e=.returned (Value.string r0)/\K r0 w'
noncomputable def z0l_S:Pw.Spec := fun vs w Kv =>
 match vs with
 | [.int .i64 n_0]=>z0l_sh n_0 (fun r0 w'=>Kv (Value.string r0) w') w
 | _=>False
theorem z0l_okr:Sound Tryz.prog 26 z0l_S := ⟨Tryz.call26, fun vs w Kv h=>by
  unfold z0l_S at h
  split at h
  · exact h.out.mono fun e w' he=>by
      obtain ⟨_, he, hk⟩ := he
      exact ⟨_, he, hk⟩
  · exact h.elim⟩
def z0l_k1d (n_0:Int) (rest_3:ByteArray) (K:Pw.T3) (w:World):Prop :=
 ((((str [45]).size + rest_3.size:Nat):Int) <= maxI)/\(10:Int) ≠ 0/\inR .i64 ((48:Int) - (Int.tmod n_0 (10:Int)))/\inR .u8 ((48:Int) - (Int.tmod n_0 (10:Int)))/\let w5 := w.alloc (Obj.cells #[(Value.int .u8 ((48:Int) - (Int.tmod n_0 (10:Int))))] 5)
 btsS (Sl.mk (some (Addr.mk w.heap.size 0 none)) 1 1) w5 fun s6=>(((((str [45]) ++ rest_3).size + s6.size:Nat):Int) <= maxI)/\K (((str [45]) ++ rest_3) ++ s6) w5
structure z0l_k1 (n_0:Int) (rest_3:ByteArray) (K:Pw.T3) (w:World):Prop where
 out:z0l_k1d n_0 rest_3 K w
def z0l_k0d (n_0:Int) (K:Pw.T3) (w:World):Prop :=
 cnd (decide (n_0 < (0:Int)))
 (cnd (decide (n_0 <= (-10:Int)))
 ((10:Int) ≠ 0/\inR .i64 (Int.tdiv n_0 (10:Int))/\inR .i64 (-(Int.tdiv n_0 (10:Int)))/\z0l_sh (-(Int.tdiv n_0 (10:Int))) (fun r4 w3=>z0l_k1 n_0 r4 K w3) w)
 (z0l_k1 n_0 (str []) K w))
 (let w7 := w.drew
 ∃ S8:World->Prop, S8 w7/\(10:Int) ≠ 0/\inR .i64 (Int.tdiv n_0 (10:Int))/\(10:Int) ≠ 0/\inR .i64 ((48:Int) + (Int.tmod n_0 (10:Int)))/\inR .u8 ((48:Int) + (Int.tmod n_0 (10:Int)))/\(z0l_sh (Int.tdiv n_0 (10:Int)) (fun r10 w9=>S8 w9/\let w11 := w9.alloc (Obj.cells #[(Value.int .u8 ((48:Int) + (Int.tmod n_0 (10:Int))))] 5)
 btsS (Sl.mk (some (Addr.mk w9.heap.size 0 none)) 1 1) w11 fun s12=>(((r10.size + s12.size:Nat):Int) <= maxI)/\K (r10 ++ s12) w11) w7)
/\(let w13 := w7.alloc (Obj.cells #[(Value.int .u8 ((48:Int) + (Int.tmod n_0 (10:Int))))] 5)
 S8 w13/\(z0l_sh (Int.tdiv n_0 (10:Int)) (fun r15 w14=>S8 w14/\btsS (Sl.mk (some (Addr.mk w7.heap.size 0 none)) 1 1) w14 fun s16=>(((r15.size + s16.size:Nat):Int) <= maxI)/\K (r15 ++ s16) w14) w13)
/\(btsS (Sl.mk (some (Addr.mk w7.heap.size 0 none)) 1 1) w13 fun s17=>S8 w13/\z0l_sh (Int.tdiv n_0 (10:Int)) (fun r19 w18=>(((r19.size + s17.size:Nat):Int) <= maxI)/\K (r19 ++ s17) w18) w13)))
structure z0l_k0 (n_0:Int) (K:Pw.T3) (w:World):Prop where
 out:z0l_k0d n_0 K w
def z0l_sd (n_0:Int) (K:Pw.T3) (w:World):Prop :=
 cnd (decide (n_0 >= (0:Int)))
 (cnd (decide (n_0 < (10:Int)))
 (inR .i64 ((48:Int) + n_0)/\inR .u8 ((48:Int) + n_0)/\let w1 := w.alloc (Obj.cells #[(Value.int .u8 ((48:Int) + n_0))] 5)
 btsS (Sl.mk (some (Addr.mk w.heap.size 0 none)) 1 1) w1 fun s2=>K s2 w1)
 (z0l_k0 n_0 K w))
 (z0l_k0 n_0 K w)
def z0l_P0 (Kv:VW) (ρ:Rho) (vs:List Value) (w:World):Prop :=
 match ρ, vs with
 | _, [.int .i64 n_0]=>z0l_k0 n_0 (fun r0 w'=>Kv (Value.string r0) w') w
 | _, _=>False
def z0l_P1 (Kv:VW) (ρ:Rho) (vs:List Value) (w:World):Prop :=
 match ρ, vs with
 | _, [.int .i64 n_0, .string rest_3]=>z0l_k1 n_0 rest_3 (fun r0 w'=>Kv (Value.string r0) w') w
 | _, _=>False
noncomputable def z0l_E:Pw.Env := [(26, z0l_S)]
noncomputable def z0l_C:Code := (Tryz.f26.body).getD .skip
noncomputable def z0l_A (Kv:VW):Pw.A :=
 (qr 1 (qs (qs (A.reg (qn 3 (RA.spl 6 (qn 3 RA.done) (qk 2 (qn 1 RA.done))))) (qc (qr 6 ql) ql)) (A.cut [0] (z0l_P0 Kv) (qs (qr 2 (qc (qr 1 (qs (qr 2 (qc (qe 5) ql)) (A.cut [0, 3] (z0l_P1 Kv) (qr 10 ql)))) ql)) (qs (A.drw (dp [0, 1, 3, 4, 5, 6] (DA.two 2 (DA.eff 7 (DA.eff 8 (dp [9, 10] DA.done))) 7 (DA.two 2 (DA.eff 8 (dp [9, 10] DA.done)) 8 (DA.eff 2 (dp [9, 10] DA.done)))))) ql)))))
noncomputable def z0l_O (Kv:VW):List Ob := (obs Tryz.prog z0l_E 42 (z0l_A Kv) z0l_C (fun _=>retQ Tryz.prog Tryz.f26.results Kv))
theorem z0l_e (Kv:VW) (n_0:Int) (w:World):z0l_sd n_0 (fun r0 w'=>Kv (Value.string r0) w') w=W Tryz.prog z0l_E 42 (z0l_A Kv) z0l_C [] (retQ Tryz.prog Tryz.f26.results Kv) [] (startS [(Value.int .i64 n_0)]) w := by kernel_rfl
theorem z0l_e0 (Kv:VW) (ρ:Rho) (n_0:Int) (w:World):z0l_k0d n_0 (fun r0 w'=>Kv (Value.string r0) w') w=goalAt Tryz.prog z0l_E 42 (z0l_O Kv) 0 (ρ) [(Value.int .i64 n_0)] w := by kernel_rfl
theorem z0l_q0 (Kv:VW) (ρ:Rho) (vs:List Value) (w:World):labAt (z0l_O Kv) 0 ρ vs w=z0l_P0 Kv ρ vs w := by kernel_rfl
theorem z0l_h0 (Kv:VW):holdsAt Tryz.prog z0l_E 42 (z0l_O Kv) 0 := holdsAt_cut (.inl (by kernel_rfl)) (fun ρ vs w h=>by
  rw [z0l_q0] at h
  unfold z0l_P0 at h
  split at h
  · rw [← z0l_e0]; exact h.out
  · exact h.elim)
theorem z0l_e1 (Kv:VW) (ρ:Rho) (n_0:Int) (rest_3:ByteArray) (w:World):z0l_k1d n_0 rest_3 (fun r0 w'=>Kv (Value.string r0) w') w=goalAt Tryz.prog z0l_E 42 (z0l_O Kv) 1 (ρ) [(Value.int .i64 n_0), (Value.string rest_3)] w := by kernel_rfl
theorem z0l_q1 (Kv:VW) (ρ:Rho) (vs:List Value) (w:World):labAt (z0l_O Kv) 1 ρ vs w=z0l_P1 Kv ρ vs w := by kernel_rfl
theorem z0l_h1 (Kv:VW):holdsAt Tryz.prog z0l_E 42 (z0l_O Kv) 1 := holdsAt_cut (.inl (by kernel_rfl)) (fun ρ vs w h=>by
  rw [z0l_q1] at h
  unfold z0l_P1 at h
  split at h
  · rw [← z0l_e1]; exact h.out
  · exact h.elim)
theorem z0l_n (Kv:VW):obAt (z0l_O Kv) 2=none := by kernel_rfl
theorem z0l_h (Kv:VW):∀ k, holdsAt Tryz.prog z0l_E 42 (z0l_O Kv) k := fun k=>match k with
  | 0=>z0l_h0 Kv
  | 1=>z0l_h1 Kv
  | k + 2=>holdsAt_ge (z0l_n Kv) (Nat.le_add_left _ _)
theorem z0l_mk (n_0:Int) {K:ByteArray->World->Prop} {w:World} (h:z0l_sd n_0 K w):z0l_sh n_0 K w := by
  have e:(fun r0 w'=>(fun v w'=>∃ r0:ByteArray, v=(Value.string r0)/\K r0 w') (Value.string r0) w')=K := by
    funext r0 w'
    apply propext
    constructor
    · rintro ⟨r0', hv, hk⟩
      cases hv
      exact hk
    · intro hk
      exact ⟨_, rfl, hk⟩
  have h':z0l_sd n_0 (fun r0 w'=>(fun v w'=>∃ r0:ByteArray, v=(Value.string r0)/\K r0 w') (Value.string r0) w') w := by rw [e]; exact h
  rw [z0l_e (fun v w'=>∃ r0:ByteArray, v=(Value.string r0)/\K r0 w')] at h'
  refine ⟨(calls_sound (Γ := z0l_E) progMixed ⟨.inl z0l_okr, trivial⟩ Tryz.func26 (code := z0l_C) (by kernel_rfl) (z0l_A (fun v w'=>∃ r0:ByteArray, v=(Value.string r0)/\K r0 w')) (fun v w'=>∃ r0:ByteArray, v=(Value.string r0)/\K r0 w') (holds_all (z0l_h (fun v w'=>∃ r0:ByteArray, v=(Value.string r0)/\K r0 w'))) (Nat.le_of_ble_eq_true (by kernel_rfl)) h').mono fun e w' he=>?_⟩
  obtain ⟨v, rfl, _, rfl, hk⟩ := he
  exact ⟨_, rfl, hk⟩
def z1j_sd (n_0:Int) (K:Pw.T3) (w:World):Prop :=
 let w1 := w.alloc (Obj.cells #[(Value.string (str [113, 117, 97, 108, 105, 116, 121])), (Value.string (str [100, 97, 121, 115])), (Value.string (str [115, 116, 97, 102, 102])), (Value.string (str [112, 114, 105, 99, 101])), (Value.string (str [108, 111, 119]))] 9)
 z1y_sh n_0 (5:Int) (fun r3 w2=>(0 <= r3/\r3 < (5:Nat))/\∃ x5:ByteArray, w2.cell? ((Addr.mk w.heap.size 0 none).add (r3.toNat * 1))=some (Value.string x5)/\K x5 w2) w1
structure z1j_sh (n_0:Int) (K:Pw.T3) (w:World):Prop where
 out:z1j_sd n_0 K w
noncomputable def z1j_S:Pw.Spec := fun vs w Kv=>un [tI] (fun n_0=>z1j_sh n_0 (kk [tS] Kv)) nF vs w
def z1j_A (_:VW):A := (qr 1 (qr 6 ql))
theorem z1j_ok:Sound Tryz.prog 29 z1j_S := okS (x := z1j_A) (fun Kv n_0=>z1j_sd n_0 (kk [tS] Kv)) progMixed (Γ := [(28, z1y_S)]) ⟨.inl z1y_ok, trivial⟩ Tryz.call29 Tryz.func29 (fun _=>hEnd)
def z03_k10d (t_2 t_3:Addr) (K:Pw.T4) (w:World):Prop :=
 T43.ld w t_3 fun x152=>stN w t_2 (T43.cs x152) fun w153=>T43.ld w153 t_2 fun x154=>K x154 w153
structure z03_k10 (t_2 t_3:Addr) (K:Pw.T4) (w:World):Prop where
 out:z03_k10d t_2 t_3 K w
def z03_b9 (p_1 t_2 t_3:Addr) (k_10:Int) (N9:Addr->Addr->Addr->Int->World->Prop) (K:Pw.T4) (w:World):Prop :=
 ∃ x135:Sl, w.cell? (p_1.add 5)=some (Value.slice x135.p x135.l x135.c)/\cnd (decide (k_10 < (x135.l:Int)))
 (cnd (decide (k_10 < (3:Int)))
 (let w136 := w.drew
 ∃ S137:World->Prop, S137 w136/\∃ x138:Sl, (∀ w':World, S137 w'->w'.cell? (t_3.add 13)=some (Value.slice x138.p x138.l x138.c))/\∃ x139:Sl, (∀ w':World, S137 w'->w'.cell? (p_1.add 5)=some (Value.slice x139.p x139.l x139.c))/\nz x139.p fun a140=>(0 <= k_10/\k_10 < (x139.l:Nat))/\∃ x141:Sl, (∀ w':World, S137 w'->w'.cell? (a140.add (k_10.toNat * 1))=some (Value.slice x141.p x141.l x141.c))/\∃ x142:Sl, (∀ w':World, S137 w'->w'.cell? (p_1.add 5)=some (Value.slice x142.p x142.l x142.c))/\nz x142.p fun a143=>(0 <= k_10/\k_10 < (x142.l:Nat))/\∃ x144:Sl, (∀ w':World, S137 w'->w'.cell? (a143.add (k_10.toNat * 1))=some (Value.slice x144.p x144.l x144.c))/\(0 <= (0:Int)/\(0:Int) <= (min (x144.l:Int) (4:Int))/\(min (x144.l:Int) (4:Int)) <= (x141.c:Nat))/\let w145 := w136.alloc (Obj.cells #[] 3)
 S137 w145/\apS 1 8 [(Value.int .i64 0)] 3 (Sl.mk (some (Addr.mk w136.heap.size 0 none)) 0 0) (Sl.mk (subP x141.p 0 x141.c 1) ((min (x144.l:Int) (4:Int)).toNat - 0) (x141.c - 0)) w145 fun s146 w147=>S137 w147/\let w148 := w147.alloc (Obj.cells #[(Value.slice s146.p s146.l s146.c)] 25)
 S137 w148/\apS 1 24 [(Value.slice none 0 0)] 25 x138 (Sl.mk (some (Addr.mk w147.heap.size 0 none)) 1 1) w148 fun s149 w150=>S137 w150/\wrOk w150 (t_3.add 13)/\
 (let w151 := w150.setCell (t_3.add 13) (Value.slice s149.p s149.l s149.c)
 inR .i64 (k_10 + (1:Int))/\N9 p_1 t_2 t_3 (k_10 + (1:Int)) w151))
 (z03_k10 t_2 t_3 K w))
 (z03_k10 t_2 t_3 K w)
def z03_l9d (p_1 t_2 t_3:Addr) (k_10:Int) (K:Pw.T4) (w:World):Prop :=
 ∃ (I:Int->World->Prop) (μ:Int->World->Nat), I k_10 w/\∀ (k_101:Int) (w1:World), I k_101 w1 ->
 z03_b9 p_1 t_2 t_3 k_101 (fun p_1' t_2' t_3' k_10' w'=>((p_1'=p_1/\t_2'=t_2/\t_3'=t_3/\True)/\I k_10' w')/\μ k_10' w' < μ k_101 w1) K w1
structure z03_l9 (p_1 t_2 t_3:Addr) (k_10:Int) (K:Pw.T4) (w:World):Prop where
 out:z03_l9d p_1 t_2 t_3 k_10 K w
def z03_k8d (p_1 t_2 t_3:Addr) (K:Pw.T4) (w:World):Prop :=
 z03_l9 p_1 t_2 t_3 (0:Int) K w
structure z03_k8 (p_1 t_2 t_3:Addr) (K:Pw.T4) (w:World):Prop where
 out:z03_k8d p_1 t_2 t_3 K w
def z03_b7 (p_1 t_2 t_3:Addr) (k_9:Int) (N7:Addr->Addr->Addr->Int->World->Prop) (K:Pw.T4) (w:World):Prop :=
 ∃ x122:Sl, w.cell? (p_1.add 4)=some (Value.slice x122.p x122.l x122.c)/\cnd (decide (k_9 < (x122.l:Int)))
 (cnd (decide (k_9 < (4:Int)))
 (let w123 := w.drew
 ∃ S124:World->Prop, S124 w123/\∃ x125:Sl, (∀ w':World, S124 w'->w'.cell? (t_3.add 11)=some (Value.slice x125.p x125.l x125.c))/\∃ x126:Sl, (∀ w':World, S124 w'->w'.cell? (p_1.add 4)=some (Value.slice x126.p x126.l x126.c))/\nz x126.p fun a127=>(0 <= k_9/\k_9 < (x126.l:Nat))/\∃ x128:Int, (∀ w':World, S124 w'->w'.cell? (a127.add (k_9.toNat * 1))=some (Value.int .i64 x128))/\z1j_sh x128 (fun r130 w129=>S124 w129/\let w131 := w129.alloc (Obj.cells #[(Value.string r130)] 9)
 S124 w131/\apS 1 16 [(Value.string (str []))] 9 x125 (Sl.mk (some (Addr.mk w129.heap.size 0 none)) 1 1) w131 fun s132 w133=>S124 w133/\wrOk w133 (t_3.add 11)/\
 (let w134 := w133.setCell (t_3.add 11) (Value.slice s132.p s132.l s132.c)
 inR .i64 (k_9 + (1:Int))/\N7 p_1 t_2 t_3 (k_9 + (1:Int)) w134)) w123)
 (z03_k8 p_1 t_2 t_3 K w))
 (z03_k8 p_1 t_2 t_3 K w)
def z03_l7d (p_1 t_2 t_3:Addr) (k_9:Int) (K:Pw.T4) (w:World):Prop :=
 ∃ (I:Int->World->Prop) (μ:Int->World->Nat), I k_9 w/\∀ (k_91:Int) (w1:World), I k_91 w1 ->
 z03_b7 p_1 t_2 t_3 k_91 (fun p_1' t_2' t_3' k_9' w'=>((p_1'=p_1/\t_2'=t_2/\t_3'=t_3/\True)/\I k_9' w')/\μ k_9' w' < μ k_91 w1) K w1
structure z03_l7 (p_1 t_2 t_3:Addr) (k_9:Int) (K:Pw.T4) (w:World):Prop where
 out:z03_l7d p_1 t_2 t_3 k_9 K w
def z03_k6d (p_1 t_2 t_3:Addr) (K:Pw.T4) (w:World):Prop :=
 z03_l7 p_1 t_2 t_3 (0:Int) K w
structure z03_k6 (p_1 t_2 t_3:Addr) (K:Pw.T4) (w:World):Prop where
 out:z03_k6d p_1 t_2 t_3 K w
def z03_b5 (p_1 t_2 t_3:Addr) (k_7:Int) (N5:Addr->Addr->Addr->Int->World->Prop) (K:Pw.T4) (w:World):Prop :=
 ∃ x74:Sl, w.cell? (p_1.add 2)=some (Value.slice x74.p x74.l x74.c)/\cnd (decide (k_7 < (x74.l:Int)))
 (cnd (decide (k_7 < (4:Int)))
 (∃ x75:Sl, w.cell? (p_1.add 2)=some (Value.slice x75.p x75.l x75.c)/\nz x75.p fun a76=>(0 <= k_7/\k_7 < (x75.l:Nat))/\∃ x77:Int, w.cell? (a76.add (k_7.toNat * 3))=some (Value.int .i64 x77)/\∃ x78:Int, w.cell? ((a76.add (k_7.toNat * 3)).add 1)=some (Value.int .i64 x78)/\∃ x79:Int, w.cell? ((a76.add (k_7.toNat * 3)).add 2)=some (Value.int .i64 x79)/\let w80 := w.alloc (Obj.cells #[(Value.int .i64 0), (Value.int .i64 0), (Value.int .i64 0)] 50)
 stN w80 (Addr.mk w.heap.size 0 none) [(Value.int .i64 x77), (Value.int .i64 x78), (Value.int .i64 x79)] fun w81=>let w82 := w81.drew
 ∃ S83:World->Prop, S83 w82/\∃ x84:Sl, (∀ w':World, S83 w'->w'.cell? (t_3.add 3)=some (Value.slice x84.p x84.l x84.c))/\(0 <= (0:Int)/\(0:Int) < (3:Nat))/\∃ x85:Int, (∀ w':World, S83 w'->w'.cell? ((Addr.mk w.heap.size 0 none).add ((0:Int).toNat * 1))=some (Value.int .i64 x85))/\(0 <= (1:Int)/\(1:Int) < (3:Nat))/\∃ x86:Int, (∀ w':World, S83 w'->w'.cell? ((Addr.mk w.heap.size 0 none).add ((1:Int).toNat * 1))=some (Value.int .i64 x86))/\(0 <= (2:Int)/\(2:Int) < (3:Nat))/\∃ x87:Int, (∀ w':World, S83 w'->w'.cell? ((Addr.mk w.heap.size 0 none).add ((2:Int).toNat * 1))=some (Value.int .i64 x87))/\(z1j_sh x85 (fun r89 w88=>S83 w88/\(let w90 := w88.alloc (Obj.cells #[(Value.string (str [60, 61])), (Value.string (str [62, 61]))] 9)
 S83 w90/\z1y_sh x86 (2:Int) (fun r93 w92=>∃ S91:World->Prop, S91 w92/\(∀ u:World, S91 u->S83 u)/\(0 <= r93/\r93 < (2:Nat))/\∃ x95:ByteArray, (∀ w':World, S91 w'->w'.cell? ((Addr.mk w88.heap.size 0 none).add (r93.toNat * 1))=some (Value.string x95))/\let w96 := w92.alloc (Obj.cells #[(Value.string r89), (Value.string x95), (Value.int .i64 x87)] 73)
 S91 w96/\apS 3 40 [(Value.string (str [])), (Value.string (str [])), (Value.int .i64 0)] 73 x84 (Sl.mk (some (Addr.mk w92.heap.size 0 none)) 1 1) w96 fun s97 w98=>S91 w98/\wrOk w98 (t_3.add 3)/\
 (let w99 := w98.setCell (t_3.add 3) (Value.slice s97.p s97.l s97.c)
 inR .i64 (k_7 + (1:Int))/\N5 p_1 t_2 t_3 (k_7 + (1:Int)) w99)) w90)
/\(z1y_sh x86 (2:Int) (fun r101 w100=>S83 w100/\let w103 := w100.alloc (Obj.cells #[(Value.string (str [60, 61])), (Value.string (str [62, 61]))] 9)
 ∃ S102:World->Prop, S102 w103/\(∀ u:World, S102 u->S83 u)/\(0 <= r101/\r101 < (2:Nat))/\∃ x105:ByteArray, (∀ w':World, S102 w'->w'.cell? ((Addr.mk w100.heap.size 0 none).add (r101.toNat * 1))=some (Value.string x105))/\let w106 := w103.alloc (Obj.cells #[(Value.string r89), (Value.string x105), (Value.int .i64 x87)] 73)
 S102 w106/\apS 3 40 [(Value.string (str [])), (Value.string (str [])), (Value.int .i64 0)] 73 x84 (Sl.mk (some (Addr.mk w103.heap.size 0 none)) 1 1) w106 fun s107 w108=>S102 w108/\wrOk w108 (t_3.add 3)/\
 (let w109 := w108.setCell (t_3.add 3) (Value.slice s107.p s107.l s107.c)
 inR .i64 (k_7 + (1:Int))/\N5 p_1 t_2 t_3 (k_7 + (1:Int)) w109)) w88)) w82)
/\(let w110 := w82.alloc (Obj.cells #[(Value.string (str [60, 61])), (Value.string (str [62, 61]))] 9)
 S83 w110/\z1j_sh x85 (fun r112 w111=>S83 w111/\z1y_sh x86 (2:Int) (fun r115 w114=>∃ S113:World->Prop, S113 w114/\(∀ u:World, S113 u->S83 u)/\(0 <= r115/\r115 < (2:Nat))/\∃ x117:ByteArray, (∀ w':World, S113 w'->w'.cell? ((Addr.mk w82.heap.size 0 none).add (r115.toNat * 1))=some (Value.string x117))/\let w118 := w114.alloc (Obj.cells #[(Value.string r112), (Value.string x117), (Value.int .i64 x87)] 73)
 S113 w118/\apS 3 40 [(Value.string (str [])), (Value.string (str [])), (Value.int .i64 0)] 73 x84 (Sl.mk (some (Addr.mk w114.heap.size 0 none)) 1 1) w118 fun s119 w120=>S113 w120/\wrOk w120 (t_3.add 3)/\
 (let w121 := w120.setCell (t_3.add 3) (Value.slice s119.p s119.l s119.c)
 inR .i64 (k_7 + (1:Int))/\N5 p_1 t_2 t_3 (k_7 + (1:Int)) w121)) w111) w110))
 (z03_k6 p_1 t_2 t_3 K w))
 (z03_k6 p_1 t_2 t_3 K w)
def z03_l5d (p_1 t_2 t_3:Addr) (k_7:Int) (K:Pw.T4) (w:World):Prop :=
 ∃ (I:Int->World->Prop) (μ:Int->World->Nat), I k_7 w/\∀ (k_71:Int) (w1:World), I k_71 w1 ->
 z03_b5 p_1 t_2 t_3 k_71 (fun p_1' t_2' t_3' k_7' w'=>((p_1'=p_1/\t_2'=t_2/\t_3'=t_3/\True)/\I k_7' w')/\μ k_7' w' < μ k_71 w1) K w1
structure z03_l5 (p_1 t_2 t_3:Addr) (k_7:Int) (K:Pw.T4) (w:World):Prop where
 out:z03_l5d p_1 t_2 t_3 k_7 K w
def z03_k4d (p_1 t_2 t_3:Addr) (K:Pw.T4) (w:World):Prop :=
 z03_l5 p_1 t_2 t_3 (0:Int) K w
structure z03_k4 (p_1 t_2 t_3:Addr) (K:Pw.T4) (w:World):Prop where
 out:z03_k4d p_1 t_2 t_3 K w
def z03_b3 (p_1 t_2 t_3:Addr) (k_5:Int) (N3:Addr->Addr->Addr->Int->World->Prop) (K:Pw.T4) (w:World):Prop :=
 ∃ x49:Sl, w.cell? (p_1.add 1)=some (Value.slice x49.p x49.l x49.c)/\cnd (decide (k_5 < (x49.l:Int)))
 (cnd (decide (k_5 < (5:Int)))
 (∃ x50:Sl, w.cell? (p_1.add 1)=some (Value.slice x50.p x50.l x50.c)/\nz x50.p fun a51=>(0 <= k_5/\k_5 < (x50.l:Nat))/\∃ x52:Int, w.cell? (a51.add (k_5.toNat * 4))=some (Value.int .i64 x52)/\∃ x53:Int, w.cell? ((a51.add (k_5.toNat * 4)).add 1)=some (Value.int .i64 x53)/\∃ x54:Int, w.cell? ((a51.add (k_5.toNat * 4)).add 2)=some (Value.int .i64 x54)/\∃ x55:Int, w.cell? ((a51.add (k_5.toNat * 4)).add 3)=some (Value.int .i64 x55)/\let w56 := w.alloc (Obj.cells #[(Value.int .i64 0), (Value.int .i64 0), (Value.int .i64 0), (Value.int .i64 0)] 71)
 stN w56 (Addr.mk w.heap.size 0 none) [(Value.int .i64 x52), (Value.int .i64 x53), (Value.int .i64 x54), (Value.int .i64 x55)] fun w57=>let w58 := w57.drew
 ∃ S59:World->Prop, S59 w58/\∃ x60:Sl, (∀ w':World, S59 w'->w'.cell? (t_3.add 2)=some (Value.slice x60.p x60.l x60.c))/\(0 <= (0:Int)/\(0:Int) < (4:Nat))/\∃ x61:Int, (∀ w':World, S59 w'->w'.cell? ((Addr.mk w.heap.size 0 none).add ((0:Int).toNat * 1))=some (Value.int .i64 x61))/\(0 <= (1:Int)/\(1:Int) < (4:Nat))/\∃ x62:Int, (∀ w':World, S59 w'->w'.cell? ((Addr.mk w.heap.size 0 none).add ((1:Int).toNat * 1))=some (Value.int .i64 x62))/\(0 <= (2:Int)/\(2:Int) < (4:Nat))/\∃ x63:Int, (∀ w':World, S59 w'->w'.cell? ((Addr.mk w.heap.size 0 none).add ((2:Int).toNat * 1))=some (Value.int .i64 x63))/\(0 <= (3:Int)/\(3:Int) < (4:Nat))/\∃ x64:Int, (∀ w':World, S59 w'->w'.cell? ((Addr.mk w.heap.size 0 none).add ((3:Int).toNat * 1))=some (Value.int .i64 x64))/\(0 <= (3:Int)/\(3:Int) < (4:Nat))/\∃ x65:Int, (∀ w':World, S59 w'->w'.cell? ((Addr.mk w.heap.size 0 none).add ((3:Int).toNat * 1))=some (Value.int .i64 x65))/\(2:Int) ≠ 0/\z1j_sh x61 (fun r67 w66=>S59 w66/\z1y_sh x62 (3:Int) (fun r69 w68=>S59 w68/\let w70 := w68.alloc (Obj.cells #[(Value.string r67), (Value.int .i64 r69), (Value.int .i64 x63), (Value.int .i64 x64), (Value.bool ((Int.tmod x65 (2:Int)) != (0:Int)))] 64)
 S59 w70/\apS 5 48 [(Value.string (str [])), (Value.int .i64 0), (Value.int .i64 0), (Value.int .i64 0), (Value.bool false)] 64 x60 (Sl.mk (some (Addr.mk w68.heap.size 0 none)) 1 1) w70 fun s71 w72=>S59 w72/\wrOk w72 (t_3.add 2)/\
 (let w73 := w72.setCell (t_3.add 2) (Value.slice s71.p s71.l s71.c)
 inR .i64 (k_5 + (1:Int))/\N3 p_1 t_2 t_3 (k_5 + (1:Int)) w73)) w66) w58)
 (z03_k4 p_1 t_2 t_3 K w))
 (z03_k4 p_1 t_2 t_3 K w)
def z03_l3d (p_1 t_2 t_3:Addr) (k_5:Int) (K:Pw.T4) (w:World):Prop :=
 ∃ (I:Int->World->Prop) (μ:Int->World->Nat), I k_5 w/\∀ (k_51:Int) (w1:World), I k_51 w1 ->
 z03_b3 p_1 t_2 t_3 k_51 (fun p_1' t_2' t_3' k_5' w'=>((p_1'=p_1/\t_2'=t_2/\t_3'=t_3/\True)/\I k_5' w')/\μ k_5' w' < μ k_51 w1) K w1
structure z03_l3 (p_1 t_2 t_3:Addr) (k_5:Int) (K:Pw.T4) (w:World):Prop where
 out:z03_l3d p_1 t_2 t_3 k_5 K w
def z03_k2d (p_1 t_2 t_3:Addr) (K:Pw.T4) (w:World):Prop :=
 z03_l3 p_1 t_2 t_3 (0:Int) K w
structure z03_k2 (p_1 t_2 t_3:Addr) (K:Pw.T4) (w:World):Prop where
 out:z03_k2d p_1 t_2 t_3 K w
def z03_b1 (p_1 t_2 t_3:Addr) (k_4:Int) (N1:Addr->Addr->Addr->Int->World->Prop) (K:Pw.T4) (w:World):Prop :=
 ∃ x33:Sl, w.cell? p_1=some (Value.slice x33.p x33.l x33.c)/\cnd (decide (k_4 < (x33.l:Int)))
 (cnd (decide (k_4 < (5:Int)))
 (let w34 := w.drew
 ∃ S35:World->Prop, S35 w34/\∃ x36:Sl, (∀ w':World, S35 w'->w'.cell? (t_3.add 1)=some (Value.slice x36.p x36.l x36.c))/\∃ x37:Sl, (∀ w':World, S35 w'->w'.cell? p_1=some (Value.slice x37.p x37.l x37.c))/\nz x37.p fun a38=>(0 <= k_4/\k_4 < (x37.l:Nat))/\(0 <= (0:Int)/\(0:Int) < (2:Nat))/\∃ x39:Int, (∀ w':World, S35 w'->w'.cell? ((a38.add (k_4.toNat * 2)).add ((0:Int).toNat * 1))=some (Value.int .i64 x39))/\∃ x40:Sl, (∀ w':World, S35 w'->w'.cell? p_1=some (Value.slice x40.p x40.l x40.c))/\nz x40.p fun a41=>(0 <= k_4/\k_4 < (x40.l:Nat))/\(0 <= (1:Int)/\(1:Int) < (2:Nat))/\∃ x42:Int, (∀ w':World, S35 w'->w'.cell? ((a41.add (k_4.toNat * 2)).add ((1:Int).toNat * 1))=some (Value.int .i64 x42))/\z1y_sh x39 (4:Int) (fun r44 w43=>S35 w43/\let w45 := w43.alloc (Obj.cells #[(Value.int .i64 r44), (Value.int .i64 x42)] 66)
 S35 w45/\apS 2 16 [(Value.int .i64 0), (Value.int .i64 0)] 66 x36 (Sl.mk (some (Addr.mk w43.heap.size 0 none)) 1 1) w45 fun s46 w47=>S35 w47/\wrOk w47 (t_3.add 1)/\
 (let w48 := w47.setCell (t_3.add 1) (Value.slice s46.p s46.l s46.c)
 inR .i64 (k_4 + (1:Int))/\N1 p_1 t_2 t_3 (k_4 + (1:Int)) w48)) w34)
 (z03_k2 p_1 t_2 t_3 K w))
 (z03_k2 p_1 t_2 t_3 K w)
def z03_l1d (p_1 t_2 t_3:Addr) (k_4:Int) (K:Pw.T4) (w:World):Prop :=
 ∃ (I:Int->World->Prop) (μ:Int->World->Nat), I k_4 w/\∀ (k_41:Int) (w1:World), I k_41 w1 ->
 z03_b1 p_1 t_2 t_3 k_41 (fun p_1' t_2' t_3' k_4' w'=>((p_1'=p_1/\t_2'=t_2/\t_3'=t_3/\True)/\I k_4' w')/\μ k_4' w' < μ k_41 w1) K w1
structure z03_l1 (p_1 t_2 t_3:Addr) (k_4:Int) (K:Pw.T4) (w:World):Prop where
 out:z03_l1d p_1 t_2 t_3 k_4 K w
def z03_k0d (p_1 t_2 t_3:Addr) (K:Pw.T4) (w:World):Prop :=
 (0 <= (4:Int)/\(4:Int) < (10:Nat))/\∃ x27:Int, w.cell? ((p_1.add 6).add ((4:Int).toNat * 1))=some (Value.int .i64 x27)/\(0 <= (5:Int)/\(5:Int) < (10:Nat))/\∃ x28:Int, w.cell? ((p_1.add 6).add ((5:Int).toNat * 1))=some (Value.int .i64 x28)/\(0 <= (6:Int)/\(6:Int) < (10:Nat))/\∃ x29:Int, w.cell? ((p_1.add 6).add ((6:Int).toNat * 1))=some (Value.int .i64 x29)/\(0 <= (7:Int)/\(7:Int) < (10:Nat))/\∃ x30:Int, w.cell? ((p_1.add 6).add ((7:Int).toNat * 1))=some (Value.int .i64 x30)/\(0 <= (8:Int)/\(8:Int) < (10:Nat))/\∃ x31:Int, w.cell? ((p_1.add 6).add ((8:Int).toNat * 1))=some (Value.int .i64 x31)/\stN w (t_3.add 15) [(Value.int .i64 x27), (Value.int .i64 x28), (Value.int .i64 x29), (Value.int .i64 x30), (Value.int .i64 x31)] fun w32=>z03_l1 p_1 t_2 t_3 (0:Int) K w32
structure z03_k0 (p_1 t_2 t_3:Addr) (K:Pw.T4) (w:World):Prop where
 out:z03_k0d p_1 t_2 t_3 K w
def z03_sd (p_0:T29) (K:Pw.T4) (w:World):Prop :=
 let w1 := w.alloc (Obj.cells (T29.cs p_0).toArray 29)
 let w2 := w1.alloc (Obj.cells (T43.cs (T43.mk (str []) (Sl.mk none 0 0) (Sl.mk none 0 0) (Sl.mk none 0 0) (0:Int) (0:Int) (str []) (0:Int) (0:Int) (str []) (Sl.mk none 0 0) (Sl.mk none 0 0) (0:Int) (Sl.mk none 0 0) (0:Int) (0:Int) (0:Int) (0:Int) (0:Int) (0:Int))).toArray 43)
 let w3 := w2.drew
 ∃ S4:World->Prop, S4 w3/\(0 <= (9:Int)/\(9:Int) < (10:Nat))/\∃ x5:Int, (∀ w':World, S4 w'->w'.cell? ((Addr.mk w.heap.size 6 none).add ((9:Int).toNat * 1))=some (Value.int .i64 x5))/\(0 <= (0:Int)/\(0:Int) < (10:Nat))/\∃ x6:Int, (∀ w':World, S4 w'->w'.cell? ((Addr.mk w.heap.size 6 none).add ((0:Int).toNat * 1))=some (Value.int .i64 x6))/\(0 <= (1:Int)/\(1:Int) < (10:Nat))/\∃ x7:Int, (∀ w':World, S4 w'->w'.cell? ((Addr.mk w.heap.size 6 none).add ((1:Int).toNat * 1))=some (Value.int .i64 x7))/\(0 <= (2:Int)/\(2:Int) < (10:Nat))/\∃ x8:Int, (∀ w':World, S4 w'->w'.cell? ((Addr.mk w.heap.size 6 none).add ((2:Int).toNat * 1))=some (Value.int .i64 x8))/\(0 <= (3:Int)/\(3:Int) < (10:Nat))/\∃ x9:Int, (∀ w':World, S4 w'->w'.cell? ((Addr.mk w.heap.size 6 none).add ((3:Int).toNat * 1))=some (Value.int .i64 x9))/\∃ x10:Sl, (∀ w':World, S4 w'->w'.cell? (Addr.mk w.heap.size 3 none)=some (Value.slice x10.p x10.l x10.c))/\(z0l_sh x5 (fun r12 w11=>S4 w11/\(z1f_sh x10 (fun r14_0 r14_1 r14_2 r14_3 r14_4 w13=>S4 w13/\let w15 := w13.alloc (Obj.cells (T43.cs (T43.mk (str []) (Sl.mk none 0 0) (Sl.mk none 0 0) (Sl.mk none 0 0) (0:Int) (0:Int) (str []) (0:Int) (0:Int) (str []) (Sl.mk none 0 0) (Sl.mk none 0 0) (0:Int) (Sl.mk none 0 0) (0:Int) (0:Int) (0:Int) (0:Int) (0:Int) (0:Int))).toArray 43)
 S4 w15/\stN w15 (Addr.mk w13.heap.size 0 none) (T43.cs (T43.mk r12 (Sl.mk none 0 0) (Sl.mk none 0 0) (Sl.mk none 0 0) x6 x7 r14_0 r14_1 r14_2 r14_3 r14_4 (Sl.mk none 0 0) x8 (Sl.mk none 0 0) x9 (0:Int) (0:Int) (0:Int) (0:Int) (0:Int))) fun w16=>z03_k0 (Addr.mk w.heap.size 0 none) (Addr.mk w1.heap.size 0 none) (Addr.mk w13.heap.size 0 none) K w16) w11)
/\(let w17 := w11.alloc (Obj.cells (T43.cs (T43.mk (str []) (Sl.mk none 0 0) (Sl.mk none 0 0) (Sl.mk none 0 0) (0:Int) (0:Int) (str []) (0:Int) (0:Int) (str []) (Sl.mk none 0 0) (Sl.mk none 0 0) (0:Int) (Sl.mk none 0 0) (0:Int) (0:Int) (0:Int) (0:Int) (0:Int) (0:Int))).toArray 43)
 S4 w17/\z1f_sh x10 (fun r19_0 r19_1 r19_2 r19_3 r19_4 w18=>S4 w18/\stN w18 (Addr.mk w11.heap.size 0 none) (T43.cs (T43.mk r12 (Sl.mk none 0 0) (Sl.mk none 0 0) (Sl.mk none 0 0) x6 x7 r19_0 r19_1 r19_2 r19_3 r19_4 (Sl.mk none 0 0) x8 (Sl.mk none 0 0) x9 (0:Int) (0:Int) (0:Int) (0:Int) (0:Int))) fun w20=>z03_k0 (Addr.mk w.heap.size 0 none) (Addr.mk w1.heap.size 0 none) (Addr.mk w11.heap.size 0 none) K w20) w17)) w3)
/\(let w21 := w3.alloc (Obj.cells (T43.cs (T43.mk (str []) (Sl.mk none 0 0) (Sl.mk none 0 0) (Sl.mk none 0 0) (0:Int) (0:Int) (str []) (0:Int) (0:Int) (str []) (Sl.mk none 0 0) (Sl.mk none 0 0) (0:Int) (Sl.mk none 0 0) (0:Int) (0:Int) (0:Int) (0:Int) (0:Int) (0:Int))).toArray 43)
 S4 w21/\z0l_sh x5 (fun r23 w22=>S4 w22/\z1f_sh x10 (fun r25_0 r25_1 r25_2 r25_3 r25_4 w24=>S4 w24/\stN w24 (Addr.mk w3.heap.size 0 none) (T43.cs (T43.mk r23 (Sl.mk none 0 0) (Sl.mk none 0 0) (Sl.mk none 0 0) x6 x7 r25_0 r25_1 r25_2 r25_3 r25_4 (Sl.mk none 0 0) x8 (Sl.mk none 0 0) x9 (0:Int) (0:Int) (0:Int) (0:Int) (0:Int))) fun w26=>z03_k0 (Addr.mk w.heap.size 0 none) (Addr.mk w1.heap.size 0 none) (Addr.mk w3.heap.size 0 none) K w26) w22) w21)
structure z03_sh (p_0:T29) (K:Pw.T4) (w:World):Prop where
 out:z03_sd p_0 K w
def z03_L0 (Kv:VW):Cur [tQ, tQ, tQ] WP := fun p_1 t_2 t_3=>z03_k0 p_1 t_2 t_3 (T43.un (kk (.g 20 :: tS :: tL :: tL :: tL :: tI :: tI :: tS :: tI :: tI :: tS :: tL :: tL :: tI :: tL :: tI :: tI :: tI :: tI :: tI :: tI :: []) Kv))
def z03_L1 (Kv:VW):Cur [tQ, tQ, tQ, tI] WP := fun p_1 t_2 t_3 k_4=>z03_l1 p_1 t_2 t_3 k_4 (T43.un (kk (.g 20 :: tS :: tL :: tL :: tL :: tI :: tI :: tS :: tI :: tI :: tS :: tL :: tL :: tI :: tL :: tI :: tI :: tI :: tI :: tI :: tI :: []) Kv))
def z03_L2 (Kv:VW):Cur [tQ, tQ, tQ] WP := fun p_1 t_2 t_3=>z03_k2 p_1 t_2 t_3 (T43.un (kk (.g 20 :: tS :: tL :: tL :: tL :: tI :: tI :: tS :: tI :: tI :: tS :: tL :: tL :: tI :: tL :: tI :: tI :: tI :: tI :: tI :: tI :: []) Kv))
def z03_L3 (Kv:VW):Cur [tQ, tQ, tQ, tI] WP := fun p_1 t_2 t_3 k_5=>z03_l3 p_1 t_2 t_3 k_5 (T43.un (kk (.g 20 :: tS :: tL :: tL :: tL :: tI :: tI :: tS :: tI :: tI :: tS :: tL :: tL :: tI :: tL :: tI :: tI :: tI :: tI :: tI :: tI :: []) Kv))
def z03_L4 (Kv:VW):Cur [tQ, tQ, tQ] WP := fun p_1 t_2 t_3=>z03_k4 p_1 t_2 t_3 (T43.un (kk (.g 20 :: tS :: tL :: tL :: tL :: tI :: tI :: tS :: tI :: tI :: tS :: tL :: tL :: tI :: tL :: tI :: tI :: tI :: tI :: tI :: tI :: []) Kv))
def z03_L5 (Kv:VW):Cur [tQ, tQ, tQ, tI] WP := fun p_1 t_2 t_3 k_7=>z03_l5 p_1 t_2 t_3 k_7 (T43.un (kk (.g 20 :: tS :: tL :: tL :: tL :: tI :: tI :: tS :: tI :: tI :: tS :: tL :: tL :: tI :: tL :: tI :: tI :: tI :: tI :: tI :: tI :: []) Kv))
def z03_L6 (Kv:VW):Cur [tQ, tQ, tQ] WP := fun p_1 t_2 t_3=>z03_k6 p_1 t_2 t_3 (T43.un (kk (.g 20 :: tS :: tL :: tL :: tL :: tI :: tI :: tS :: tI :: tI :: tS :: tL :: tL :: tI :: tL :: tI :: tI :: tI :: tI :: tI :: tI :: []) Kv))
def z03_L7 (Kv:VW):Cur [tQ, tQ, tQ, tI] WP := fun p_1 t_2 t_3 k_9=>z03_l7 p_1 t_2 t_3 k_9 (T43.un (kk (.g 20 :: tS :: tL :: tL :: tL :: tI :: tI :: tS :: tI :: tI :: tS :: tL :: tL :: tI :: tL :: tI :: tI :: tI :: tI :: tI :: tI :: []) Kv))
def z03_L8 (Kv:VW):Cur [tQ, tQ, tQ] WP := fun p_1 t_2 t_3=>z03_k8 p_1 t_2 t_3 (T43.un (kk (.g 20 :: tS :: tL :: tL :: tL :: tI :: tI :: tS :: tI :: tI :: tS :: tL :: tL :: tI :: tL :: tI :: tI :: tI :: tI :: tI :: tI :: []) Kv))
def z03_L9 (Kv:VW):Cur [tQ, tQ, tQ, tI] WP := fun p_1 t_2 t_3 k_10=>z03_l9 p_1 t_2 t_3 k_10 (T43.un (kk (.g 20 :: tS :: tL :: tL :: tL :: tI :: tI :: tS :: tI :: tI :: tS :: tL :: tL :: tI :: tL :: tI :: tI :: tI :: tI :: tI :: tI :: []) Kv))
def z03_L10 (Kv:VW):Cur [tQ, tQ] WP := fun t_2 t_3=>z03_k10 t_2 t_3 (T43.un (kk (.g 20 :: tS :: tL :: tL :: tL :: tI :: tI :: tS :: tI :: tI :: tS :: tL :: tL :: tI :: tL :: tI :: tI :: tI :: tI :: tI :: tI :: []) Kv))
noncomputable def z03_S:Pw.Spec := fun vs w Kv=>un (.g 16 :: tL :: tL :: tL :: tL :: tL :: tL :: tI :: tI :: tI :: tI :: tI :: tI :: tI :: tI :: tI :: tI :: []) (fun p_0_0 p_0_1 p_0_2 p_0_3 p_0_4 p_0_5 p_0_6 p_0_7 p_0_8 p_0_9 p_0_10 p_0_11 p_0_12 p_0_13 p_0_14 p_0_15=>z03_sh ⟨p_0_0, p_0_1, p_0_2, p_0_3, p_0_4, p_0_5, p_0_6, p_0_7, p_0_8, p_0_9, p_0_10, p_0_11, p_0_12, p_0_13, p_0_14, p_0_15⟩ (T43.un (kk (.g 20 :: tS :: tL :: tL :: tL :: tI :: tI :: tS :: tI :: tI :: tS :: tL :: tL :: tI :: tL :: tI :: tI :: tI :: tI :: tI :: tI :: []) Kv))) nF vs w
def z03_A (Kv:VW):A := (qr 2 (qs (A.drw (dp [0, 1, 2, 4, 5, 6, 7, 8, 9, 10, 11, 12, 13, 14, 15, 16, 17] (DA.two 3 (DA.two 18 (DA.pur 19 (DA.eff 20 (DA.eff 21 DA.done))) 20 (DA.eff 18 (DA.pur 19 (DA.eff 21 DA.done)))) 20 (DA.eff 3 (DA.eff 18 (DA.pur 19 (DA.eff 21 DA.done))))))) (A.cut [1, 2, 3] (uR0 [tQ, tQ, tQ] (z03_L0 Kv)) (qr 18 (qs (qr 1 (qb (A.loop [1, 2, 3, 4] (uR0 [tQ, tQ, tQ, tI] (z03_L1 Kv)) (qs (qs (A.reg (qn 6 (RA.spl 53 (qn 3 RA.done) (qk 2 (qn 1 RA.done))))) (qc ql ql)) (qs (qb (A.drw (dp [0, 1, 2, 3, 4, 5, 6, 7, 9, 10, 11, 12, 13, 14] (DA.eff 8 (DA.pur 15 (DA.eff 16 (DA.eff 17 (DA.pur 18 (DA.eff 19 DA.done))))))))) (qe 3)))))) (A.cut [1, 2, 3] (uR0 [tQ, tQ, tQ] (z03_L2 Kv)) (qs (qr 1 (qb (A.loop [1, 2, 3, 5] (uR0 [tQ, tQ, tQ, tI] (z03_L3 Kv)) (qs (qs (A.reg (qn 6 (RA.spl 83 (qn 3 RA.done) (qk 2 (qn 1 RA.done))))) (qc ql ql)) (qs (qb (qr 7 (A.drw (dp [0, 1, 2, 3, 5, 6, 8, 9, 10, 11, 12, 13, 14, 15] (DA.eff 4 (DA.eff 7 (DA.pur 16 (DA.eff 17 (DA.eff 18 (DA.pur 19 (DA.eff 20 DA.done))))))))))) (qe 3)))))) (A.cut [1, 2, 3] (uR0 [tQ, tQ, tQ] (z03_L4 Kv)) (qs (qr 1 (qb (A.loop [1, 2, 3, 7] (uR0 [tQ, tQ, tQ, tI] (z03_L5 Kv)) (qs (qs (A.reg (qn 6 (RA.spl 119 (qn 3 RA.done) (qk 2 (qn 1 RA.done))))) (qc ql ql)) (qs (qb (qr 7 (A.drw (dp [0, 1, 2, 3, 6, 7, 11, 12] (DA.two 4 (DA.two 5 (DA.str 8 (dp [9, 10, 13] (DA.eff 14 (DA.eff 15 (DA.pur 16 (DA.eff 17 DA.done)))))) 8 (DA.str 5 (dp [9, 10, 13] (DA.eff 14 (DA.eff 15 (DA.pur 16 (DA.eff 17 DA.done))))))) 5 (DA.eff 4 (DA.str 8 (dp [9, 10, 13] (DA.eff 14 (DA.eff 15 (DA.pur 16 (DA.eff 17 DA.done)))))))))))) (qe 3)))))) (A.cut [1, 2, 3] (uR0 [tQ, tQ, tQ] (z03_L6 Kv)) (qs (qr 1 (qb (A.loop [1, 2, 3, 9] (uR0 [tQ, tQ, tQ, tI] (z03_L7 Kv)) (qs (qs (A.reg (qn 6 (RA.spl 152 (qn 3 RA.done) (qk 2 (qn 1 RA.done))))) (qc ql ql)) (qs (qb (A.drw (dp [0, 1, 2, 3, 4, 5, 6] (DA.eff 7 (DA.eff 8 (DA.eff 9 (DA.pur 10 (DA.eff 11 DA.done)))))))) (qe 3)))))) (A.cut [1, 2, 3] (uR0 [tQ, tQ, tQ] (z03_L8 Kv)) (qs (qr 1 (qb (A.loop [1, 2, 3, 10] (uR0 [tQ, tQ, tQ, tI] (z03_L9 Kv)) (qs (qs (A.reg (qn 6 (RA.spl 174 (qn 3 RA.done) (qk 2 (qn 1 RA.done))))) (qc ql ql)) (qs (qb (A.drw (dp [0, 1, 3, 4, 5, 6, 7, 8, 9, 10, 11, 12, 13, 14, 15] (DA.eff 2 (DA.eff 16 (DA.eff 17 (DA.eff 18 (DA.pur 19 (DA.eff 20 DA.done))))))))) (qe 3)))))) (A.cut [2, 3] (uR0 [tQ, tQ] (z03_L10 Kv)) (qr 2 ql)))))))))))))))
theorem z03_ok:Sound Tryz.prog 11 z03_S := okS (x := z03_A) (fun Kv p_0_0 p_0_1 p_0_2 p_0_3 p_0_4 p_0_5 p_0_6 p_0_7 p_0_8 p_0_9 p_0_10 p_0_11 p_0_12 p_0_13 p_0_14 p_0_15=>z03_sd ⟨p_0_0, p_0_1, p_0_2, p_0_3, p_0_4, p_0_5, p_0_6, p_0_7, p_0_8, p_0_9, p_0_10, p_0_11, p_0_12, p_0_13, p_0_14, p_0_15⟩ (T43.un (kk (.g 20 :: tS :: tL :: tL :: tL :: tI :: tI :: tS :: tI :: tI :: tS :: tL :: tL :: tI :: tL :: tI :: tI :: tI :: tI :: tI :: tI :: []) Kv))) progMixed (Γ := [(26, z0l_S), (27, z1f_S), (28, z1y_S), (29, z1j_S)]) ⟨.inl z0l_okr, .inl z1f_ok, .inl z1y_ok, .inl z1j_ok, trivial⟩ Tryz.call11 Tryz.func11 (fun Kv=>hStep (hCut0 (F := z03_L0 Kv) (G := fun p_1 t_2 t_3=>z03_k0d p_1 t_2 t_3 (T43.un (kk (.g 20 :: tS :: tL :: tL :: tL :: tI :: tI :: tS :: tI :: tI :: tS :: tL :: tL :: tI :: tL :: tI :: tI :: tI :: tI :: tI :: tI :: []) Kv)))) <| hStep (hLoop0 (L := z03_L1 Kv) (fun N1 p_1 t_2 t_3 k_4=>z03_b1 p_1 t_2 t_3 k_4 N1 (T43.un (kk (.g 20 :: tS :: tL :: tL :: tL :: tI :: tI :: tS :: tI :: tI :: tS :: tL :: tL :: tI :: tL :: tI :: tI :: tI :: tI :: tI :: tI :: []) Kv))) (fun ⟨a0, a1, a2, _, _⟩ _ h=>let ⟨I, μ, h0, hr⟩ := h.out; ⟨fun b0 b1 b2 b3 w=>(b0=a0/\b1=a1/\b2=a2/\True)/\I b3 w, fun _ _ _ b3 w=>μ b3 w, ⟨⟨rfl, rfl, rfl, trivial⟩, h0⟩, fun ⟨_, _, _, _, _⟩ _ ⟨⟨e0, e1, e2, _⟩, hI⟩=>by cases e0; cases e1; cases e2; exact hr _ _ hI⟩)) <| hStep (hCut0 (F := z03_L2 Kv) (G := fun p_1 t_2 t_3=>z03_k2d p_1 t_2 t_3 (T43.un (kk (.g 20 :: tS :: tL :: tL :: tL :: tI :: tI :: tS :: tI :: tI :: tS :: tL :: tL :: tI :: tL :: tI :: tI :: tI :: tI :: tI :: tI :: []) Kv)))) <| hStep (hLoop0 (L := z03_L3 Kv) (fun N3 p_1 t_2 t_3 k_5=>z03_b3 p_1 t_2 t_3 k_5 N3 (T43.un (kk (.g 20 :: tS :: tL :: tL :: tL :: tI :: tI :: tS :: tI :: tI :: tS :: tL :: tL :: tI :: tL :: tI :: tI :: tI :: tI :: tI :: tI :: []) Kv))) (fun ⟨a0, a1, a2, _, _⟩ _ h=>let ⟨I, μ, h0, hr⟩ := h.out; ⟨fun b0 b1 b2 b3 w=>(b0=a0/\b1=a1/\b2=a2/\True)/\I b3 w, fun _ _ _ b3 w=>μ b3 w, ⟨⟨rfl, rfl, rfl, trivial⟩, h0⟩, fun ⟨_, _, _, _, _⟩ _ ⟨⟨e0, e1, e2, _⟩, hI⟩=>by cases e0; cases e1; cases e2; exact hr _ _ hI⟩)) <| hStep (hCut0 (F := z03_L4 Kv) (G := fun p_1 t_2 t_3=>z03_k4d p_1 t_2 t_3 (T43.un (kk (.g 20 :: tS :: tL :: tL :: tL :: tI :: tI :: tS :: tI :: tI :: tS :: tL :: tL :: tI :: tL :: tI :: tI :: tI :: tI :: tI :: tI :: []) Kv)))) <| hStep (hLoop0 (L := z03_L5 Kv) (fun N5 p_1 t_2 t_3 k_7=>z03_b5 p_1 t_2 t_3 k_7 N5 (T43.un (kk (.g 20 :: tS :: tL :: tL :: tL :: tI :: tI :: tS :: tI :: tI :: tS :: tL :: tL :: tI :: tL :: tI :: tI :: tI :: tI :: tI :: tI :: []) Kv))) (fun ⟨a0, a1, a2, _, _⟩ _ h=>let ⟨I, μ, h0, hr⟩ := h.out; ⟨fun b0 b1 b2 b3 w=>(b0=a0/\b1=a1/\b2=a2/\True)/\I b3 w, fun _ _ _ b3 w=>μ b3 w, ⟨⟨rfl, rfl, rfl, trivial⟩, h0⟩, fun ⟨_, _, _, _, _⟩ _ ⟨⟨e0, e1, e2, _⟩, hI⟩=>by cases e0; cases e1; cases e2; exact hr _ _ hI⟩)) <| hStep (hCut0 (F := z03_L6 Kv) (G := fun p_1 t_2 t_3=>z03_k6d p_1 t_2 t_3 (T43.un (kk (.g 20 :: tS :: tL :: tL :: tL :: tI :: tI :: tS :: tI :: tI :: tS :: tL :: tL :: tI :: tL :: tI :: tI :: tI :: tI :: tI :: tI :: []) Kv)))) <| hStep (hLoop0 (L := z03_L7 Kv) (fun N7 p_1 t_2 t_3 k_9=>z03_b7 p_1 t_2 t_3 k_9 N7 (T43.un (kk (.g 20 :: tS :: tL :: tL :: tL :: tI :: tI :: tS :: tI :: tI :: tS :: tL :: tL :: tI :: tL :: tI :: tI :: tI :: tI :: tI :: tI :: []) Kv))) (fun ⟨a0, a1, a2, _, _⟩ _ h=>let ⟨I, μ, h0, hr⟩ := h.out; ⟨fun b0 b1 b2 b3 w=>(b0=a0/\b1=a1/\b2=a2/\True)/\I b3 w, fun _ _ _ b3 w=>μ b3 w, ⟨⟨rfl, rfl, rfl, trivial⟩, h0⟩, fun ⟨_, _, _, _, _⟩ _ ⟨⟨e0, e1, e2, _⟩, hI⟩=>by cases e0; cases e1; cases e2; exact hr _ _ hI⟩)) <| hStep (hCut0 (F := z03_L8 Kv) (G := fun p_1 t_2 t_3=>z03_k8d p_1 t_2 t_3 (T43.un (kk (.g 20 :: tS :: tL :: tL :: tL :: tI :: tI :: tS :: tI :: tI :: tS :: tL :: tL :: tI :: tL :: tI :: tI :: tI :: tI :: tI :: tI :: []) Kv)))) <| hStep (hLoop0 (L := z03_L9 Kv) (fun N9 p_1 t_2 t_3 k_10=>z03_b9 p_1 t_2 t_3 k_10 N9 (T43.un (kk (.g 20 :: tS :: tL :: tL :: tL :: tI :: tI :: tS :: tI :: tI :: tS :: tL :: tL :: tI :: tL :: tI :: tI :: tI :: tI :: tI :: tI :: []) Kv))) (fun ⟨a0, a1, a2, _, _⟩ _ h=>let ⟨I, μ, h0, hr⟩ := h.out; ⟨fun b0 b1 b2 b3 w=>(b0=a0/\b1=a1/\b2=a2/\True)/\I b3 w, fun _ _ _ b3 w=>μ b3 w, ⟨⟨rfl, rfl, rfl, trivial⟩, h0⟩, fun ⟨_, _, _, _, _⟩ _ ⟨⟨e0, e1, e2, _⟩, hI⟩=>by cases e0; cases e1; cases e2; exact hr _ _ hI⟩)) <| hStep (hCut0 (F := z03_L10 Kv) (G := fun t_2 t_3=>z03_k10d t_2 t_3 (T43.un (kk (.g 20 :: tS :: tL :: tL :: tL :: tI :: tI :: tS :: tI :: tI :: tS :: tL :: tL :: tI :: tL :: tI :: tI :: tI :: tI :: tI :: tI :: []) Kv)))) <| hEnd)
def z1z_sd (id_0:Int) (K:Pw.T3) (w:World):Prop :=
 z0l_sh id_0 (fun r2 w1=>((((str [108, 111, 116, 32]).size + r2.size:Nat):Int) <= maxI)/\K ((str [108, 111, 116, 32]) ++ r2) w1) w
structure z1z_sh (id_0:Int) (K:Pw.T3) (w:World):Prop where
 out:z1z_sd id_0 K w
noncomputable def z1z_S:Pw.Spec := fun vs w Kv=>un [tI] (fun id_0=>z1z_sh id_0 (kk [tS] Kv)) nF vs w
def z1z_A (_:VW):A := (qr 1 (qr 4 ql))
theorem z1z_ok:Sound Tryz.prog 35 z1z_S := okS (x := z1z_A) (fun Kv id_0=>z1z_sd id_0 (kk [tS] Kv)) progMixed (Γ := [(26, z0l_S)]) ⟨.inl z0l_okr, trivial⟩ Tryz.call35 Tryz.func35 (fun _=>hEnd)
def z20_b0 (l_0:Sl) (s_1:ByteArray) (k_5:Int) (N0:Sl->ByteArray->Int->World->Prop) (K:Pw.T1) (w:World):Prop :=
 cnd (decide (k_5 < (l_0.l:Int)))
 (nz l_0.p fun a1=>(0 <= k_5/\k_5 < (l_0.l:Nat))/\∃ x2:ByteArray, w.cell? (a1.add (k_5.toNat * 1))=some (Value.string x2)/\cnd (decide (x2=s_1))
 (K true w)
 (inR .i64 (k_5 + (1:Int))/\N0 l_0 s_1 (k_5 + (1:Int)) w))
 (K false w)
def z20_l0d (l_0:Sl) (s_1:ByteArray) (k_5:Int) (K:Pw.T1) (w:World):Prop :=
 ∃ (I:Int->World->Prop) (μ:Int->World->Nat), I k_5 w/\∀ (k_51:Int) (w1:World), I k_51 w1 ->
 z20_b0 l_0 s_1 k_51 (fun l_0' s_1' k_5' w'=>((l_0'=l_0/\s_1'=s_1/\True)/\I k_5' w')/\μ k_5' w' < μ k_51 w1) K w1
structure z20_l0 (l_0:Sl) (s_1:ByteArray) (k_5:Int) (K:Pw.T1) (w:World):Prop where
 out:z20_l0d l_0 s_1 k_5 K w
def z20_sd (l_0:Sl) (s_1:ByteArray) (K:Pw.T1) (w:World):Prop :=
 z20_l0 l_0 s_1 (0:Int) K w
structure z20_sh (l_0:Sl) (s_1:ByteArray) (K:Pw.T1) (w:World):Prop where
 out:z20_sd l_0 s_1 K w
def z20_L0 (Kv:VW):Cur [tL, tS, tI] WP := fun l_0 s_1 k_5=>z20_l0 l_0 s_1 k_5 (kk [tB] Kv)
noncomputable def z20_S:Pw.Spec := fun vs w Kv=>un [tL, tS] (fun l_0 s_1=>z20_sh l_0 s_1 (kk [tB] Kv)) nF vs w
def z20_A (Kv:VW):A := (qr 1 (qs (qr 1 (qb (A.loop [0, 1, 5] (uR0 [tL, tS, tI] (z20_L0 Kv)) (qs (qr 4 (qc ql ql)) (qs (qb (qr 6 (qc (qr 1 ql) ql))) (qe 3)))))) (qr 1 ql)))
theorem z20_ok:Sound Tryz.prog 36 z20_S := okS (x := z20_A) (fun Kv l_0 s_1=>z20_sd l_0 s_1 (kk [tB] Kv)) progMixed (Γ := []) trivial Tryz.call36 Tryz.func36 (fun Kv=>hStep (hLoop0 (L := z20_L0 Kv) (fun N0 l_0 s_1 k_5=>z20_b0 l_0 s_1 k_5 N0 (kk [tB] Kv)) (fun ⟨a0, a1, _, _⟩ _ h=>let ⟨I, μ, h0, hr⟩ := h.out; ⟨fun b0 b1 b2 w=>(b0=a0/\b1=a1/\True)/\I b2 w, fun _ _ b2 w=>μ b2 w, ⟨⟨rfl, rfl, trivial⟩, h0⟩, fun ⟨_, _, _, _⟩ _ ⟨⟨e0, e1, _⟩, hI⟩=>by cases e0; cases e1; exact hr _ _ hI⟩)) <| hEnd)
def z0i_b3 (all_3 out_7:Sl) (k_8:Int) (N3:Sl->Sl->Int->World->Prop) (K:Pw.T0) (w:World):Prop :=
 cnd (decide (k_8 < (all_3.l:Int)))
 (nz all_3.p fun a28=>(0 <= k_8/\k_8 < (all_3.l:Nat))/\∃ x29:ByteArray, w.cell? (a28.add (k_8.toNat * 1))=some (Value.string x29)/\z20_sh out_7 x29 (fun r31 w30=>cnd (!r31)
 (nz all_3.p fun a32=>(0 <= k_8/\k_8 < (all_3.l:Nat))/\∃ x33:ByteArray, w30.cell? (a32.add (k_8.toNat * 1))=some (Value.string x33)/\let w34 := w30.alloc (Obj.cells #[(Value.string x33)] 9)
 apS 1 16 [(Value.string (str []))] 9 out_7 (Sl.mk (some (Addr.mk w30.heap.size 0 none)) 1 1) w34 fun s35 w36=>inR .i64 (k_8 + (1:Int))/\N3 all_3 s35 (k_8 + (1:Int)) w36)
 (inR .i64 (k_8 + (1:Int))/\N3 all_3 out_7 (k_8 + (1:Int)) w30)) w)
 (K out_7 w)
def z0i_l3d (all_3 out_7:Sl) (k_8:Int) (K:Pw.T0) (w:World):Prop :=
 ∃ (I:Sl->Int->World->Prop) (μ:Sl->Int->World->Nat), I out_7 k_8 w/\∀ (out_71:Sl) (k_81:Int) (w1:World), I out_71 k_81 w1 ->
 z0i_b3 all_3 out_71 k_81 (fun all_3' out_7' k_8' w'=>((all_3'=all_3/\True)/\I out_7' k_8' w')/\μ out_7' k_8' w' < μ out_71 k_81 w1) K w1
structure z0i_l3 (all_3 out_7:Sl) (k_8:Int) (K:Pw.T0) (w:World):Prop where
 out:z0i_l3d all_3 out_7 k_8 K w
def z0i_b2 (t_1:Addr) (all_3:Sl) (k_6:Int) (N2:Addr->Sl->Int->World->Prop) (K:Pw.T0) (w:World):Prop :=
 ∃ x19:Sl, w.cell? (t_1.add 3)=some (Value.slice x19.p x19.l x19.c)/\cnd (decide (k_6 < (x19.l:Int)))
 (inR .i64 (k_6 + (1:Int))/\z0l_sh (k_6 + (1:Int)) (fun r21 w20=>((((str [114, 101, 113, 117, 105, 114, 101, 32]).size + r21.size:Nat):Int) <= maxI)/\let w22 := w20.alloc (Obj.cells #[(Value.string ((str [114, 101, 113, 117, 105, 114, 101, 32]) ++ r21))] 9)
 apS 1 16 [(Value.string (str []))] 9 all_3 (Sl.mk (some (Addr.mk w20.heap.size 0 none)) 1 1) w22 fun s23 w24=>inR .i64 (k_6 + (1:Int))/\N2 t_1 s23 (k_6 + (1:Int)) w24) w)
 (let w25 := w.alloc (Obj.cells #[(Value.string (str [114, 97, 110, 103, 101])), (Value.string (str [102, 111, 114, 109, 117, 108, 97])), (Value.string (str [116, 105, 101, 115])), (Value.string (str [109, 111, 115, 116])), (Value.string (str [99, 111, 109, 98, 111, 115])), (Value.string (str [98, 117, 100, 103, 101, 116])), (Value.string (str [116, 105, 109, 101, 115]))] 9)
 apS 1 16 [(Value.string (str []))] 9 all_3 (Sl.mk (some (Addr.mk w.heap.size 0 none)) 7 7) w25 fun s26 w27=>z0i_l3 s26 (Sl.mk none 0 0) (0:Int) K w27)
def z0i_l2d (t_1:Addr) (all_3:Sl) (k_6:Int) (K:Pw.T0) (w:World):Prop :=
 ∃ (I:Sl->Int->World->Prop) (μ:Sl->Int->World->Nat), I all_3 k_6 w/\∀ (all_31:Sl) (k_61:Int) (w1:World), I all_31 k_61 w1 ->
 z0i_b2 t_1 all_31 k_61 (fun t_1' all_3' k_6' w'=>((t_1'=t_1/\True)/\I all_3' k_6' w')/\μ all_3' k_6' w' < μ all_31 k_61 w1) K w1
structure z0i_l2 (t_1:Addr) (all_3:Sl) (k_6:Int) (K:Pw.T0) (w:World):Prop where
 out:z0i_l2d t_1 all_3 k_6 K w
def z0i_b1 (t_1:Addr) (all_3:Sl) (k_5:Int) (N1:Addr->Sl->Int->World->Prop) (K:Pw.T0) (w:World):Prop :=
 ∃ x12:Sl, w.cell? (t_1.add 2)=some (Value.slice x12.p x12.l x12.c)/\cnd (decide (k_5 < (x12.l:Int)))
 (∃ x13:Sl, w.cell? (t_1.add 2)=some (Value.slice x13.p x13.l x13.c)/\nz x13.p fun a14=>(0 <= k_5/\k_5 < (x13.l:Nat))/\∃ x15:ByteArray, w.cell? (a14.add (k_5.toNat * 5))=some (Value.string x15)/\((((str [99, 114, 105, 116, 101, 114, 105, 111, 110, 32]).size + x15.size:Nat):Int) <= maxI)/\let w16 := w.alloc (Obj.cells #[(Value.string ((str [99, 114, 105, 116, 101, 114, 105, 111, 110, 32]) ++ x15))] 9)
 apS 1 16 [(Value.string (str []))] 9 all_3 (Sl.mk (some (Addr.mk w.heap.size 0 none)) 1 1) w16 fun s17 w18=>inR .i64 (k_5 + (1:Int))/\N1 t_1 s17 (k_5 + (1:Int)) w18)
 (z0i_l2 t_1 all_3 (0:Int) K w)
def z0i_l1d (t_1:Addr) (all_3:Sl) (k_5:Int) (K:Pw.T0) (w:World):Prop :=
 ∃ (I:Sl->Int->World->Prop) (μ:Sl->Int->World->Nat), I all_3 k_5 w/\∀ (all_31:Sl) (k_51:Int) (w1:World), I all_31 k_51 w1 ->
 z0i_b1 t_1 all_31 k_51 (fun t_1' all_3' k_5' w'=>((t_1'=t_1/\True)/\I all_3' k_5' w')/\μ all_3' k_5' w' < μ all_31 k_51 w1) K w1
structure z0i_l1 (t_1:Addr) (all_3:Sl) (k_5:Int) (K:Pw.T0) (w:World):Prop where
 out:z0i_l1d t_1 all_3 k_5 K w
def z0i_b0 (t_1:Addr) (all_3:Sl) (k_4:Int) (N0:Addr->Sl->Int->World->Prop) (K:Pw.T0) (w:World):Prop :=
 ∃ x3:Sl, w.cell? (t_1.add 1)=some (Value.slice x3.p x3.l x3.c)/\cnd (decide (k_4 < (x3.l:Int)))
 (∃ x4:Sl, w.cell? (t_1.add 1)=some (Value.slice x4.p x4.l x4.c)/\nz x4.p fun a5=>(0 <= k_4/\k_4 < (x4.l:Nat))/\∃ x6:Int, w.cell? (a5.add (k_4.toNat * 2))=some (Value.int .i64 x6)/\z1z_sh x6 (fun r8 w7=>let w9 := w7.alloc (Obj.cells #[(Value.string r8)] 9)
 apS 1 16 [(Value.string (str []))] 9 all_3 (Sl.mk (some (Addr.mk w7.heap.size 0 none)) 1 1) w9 fun s10 w11=>inR .i64 (k_4 + (1:Int))/\N0 t_1 s10 (k_4 + (1:Int)) w11) w)
 (z0i_l1 t_1 all_3 (0:Int) K w)
def z0i_l0d (t_1:Addr) (all_3:Sl) (k_4:Int) (K:Pw.T0) (w:World):Prop :=
 ∃ (I:Sl->Int->World->Prop) (μ:Sl->Int->World->Nat), I all_3 k_4 w/\∀ (all_31:Sl) (k_41:Int) (w1:World), I all_31 k_41 w1 ->
 z0i_b0 t_1 all_31 k_41 (fun t_1' all_3' k_4' w'=>((t_1'=t_1/\True)/\I all_3' k_4' w')/\μ all_3' k_4' w' < μ all_31 k_41 w1) K w1
structure z0i_l0 (t_1:Addr) (all_3:Sl) (k_4:Int) (K:Pw.T0) (w:World):Prop where
 out:z0i_l0d t_1 all_3 k_4 K w
def z0i_sd (t_0:T43) (K:Pw.T0) (w:World):Prop :=
 let w1 := w.alloc (Obj.cells (T43.cs t_0).toArray 43)
 let w2 := w1.alloc (Obj.cells #[(Value.string (str [110, 97, 109, 101]))] 9)
 z0i_l0 (Addr.mk w.heap.size 0 none) (Sl.mk (some (Addr.mk w1.heap.size 0 none)) 1 1) (0:Int) K w2
structure z0i_sh (t_0:T43) (K:Pw.T0) (w:World):Prop where
 out:z0i_sd t_0 K w
def z0i_L0 (Kv:VW):Cur [tQ, tL, tI] WP := fun t_1 all_3 k_4=>z0i_l0 t_1 all_3 k_4 (kk [tL] Kv)
def z0i_L1 (Kv:VW):Cur [tQ, tL, tI] WP := fun t_1 all_3 k_5=>z0i_l1 t_1 all_3 k_5 (kk [tL] Kv)
def z0i_L2 (Kv:VW):Cur [tQ, tL, tI] WP := fun t_1 all_3 k_6=>z0i_l2 t_1 all_3 k_6 (kk [tL] Kv)
def z0i_L3 (Kv:VW):Cur [tL, tL, tI] WP := fun all_3 out_7 k_8=>z0i_l3 all_3 out_7 k_8 (kk [tL] Kv)
noncomputable def z0i_S:Pw.Spec := fun vs w Kv=>un (.g 20 :: tS :: tL :: tL :: tL :: tI :: tI :: tS :: tI :: tI :: tS :: tL :: tL :: tI :: tL :: tI :: tI :: tI :: tI :: tI :: tI :: []) (fun t_0_0 t_0_1 t_0_2 t_0_3 t_0_4 t_0_5 t_0_6 t_0_7 t_0_8 t_0_9 t_0_10 t_0_11 t_0_12 t_0_13 t_0_14 t_0_15 t_0_16 t_0_17 t_0_18 t_0_19=>z0i_sh ⟨t_0_0, t_0_1, t_0_2, t_0_3, t_0_4, t_0_5, t_0_6, t_0_7, t_0_8, t_0_9, t_0_10, t_0_11, t_0_12, t_0_13, t_0_14, t_0_15, t_0_16, t_0_17, t_0_18, t_0_19⟩ (kk [tL] Kv)) nF vs w
def z0i_A (Kv:VW):A := (qr 2 (qr 2 (qs (qr 1 (qb (A.loop [1, 3, 4] (uR0 [tQ, tL, tI] (z0i_L0 Kv)) (qs (qr 5 (qc ql ql)) (qs (qb (qe 11)) (qe 3)))))) (qs (qr 1 (qb (A.loop [1, 3, 5] (uR0 [tQ, tL, tI] (z0i_L1 Kv)) (qs (qr 5 (qc ql ql)) (qs (qb (qe 11)) (qe 3)))))) (qs (qr 1 (qb (A.loop [1, 3, 6] (uR0 [tQ, tL, tI] (z0i_L2 Kv)) (qs (qr 5 (qc ql ql)) (qs (qb (qe 8)) (qe 3)))))) (qr 4 (qr 1 (qs (qr 1 (qb (A.loop [3, 7, 8] (uR0 [tL, tL, tI] (z0i_L3 Kv)) (qs (qr 4 (qc ql ql)) (qs (qb (qr 7 (qr 2 (qc (qe 8) ql)))) (qe 3)))))) (qr 2 ql)))))))))
theorem z0i_ok:Sound Tryz.prog 14 z0i_S := okS (x := z0i_A) (fun Kv t_0_0 t_0_1 t_0_2 t_0_3 t_0_4 t_0_5 t_0_6 t_0_7 t_0_8 t_0_9 t_0_10 t_0_11 t_0_12 t_0_13 t_0_14 t_0_15 t_0_16 t_0_17 t_0_18 t_0_19=>z0i_sd ⟨t_0_0, t_0_1, t_0_2, t_0_3, t_0_4, t_0_5, t_0_6, t_0_7, t_0_8, t_0_9, t_0_10, t_0_11, t_0_12, t_0_13, t_0_14, t_0_15, t_0_16, t_0_17, t_0_18, t_0_19⟩ (kk [tL] Kv)) progMixed (Γ := [(26, z0l_S), (35, z1z_S), (36, z20_S)]) ⟨.inl z0l_okr, .inl z1z_ok, .inl z20_ok, trivial⟩ Tryz.call14 Tryz.func14 (fun Kv=>hStep (hLoop0 (L := z0i_L0 Kv) (fun N0 t_1 all_3 k_4=>z0i_b0 t_1 all_3 k_4 N0 (kk [tL] Kv)) (fun ⟨a0, _, _, _⟩ _ h=>let ⟨I, μ, h0, hr⟩ := h.out; ⟨fun b0 b1 b2 w=>(b0=a0/\True)/\I b1 b2 w, fun _ b1 b2 w=>μ b1 b2 w, ⟨⟨rfl, trivial⟩, h0⟩, fun ⟨_, _, _, _⟩ _ ⟨⟨e0, _⟩, hI⟩=>by cases e0; exact hr _ _ _ hI⟩)) <| hStep (hLoop0 (L := z0i_L1 Kv) (fun N1 t_1 all_3 k_5=>z0i_b1 t_1 all_3 k_5 N1 (kk [tL] Kv)) (fun ⟨a0, _, _, _⟩ _ h=>let ⟨I, μ, h0, hr⟩ := h.out; ⟨fun b0 b1 b2 w=>(b0=a0/\True)/\I b1 b2 w, fun _ b1 b2 w=>μ b1 b2 w, ⟨⟨rfl, trivial⟩, h0⟩, fun ⟨_, _, _, _⟩ _ ⟨⟨e0, _⟩, hI⟩=>by cases e0; exact hr _ _ _ hI⟩)) <| hStep (hLoop0 (L := z0i_L2 Kv) (fun N2 t_1 all_3 k_6=>z0i_b2 t_1 all_3 k_6 N2 (kk [tL] Kv)) (fun ⟨a0, _, _, _⟩ _ h=>let ⟨I, μ, h0, hr⟩ := h.out; ⟨fun b0 b1 b2 w=>(b0=a0/\True)/\I b1 b2 w, fun _ b1 b2 w=>μ b1 b2 w, ⟨⟨rfl, trivial⟩, h0⟩, fun ⟨_, _, _, _⟩ _ ⟨⟨e0, _⟩, hI⟩=>by cases e0; exact hr _ _ _ hI⟩)) <| hStep (hLoop0 (L := z0i_L3 Kv) (fun N3 all_3 out_7 k_8=>z0i_b3 all_3 out_7 k_8 N3 (kk [tL] Kv)) (fun ⟨a0, _, _, _⟩ _ h=>let ⟨I, μ, h0, hr⟩ := h.out; ⟨fun b0 b1 b2 w=>(b0=a0/\True)/\I b1 b2 w, fun _ b1 b2 w=>μ b1 b2 w, ⟨⟨rfl, trivial⟩, h0⟩, fun ⟨_, _, _, _⟩ _ ⟨⟨e0, _⟩, hI⟩=>by cases e0; exact hr _ _ _ hI⟩)) <| hEnd)
def z1l_k4d (clause_1:ByteArray) (t_2:Addr) (all_5 want_7 names_9:Sl) (k_10:Int) (N3:ByteArray->Addr->Sl->Sl->Sl->Int->World->Prop) (K:Pw.T0) (w:World):Prop :=
 let w33 := w.alloc (Obj.cells #[(Value.string (str [114, 97, 110, 103, 101]))] 9)
 apS 1 16 [(Value.string (str []))] 9 want_7 (Sl.mk (some (Addr.mk w.heap.size 0 none)) 1 1) w33 fun s34 w35=>inR .i64 (k_10 + (1:Int))/\N3 clause_1 t_2 all_5 s34 names_9 (k_10 + (1:Int)) w35
structure z1l_k4 (clause_1:ByteArray) (t_2:Addr) (all_5 want_7 names_9:Sl) (k_10:Int) (N3:ByteArray->Addr->Sl->Sl->Sl->Int->World->Prop) (K:Pw.T0) (w:World):Prop where
 out:z1l_k4d clause_1 t_2 all_5 want_7 names_9 k_10 N3 K w
def z1l_b11 (t_2:Addr) (all_5 want_7:Sl) (k_12 j_13:Int) (N11:Addr->Sl->Sl->Int->Int->World->Prop) (N10:Addr->Sl->Sl->Int->World->Prop) (K:Pw.T0) (w:World):Prop :=
 ∃ x49:Sl, w.cell? (t_2.add 13)=some (Value.slice x49.p x49.l x49.c)/\nz x49.p fun a50=>(0 <= k_12/\k_12 < (x49.l:Nat))/\∃ x51:Sl, w.cell? (a50.add (k_12.toNat * 1))=some (Value.slice x51.p x51.l x51.c)/\cnd (decide (j_13 < (x51.l:Int)))
 (∃ x52:Sl, w.cell? (t_2.add 13)=some (Value.slice x52.p x52.l x52.c)/\nz x52.p fun a53=>(0 <= k_12/\k_12 < (x52.l:Nat))/\∃ x54:Sl, w.cell? (a53.add (k_12.toNat * 1))=some (Value.slice x54.p x54.l x54.c)/\nz x54.p fun a55=>(0 <= j_13/\j_13 < (x54.l:Nat))/\∃ x56:Int, w.cell? (a55.add (j_13.toNat * 1))=some (Value.int .i64 x56)/\z1z_sh x56 (fun r58 w57=>let w59 := w57.alloc (Obj.cells #[(Value.string r58)] 9)
 apS 1 16 [(Value.string (str []))] 9 want_7 (Sl.mk (some (Addr.mk w57.heap.size 0 none)) 1 1) w59 fun s60 w61=>inR .i64 (j_13 + (1:Int))/\N11 t_2 all_5 s60 k_12 (j_13 + (1:Int)) w61) w)
 (inR .i64 (k_12 + (1:Int))/\N10 t_2 all_5 want_7 (k_12 + (1:Int)) w)
def z1l_l11d (t_2:Addr) (all_5 want_7:Sl) (k_12 j_13:Int) (N10:Addr->Sl->Sl->Int->World->Prop) (K:Pw.T0) (w:World):Prop :=
 ∃ (I:Sl->Int->World->Prop) (μ:Sl->Int->World->Nat), I want_7 j_13 w/\∀ (want_71:Sl) (j_131:Int) (w1:World), I want_71 j_131 w1 ->
 z1l_b11 t_2 all_5 want_71 k_12 j_131 (fun t_2' all_5' want_7' k_12' j_13' w'=>((t_2'=t_2/\all_5'=all_5/\k_12'=k_12/\True)/\I want_7' j_13' w')/\μ want_7' j_13' w' < μ want_71 j_131 w1) N10 K w1
structure z1l_l11 (t_2:Addr) (all_5 want_7:Sl) (k_12 j_13:Int) (N10:Addr->Sl->Sl->Int->World->Prop) (K:Pw.T0) (w:World):Prop where
 out:z1l_l11d t_2 all_5 want_7 k_12 j_13 N10 K w
def z1l_b13 (all_5 want_7 out_14:Sl) (k_15:Int) (N13:Sl->Sl->Sl->Int->World->Prop) (K:Pw.T0) (w:World):Prop :=
 cnd (decide (k_15 < (all_5.l:Int)))
 (nz all_5.p fun a62=>(0 <= k_15/\k_15 < (all_5.l:Nat))/\∃ x63:ByteArray, w.cell? (a62.add (k_15.toNat * 1))=some (Value.string x63)/\z20_sh want_7 x63 (fun r65 w64=>cnd r65
 (nz all_5.p fun a66=>(0 <= k_15/\k_15 < (all_5.l:Nat))/\∃ x67:ByteArray, w64.cell? (a66.add (k_15.toNat * 1))=some (Value.string x67)/\let w68 := w64.alloc (Obj.cells #[(Value.string x67)] 9)
 apS 1 16 [(Value.string (str []))] 9 out_14 (Sl.mk (some (Addr.mk w64.heap.size 0 none)) 1 1) w68 fun s69 w70=>inR .i64 (k_15 + (1:Int))/\N13 all_5 want_7 s69 (k_15 + (1:Int)) w70)
 (inR .i64 (k_15 + (1:Int))/\N13 all_5 want_7 out_14 (k_15 + (1:Int)) w64)) w)
 (K out_14 w)
def z1l_l13d (all_5 want_7 out_14:Sl) (k_15:Int) (K:Pw.T0) (w:World):Prop :=
 ∃ (I:Sl->Int->World->Prop) (μ:Sl->Int->World->Nat), I out_14 k_15 w/\∀ (out_141:Sl) (k_151:Int) (w1:World), I out_141 k_151 w1 ->
 z1l_b13 all_5 want_7 out_141 k_151 (fun all_5' want_7' out_14' k_15' w'=>((all_5'=all_5/\want_7'=want_7/\True)/\I out_14' k_15' w')/\μ out_14' k_15' w' < μ out_141 k_151 w1) K w1
structure z1l_l13 (all_5 want_7 out_14:Sl) (k_15:Int) (K:Pw.T0) (w:World):Prop where
 out:z1l_l13d all_5 want_7 out_14 k_15 K w
def z1l_k12d (all_5 want_7:Sl) (K:Pw.T0) (w:World):Prop :=
 z1l_l13 all_5 want_7 (Sl.mk none 0 0) (0:Int) K w
structure z1l_k12 (all_5 want_7:Sl) (K:Pw.T0) (w:World):Prop where
 out:z1l_k12d all_5 want_7 K w
def z1l_b10 (t_2:Addr) (all_5 want_7:Sl) (k_12:Int) (N10:Addr->Sl->Sl->Int->World->Prop) (K:Pw.T0) (w:World):Prop :=
 ∃ x48:Sl, w.cell? (t_2.add 13)=some (Value.slice x48.p x48.l x48.c)/\cnd (decide (k_12 < (x48.l:Int)))
 (z1l_l11 t_2 all_5 want_7 k_12 (0:Int) N10 K w)
 (z1l_k12 all_5 want_7 K w)
def z1l_l10d (t_2:Addr) (all_5 want_7:Sl) (k_12:Int) (K:Pw.T0) (w:World):Prop :=
 ∃ (I:Sl->Int->World->Prop) (μ:Sl->Int->World->Nat), I want_7 k_12 w/\∀ (want_71:Sl) (k_121:Int) (w1:World), I want_71 k_121 w1 ->
 z1l_b10 t_2 all_5 want_71 k_121 (fun t_2' all_5' want_7' k_12' w'=>((t_2'=t_2/\all_5'=all_5/\True)/\I want_7' k_12' w')/\μ want_7' k_12' w' < μ want_71 k_121 w1) K w1
structure z1l_l10 (t_2:Addr) (all_5 want_7:Sl) (k_12:Int) (K:Pw.T0) (w:World):Prop where
 out:z1l_l10d t_2 all_5 want_7 k_12 K w
def z1l_k9d (clause_1:ByteArray) (t_2:Addr) (all_5 want_7:Sl) (K:Pw.T0) (w:World):Prop :=
 cnd (decide (clause_1=(str [99, 111, 109, 98, 111, 115])))
 (z1l_l10 t_2 all_5 want_7 (0:Int) K w)
 (z1l_k12 all_5 want_7 K w)
structure z1l_k9 (clause_1:ByteArray) (t_2:Addr) (all_5 want_7:Sl) (K:Pw.T0) (w:World):Prop where
 out:z1l_k9d clause_1 t_2 all_5 want_7 K w
def z1l_k8d (clause_1:ByteArray) (t_2:Addr) (all_5 want_7:Sl) (K:Pw.T0) (w:World):Prop :=
 cnd (decide (clause_1=(str [98, 117, 100, 103, 101, 116])))
 (let w45 := w.alloc (Obj.cells #[(Value.string (str [99, 111, 109, 98, 111, 115]))] 9)
 apS 1 16 [(Value.string (str []))] 9 want_7 (Sl.mk (some (Addr.mk w.heap.size 0 none)) 1 1) w45 fun s46 w47=>z1l_k9 clause_1 t_2 all_5 s46 K w47)
 (z1l_k9 clause_1 t_2 all_5 want_7 K w)
structure z1l_k8 (clause_1:ByteArray) (t_2:Addr) (all_5 want_7:Sl) (K:Pw.T0) (w:World):Prop where
 out:z1l_k8d clause_1 t_2 all_5 want_7 K w
def z1l_b7 (clause_1:ByteArray) (t_2:Addr) (all_5 want_7:Sl) (k_11:Int) (N7:ByteArray->Addr->Sl->Sl->Int->World->Prop) (K:Pw.T0) (w:World):Prop :=
 ∃ x36:Sl, w.cell? (t_2.add 1)=some (Value.slice x36.p x36.l x36.c)/\cnd (decide (k_11 < (x36.l:Int)))
 (∃ x37:Sl, w.cell? (t_2.add 1)=some (Value.slice x37.p x37.l x37.c)/\nz x37.p fun a38=>(0 <= k_11/\k_11 < (x37.l:Nat))/\∃ x39:Int, w.cell? (a38.add (k_11.toNat * 2))=some (Value.int .i64 x39)/\z1z_sh x39 (fun r41 w40=>let w42 := w40.alloc (Obj.cells #[(Value.string r41)] 9)
 apS 1 16 [(Value.string (str []))] 9 want_7 (Sl.mk (some (Addr.mk w40.heap.size 0 none)) 1 1) w42 fun s43 w44=>inR .i64 (k_11 + (1:Int))/\N7 clause_1 t_2 all_5 s43 (k_11 + (1:Int)) w44) w)
 (z1l_k8 clause_1 t_2 all_5 want_7 K w)
def z1l_l7d (clause_1:ByteArray) (t_2:Addr) (all_5 want_7:Sl) (k_11:Int) (K:Pw.T0) (w:World):Prop :=
 ∃ (I:Sl->Int->World->Prop) (μ:Sl->Int->World->Nat), I want_7 k_11 w/\∀ (want_71:Sl) (k_111:Int) (w1:World), I want_71 k_111 w1 ->
 z1l_b7 clause_1 t_2 all_5 want_71 k_111 (fun clause_1' t_2' all_5' want_7' k_11' w'=>((clause_1'=clause_1/\t_2'=t_2/\all_5'=all_5/\True)/\I want_7' k_11' w')/\μ want_7' k_11' w' < μ want_71 k_111 w1) K w1
structure z1l_l7 (clause_1:ByteArray) (t_2:Addr) (all_5 want_7:Sl) (k_11:Int) (K:Pw.T0) (w:World):Prop where
 out:z1l_l7d clause_1 t_2 all_5 want_7 k_11 K w
def z1l_k6d (clause_1:ByteArray) (t_2:Addr) (all_5 want_7:Sl) (K:Pw.T0) (w:World):Prop :=
 z1l_l7 clause_1 t_2 all_5 want_7 (0:Int) K w
structure z1l_k6 (clause_1:ByteArray) (t_2:Addr) (all_5 want_7:Sl) (K:Pw.T0) (w:World):Prop where
 out:z1l_k6d clause_1 t_2 all_5 want_7 K w
def z1l_k5d (clause_1:ByteArray) (t_2:Addr) (all_5 want_7:Sl) (K:Pw.T0) (w:World):Prop :=
 cnd (decide (clause_1=(str [109, 111, 115, 116])))
 (z1l_k6 clause_1 t_2 all_5 want_7 K w)
 (cnd (decide (clause_1=(str [98, 117, 100, 103, 101, 116])))
 (z1l_k6 clause_1 t_2 all_5 want_7 K w)
 (z1l_k8 clause_1 t_2 all_5 want_7 K w))
structure z1l_k5 (clause_1:ByteArray) (t_2:Addr) (all_5 want_7:Sl) (K:Pw.T0) (w:World):Prop where
 out:z1l_k5d clause_1 t_2 all_5 want_7 K w
def z1l_b3 (clause_1:ByteArray) (t_2:Addr) (all_5 want_7 names_9:Sl) (k_10:Int) (N3:ByteArray->Addr->Sl->Sl->Sl->Int->World->Prop) (K:Pw.T0) (w:World):Prop :=
 cnd (decide (k_10 < (names_9.l:Int)))
 (nz names_9.p fun a24=>(0 <= k_10/\k_10 < (names_9.l:Nat))/\∃ x25:ByteArray, w.cell? (a24.add (k_10.toNat * 1))=some (Value.string x25)/\((((str [99, 114, 105, 116, 101, 114, 105, 111, 110, 32]).size + x25.size:Nat):Int) <= maxI)/\let w26 := w.alloc (Obj.cells #[(Value.string ((str [99, 114, 105, 116, 101, 114, 105, 111, 110, 32]) ++ x25))] 9)
 apS 1 16 [(Value.string (str []))] 9 want_7 (Sl.mk (some (Addr.mk w.heap.size 0 none)) 1 1) w26 fun s27 w28=>nz names_9.p fun a29=>(0 <= k_10/\k_10 < (names_9.l:Nat))/\∃ x30:ByteArray, w28.cell? (a29.add (k_10.toNat * 1))=some (Value.string x30)/\cnd (decide (x30=(str [112, 114, 105, 99, 101])))
 (z1l_k4 clause_1 t_2 all_5 s27 names_9 k_10 N3 K w28)
 (nz names_9.p fun a31=>(0 <= k_10/\k_10 < (names_9.l:Nat))/\∃ x32:ByteArray, w28.cell? (a31.add (k_10.toNat * 1))=some (Value.string x32)/\cnd (decide (x32=(str [108, 111, 119])))
 (cnd (decide (clause_1=(str [102, 111, 114, 109, 117, 108, 97])))
 (z1l_k4 clause_1 t_2 all_5 s27 names_9 k_10 N3 K w28)
 (inR .i64 (k_10 + (1:Int))/\N3 clause_1 t_2 all_5 s27 names_9 (k_10 + (1:Int)) w28))
 (inR .i64 (k_10 + (1:Int))/\N3 clause_1 t_2 all_5 s27 names_9 (k_10 + (1:Int)) w28)))
 (z1l_k5 clause_1 t_2 all_5 want_7 K w)
def z1l_l3d (clause_1:ByteArray) (t_2:Addr) (all_5 want_7 names_9:Sl) (k_10:Int) (K:Pw.T0) (w:World):Prop :=
 ∃ (I:Sl->Int->World->Prop) (μ:Sl->Int->World->Nat), I want_7 k_10 w/\∀ (want_71:Sl) (k_101:Int) (w1:World), I want_71 k_101 w1 ->
 z1l_b3 clause_1 t_2 all_5 want_71 names_9 k_101 (fun clause_1' t_2' all_5' want_7' names_9' k_10' w'=>((clause_1'=clause_1/\t_2'=t_2/\all_5'=all_5/\names_9'=names_9/\True)/\I want_7' k_10' w')/\μ want_7' k_10' w' < μ want_71 k_101 w1) K w1
structure z1l_l3 (clause_1:ByteArray) (t_2:Addr) (all_5 want_7 names_9:Sl) (k_10:Int) (K:Pw.T0) (w:World):Prop where
 out:z1l_l3d clause_1 t_2 all_5 want_7 names_9 k_10 K w
def z1l_k2d (clause_1:ByteArray) (t_2:Addr) (all_5 want_7 names_9:Sl) (K:Pw.T0) (w:World):Prop :=
 z1l_l3 clause_1 t_2 all_5 want_7 names_9 (0:Int) K w
structure z1l_k2 (clause_1:ByteArray) (t_2:Addr) (all_5 want_7 names_9:Sl) (K:Pw.T0) (w:World):Prop where
 out:z1l_k2d clause_1 t_2 all_5 want_7 names_9 K w
def z1l_k1d (clause_1:ByteArray) (t_2:Addr) (all_5 want_7 names_9:Sl) (K:Pw.T0) (w:World):Prop :=
 cnd (decide (clause_1=(str [116, 105, 101, 115])))
 (z1l_k2 clause_1 t_2 all_5 want_7 names_9 K w)
 (cnd (decide (clause_1=(str [102, 111, 114, 109, 117, 108, 97])))
 (z1l_k2 clause_1 t_2 all_5 want_7 names_9 K w)
 (z1l_k5 clause_1 t_2 all_5 want_7 K w))
structure z1l_k1 (clause_1:ByteArray) (t_2:Addr) (all_5 want_7 names_9:Sl) (K:Pw.T0) (w:World):Prop where
 out:z1l_k1d clause_1 t_2 all_5 want_7 names_9 K w
def z1l_b0 (clause_1:ByteArray) (t_2:Addr) (all_5 want_7:Sl) (k_8:Int) (N0:ByteArray->Addr->Sl->Sl->Int->World->Prop) (K:Pw.T0) (w:World):Prop :=
 ∃ x7:Sl, w.cell? (t_2.add 3)=some (Value.slice x7.p x7.l x7.c)/\cnd (decide (k_8 < (x7.l:Int)))
 (inR .i64 (k_8 + (1:Int))/\z0l_sh (k_8 + (1:Int)) (fun r9 w8=>((((str [114, 101, 113, 117, 105, 114, 101, 32]).size + r9.size:Nat):Int) <= maxI)/\cnd (decide (clause_1=((str [114, 101, 113, 117, 105, 114, 101, 32]) ++ r9)))
 (∃ x10:Sl, w8.cell? (t_2.add 3)=some (Value.slice x10.p x10.l x10.c)/\nz x10.p fun a11=>(0 <= k_8/\k_8 < (x10.l:Nat))/\∃ x12:ByteArray, w8.cell? (a11.add (k_8.toNat * 3))=some (Value.string x12)/\((((str [99, 114, 105, 116, 101, 114, 105, 111, 110, 32]).size + x12.size:Nat):Int) <= maxI)/\let w13 := w8.alloc (Obj.cells #[(Value.string ((str [99, 114, 105, 116, 101, 114, 105, 111, 110, 32]) ++ x12))] 9)
 apS 1 16 [(Value.string (str []))] 9 want_7 (Sl.mk (some (Addr.mk w8.heap.size 0 none)) 1 1) w13 fun s14 w15=>inR .i64 (k_8 + (1:Int))/\N0 clause_1 t_2 all_5 s14 (k_8 + (1:Int)) w15)
 (inR .i64 (k_8 + (1:Int))/\N0 clause_1 t_2 all_5 want_7 (k_8 + (1:Int)) w8)) w)
 (∃ x16:ByteArray, w.cell? (t_2.add 6)=some (Value.string x16)/\∃ x17:Int, w.cell? (t_2.add 7)=some (Value.int .i64 x17)/\∃ x18:Int, w.cell? (t_2.add 8)=some (Value.int .i64 x18)/\∃ x19:ByteArray, w.cell? (t_2.add 9)=some (Value.string x19)/\∃ x20:Sl, w.cell? (t_2.add 10)=some (Value.slice x20.p x20.l x20.c)/\z15_sh x16 x17 x18 x19 x20 (fun r22 w21=>cnd (decide (clause_1=(str [116, 105, 101, 115])))
 (∃ x23:Sl, w21.cell? (t_2.add 11)=some (Value.slice x23.p x23.l x23.c)/\z1l_k1 clause_1 t_2 all_5 want_7 x23 K w21)
 (z1l_k1 clause_1 t_2 all_5 want_7 r22 K w21)) w)
def z1l_l0d (clause_1:ByteArray) (t_2:Addr) (all_5 want_7:Sl) (k_8:Int) (K:Pw.T0) (w:World):Prop :=
 ∃ (I:Sl->Int->World->Prop) (μ:Sl->Int->World->Nat), I want_7 k_8 w/\∀ (want_71:Sl) (k_81:Int) (w1:World), I want_71 k_81 w1 ->
 z1l_b0 clause_1 t_2 all_5 want_71 k_81 (fun clause_1' t_2' all_5' want_7' k_8' w'=>((clause_1'=clause_1/\t_2'=t_2/\all_5'=all_5/\True)/\I want_7' k_8' w')/\μ want_7' k_8' w' < μ want_71 k_81 w1) K w1
structure z1l_l0 (clause_1:ByteArray) (t_2:Addr) (all_5 want_7:Sl) (k_8:Int) (K:Pw.T0) (w:World):Prop where
 out:z1l_l0d clause_1 t_2 all_5 want_7 k_8 K w
def z1l_sd (t_0:T43) (clause_1:ByteArray) (K:Pw.T0) (w:World):Prop :=
 let w1 := w.alloc (Obj.cells (T43.cs t_0).toArray 43)
 T43.ld w1 (Addr.mk w.heap.size 0 none) fun x2=>z0i_sh x2 (fun r4 w3=>z20_sh r4 clause_1 (fun r6 w5=>cnd (!r6)
 (K (Sl.mk none 0 0) w5)
 (z1l_l0 clause_1 (Addr.mk w.heap.size 0 none) r4 (Sl.mk none 0 0) (0:Int) K w5)) w3) w1
structure z1l_sh (t_0:T43) (clause_1:ByteArray) (K:Pw.T0) (w:World):Prop where
 out:z1l_sd t_0 clause_1 K w
def z1l_L0 (Kv:VW):Cur [tS, tQ, tL, tL, tI] WP := fun clause_1 t_2 all_5 want_7 k_8=>z1l_l0 clause_1 t_2 all_5 want_7 k_8 (kk [tL] Kv)
def z1l_L1 (Kv:VW):Cur [tS, tQ, tL, tL, tL] WP := fun clause_1 t_2 all_5 want_7 names_9=>z1l_k1 clause_1 t_2 all_5 want_7 names_9 (kk [tL] Kv)
def z1l_L2 (Kv:VW):Cur [tS, tQ, tL, tL, tL] WP := fun clause_1 t_2 all_5 want_7 names_9=>z1l_k2 clause_1 t_2 all_5 want_7 names_9 (kk [tL] Kv)
def z1l_L3 (Kv:VW):Cur [tS, tQ, tL, tL, tL, tI] WP := fun clause_1 t_2 all_5 want_7 names_9 k_10=>z1l_l3 clause_1 t_2 all_5 want_7 names_9 k_10 (kk [tL] Kv)
def z1l_L4 (Kv:VW):Cur [tS, tQ, tL, tL, tL, tI] WP->Cur [tS, tQ, tL, tL, tL, tI] WP := fun N3 clause_1 t_2 all_5 want_7 names_9 k_10=>z1l_k4 clause_1 t_2 all_5 want_7 names_9 k_10 N3 (kk [tL] Kv)
def z1l_L5 (Kv:VW):Cur [tS, tQ, tL, tL] WP := fun clause_1 t_2 all_5 want_7=>z1l_k5 clause_1 t_2 all_5 want_7 (kk [tL] Kv)
def z1l_L6 (Kv:VW):Cur [tS, tQ, tL, tL] WP := fun clause_1 t_2 all_5 want_7=>z1l_k6 clause_1 t_2 all_5 want_7 (kk [tL] Kv)
def z1l_L7 (Kv:VW):Cur [tS, tQ, tL, tL, tI] WP := fun clause_1 t_2 all_5 want_7 k_11=>z1l_l7 clause_1 t_2 all_5 want_7 k_11 (kk [tL] Kv)
def z1l_L8 (Kv:VW):Cur [tS, tQ, tL, tL] WP := fun clause_1 t_2 all_5 want_7=>z1l_k8 clause_1 t_2 all_5 want_7 (kk [tL] Kv)
def z1l_L9 (Kv:VW):Cur [tS, tQ, tL, tL] WP := fun clause_1 t_2 all_5 want_7=>z1l_k9 clause_1 t_2 all_5 want_7 (kk [tL] Kv)
def z1l_L10 (Kv:VW):Cur [tQ, tL, tL, tI] WP := fun t_2 all_5 want_7 k_12=>z1l_l10 t_2 all_5 want_7 k_12 (kk [tL] Kv)
def z1l_L11 (Kv:VW):Cur [tQ, tL, tL, tI] WP->Cur [tQ, tL, tL, tI, tI] WP := fun N10 t_2 all_5 want_7 k_12 j_13=>z1l_l11 t_2 all_5 want_7 k_12 j_13 N10 (kk [tL] Kv)
def z1l_L12 (Kv:VW):Cur [tL, tL] WP := fun all_5 want_7=>z1l_k12 all_5 want_7 (kk [tL] Kv)
def z1l_L13 (Kv:VW):Cur [tL, tL, tL, tI] WP := fun all_5 want_7 out_14 k_15=>z1l_l13 all_5 want_7 out_14 k_15 (kk [tL] Kv)
noncomputable def z1l_S:Pw.Spec := fun vs w Kv=>un (.g 20 :: tS :: tL :: tL :: tL :: tI :: tI :: tS :: tI :: tI :: tS :: tL :: tL :: tI :: tL :: tI :: tI :: tI :: tI :: tI :: tI :: tS :: []) (fun t_0_0 t_0_1 t_0_2 t_0_3 t_0_4 t_0_5 t_0_6 t_0_7 t_0_8 t_0_9 t_0_10 t_0_11 t_0_12 t_0_13 t_0_14 t_0_15 t_0_16 t_0_17 t_0_18 t_0_19 clause_1=>z1l_sh ⟨t_0_0, t_0_1, t_0_2, t_0_3, t_0_4, t_0_5, t_0_6, t_0_7, t_0_8, t_0_9, t_0_10, t_0_11, t_0_12, t_0_13, t_0_14, t_0_15, t_0_16, t_0_17, t_0_18, t_0_19⟩ clause_1 (kk [tL] Kv)) nF vs w
def z1l_A (Kv:VW):A := (qr 2 (qr 3 (qr 4 (qs (qr 2 (qc (qr 1 ql) ql)) (qr 1 (qs (qr 1 (qb (A.loop [1, 2, 5, 7, 8] (uR0 [tS, tQ, tL, tL, tI] (z1l_L0 Kv)) (qs (qr 5 (qc ql ql)) (qs (qb (qr 6 (qc (qe 11) ql))) (qe 3)))))) (qr 4 (qs (qr 2 (qc (qe 3) ql)) (A.cut [1, 2, 5, 7, 9] (uR0 [tS, tQ, tL, tL, tL] (z1l_L1 Kv)) (qs (qs (A.reg (qn 3 (RA.spl 56 (qk 2 (qn 1 RA.done)) (qn 3 RA.done)))) (qc (A.cut [1, 2, 5, 7, 9] (uR0 [tS, tQ, tL, tL, tL] (z1l_L2 Kv)) (qr 1 (qb (A.loop [1, 2, 5, 7, 9, 10] (uR0 [tS, tQ, tL, tL, tL, tI] (z1l_L3 Kv)) (qs (qr 4 (qc ql ql)) (qs (qb (qr 9 (qs (A.reg (qn 6 (RA.spl 79 (qk 9 (qn 1 RA.done)) (qn 6 (RA.spl 85 (qn 4 RA.done) (qk 2 (qn 2 RA.done))))))) (qc (A.cut [1, 2, 5, 7, 9, 10] (uR1 [tS, tQ, tL, tL, tL, tI] [tS, tQ, tL, tL, tL, tI] (z1l_L4 Kv)) (qe 4)) ql)))) (qe 3))))))) ql)) (A.cut [1, 2, 5, 7] (uR0 [tS, tQ, tL, tL] (z1l_L5 Kv)) (qs (qs (A.reg (qn 3 (RA.spl 95 (qk 2 (qn 1 RA.done)) (qn 3 RA.done)))) (qc (A.cut [1, 2, 5, 7] (uR0 [tS, tQ, tL, tL] (z1l_L6 Kv)) (qr 1 (qb (A.loop [1, 2, 5, 7, 11] (uR0 [tS, tQ, tL, tL, tI] (z1l_L7 Kv)) (qs (qr 5 (qc ql ql)) (qs (qb (qe 11)) (qe 3))))))) ql)) (A.cut [1, 2, 5, 7] (uR0 [tS, tQ, tL, tL] (z1l_L8 Kv)) (qs (qr 2 (qc (qe 4) ql)) (A.cut [1, 2, 5, 7] (uR0 [tS, tQ, tL, tL] (z1l_L9 Kv)) (qs (qr 2 (qc (qr 1 (qb (A.loop [2, 5, 7, 12] (uR0 [tQ, tL, tL, tI] (z1l_L10 Kv)) (qs (qr 5 (qc ql ql)) (qs (qb (qr 1 (qb (A.loop [2, 5, 7, 12, 13] (uR1 [tQ, tL, tL, tI] [tQ, tL, tL, tI, tI] (z1l_L11 Kv)) (qs (qr 8 (qc ql ql)) (qs (qb (qe 13)) (qe 3))))))) (qe 3)))))) ql)) (A.cut [5, 7] (uR0 [tL, tL] (z1l_L12 Kv)) (qr 1 (qs (qr 1 (qb (A.loop [5, 7, 14, 15] (uR0 [tL, tL, tL, tI] (z1l_L13 Kv)) (qs (qr 4 (qc ql ql)) (qs (qb (qr 7 (qr 1 (qc (qe 8) ql)))) (qe 3)))))) (qr 2 ql))))))))))))))))))))
theorem z1l_ok:Sound Tryz.prog 16 z1l_S := okS (x := z1l_A) (fun Kv t_0_0 t_0_1 t_0_2 t_0_3 t_0_4 t_0_5 t_0_6 t_0_7 t_0_8 t_0_9 t_0_10 t_0_11 t_0_12 t_0_13 t_0_14 t_0_15 t_0_16 t_0_17 t_0_18 t_0_19 clause_1=>z1l_sd ⟨t_0_0, t_0_1, t_0_2, t_0_3, t_0_4, t_0_5, t_0_6, t_0_7, t_0_8, t_0_9, t_0_10, t_0_11, t_0_12, t_0_13, t_0_14, t_0_15, t_0_16, t_0_17, t_0_18, t_0_19⟩ clause_1 (kk [tL] Kv)) progMixed (Γ := [(14, z0i_S), (26, z0l_S), (35, z1z_S), (36, z20_S), (40, z15_S)]) ⟨.inl z0i_ok, .inl z0l_okr, .inl z1z_ok, .inl z20_ok, .inl z15_ok, trivial⟩ Tryz.call16 Tryz.func16 (fun Kv=>hStep (hLoop0 (L := z1l_L0 Kv) (fun N0 clause_1 t_2 all_5 want_7 k_8=>z1l_b0 clause_1 t_2 all_5 want_7 k_8 N0 (kk [tL] Kv)) (fun ⟨a0, a1, a2, _, _, _⟩ _ h=>let ⟨I, μ, h0, hr⟩ := h.out; ⟨fun b0 b1 b2 b3 b4 w=>(b0=a0/\b1=a1/\b2=a2/\True)/\I b3 b4 w, fun _ _ _ b3 b4 w=>μ b3 b4 w, ⟨⟨rfl, rfl, rfl, trivial⟩, h0⟩, fun ⟨_, _, _, _, _, _⟩ _ ⟨⟨e0, e1, e2, _⟩, hI⟩=>by cases e0; cases e1; cases e2; exact hr _ _ _ hI⟩)) <| hStep (hCut0 (F := z1l_L1 Kv) (G := fun clause_1 t_2 all_5 want_7 names_9=>z1l_k1d clause_1 t_2 all_5 want_7 names_9 (kk [tL] Kv))) <| hStep (hCut0 (F := z1l_L2 Kv) (G := fun clause_1 t_2 all_5 want_7 names_9=>z1l_k2d clause_1 t_2 all_5 want_7 names_9 (kk [tL] Kv))) <| hStep (hLoop0 (L := z1l_L3 Kv) (fun N3 clause_1 t_2 all_5 want_7 names_9 k_10=>z1l_b3 clause_1 t_2 all_5 want_7 names_9 k_10 N3 (kk [tL] Kv)) (fun ⟨a0, a1, a2, _, a4, _, _⟩ _ h=>let ⟨I, μ, h0, hr⟩ := h.out; ⟨fun b0 b1 b2 b3 b4 b5 w=>(b0=a0/\b1=a1/\b2=a2/\b4=a4/\True)/\I b3 b5 w, fun _ _ _ b3 _ b5 w=>μ b3 b5 w, ⟨⟨rfl, rfl, rfl, rfl, trivial⟩, h0⟩, fun ⟨_, _, _, _, _, _, _⟩ _ ⟨⟨e0, e1, e2, e4, _⟩, hI⟩=>by cases e0; cases e1; cases e2; cases e4; exact hr _ _ _ hI⟩)) <| hStep (hCut1 (F := z1l_L4 Kv) (G := fun N3 clause_1 t_2 all_5 want_7 names_9 k_10=>z1l_k4d clause_1 t_2 all_5 want_7 names_9 k_10 N3 (kk [tL] Kv))) <| hStep (hCut0 (F := z1l_L5 Kv) (G := fun clause_1 t_2 all_5 want_7=>z1l_k5d clause_1 t_2 all_5 want_7 (kk [tL] Kv))) <| hStep (hCut0 (F := z1l_L6 Kv) (G := fun clause_1 t_2 all_5 want_7=>z1l_k6d clause_1 t_2 all_5 want_7 (kk [tL] Kv))) <| hStep (hLoop0 (L := z1l_L7 Kv) (fun N7 clause_1 t_2 all_5 want_7 k_11=>z1l_b7 clause_1 t_2 all_5 want_7 k_11 N7 (kk [tL] Kv)) (fun ⟨a0, a1, a2, _, _, _⟩ _ h=>let ⟨I, μ, h0, hr⟩ := h.out; ⟨fun b0 b1 b2 b3 b4 w=>(b0=a0/\b1=a1/\b2=a2/\True)/\I b3 b4 w, fun _ _ _ b3 b4 w=>μ b3 b4 w, ⟨⟨rfl, rfl, rfl, trivial⟩, h0⟩, fun ⟨_, _, _, _, _, _⟩ _ ⟨⟨e0, e1, e2, _⟩, hI⟩=>by cases e0; cases e1; cases e2; exact hr _ _ _ hI⟩)) <| hStep (hCut0 (F := z1l_L8 Kv) (G := fun clause_1 t_2 all_5 want_7=>z1l_k8d clause_1 t_2 all_5 want_7 (kk [tL] Kv))) <| hStep (hCut0 (F := z1l_L9 Kv) (G := fun clause_1 t_2 all_5 want_7=>z1l_k9d clause_1 t_2 all_5 want_7 (kk [tL] Kv))) <| hStep (hLoop0 (L := z1l_L10 Kv) (fun N10 t_2 all_5 want_7 k_12=>z1l_b10 t_2 all_5 want_7 k_12 N10 (kk [tL] Kv)) (fun ⟨a0, a1, _, _, _⟩ _ h=>let ⟨I, μ, h0, hr⟩ := h.out; ⟨fun b0 b1 b2 b3 w=>(b0=a0/\b1=a1/\True)/\I b2 b3 w, fun _ _ b2 b3 w=>μ b2 b3 w, ⟨⟨rfl, rfl, trivial⟩, h0⟩, fun ⟨_, _, _, _, _⟩ _ ⟨⟨e0, e1, _⟩, hI⟩=>by cases e0; cases e1; exact hr _ _ _ hI⟩)) <| hStep (hLoop1 (L := z1l_L11 Kv) (fun N10 N11 t_2 all_5 want_7 k_12 j_13=>z1l_b11 t_2 all_5 want_7 k_12 j_13 N11 N10 (kk [tL] Kv)) (fun _ ⟨a0, a1, _, a3, _, _⟩ _ h=>let ⟨I, μ, h0, hr⟩ := h.out; ⟨fun b0 b1 b2 b3 b4 w=>(b0=a0/\b1=a1/\b3=a3/\True)/\I b2 b4 w, fun _ _ b2 _ b4 w=>μ b2 b4 w, ⟨⟨rfl, rfl, rfl, trivial⟩, h0⟩, fun ⟨_, _, _, _, _, _⟩ _ ⟨⟨e0, e1, e3, _⟩, hI⟩=>by cases e0; cases e1; cases e3; exact hr _ _ _ hI⟩)) <| hStep (hCut0 (F := z1l_L12 Kv) (G := fun all_5 want_7=>z1l_k12d all_5 want_7 (kk [tL] Kv))) <| hStep (hLoop0 (L := z1l_L13 Kv) (fun N13 all_5 want_7 out_14 k_15=>z1l_b13 all_5 want_7 out_14 k_15 N13 (kk [tL] Kv)) (fun ⟨a0, a1, _, _, _⟩ _ h=>let ⟨I, μ, h0, hr⟩ := h.out; ⟨fun b0 b1 b2 b3 w=>(b0=a0/\b1=a1/\True)/\I b2 b3 w, fun _ _ b2 b3 w=>μ b2 b3 w, ⟨⟨rfl, rfl, trivial⟩, h0⟩, fun ⟨_, _, _, _, _⟩ _ ⟨⟨e0, e1, _⟩, hI⟩=>by cases e0; cases e1; exact hr _ _ _ hI⟩)) <| hEnd)
end Go.Proofs.YtfkmpbpkahcogaaGreatDoor
