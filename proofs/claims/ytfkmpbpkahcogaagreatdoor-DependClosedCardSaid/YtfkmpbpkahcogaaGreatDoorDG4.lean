/- The bodies' formulas, by program. -/
import Derived.Test.YtfkmpbpkahcogaaGreatDoorProg
import Derived.KernelRfl
import Derived.Test.YtfkmpbpkahcogaaGreatDoorPwY
import Derived.Test.YtfkmpbpkahcogaaGreatDoorDT
import Derived.Test.YtfkmpbpkahcogaaGreatDoorCG0
import Derived.Test.YtfkmpbpkahcogaaGreatDoorCG1
import Derived.Test.YtfkmpbpkahcogaaGreatDoorDG0
import Derived.Test.YtfkmpbpkahcogaaGreatDoorDG1
import Derived.Test.YtfkmpbpkahcogaaGreatDoorDG2
import Derived.Test.YtfkmpbpkahcogaaGreatDoorDG3
set_option maxRecDepth 20000
namespace Go.Proofs.YtfkmpbpkahcogaaGreatDoor
open Go Pw
def z1k_b0 (a_0 b_1:Sl) (k_5:Int) (N0:Sl->Sl->Int->World->Prop) (K:Pw.T1) (w:World):Prop :=
 cnd (decide (k_5 < (a_0.l:Int)))
 (let w1 := w.drew
 nz a_0.p fun a2=>(0 <= k_5/\k_5 < (a_0.l:Nat))/\∃ x3:ByteArray, w1.cell? (a2.add (k_5.toNat * 1))=some (Value.string x3)/\nz b_1.p fun a4=>(0 <= k_5/\k_5 < (b_1.l:Nat))/\∃ x5:ByteArray, w1.cell? (a4.add (k_5.toNat * 1))=some (Value.string x5)/\cnd (!decide (x3=x5))
 (K false w1)
 (inR .i64 (k_5 + (1:Int))/\N0 a_0 b_1 (k_5 + (1:Int)) w1))
 (K true w)
def z1k_l0d (a_0 b_1:Sl) (k_5:Int) (K:Pw.T1) (w:World):Prop :=
 ∃ (I:Int->World->Prop) (μ:Int->World->Nat), I k_5 w/\∀ (k_51:Int) (w1:World), I k_51 w1 ->
 z1k_b0 a_0 b_1 k_51 (fun a_0' b_1' k_5' w'=>((a_0'=a_0/\b_1'=b_1/\True)/\I k_5' w')/\μ k_5' w' < μ k_51 w1) K w1
structure z1k_l0 (a_0 b_1:Sl) (k_5:Int) (K:Pw.T1) (w:World):Prop where
 out:z1k_l0d a_0 b_1 k_5 K w
def z1k_sd (a_0 b_1:Sl) (K:Pw.T1) (w:World):Prop :=
 cnd ((a_0.l:Int) != (b_1.l:Int))
 (K false w)
 (z1k_l0 a_0 b_1 (0:Int) K w)
structure z1k_sh (a_0 b_1:Sl) (K:Pw.T1) (w:World):Prop where
 out:z1k_sd a_0 b_1 K w
def z1k_L0 (Kv:VW):Cur [tL, tL, tI] WP := fun a_0 b_1 k_5=>z1k_l0 a_0 b_1 k_5 (kk [tB] Kv)
noncomputable def z1k_S:Pw.Spec := fun vs w Kv=>un [tL, tL] (fun a_0 b_1=>z1k_sh a_0 b_1 (kk [tB] Kv)) nF vs w
def z1k_A (Kv:VW):A := (qr 1 (qs (qr 5 (qc (qr 1 ql) ql)) (qs (qr 1 (qb (A.loop [0, 1, 5] (uR0 [tL, tL, tI] (z1k_L0 Kv)) (qs (qr 4 (qc ql ql)) (qs (qb (qs (A.drp (dp [0, 1, 2, 3, 4, 5, 6, 7, 8] DA.done)) (qc (qr 1 ql) ql))) (qe 3)))))) (qr 1 ql))))
theorem z1k_ok:Sound Tryz.prog 34 z1k_S := okS (x := z1k_A) (fun Kv a_0 b_1=>z1k_sd a_0 b_1 (kk [tB] Kv)) progMixed (Γ := []) trivial Tryz.call34 Tryz.func34 (fun Kv=>hStep (hLoop0 (L := z1k_L0 Kv) (fun N0 a_0 b_1 k_5=>z1k_b0 a_0 b_1 k_5 N0 (kk [tB] Kv)) (fun ⟨a0, a1, _, _⟩ _ h=>let ⟨I, μ, h0, hr⟩ := h.out; ⟨fun b0 b1 b2 w=>(b0=a0/\b1=a1/\True)/\I b2 w, fun _ _ b2 w=>μ b2 w, ⟨⟨rfl, rfl, trivial⟩, h0⟩, fun ⟨_, _, _, _⟩ _ ⟨⟨e0, e1, _⟩, hI⟩=>by cases e0; cases e1; exact hr _ _ hI⟩)) <| hEnd)
structure z0l_sh (n_0:Int) (K:Pw.T3) (w:World):Prop where
 out:Calls Tryz.prog 26 #[(Value.int .i64 n_0)] w fun e w'=>∃ r0:ByteArray, e=.returned (Value.string r0)/\K r0 w'
noncomputable def z0l_S:Pw.Spec := fun vs w Kv =>
 match vs with
 | [.int .i64 n_0]=>z0l_sh n_0 (fun r0 w'=>Kv (Value.string r0) w') w
 | _=>False
theorem z0l_okr:Sound Tryz.prog 26 z0l_S := ⟨Tryz.call26, fun vs w Kv h=>by
  unfold z0l_S at h
  split at h
  · exact h.out.mono fun e w' he=>by
      obtain ⟨_, he, hk⟩ := he
      exact ⟨_, he, hk⟩
  · exact h.elim⟩
def z0l_k1d (n_0:Int) (rest_3:ByteArray) (K:Pw.T3) (w:World):Prop :=
 ((((str [45]).size + rest_3.size:Nat):Int) <= maxI)/\(10:Int) ≠ 0/\inR .i64 ((48:Int) - (Int.tmod n_0 (10:Int)))/\inR .u8 ((48:Int) - (Int.tmod n_0 (10:Int)))/\let w5 := w.alloc (Obj.cells #[(Value.int .u8 ((48:Int) - (Int.tmod n_0 (10:Int))))] 5)
 btsS (Sl.mk (some (Addr.mk w.heap.size 0 none)) 1 1) w5 fun s6=>(((((str [45]) ++ rest_3).size + s6.size:Nat):Int) <= maxI)/\K (((str [45]) ++ rest_3) ++ s6) w5
structure z0l_k1 (n_0:Int) (rest_3:ByteArray) (K:Pw.T3) (w:World):Prop where
 out:z0l_k1d n_0 rest_3 K w
def z0l_k0d (n_0:Int) (K:Pw.T3) (w:World):Prop :=
 cnd (decide (n_0 < (0:Int)))
 (cnd (decide (n_0 <= (-10:Int)))
 ((10:Int) ≠ 0/\inR .i64 (Int.tdiv n_0 (10:Int))/\inR .i64 (-(Int.tdiv n_0 (10:Int)))/\z0l_sh (-(Int.tdiv n_0 (10:Int))) (fun r4 w3=>z0l_k1 n_0 r4 K w3) w)
 (z0l_k1 n_0 (str []) K w))
 (let w7 := w.drew
 ∃ S8:World->Prop, S8 w7/\(10:Int) ≠ 0/\inR .i64 (Int.tdiv n_0 (10:Int))/\(10:Int) ≠ 0/\inR .i64 ((48:Int) + (Int.tmod n_0 (10:Int)))/\inR .u8 ((48:Int) + (Int.tmod n_0 (10:Int)))/\(z0l_sh (Int.tdiv n_0 (10:Int)) (fun r10 w9=>S8 w9/\let w11 := w9.alloc (Obj.cells #[(Value.int .u8 ((48:Int) + (Int.tmod n_0 (10:Int))))] 5)
 btsS (Sl.mk (some (Addr.mk w9.heap.size 0 none)) 1 1) w11 fun s12=>(((r10.size + s12.size:Nat):Int) <= maxI)/\K (r10 ++ s12) w11) w7)
/\(let w13 := w7.alloc (Obj.cells #[(Value.int .u8 ((48:Int) + (Int.tmod n_0 (10:Int))))] 5)
 S8 w13/\(z0l_sh (Int.tdiv n_0 (10:Int)) (fun r15 w14=>S8 w14/\btsS (Sl.mk (some (Addr.mk w7.heap.size 0 none)) 1 1) w14 fun s16=>(((r15.size + s16.size:Nat):Int) <= maxI)/\K (r15 ++ s16) w14) w13)
/\(btsS (Sl.mk (some (Addr.mk w7.heap.size 0 none)) 1 1) w13 fun s17=>S8 w13/\z0l_sh (Int.tdiv n_0 (10:Int)) (fun r19 w18=>(((r19.size + s17.size:Nat):Int) <= maxI)/\K (r19 ++ s17) w18) w13)))
structure z0l_k0 (n_0:Int) (K:Pw.T3) (w:World):Prop where
 out:z0l_k0d n_0 K w
def z0l_sd (n_0:Int) (K:Pw.T3) (w:World):Prop :=
 cnd (decide (n_0 >= (0:Int)))
 (cnd (decide (n_0 < (10:Int)))
 (inR .i64 ((48:Int) + n_0)/\inR .u8 ((48:Int) + n_0)/\let w1 := w.alloc (Obj.cells #[(Value.int .u8 ((48:Int) + n_0))] 5)
 btsS (Sl.mk (some (Addr.mk w.heap.size 0 none)) 1 1) w1 fun s2=>K s2 w1)
 (z0l_k0 n_0 K w))
 (z0l_k0 n_0 K w)
def z0l_P0 (Kv:VW) (ρ:Rho) (vs:List Value) (w:World):Prop :=
 match ρ, vs with
 | _, [.int .i64 n_0]=>z0l_k0 n_0 (fun r0 w'=>Kv (Value.string r0) w') w
 | _, _=>False
def z0l_P1 (Kv:VW) (ρ:Rho) (vs:List Value) (w:World):Prop :=
 match ρ, vs with
 | _, [.int .i64 n_0, .string rest_3]=>z0l_k1 n_0 rest_3 (fun r0 w'=>Kv (Value.string r0) w') w
 | _, _=>False
noncomputable def z0l_E:Pw.Env := [(26, z0l_S)]
noncomputable def z0l_C:Code := (Tryz.f26.body).getD .skip
noncomputable def z0l_A (Kv:VW):Pw.A :=
 (qr 1 (qs (qs (A.reg (qn 3 (RA.spl 6 (qn 3 RA.done) (qk 2 (qn 1 RA.done))))) (qc (qr 6 ql) ql)) (A.cut [0] (z0l_P0 Kv) (qs (qr 2 (qc (qr 1 (qs (qr 2 (qc (qe 5) ql)) (A.cut [0, 3] (z0l_P1 Kv) (qr 10 ql)))) ql)) (qs (A.drw (dp [0, 1, 3, 4, 5, 6] (DA.two 2 (DA.eff 7 (DA.eff 8 (dp [9, 10] DA.done))) 7 (DA.two 2 (DA.eff 8 (dp [9, 10] DA.done)) 8 (DA.eff 2 (dp [9, 10] DA.done)))))) ql)))))
noncomputable def z0l_O (Kv:VW):List Ob := (obs Tryz.prog z0l_E 42 (z0l_A Kv) z0l_C (fun _=>retQ Tryz.prog Tryz.f26.results Kv))
theorem z0l_e (Kv:VW) (n_0:Int) (w:World):z0l_sd n_0 (fun r0 w'=>Kv (Value.string r0) w') w=W Tryz.prog z0l_E 42 (z0l_A Kv) z0l_C [] (retQ Tryz.prog Tryz.f26.results Kv) [] (startS [(Value.int .i64 n_0)]) w := by kernel_rfl
theorem z0l_e0 (Kv:VW) (ρ:Rho) (n_0:Int) (w:World):z0l_k0d n_0 (fun r0 w'=>Kv (Value.string r0) w') w=goalAt Tryz.prog z0l_E 42 (z0l_O Kv) 0 (ρ) [(Value.int .i64 n_0)] w := by kernel_rfl
theorem z0l_q0 (Kv:VW) (ρ:Rho) (vs:List Value) (w:World):labAt (z0l_O Kv) 0 ρ vs w=z0l_P0 Kv ρ vs w := by kernel_rfl
theorem z0l_h0 (Kv:VW):holdsAt Tryz.prog z0l_E 42 (z0l_O Kv) 0 := holdsAt_cut (.inl (by kernel_rfl)) (fun ρ vs w h=>by
  rw [z0l_q0] at h
  unfold z0l_P0 at h
  split at h
  · rw [← z0l_e0]; exact h.out
  · exact h.elim)
theorem z0l_e1 (Kv:VW) (ρ:Rho) (n_0:Int) (rest_3:ByteArray) (w:World):z0l_k1d n_0 rest_3 (fun r0 w'=>Kv (Value.string r0) w') w=goalAt Tryz.prog z0l_E 42 (z0l_O Kv) 1 (ρ) [(Value.int .i64 n_0), (Value.string rest_3)] w := by kernel_rfl
theorem z0l_q1 (Kv:VW) (ρ:Rho) (vs:List Value) (w:World):labAt (z0l_O Kv) 1 ρ vs w=z0l_P1 Kv ρ vs w := by kernel_rfl
theorem z0l_h1 (Kv:VW):holdsAt Tryz.prog z0l_E 42 (z0l_O Kv) 1 := holdsAt_cut (.inl (by kernel_rfl)) (fun ρ vs w h=>by
  rw [z0l_q1] at h
  unfold z0l_P1 at h
  split at h
  · rw [← z0l_e1]; exact h.out
  · exact h.elim)
theorem z0l_n (Kv:VW):obAt (z0l_O Kv) 2=none := by kernel_rfl
theorem z0l_h (Kv:VW):∀ k, holdsAt Tryz.prog z0l_E 42 (z0l_O Kv) k := fun k=>match k with
  | 0=>z0l_h0 Kv
  | 1=>z0l_h1 Kv
  | k + 2=>holdsAt_ge (z0l_n Kv) (Nat.le_add_left _ _)
theorem z0l_mk (n_0:Int) {K:ByteArray->World->Prop} {w:World} (h:z0l_sd n_0 K w):z0l_sh n_0 K w := by
  have e:(fun r0 w'=>(fun v w'=>∃ r0:ByteArray, v=(Value.string r0)/\K r0 w') (Value.string r0) w')=K := by
    funext r0 w'
    apply propext
    constructor
    · rintro ⟨r0', hv, hk⟩
      cases hv
      exact hk
    · intro hk
      exact ⟨_, rfl, hk⟩
  have h':z0l_sd n_0 (fun r0 w'=>(fun v w'=>∃ r0:ByteArray, v=(Value.string r0)/\K r0 w') (Value.string r0) w') w := by rw [e]; exact h
  rw [z0l_e (fun v w'=>∃ r0:ByteArray, v=(Value.string r0)/\K r0 w')] at h'
  refine ⟨(calls_sound (Γ := z0l_E) progMixed ⟨.inl z0l_okr, trivial⟩ Tryz.func26 (code := z0l_C) (by kernel_rfl) (z0l_A (fun v w'=>∃ r0:ByteArray, v=(Value.string r0)/\K r0 w')) (fun v w'=>∃ r0:ByteArray, v=(Value.string r0)/\K r0 w') (holds_all (z0l_h (fun v w'=>∃ r0:ByteArray, v=(Value.string r0)/\K r0 w'))) (Nat.le_of_ble_eq_true (by kernel_rfl)) h').mono fun e w' he=>?_⟩
  obtain ⟨v, rfl, _, rfl, hk⟩ := he
  exact ⟨_, rfl, hk⟩
def z1j_sd (n_0:Int) (K:Pw.T3) (w:World):Prop :=
 let w1 := w.alloc (Obj.cells #[(Value.string (str [113, 117, 97, 108, 105, 116, 121])), (Value.string (str [100, 97, 121, 115])), (Value.string (str [115, 116, 97, 102, 102])), (Value.string (str [112, 114, 105, 99, 101])), (Value.string (str [108, 111, 119]))] 9)
 z1y_sh n_0 (5:Int) (fun r3 w2=>(0 <= r3/\r3 < (5:Nat))/\∃ x5:ByteArray, w2.cell? ((Addr.mk w.heap.size 0 none).add (r3.toNat * 1))=some (Value.string x5)/\K x5 w2) w1
structure z1j_sh (n_0:Int) (K:Pw.T3) (w:World):Prop where
 out:z1j_sd n_0 K w
noncomputable def z1j_S:Pw.Spec := fun vs w Kv=>un [tI] (fun n_0=>z1j_sh n_0 (kk [tS] Kv)) nF vs w
def z1j_A (_:VW):A := (qr 1 (qr 6 ql))
theorem z1j_ok:Sound Tryz.prog 29 z1j_S := okS (x := z1j_A) (fun Kv n_0=>z1j_sd n_0 (kk [tS] Kv)) progMixed (Γ := [(28, z1y_S)]) ⟨.inl z1y_ok, trivial⟩ Tryz.call29 Tryz.func29 (fun _=>hEnd)
def z03_k10d (t_2 t_3:Addr) (K:Pw.T4) (w:World):Prop :=
 T43.ld w t_3 fun x152=>stN w t_2 (T43.cs x152) fun w153=>T43.ld w153 t_2 fun x154=>K x154 w153
structure z03_k10 (t_2 t_3:Addr) (K:Pw.T4) (w:World):Prop where
 out:z03_k10d t_2 t_3 K w
def z03_b9 (p_1 t_2 t_3:Addr) (k_10:Int) (N9:Addr->Addr->Addr->Int->World->Prop) (K:Pw.T4) (w:World):Prop :=
 ∃ x135:Sl, w.cell? (p_1.add 5)=some (Value.slice x135.p x135.l x135.c)/\cnd (decide (k_10 < (x135.l:Int)))
 (cnd (decide (k_10 < (3:Int)))
 (let w136 := w.drew
 ∃ S137:World->Prop, S137 w136/\∃ x138:Sl, (∀ w':World, S137 w'->w'.cell? (t_3.add 13)=some (Value.slice x138.p x138.l x138.c))/\∃ x139:Sl, (∀ w':World, S137 w'->w'.cell? (p_1.add 5)=some (Value.slice x139.p x139.l x139.c))/\nz x139.p fun a140=>(0 <= k_10/\k_10 < (x139.l:Nat))/\∃ x141:Sl, (∀ w':World, S137 w'->w'.cell? (a140.add (k_10.toNat * 1))=some (Value.slice x141.p x141.l x141.c))/\∃ x142:Sl, (∀ w':World, S137 w'->w'.cell? (p_1.add 5)=some (Value.slice x142.p x142.l x142.c))/\nz x142.p fun a143=>(0 <= k_10/\k_10 < (x142.l:Nat))/\∃ x144:Sl, (∀ w':World, S137 w'->w'.cell? (a143.add (k_10.toNat * 1))=some (Value.slice x144.p x144.l x144.c))/\(0 <= (0:Int)/\(0:Int) <= (min (x144.l:Int) (4:Int))/\(min (x144.l:Int) (4:Int)) <= (x141.c:Nat))/\let w145 := w136.alloc (Obj.cells #[] 3)
 S137 w145/\apS 1 8 [(Value.int .i64 0)] 3 (Sl.mk (some (Addr.mk w136.heap.size 0 none)) 0 0) (Sl.mk (subP x141.p 0 x141.c 1) ((min (x144.l:Int) (4:Int)).toNat - 0) (x141.c - 0)) w145 fun s146 w147=>S137 w147/\let w148 := w147.alloc (Obj.cells #[(Value.slice s146.p s146.l s146.c)] 25)
 S137 w148/\apS 1 24 [(Value.slice none 0 0)] 25 x138 (Sl.mk (some (Addr.mk w147.heap.size 0 none)) 1 1) w148 fun s149 w150=>S137 w150/\wrOk w150 (t_3.add 13)/\
 (let w151 := w150.setCell (t_3.add 13) (Value.slice s149.p s149.l s149.c)
 inR .i64 (k_10 + (1:Int))/\N9 p_1 t_2 t_3 (k_10 + (1:Int)) w151))
 (z03_k10 t_2 t_3 K w))
 (z03_k10 t_2 t_3 K w)
def z03_l9d (p_1 t_2 t_3:Addr) (k_10:Int) (K:Pw.T4) (w:World):Prop :=
 ∃ (I:Int->World->Prop) (μ:Int->World->Nat), I k_10 w/\∀ (k_101:Int) (w1:World), I k_101 w1 ->
 z03_b9 p_1 t_2 t_3 k_101 (fun p_1' t_2' t_3' k_10' w'=>((p_1'=p_1/\t_2'=t_2/\t_3'=t_3/\True)/\I k_10' w')/\μ k_10' w' < μ k_101 w1) K w1
structure z03_l9 (p_1 t_2 t_3:Addr) (k_10:Int) (K:Pw.T4) (w:World):Prop where
 out:z03_l9d p_1 t_2 t_3 k_10 K w
def z03_k8d (p_1 t_2 t_3:Addr) (K:Pw.T4) (w:World):Prop :=
 z03_l9 p_1 t_2 t_3 (0:Int) K w
structure z03_k8 (p_1 t_2 t_3:Addr) (K:Pw.T4) (w:World):Prop where
 out:z03_k8d p_1 t_2 t_3 K w
def z03_b7 (p_1 t_2 t_3:Addr) (k_9:Int) (N7:Addr->Addr->Addr->Int->World->Prop) (K:Pw.T4) (w:World):Prop :=
 ∃ x122:Sl, w.cell? (p_1.add 4)=some (Value.slice x122.p x122.l x122.c)/\cnd (decide (k_9 < (x122.l:Int)))
 (cnd (decide (k_9 < (4:Int)))
 (let w123 := w.drew
 ∃ S124:World->Prop, S124 w123/\∃ x125:Sl, (∀ w':World, S124 w'->w'.cell? (t_3.add 11)=some (Value.slice x125.p x125.l x125.c))/\∃ x126:Sl, (∀ w':World, S124 w'->w'.cell? (p_1.add 4)=some (Value.slice x126.p x126.l x126.c))/\nz x126.p fun a127=>(0 <= k_9/\k_9 < (x126.l:Nat))/\∃ x128:Int, (∀ w':World, S124 w'->w'.cell? (a127.add (k_9.toNat * 1))=some (Value.int .i64 x128))/\z1j_sh x128 (fun r130 w129=>S124 w129/\let w131 := w129.alloc (Obj.cells #[(Value.string r130)] 9)
 S124 w131/\apS 1 16 [(Value.string (str []))] 9 x125 (Sl.mk (some (Addr.mk w129.heap.size 0 none)) 1 1) w131 fun s132 w133=>S124 w133/\wrOk w133 (t_3.add 11)/\
 (let w134 := w133.setCell (t_3.add 11) (Value.slice s132.p s132.l s132.c)
 inR .i64 (k_9 + (1:Int))/\N7 p_1 t_2 t_3 (k_9 + (1:Int)) w134)) w123)
 (z03_k8 p_1 t_2 t_3 K w))
 (z03_k8 p_1 t_2 t_3 K w)
def z03_l7d (p_1 t_2 t_3:Addr) (k_9:Int) (K:Pw.T4) (w:World):Prop :=
 ∃ (I:Int->World->Prop) (μ:Int->World->Nat), I k_9 w/\∀ (k_91:Int) (w1:World), I k_91 w1 ->
 z03_b7 p_1 t_2 t_3 k_91 (fun p_1' t_2' t_3' k_9' w'=>((p_1'=p_1/\t_2'=t_2/\t_3'=t_3/\True)/\I k_9' w')/\μ k_9' w' < μ k_91 w1) K w1
structure z03_l7 (p_1 t_2 t_3:Addr) (k_9:Int) (K:Pw.T4) (w:World):Prop where
 out:z03_l7d p_1 t_2 t_3 k_9 K w
def z03_k6d (p_1 t_2 t_3:Addr) (K:Pw.T4) (w:World):Prop :=
 z03_l7 p_1 t_2 t_3 (0:Int) K w
structure z03_k6 (p_1 t_2 t_3:Addr) (K:Pw.T4) (w:World):Prop where
 out:z03_k6d p_1 t_2 t_3 K w
def z03_b5 (p_1 t_2 t_3:Addr) (k_7:Int) (N5:Addr->Addr->Addr->Int->World->Prop) (K:Pw.T4) (w:World):Prop :=
 ∃ x74:Sl, w.cell? (p_1.add 2)=some (Value.slice x74.p x74.l x74.c)/\cnd (decide (k_7 < (x74.l:Int)))
 (cnd (decide (k_7 < (4:Int)))
 (∃ x75:Sl, w.cell? (p_1.add 2)=some (Value.slice x75.p x75.l x75.c)/\nz x75.p fun a76=>(0 <= k_7/\k_7 < (x75.l:Nat))/\∃ x77:Int, w.cell? (a76.add (k_7.toNat * 3))=some (Value.int .i64 x77)/\∃ x78:Int, w.cell? ((a76.add (k_7.toNat * 3)).add 1)=some (Value.int .i64 x78)/\∃ x79:Int, w.cell? ((a76.add (k_7.toNat * 3)).add 2)=some (Value.int .i64 x79)/\let w80 := w.alloc (Obj.cells #[(Value.int .i64 0), (Value.int .i64 0), (Value.int .i64 0)] 50)
 stN w80 (Addr.mk w.heap.size 0 none) [(Value.int .i64 x77), (Value.int .i64 x78), (Value.int .i64 x79)] fun w81=>let w82 := w81.drew
 ∃ S83:World->Prop, S83 w82/\∃ x84:Sl, (∀ w':World, S83 w'->w'.cell? (t_3.add 3)=some (Value.slice x84.p x84.l x84.c))/\(0 <= (0:Int)/\(0:Int) < (3:Nat))/\∃ x85:Int, (∀ w':World, S83 w'->w'.cell? ((Addr.mk w.heap.size 0 none).add ((0:Int).toNat * 1))=some (Value.int .i64 x85))/\(0 <= (1:Int)/\(1:Int) < (3:Nat))/\∃ x86:Int, (∀ w':World, S83 w'->w'.cell? ((Addr.mk w.heap.size 0 none).add ((1:Int).toNat * 1))=some (Value.int .i64 x86))/\(0 <= (2:Int)/\(2:Int) < (3:Nat))/\∃ x87:Int, (∀ w':World, S83 w'->w'.cell? ((Addr.mk w.heap.size 0 none).add ((2:Int).toNat * 1))=some (Value.int .i64 x87))/\(z1j_sh x85 (fun r89 w88=>S83 w88/\(let w90 := w88.alloc (Obj.cells #[(Value.string (str [60, 61])), (Value.string (str [62, 61]))] 9)
 S83 w90/\z1y_sh x86 (2:Int) (fun r93 w92=>∃ S91:World->Prop, S91 w92/\(∀ u:World, S91 u->S83 u)/\(0 <= r93/\r93 < (2:Nat))/\∃ x95:ByteArray, (∀ w':World, S91 w'->w'.cell? ((Addr.mk w88.heap.size 0 none).add (r93.toNat * 1))=some (Value.string x95))/\let w96 := w92.alloc (Obj.cells #[(Value.string r89), (Value.string x95), (Value.int .i64 x87)] 73)
 S91 w96/\apS 3 40 [(Value.string (str [])), (Value.string (str [])), (Value.int .i64 0)] 73 x84 (Sl.mk (some (Addr.mk w92.heap.size 0 none)) 1 1) w96 fun s97 w98=>S91 w98/\wrOk w98 (t_3.add 3)/\
 (let w99 := w98.setCell (t_3.add 3) (Value.slice s97.p s97.l s97.c)
 inR .i64 (k_7 + (1:Int))/\N5 p_1 t_2 t_3 (k_7 + (1:Int)) w99)) w90)
/\(z1y_sh x86 (2:Int) (fun r101 w100=>S83 w100/\let w103 := w100.alloc (Obj.cells #[(Value.string (str [60, 61])), (Value.string (str [62, 61]))] 9)
 ∃ S102:World->Prop, S102 w103/\(∀ u:World, S102 u->S83 u)/\(0 <= r101/\r101 < (2:Nat))/\∃ x105:ByteArray, (∀ w':World, S102 w'->w'.cell? ((Addr.mk w100.heap.size 0 none).add (r101.toNat * 1))=some (Value.string x105))/\let w106 := w103.alloc (Obj.cells #[(Value.string r89), (Value.string x105), (Value.int .i64 x87)] 73)
 S102 w106/\apS 3 40 [(Value.string (str [])), (Value.string (str [])), (Value.int .i64 0)] 73 x84 (Sl.mk (some (Addr.mk w103.heap.size 0 none)) 1 1) w106 fun s107 w108=>S102 w108/\wrOk w108 (t_3.add 3)/\
 (let w109 := w108.setCell (t_3.add 3) (Value.slice s107.p s107.l s107.c)
 inR .i64 (k_7 + (1:Int))/\N5 p_1 t_2 t_3 (k_7 + (1:Int)) w109)) w88)) w82)
/\(let w110 := w82.alloc (Obj.cells #[(Value.string (str [60, 61])), (Value.string (str [62, 61]))] 9)
 S83 w110/\z1j_sh x85 (fun r112 w111=>S83 w111/\z1y_sh x86 (2:Int) (fun r115 w114=>∃ S113:World->Prop, S113 w114/\(∀ u:World, S113 u->S83 u)/\(0 <= r115/\r115 < (2:Nat))/\∃ x117:ByteArray, (∀ w':World, S113 w'->w'.cell? ((Addr.mk w82.heap.size 0 none).add (r115.toNat * 1))=some (Value.string x117))/\let w118 := w114.alloc (Obj.cells #[(Value.string r112), (Value.string x117), (Value.int .i64 x87)] 73)
 S113 w118/\apS 3 40 [(Value.string (str [])), (Value.string (str [])), (Value.int .i64 0)] 73 x84 (Sl.mk (some (Addr.mk w114.heap.size 0 none)) 1 1) w118 fun s119 w120=>S113 w120/\wrOk w120 (t_3.add 3)/\
 (let w121 := w120.setCell (t_3.add 3) (Value.slice s119.p s119.l s119.c)
 inR .i64 (k_7 + (1:Int))/\N5 p_1 t_2 t_3 (k_7 + (1:Int)) w121)) w111) w110))
 (z03_k6 p_1 t_2 t_3 K w))
 (z03_k6 p_1 t_2 t_3 K w)
def z03_l5d (p_1 t_2 t_3:Addr) (k_7:Int) (K:Pw.T4) (w:World):Prop :=
 ∃ (I:Int->World->Prop) (μ:Int->World->Nat), I k_7 w/\∀ (k_71:Int) (w1:World), I k_71 w1 ->
 z03_b5 p_1 t_2 t_3 k_71 (fun p_1' t_2' t_3' k_7' w'=>((p_1'=p_1/\t_2'=t_2/\t_3'=t_3/\True)/\I k_7' w')/\μ k_7' w' < μ k_71 w1) K w1
structure z03_l5 (p_1 t_2 t_3:Addr) (k_7:Int) (K:Pw.T4) (w:World):Prop where
 out:z03_l5d p_1 t_2 t_3 k_7 K w
def z03_k4d (p_1 t_2 t_3:Addr) (K:Pw.T4) (w:World):Prop :=
 z03_l5 p_1 t_2 t_3 (0:Int) K w
structure z03_k4 (p_1 t_2 t_3:Addr) (K:Pw.T4) (w:World):Prop where
 out:z03_k4d p_1 t_2 t_3 K w
def z03_b3 (p_1 t_2 t_3:Addr) (k_5:Int) (N3:Addr->Addr->Addr->Int->World->Prop) (K:Pw.T4) (w:World):Prop :=
 ∃ x49:Sl, w.cell? (p_1.add 1)=some (Value.slice x49.p x49.l x49.c)/\cnd (decide (k_5 < (x49.l:Int)))
 (cnd (decide (k_5 < (5:Int)))
 (∃ x50:Sl, w.cell? (p_1.add 1)=some (Value.slice x50.p x50.l x50.c)/\nz x50.p fun a51=>(0 <= k_5/\k_5 < (x50.l:Nat))/\∃ x52:Int, w.cell? (a51.add (k_5.toNat * 4))=some (Value.int .i64 x52)/\∃ x53:Int, w.cell? ((a51.add (k_5.toNat * 4)).add 1)=some (Value.int .i64 x53)/\∃ x54:Int, w.cell? ((a51.add (k_5.toNat * 4)).add 2)=some (Value.int .i64 x54)/\∃ x55:Int, w.cell? ((a51.add (k_5.toNat * 4)).add 3)=some (Value.int .i64 x55)/\let w56 := w.alloc (Obj.cells #[(Value.int .i64 0), (Value.int .i64 0), (Value.int .i64 0), (Value.int .i64 0)] 71)
 stN w56 (Addr.mk w.heap.size 0 none) [(Value.int .i64 x52), (Value.int .i64 x53), (Value.int .i64 x54), (Value.int .i64 x55)] fun w57=>let w58 := w57.drew
 ∃ S59:World->Prop, S59 w58/\∃ x60:Sl, (∀ w':World, S59 w'->w'.cell? (t_3.add 2)=some (Value.slice x60.p x60.l x60.c))/\(0 <= (0:Int)/\(0:Int) < (4:Nat))/\∃ x61:Int, (∀ w':World, S59 w'->w'.cell? ((Addr.mk w.heap.size 0 none).add ((0:Int).toNat * 1))=some (Value.int .i64 x61))/\(0 <= (1:Int)/\(1:Int) < (4:Nat))/\∃ x62:Int, (∀ w':World, S59 w'->w'.cell? ((Addr.mk w.heap.size 0 none).add ((1:Int).toNat * 1))=some (Value.int .i64 x62))/\(0 <= (2:Int)/\(2:Int) < (4:Nat))/\∃ x63:Int, (∀ w':World, S59 w'->w'.cell? ((Addr.mk w.heap.size 0 none).add ((2:Int).toNat * 1))=some (Value.int .i64 x63))/\(0 <= (3:Int)/\(3:Int) < (4:Nat))/\∃ x64:Int, (∀ w':World, S59 w'->w'.cell? ((Addr.mk w.heap.size 0 none).add ((3:Int).toNat * 1))=some (Value.int .i64 x64))/\(0 <= (3:Int)/\(3:Int) < (4:Nat))/\∃ x65:Int, (∀ w':World, S59 w'->w'.cell? ((Addr.mk w.heap.size 0 none).add ((3:Int).toNat * 1))=some (Value.int .i64 x65))/\(2:Int) ≠ 0/\z1j_sh x61 (fun r67 w66=>S59 w66/\z1y_sh x62 (3:Int) (fun r69 w68=>S59 w68/\let w70 := w68.alloc (Obj.cells #[(Value.string r67), (Value.int .i64 r69), (Value.int .i64 x63), (Value.int .i64 x64), (Value.bool ((Int.tmod x65 (2:Int)) != (0:Int)))] 64)
 S59 w70/\apS 5 48 [(Value.string (str [])), (Value.int .i64 0), (Value.int .i64 0), (Value.int .i64 0), (Value.bool false)] 64 x60 (Sl.mk (some (Addr.mk w68.heap.size 0 none)) 1 1) w70 fun s71 w72=>S59 w72/\wrOk w72 (t_3.add 2)/\
 (let w73 := w72.setCell (t_3.add 2) (Value.slice s71.p s71.l s71.c)
 inR .i64 (k_5 + (1:Int))/\N3 p_1 t_2 t_3 (k_5 + (1:Int)) w73)) w66) w58)
 (z03_k4 p_1 t_2 t_3 K w))
 (z03_k4 p_1 t_2 t_3 K w)
def z03_l3d (p_1 t_2 t_3:Addr) (k_5:Int) (K:Pw.T4) (w:World):Prop :=
 ∃ (I:Int->World->Prop) (μ:Int->World->Nat), I k_5 w/\∀ (k_51:Int) (w1:World), I k_51 w1 ->
 z03_b3 p_1 t_2 t_3 k_51 (fun p_1' t_2' t_3' k_5' w'=>((p_1'=p_1/\t_2'=t_2/\t_3'=t_3/\True)/\I k_5' w')/\μ k_5' w' < μ k_51 w1) K w1
structure z03_l3 (p_1 t_2 t_3:Addr) (k_5:Int) (K:Pw.T4) (w:World):Prop where
 out:z03_l3d p_1 t_2 t_3 k_5 K w
def z03_k2d (p_1 t_2 t_3:Addr) (K:Pw.T4) (w:World):Prop :=
 z03_l3 p_1 t_2 t_3 (0:Int) K w
structure z03_k2 (p_1 t_2 t_3:Addr) (K:Pw.T4) (w:World):Prop where
 out:z03_k2d p_1 t_2 t_3 K w
def z03_b1 (p_1 t_2 t_3:Addr) (k_4:Int) (N1:Addr->Addr->Addr->Int->World->Prop) (K:Pw.T4) (w:World):Prop :=
 ∃ x33:Sl, w.cell? p_1=some (Value.slice x33.p x33.l x33.c)/\cnd (decide (k_4 < (x33.l:Int)))
 (cnd (decide (k_4 < (5:Int)))
 (let w34 := w.drew
 ∃ S35:World->Prop, S35 w34/\∃ x36:Sl, (∀ w':World, S35 w'->w'.cell? (t_3.add 1)=some (Value.slice x36.p x36.l x36.c))/\∃ x37:Sl, (∀ w':World, S35 w'->w'.cell? p_1=some (Value.slice x37.p x37.l x37.c))/\nz x37.p fun a38=>(0 <= k_4/\k_4 < (x37.l:Nat))/\(0 <= (0:Int)/\(0:Int) < (2:Nat))/\∃ x39:Int, (∀ w':World, S35 w'->w'.cell? ((a38.add (k_4.toNat * 2)).add ((0:Int).toNat * 1))=some (Value.int .i64 x39))/\∃ x40:Sl, (∀ w':World, S35 w'->w'.cell? p_1=some (Value.slice x40.p x40.l x40.c))/\nz x40.p fun a41=>(0 <= k_4/\k_4 < (x40.l:Nat))/\(0 <= (1:Int)/\(1:Int) < (2:Nat))/\∃ x42:Int, (∀ w':World, S35 w'->w'.cell? ((a41.add (k_4.toNat * 2)).add ((1:Int).toNat * 1))=some (Value.int .i64 x42))/\z1y_sh x39 (4:Int) (fun r44 w43=>S35 w43/\let w45 := w43.alloc (Obj.cells #[(Value.int .i64 r44), (Value.int .i64 x42)] 66)
 S35 w45/\apS 2 16 [(Value.int .i64 0), (Value.int .i64 0)] 66 x36 (Sl.mk (some (Addr.mk w43.heap.size 0 none)) 1 1) w45 fun s46 w47=>S35 w47/\wrOk w47 (t_3.add 1)/\
 (let w48 := w47.setCell (t_3.add 1) (Value.slice s46.p s46.l s46.c)
 inR .i64 (k_4 + (1:Int))/\N1 p_1 t_2 t_3 (k_4 + (1:Int)) w48)) w34)
 (z03_k2 p_1 t_2 t_3 K w))
 (z03_k2 p_1 t_2 t_3 K w)
def z03_l1d (p_1 t_2 t_3:Addr) (k_4:Int) (K:Pw.T4) (w:World):Prop :=
 ∃ (I:Int->World->Prop) (μ:Int->World->Nat), I k_4 w/\∀ (k_41:Int) (w1:World), I k_41 w1 ->
 z03_b1 p_1 t_2 t_3 k_41 (fun p_1' t_2' t_3' k_4' w'=>((p_1'=p_1/\t_2'=t_2/\t_3'=t_3/\True)/\I k_4' w')/\μ k_4' w' < μ k_41 w1) K w1
structure z03_l1 (p_1 t_2 t_3:Addr) (k_4:Int) (K:Pw.T4) (w:World):Prop where
 out:z03_l1d p_1 t_2 t_3 k_4 K w
def z03_k0d (p_1 t_2 t_3:Addr) (K:Pw.T4) (w:World):Prop :=
 (0 <= (4:Int)/\(4:Int) < (10:Nat))/\∃ x27:Int, w.cell? ((p_1.add 6).add ((4:Int).toNat * 1))=some (Value.int .i64 x27)/\(0 <= (5:Int)/\(5:Int) < (10:Nat))/\∃ x28:Int, w.cell? ((p_1.add 6).add ((5:Int).toNat * 1))=some (Value.int .i64 x28)/\(0 <= (6:Int)/\(6:Int) < (10:Nat))/\∃ x29:Int, w.cell? ((p_1.add 6).add ((6:Int).toNat * 1))=some (Value.int .i64 x29)/\(0 <= (7:Int)/\(7:Int) < (10:Nat))/\∃ x30:Int, w.cell? ((p_1.add 6).add ((7:Int).toNat * 1))=some (Value.int .i64 x30)/\(0 <= (8:Int)/\(8:Int) < (10:Nat))/\∃ x31:Int, w.cell? ((p_1.add 6).add ((8:Int).toNat * 1))=some (Value.int .i64 x31)/\stN w (t_3.add 15) [(Value.int .i64 x27), (Value.int .i64 x28), (Value.int .i64 x29), (Value.int .i64 x30), (Value.int .i64 x31)] fun w32=>z03_l1 p_1 t_2 t_3 (0:Int) K w32
structure z03_k0 (p_1 t_2 t_3:Addr) (K:Pw.T4) (w:World):Prop where
 out:z03_k0d p_1 t_2 t_3 K w
def z03_sd (p_0:T29) (K:Pw.T4) (w:World):Prop :=
 let w1 := w.alloc (Obj.cells (T29.cs p_0).toArray 29)
 let w2 := w1.alloc (Obj.cells (T43.cs (T43.mk (str []) (Sl.mk none 0 0) (Sl.mk none 0 0) (Sl.mk none 0 0) (0:Int) (0:Int) (str []) (0:Int) (0:Int) (str []) (Sl.mk none 0 0) (Sl.mk none 0 0) (0:Int) (Sl.mk none 0 0) (0:Int) (0:Int) (0:Int) (0:Int) (0:Int) (0:Int))).toArray 43)
 let w3 := w2.drew
 ∃ S4:World->Prop, S4 w3/\(0 <= (9:Int)/\(9:Int) < (10:Nat))/\∃ x5:Int, (∀ w':World, S4 w'->w'.cell? ((Addr.mk w.heap.size 6 none).add ((9:Int).toNat * 1))=some (Value.int .i64 x5))/\(0 <= (0:Int)/\(0:Int) < (10:Nat))/\∃ x6:Int, (∀ w':World, S4 w'->w'.cell? ((Addr.mk w.heap.size 6 none).add ((0:Int).toNat * 1))=some (Value.int .i64 x6))/\(0 <= (1:Int)/\(1:Int) < (10:Nat))/\∃ x7:Int, (∀ w':World, S4 w'->w'.cell? ((Addr.mk w.heap.size 6 none).add ((1:Int).toNat * 1))=some (Value.int .i64 x7))/\(0 <= (2:Int)/\(2:Int) < (10:Nat))/\∃ x8:Int, (∀ w':World, S4 w'->w'.cell? ((Addr.mk w.heap.size 6 none).add ((2:Int).toNat * 1))=some (Value.int .i64 x8))/\(0 <= (3:Int)/\(3:Int) < (10:Nat))/\∃ x9:Int, (∀ w':World, S4 w'->w'.cell? ((Addr.mk w.heap.size 6 none).add ((3:Int).toNat * 1))=some (Value.int .i64 x9))/\∃ x10:Sl, (∀ w':World, S4 w'->w'.cell? (Addr.mk w.heap.size 3 none)=some (Value.slice x10.p x10.l x10.c))/\(z0l_sh x5 (fun r12 w11=>S4 w11/\(z1f_sh x10 (fun r14_0 r14_1 r14_2 r14_3 r14_4 w13=>S4 w13/\let w15 := w13.alloc (Obj.cells (T43.cs (T43.mk (str []) (Sl.mk none 0 0) (Sl.mk none 0 0) (Sl.mk none 0 0) (0:Int) (0:Int) (str []) (0:Int) (0:Int) (str []) (Sl.mk none 0 0) (Sl.mk none 0 0) (0:Int) (Sl.mk none 0 0) (0:Int) (0:Int) (0:Int) (0:Int) (0:Int) (0:Int))).toArray 43)
 S4 w15/\stN w15 (Addr.mk w13.heap.size 0 none) (T43.cs (T43.mk r12 (Sl.mk none 0 0) (Sl.mk none 0 0) (Sl.mk none 0 0) x6 x7 r14_0 r14_1 r14_2 r14_3 r14_4 (Sl.mk none 0 0) x8 (Sl.mk none 0 0) x9 (0:Int) (0:Int) (0:Int) (0:Int) (0:Int))) fun w16=>z03_k0 (Addr.mk w.heap.size 0 none) (Addr.mk w1.heap.size 0 none) (Addr.mk w13.heap.size 0 none) K w16) w11)
/\(let w17 := w11.alloc (Obj.cells (T43.cs (T43.mk (str []) (Sl.mk none 0 0) (Sl.mk none 0 0) (Sl.mk none 0 0) (0:Int) (0:Int) (str []) (0:Int) (0:Int) (str []) (Sl.mk none 0 0) (Sl.mk none 0 0) (0:Int) (Sl.mk none 0 0) (0:Int) (0:Int) (0:Int) (0:Int) (0:Int) (0:Int))).toArray 43)
 S4 w17/\z1f_sh x10 (fun r19_0 r19_1 r19_2 r19_3 r19_4 w18=>S4 w18/\stN w18 (Addr.mk w11.heap.size 0 none) (T43.cs (T43.mk r12 (Sl.mk none 0 0) (Sl.mk none 0 0) (Sl.mk none 0 0) x6 x7 r19_0 r19_1 r19_2 r19_3 r19_4 (Sl.mk none 0 0) x8 (Sl.mk none 0 0) x9 (0:Int) (0:Int) (0:Int) (0:Int) (0:Int))) fun w20=>z03_k0 (Addr.mk w.heap.size 0 none) (Addr.mk w1.heap.size 0 none) (Addr.mk w11.heap.size 0 none) K w20) w17)) w3)
/\(let w21 := w3.alloc (Obj.cells (T43.cs (T43.mk (str []) (Sl.mk none 0 0) (Sl.mk none 0 0) (Sl.mk none 0 0) (0:Int) (0:Int) (str []) (0:Int) (0:Int) (str []) (Sl.mk none 0 0) (Sl.mk none 0 0) (0:Int) (Sl.mk none 0 0) (0:Int) (0:Int) (0:Int) (0:Int) (0:Int) (0:Int))).toArray 43)
 S4 w21/\z0l_sh x5 (fun r23 w22=>S4 w22/\z1f_sh x10 (fun r25_0 r25_1 r25_2 r25_3 r25_4 w24=>S4 w24/\stN w24 (Addr.mk w3.heap.size 0 none) (T43.cs (T43.mk r23 (Sl.mk none 0 0) (Sl.mk none 0 0) (Sl.mk none 0 0) x6 x7 r25_0 r25_1 r25_2 r25_3 r25_4 (Sl.mk none 0 0) x8 (Sl.mk none 0 0) x9 (0:Int) (0:Int) (0:Int) (0:Int) (0:Int))) fun w26=>z03_k0 (Addr.mk w.heap.size 0 none) (Addr.mk w1.heap.size 0 none) (Addr.mk w3.heap.size 0 none) K w26) w22) w21)
structure z03_sh (p_0:T29) (K:Pw.T4) (w:World):Prop where
 out:z03_sd p_0 K w
def z03_L0 (Kv:VW):Cur [tQ, tQ, tQ] WP := fun p_1 t_2 t_3=>z03_k0 p_1 t_2 t_3 (T43.un (kk (.g 20 :: tS :: tL :: tL :: tL :: tI :: tI :: tS :: tI :: tI :: tS :: tL :: tL :: tI :: tL :: tI :: tI :: tI :: tI :: tI :: tI :: []) Kv))
def z03_L1 (Kv:VW):Cur [tQ, tQ, tQ, tI] WP := fun p_1 t_2 t_3 k_4=>z03_l1 p_1 t_2 t_3 k_4 (T43.un (kk (.g 20 :: tS :: tL :: tL :: tL :: tI :: tI :: tS :: tI :: tI :: tS :: tL :: tL :: tI :: tL :: tI :: tI :: tI :: tI :: tI :: tI :: []) Kv))
def z03_L2 (Kv:VW):Cur [tQ, tQ, tQ] WP := fun p_1 t_2 t_3=>z03_k2 p_1 t_2 t_3 (T43.un (kk (.g 20 :: tS :: tL :: tL :: tL :: tI :: tI :: tS :: tI :: tI :: tS :: tL :: tL :: tI :: tL :: tI :: tI :: tI :: tI :: tI :: tI :: []) Kv))
def z03_L3 (Kv:VW):Cur [tQ, tQ, tQ, tI] WP := fun p_1 t_2 t_3 k_5=>z03_l3 p_1 t_2 t_3 k_5 (T43.un (kk (.g 20 :: tS :: tL :: tL :: tL :: tI :: tI :: tS :: tI :: tI :: tS :: tL :: tL :: tI :: tL :: tI :: tI :: tI :: tI :: tI :: tI :: []) Kv))
def z03_L4 (Kv:VW):Cur [tQ, tQ, tQ] WP := fun p_1 t_2 t_3=>z03_k4 p_1 t_2 t_3 (T43.un (kk (.g 20 :: tS :: tL :: tL :: tL :: tI :: tI :: tS :: tI :: tI :: tS :: tL :: tL :: tI :: tL :: tI :: tI :: tI :: tI :: tI :: tI :: []) Kv))
def z03_L5 (Kv:VW):Cur [tQ, tQ, tQ, tI] WP := fun p_1 t_2 t_3 k_7=>z03_l5 p_1 t_2 t_3 k_7 (T43.un (kk (.g 20 :: tS :: tL :: tL :: tL :: tI :: tI :: tS :: tI :: tI :: tS :: tL :: tL :: tI :: tL :: tI :: tI :: tI :: tI :: tI :: tI :: []) Kv))
def z03_L6 (Kv:VW):Cur [tQ, tQ, tQ] WP := fun p_1 t_2 t_3=>z03_k6 p_1 t_2 t_3 (T43.un (kk (.g 20 :: tS :: tL :: tL :: tL :: tI :: tI :: tS :: tI :: tI :: tS :: tL :: tL :: tI :: tL :: tI :: tI :: tI :: tI :: tI :: tI :: []) Kv))
def z03_L7 (Kv:VW):Cur [tQ, tQ, tQ, tI] WP := fun p_1 t_2 t_3 k_9=>z03_l7 p_1 t_2 t_3 k_9 (T43.un (kk (.g 20 :: tS :: tL :: tL :: tL :: tI :: tI :: tS :: tI :: tI :: tS :: tL :: tL :: tI :: tL :: tI :: tI :: tI :: tI :: tI :: tI :: []) Kv))
def z03_L8 (Kv:VW):Cur [tQ, tQ, tQ] WP := fun p_1 t_2 t_3=>z03_k8 p_1 t_2 t_3 (T43.un (kk (.g 20 :: tS :: tL :: tL :: tL :: tI :: tI :: tS :: tI :: tI :: tS :: tL :: tL :: tI :: tL :: tI :: tI :: tI :: tI :: tI :: tI :: []) Kv))
def z03_L9 (Kv:VW):Cur [tQ, tQ, tQ, tI] WP := fun p_1 t_2 t_3 k_10=>z03_l9 p_1 t_2 t_3 k_10 (T43.un (kk (.g 20 :: tS :: tL :: tL :: tL :: tI :: tI :: tS :: tI :: tI :: tS :: tL :: tL :: tI :: tL :: tI :: tI :: tI :: tI :: tI :: tI :: []) Kv))
def z03_L10 (Kv:VW):Cur [tQ, tQ] WP := fun t_2 t_3=>z03_k10 t_2 t_3 (T43.un (kk (.g 20 :: tS :: tL :: tL :: tL :: tI :: tI :: tS :: tI :: tI :: tS :: tL :: tL :: tI :: tL :: tI :: tI :: tI :: tI :: tI :: tI :: []) Kv))
noncomputable def z03_S:Pw.Spec := fun vs w Kv=>un (.g 16 :: tL :: tL :: tL :: tL :: tL :: tL :: tI :: tI :: tI :: tI :: tI :: tI :: tI :: tI :: tI :: tI :: []) (fun p_0_0 p_0_1 p_0_2 p_0_3 p_0_4 p_0_5 p_0_6 p_0_7 p_0_8 p_0_9 p_0_10 p_0_11 p_0_12 p_0_13 p_0_14 p_0_15=>z03_sh ⟨p_0_0, p_0_1, p_0_2, p_0_3, p_0_4, p_0_5, p_0_6, p_0_7, p_0_8, p_0_9, p_0_10, p_0_11, p_0_12, p_0_13, p_0_14, p_0_15⟩ (T43.un (kk (.g 20 :: tS :: tL :: tL :: tL :: tI :: tI :: tS :: tI :: tI :: tS :: tL :: tL :: tI :: tL :: tI :: tI :: tI :: tI :: tI :: tI :: []) Kv))) nF vs w
def z03_A (Kv:VW):A := (qr 2 (qs (A.drw (dp [0, 1, 2, 4, 5, 6, 7, 8, 9, 10, 11, 12, 13, 14, 15, 16, 17] (DA.two 3 (DA.two 18 (DA.pur 19 (DA.eff 20 (DA.eff 21 DA.done))) 20 (DA.eff 18 (DA.pur 19 (DA.eff 21 DA.done)))) 20 (DA.eff 3 (DA.eff 18 (DA.pur 19 (DA.eff 21 DA.done))))))) (A.cut [1, 2, 3] (uR0 [tQ, tQ, tQ] (z03_L0 Kv)) (qr 18 (qs (qr 1 (qb (A.loop [1, 2, 3, 4] (uR0 [tQ, tQ, tQ, tI] (z03_L1 Kv)) (qs (qs (A.reg (qn 6 (RA.spl 53 (qn 3 RA.done) (qk 2 (qn 1 RA.done))))) (qc ql ql)) (qs (qb (A.drw (dp [0, 1, 2, 3, 4, 5, 6, 7, 9, 10, 11, 12, 13, 14] (DA.eff 8 (DA.pur 15 (DA.eff 16 (DA.eff 17 (DA.pur 18 (DA.eff 19 DA.done))))))))) (qe 3)))))) (A.cut [1, 2, 3] (uR0 [tQ, tQ, tQ] (z03_L2 Kv)) (qs (qr 1 (qb (A.loop [1, 2, 3, 5] (uR0 [tQ, tQ, tQ, tI] (z03_L3 Kv)) (qs (qs (A.reg (qn 6 (RA.spl 83 (qn 3 RA.done) (qk 2 (qn 1 RA.done))))) (qc ql ql)) (qs (qb (qr 7 (A.drw (dp [0, 1, 2, 3, 5, 6, 8, 9, 10, 11, 12, 13, 14, 15] (DA.eff 4 (DA.eff 7 (DA.pur 16 (DA.eff 17 (DA.eff 18 (DA.pur 19 (DA.eff 20 DA.done))))))))))) (qe 3)))))) (A.cut [1, 2, 3] (uR0 [tQ, tQ, tQ] (z03_L4 Kv)) (qs (qr 1 (qb (A.loop [1, 2, 3, 7] (uR0 [tQ, tQ, tQ, tI] (z03_L5 Kv)) (qs (qs (A.reg (qn 6 (RA.spl 119 (qn 3 RA.done) (qk 2 (qn 1 RA.done))))) (qc ql ql)) (qs (qb (qr 7 (A.drw (dp [0, 1, 2, 3, 6, 7, 11, 12] (DA.two 4 (DA.two 5 (DA.str 8 (dp [9, 10, 13] (DA.eff 14 (DA.eff 15 (DA.pur 16 (DA.eff 17 DA.done)))))) 8 (DA.str 5 (dp [9, 10, 13] (DA.eff 14 (DA.eff 15 (DA.pur 16 (DA.eff 17 DA.done))))))) 5 (DA.eff 4 (DA.str 8 (dp [9, 10, 13] (DA.eff 14 (DA.eff 15 (DA.pur 16 (DA.eff 17 DA.done)))))))))))) (qe 3)))))) (A.cut [1, 2, 3] (uR0 [tQ, tQ, tQ] (z03_L6 Kv)) (qs (qr 1 (qb (A.loop [1, 2, 3, 9] (uR0 [tQ, tQ, tQ, tI] (z03_L7 Kv)) (qs (qs (A.reg (qn 6 (RA.spl 152 (qn 3 RA.done) (qk 2 (qn 1 RA.done))))) (qc ql ql)) (qs (qb (A.drw (dp [0, 1, 2, 3, 4, 5, 6] (DA.eff 7 (DA.eff 8 (DA.eff 9 (DA.pur 10 (DA.eff 11 DA.done)))))))) (qe 3)))))) (A.cut [1, 2, 3] (uR0 [tQ, tQ, tQ] (z03_L8 Kv)) (qs (qr 1 (qb (A.loop [1, 2, 3, 10] (uR0 [tQ, tQ, tQ, tI] (z03_L9 Kv)) (qs (qs (A.reg (qn 6 (RA.spl 174 (qn 3 RA.done) (qk 2 (qn 1 RA.done))))) (qc ql ql)) (qs (qb (A.drw (dp [0, 1, 3, 4, 5, 6, 7, 8, 9, 10, 11, 12, 13, 14, 15] (DA.eff 2 (DA.eff 16 (DA.eff 17 (DA.eff 18 (DA.pur 19 (DA.eff 20 DA.done))))))))) (qe 3)))))) (A.cut [2, 3] (uR0 [tQ, tQ] (z03_L10 Kv)) (qr 2 ql)))))))))))))))
theorem z03_ok:Sound Tryz.prog 11 z03_S := okS (x := z03_A) (fun Kv p_0_0 p_0_1 p_0_2 p_0_3 p_0_4 p_0_5 p_0_6 p_0_7 p_0_8 p_0_9 p_0_10 p_0_11 p_0_12 p_0_13 p_0_14 p_0_15=>z03_sd ⟨p_0_0, p_0_1, p_0_2, p_0_3, p_0_4, p_0_5, p_0_6, p_0_7, p_0_8, p_0_9, p_0_10, p_0_11, p_0_12, p_0_13, p_0_14, p_0_15⟩ (T43.un (kk (.g 20 :: tS :: tL :: tL :: tL :: tI :: tI :: tS :: tI :: tI :: tS :: tL :: tL :: tI :: tL :: tI :: tI :: tI :: tI :: tI :: tI :: []) Kv))) progMixed (Γ := [(26, z0l_S), (27, z1f_S), (28, z1y_S), (29, z1j_S)]) ⟨.inl z0l_okr, .inl z1f_ok, .inl z1y_ok, .inl z1j_ok, trivial⟩ Tryz.call11 Tryz.func11 (fun Kv=>hStep (hCut0 (F := z03_L0 Kv) (G := fun p_1 t_2 t_3=>z03_k0d p_1 t_2 t_3 (T43.un (kk (.g 20 :: tS :: tL :: tL :: tL :: tI :: tI :: tS :: tI :: tI :: tS :: tL :: tL :: tI :: tL :: tI :: tI :: tI :: tI :: tI :: tI :: []) Kv)))) <| hStep (hLoop0 (L := z03_L1 Kv) (fun N1 p_1 t_2 t_3 k_4=>z03_b1 p_1 t_2 t_3 k_4 N1 (T43.un (kk (.g 20 :: tS :: tL :: tL :: tL :: tI :: tI :: tS :: tI :: tI :: tS :: tL :: tL :: tI :: tL :: tI :: tI :: tI :: tI :: tI :: tI :: []) Kv))) (fun ⟨a0, a1, a2, _, _⟩ _ h=>let ⟨I, μ, h0, hr⟩ := h.out; ⟨fun b0 b1 b2 b3 w=>(b0=a0/\b1=a1/\b2=a2/\True)/\I b3 w, fun _ _ _ b3 w=>μ b3 w, ⟨⟨rfl, rfl, rfl, trivial⟩, h0⟩, fun ⟨_, _, _, _, _⟩ _ ⟨⟨e0, e1, e2, _⟩, hI⟩=>by cases e0; cases e1; cases e2; exact hr _ _ hI⟩)) <| hStep (hCut0 (F := z03_L2 Kv) (G := fun p_1 t_2 t_3=>z03_k2d p_1 t_2 t_3 (T43.un (kk (.g 20 :: tS :: tL :: tL :: tL :: tI :: tI :: tS :: tI :: tI :: tS :: tL :: tL :: tI :: tL :: tI :: tI :: tI :: tI :: tI :: tI :: []) Kv)))) <| hStep (hLoop0 (L := z03_L3 Kv) (fun N3 p_1 t_2 t_3 k_5=>z03_b3 p_1 t_2 t_3 k_5 N3 (T43.un (kk (.g 20 :: tS :: tL :: tL :: tL :: tI :: tI :: tS :: tI :: tI :: tS :: tL :: tL :: tI :: tL :: tI :: tI :: tI :: tI :: tI :: tI :: []) Kv))) (fun ⟨a0, a1, a2, _, _⟩ _ h=>let ⟨I, μ, h0, hr⟩ := h.out; ⟨fun b0 b1 b2 b3 w=>(b0=a0/\b1=a1/\b2=a2/\True)/\I b3 w, fun _ _ _ b3 w=>μ b3 w, ⟨⟨rfl, rfl, rfl, trivial⟩, h0⟩, fun ⟨_, _, _, _, _⟩ _ ⟨⟨e0, e1, e2, _⟩, hI⟩=>by cases e0; cases e1; cases e2; exact hr _ _ hI⟩)) <| hStep (hCut0 (F := z03_L4 Kv) (G := fun p_1 t_2 t_3=>z03_k4d p_1 t_2 t_3 (T43.un (kk (.g 20 :: tS :: tL :: tL :: tL :: tI :: tI :: tS :: tI :: tI :: tS :: tL :: tL :: tI :: tL :: tI :: tI :: tI :: tI :: tI :: tI :: []) Kv)))) <| hStep (hLoop0 (L := z03_L5 Kv) (fun N5 p_1 t_2 t_3 k_7=>z03_b5 p_1 t_2 t_3 k_7 N5 (T43.un (kk (.g 20 :: tS :: tL :: tL :: tL :: tI :: tI :: tS :: tI :: tI :: tS :: tL :: tL :: tI :: tL :: tI :: tI :: tI :: tI :: tI :: tI :: []) Kv))) (fun ⟨a0, a1, a2, _, _⟩ _ h=>let ⟨I, μ, h0, hr⟩ := h.out; ⟨fun b0 b1 b2 b3 w=>(b0=a0/\b1=a1/\b2=a2/\True)/\I b3 w, fun _ _ _ b3 w=>μ b3 w, ⟨⟨rfl, rfl, rfl, trivial⟩, h0⟩, fun ⟨_, _, _, _, _⟩ _ ⟨⟨e0, e1, e2, _⟩, hI⟩=>by cases e0; cases e1; cases e2; exact hr _ _ hI⟩)) <| hStep (hCut0 (F := z03_L6 Kv) (G := fun p_1 t_2 t_3=>z03_k6d p_1 t_2 t_3 (T43.un (kk (.g 20 :: tS :: tL :: tL :: tL :: tI :: tI :: tS :: tI :: tI :: tS :: tL :: tL :: tI :: tL :: tI :: tI :: tI :: tI :: tI :: tI :: []) Kv)))) <| hStep (hLoop0 (L := z03_L7 Kv) (fun N7 p_1 t_2 t_3 k_9=>z03_b7 p_1 t_2 t_3 k_9 N7 (T43.un (kk (.g 20 :: tS :: tL :: tL :: tL :: tI :: tI :: tS :: tI :: tI :: tS :: tL :: tL :: tI :: tL :: tI :: tI :: tI :: tI :: tI :: tI :: []) Kv))) (fun ⟨a0, a1, a2, _, _⟩ _ h=>let ⟨I, μ, h0, hr⟩ := h.out; ⟨fun b0 b1 b2 b3 w=>(b0=a0/\b1=a1/\b2=a2/\True)/\I b3 w, fun _ _ _ b3 w=>μ b3 w, ⟨⟨rfl, rfl, rfl, trivial⟩, h0⟩, fun ⟨_, _, _, _, _⟩ _ ⟨⟨e0, e1, e2, _⟩, hI⟩=>by cases e0; cases e1; cases e2; exact hr _ _ hI⟩)) <| hStep (hCut0 (F := z03_L8 Kv) (G := fun p_1 t_2 t_3=>z03_k8d p_1 t_2 t_3 (T43.un (kk (.g 20 :: tS :: tL :: tL :: tL :: tI :: tI :: tS :: tI :: tI :: tS :: tL :: tL :: tI :: tL :: tI :: tI :: tI :: tI :: tI :: tI :: []) Kv)))) <| hStep (hLoop0 (L := z03_L9 Kv) (fun N9 p_1 t_2 t_3 k_10=>z03_b9 p_1 t_2 t_3 k_10 N9 (T43.un (kk (.g 20 :: tS :: tL :: tL :: tL :: tI :: tI :: tS :: tI :: tI :: tS :: tL :: tL :: tI :: tL :: tI :: tI :: tI :: tI :: tI :: tI :: []) Kv))) (fun ⟨a0, a1, a2, _, _⟩ _ h=>let ⟨I, μ, h0, hr⟩ := h.out; ⟨fun b0 b1 b2 b3 w=>(b0=a0/\b1=a1/\b2=a2/\True)/\I b3 w, fun _ _ _ b3 w=>μ b3 w, ⟨⟨rfl, rfl, rfl, trivial⟩, h0⟩, fun ⟨_, _, _, _, _⟩ _ ⟨⟨e0, e1, e2, _⟩, hI⟩=>by cases e0; cases e1; cases e2; exact hr _ _ hI⟩)) <| hStep (hCut0 (F := z03_L10 Kv) (G := fun t_2 t_3=>z03_k10d t_2 t_3 (T43.un (kk (.g 20 :: tS :: tL :: tL :: tL :: tI :: tI :: tS :: tI :: tI :: tS :: tL :: tL :: tI :: tL :: tI :: tI :: tI :: tI :: tI :: tI :: []) Kv)))) <| hEnd)
def z1i_k0d (t_2 t_4:Addr) (K:Pw.T4) (w:World):Prop :=
 T43.ld w t_2 fun x149=>stN w t_4 (T43.cs x149) fun w150=>T43.ld w150 t_4 fun x151=>K x151 w150
structure z1i_k0 (t_2 t_4:Addr) (K:Pw.T4) (w:World):Prop where
 out:z1i_k0d t_2 t_4 K w
def z1i_sd (t_0:T43) (q_1_0 q_1_1 q_1_2:Int) (K:Pw.T4) (w:World):Prop :=
 let w1 := w.alloc (Obj.cells (T43.cs t_0).toArray 43)
 let w2 := w1.alloc (Obj.cells #[(Value.int .i64 q_1_0), (Value.int .i64 q_1_1), (Value.int .i64 q_1_2)] 50)
 let w3 := w2.alloc (Obj.cells (T43.cs (T43.mk (str []) (Sl.mk none 0 0) (Sl.mk none 0 0) (Sl.mk none 0 0) (0:Int) (0:Int) (str []) (0:Int) (0:Int) (str []) (Sl.mk none 0 0) (Sl.mk none 0 0) (0:Int) (Sl.mk none 0 0) (0:Int) (0:Int) (0:Int) (0:Int) (0:Int) (0:Int))).toArray 43)
 (0 <= (1:Int)/\(1:Int) < (3:Nat))/\∃ x4:Int, w3.cell? ((Addr.mk w1.heap.size 0 none).add ((1:Int).toNat * 1))=some (Value.int .i64 x4)/\z1y_sh x4 (7:Int) (fun r6 w5=>let w7 := w5.alloc (Obj.cells #[] 66)
 ∃ x8:Sl, w7.cell? (Addr.mk w.heap.size 1 none)=some (Value.slice x8.p x8.l x8.c)/\apS 2 16 [(Value.int .i64 0), (Value.int .i64 0)] 66 (Sl.mk (some (Addr.mk w5.heap.size 0 none)) 0 0) x8 w7 fun s9 w10=>wrOk w10 (Addr.mk w.heap.size 1 none)/\
 (let w11 := w10.setCell (Addr.mk w.heap.size 1 none) (Value.slice s9.p s9.l s9.c)
 let w12 := w11.alloc (Obj.cells #[] 64)
 ∃ x13:Sl, w12.cell? (Addr.mk w.heap.size 2 none)=some (Value.slice x13.p x13.l x13.c)/\apS 5 48 [(Value.string (str [])), (Value.int .i64 0), (Value.int .i64 0), (Value.int .i64 0), (Value.bool false)] 64 (Sl.mk (some (Addr.mk w11.heap.size 0 none)) 0 0) x13 w12 fun s14 w15=>wrOk w15 (Addr.mk w.heap.size 2 none)/\
 (let w16 := w15.setCell (Addr.mk w.heap.size 2 none) (Value.slice s14.p s14.l s14.c)
 let w17 := w16.alloc (Obj.cells #[] 73)
 ∃ x18:Sl, w17.cell? (Addr.mk w.heap.size 3 none)=some (Value.slice x18.p x18.l x18.c)/\apS 3 40 [(Value.string (str [])), (Value.string (str [])), (Value.int .i64 0)] 73 (Sl.mk (some (Addr.mk w16.heap.size 0 none)) 0 0) x18 w17 fun s19 w20=>wrOk w20 (Addr.mk w.heap.size 3 none)/\
 (let w21 := w20.setCell (Addr.mk w.heap.size 3 none) (Value.slice s19.p s19.l s19.c)
 let w22 := w21.alloc (Obj.cells #[] 9)
 ∃ x23:Sl, w22.cell? (Addr.mk w.heap.size 11 none)=some (Value.slice x23.p x23.l x23.c)/\apS 1 16 [(Value.string (str []))] 9 (Sl.mk (some (Addr.mk w21.heap.size 0 none)) 0 0) x23 w22 fun s24 w25=>wrOk w25 (Addr.mk w.heap.size 11 none)/\
 (let w26 := w25.setCell (Addr.mk w.heap.size 11 none) (Value.slice s24.p s24.l s24.c)
 (0 <= (0:Int)/\(0:Int) < (3:Nat))/\∃ x27:Int, w26.cell? ((Addr.mk w1.heap.size 0 none).add ((0:Int).toNat * 1))=some (Value.int .i64 x27)/\z1y_sh x27 (12:Int) (fun r29 w28=>cnd (r29 == (0:Int))
 (∃ x30:Sl, w28.cell? (Addr.mk w.heap.size 1 none)=some (Value.slice x30.p x30.l x30.c)/\cnd (decide (r6 < (x30.l:Int)))
 (let w31 := w28.drew
 ∃ S32:World->Prop, S32 w31/\∃ x33:Sl, (∀ w':World, S32 w'->w'.cell? (Addr.mk w.heap.size 1 none)=some (Value.slice x33.p x33.l x33.c))/\∃ x34:Sl, (∀ w':World, S32 w'->w'.cell? (Addr.mk w.heap.size 1 none)=some (Value.slice x34.p x34.l x34.c))/\nz x34.p fun a35=>(0 <= r6/\r6 < (x34.l:Nat))/\∃ x36:Int, (∀ w':World, S32 w'->w'.cell? ((a35.add (r6.toNat * 2)).add 1)=some (Value.int .i64 x36))/\(0 <= (2:Int)/\(2:Int) < (3:Nat))/\∃ x37:Int, (∀ w':World, S32 w'->w'.cell? ((Addr.mk w1.heap.size 0 none).add ((2:Int).toNat * 1))=some (Value.int .i64 x37))/\nz x33.p fun a38=>(0 <= r6/\r6 < (x33.l:Nat))/\wrOk w31 ((a38.add (r6.toNat * 2)).add 1)/\
 (let w39 := w31.setCell ((a38.add (r6.toNat * 2)).add 1) (Value.int .i64 (IntKind.wrap .i64 (x36 + x37)))
 z1i_k0 (Addr.mk w.heap.size 0 none) (Addr.mk w2.heap.size 0 none) K w39))
 (z1i_k0 (Addr.mk w.heap.size 0 none) (Addr.mk w2.heap.size 0 none) K w28))
 (cnd (r29 == (1:Int))
 (∃ x40:Sl, w28.cell? (Addr.mk w.heap.size 2 none)=some (Value.slice x40.p x40.l x40.c)/\cnd (decide (r6 < (x40.l:Int)))
 (let w41 := w28.drew
 ∃ S42:World->Prop, S42 w41/\∃ x43:Sl, (∀ w':World, S42 w'->w'.cell? (Addr.mk w.heap.size 2 none)=some (Value.slice x43.p x43.l x43.c))/\∃ x44:Sl, (∀ w':World, S42 w'->w'.cell? (Addr.mk w.heap.size 2 none)=some (Value.slice x44.p x44.l x44.c))/\nz x44.p fun a45=>(0 <= r6/\r6 < (x44.l:Nat))/\∃ x46:Int, (∀ w':World, S42 w'->w'.cell? ((a45.add (r6.toNat * 5)).add 3)=some (Value.int .i64 x46))/\(0 <= (2:Int)/\(2:Int) < (3:Nat))/\∃ x47:Int, (∀ w':World, S42 w'->w'.cell? ((Addr.mk w1.heap.size 0 none).add ((2:Int).toNat * 1))=some (Value.int .i64 x47))/\nz x43.p fun a48=>(0 <= r6/\r6 < (x43.l:Nat))/\wrOk w41 ((a48.add (r6.toNat * 5)).add 3)/\
 (let w49 := w41.setCell ((a48.add (r6.toNat * 5)).add 3) (Value.int .i64 (IntKind.wrap .i64 (x46 + x47)))
 z1i_k0 (Addr.mk w.heap.size 0 none) (Addr.mk w2.heap.size 0 none) K w49))
 (z1i_k0 (Addr.mk w.heap.size 0 none) (Addr.mk w2.heap.size 0 none) K w28))
 (cnd (r29 == (2:Int))
 (∃ x50:Sl, w28.cell? (Addr.mk w.heap.size 3 none)=some (Value.slice x50.p x50.l x50.c)/\cnd (decide (r6 < (x50.l:Int)))
 (let w51 := w28.drew
 ∃ S52:World->Prop, S52 w51/\∃ x53:Sl, (∀ w':World, S52 w'->w'.cell? (Addr.mk w.heap.size 3 none)=some (Value.slice x53.p x53.l x53.c))/\∃ x54:Sl, (∀ w':World, S52 w'->w'.cell? (Addr.mk w.heap.size 3 none)=some (Value.slice x54.p x54.l x54.c))/\nz x54.p fun a55=>(0 <= r6/\r6 < (x54.l:Nat))/\∃ x56:Int, (∀ w':World, S52 w'->w'.cell? ((a55.add (r6.toNat * 3)).add 2)=some (Value.int .i64 x56))/\(0 <= (2:Int)/\(2:Int) < (3:Nat))/\∃ x57:Int, (∀ w':World, S52 w'->w'.cell? ((Addr.mk w1.heap.size 0 none).add ((2:Int).toNat * 1))=some (Value.int .i64 x57))/\nz x53.p fun a58=>(0 <= r6/\r6 < (x53.l:Nat))/\wrOk w51 ((a58.add (r6.toNat * 3)).add 2)/\
 (let w59 := w51.setCell ((a58.add (r6.toNat * 3)).add 2) (Value.int .i64 (IntKind.wrap .i64 (x56 + x57)))
 z1i_k0 (Addr.mk w.heap.size 0 none) (Addr.mk w2.heap.size 0 none) K w59))
 (z1i_k0 (Addr.mk w.heap.size 0 none) (Addr.mk w2.heap.size 0 none) K w28))
 (cnd (r29 == (3:Int))
 (∃ x60:Int, w28.cell? (Addr.mk w.heap.size 5 none)=some (Value.int .i64 x60)/\(0 <= (2:Int)/\(2:Int) < (3:Nat))/\∃ x61:Int, w28.cell? ((Addr.mk w1.heap.size 0 none).add ((2:Int).toNat * 1))=some (Value.int .i64 x61)/\wrOk w28 (Addr.mk w.heap.size 5 none)/\
 (let w62 := w28.setCell (Addr.mk w.heap.size 5 none) (Value.int .i64 (IntKind.wrap .i64 (x60 + x61)))
 z1i_k0 (Addr.mk w.heap.size 0 none) (Addr.mk w2.heap.size 0 none) K w62))
 (cnd (r29 == (4:Int))
 (let w63 := w28.drew
 ∃ S64:World->Prop, S64 w63/\∃ x65:ByteArray, (∀ w':World, S64 w'->w'.cell? (Addr.mk w.heap.size 6 none)=some (Value.string x65))/\∃ x66:Int, (∀ w':World, S64 w'->w'.cell? (Addr.mk w.heap.size 7 none)=some (Value.int .i64 x66))/\∃ x67:Int, (∀ w':World, S64 w'->w'.cell? (Addr.mk w.heap.size 8 none)=some (Value.int .i64 x67))/\∃ x68:ByteArray, (∀ w':World, S64 w'->w'.cell? (Addr.mk w.heap.size 9 none)=some (Value.string x68))/\∃ x69:Sl, (∀ w':World, S64 w'->w'.cell? (Addr.mk w.heap.size 10 none)=some (Value.slice x69.p x69.l x69.c))/\(0 <= (2:Int)/\(2:Int) < (3:Nat))/\∃ x70:Int, (∀ w':World, S64 w'->w'.cell? ((Addr.mk w1.heap.size 0 none).add ((2:Int).toNat * 1))=some (Value.int .i64 x70))/\z1j_sh x70 (fun r72 w71=>S64 w71/\let w73 := w71.alloc (Obj.cells #[(Value.string x65), (Value.int .i64 x66), (Value.int .i64 x67), (Value.string x68), (Value.slice x69.p x69.l x69.c), (Value.string (str [110, 97, 109, 101])), (Value.int .i64 0), (Value.int .i64 0), (Value.string r72), (Value.slice none 0 0)] 38)
 S64 w73/\stN w73 (Addr.mk w.heap.size 6 none) [(Value.string (str [43])), (Value.int .i64 0), (Value.int .i64 0), (Value.string (str [])), (Value.slice (some (Addr.mk w71.heap.size 0 none)) 2 2)] fun w74=>z1i_k0 (Addr.mk w.heap.size 0 none) (Addr.mk w2.heap.size 0 none) K w74) w63)
 (cnd (r29 == (5:Int))
 (let w75 := w28.drew
 ∃ S76:World->Prop, S76 w75/\∃ x77:Sl, (∀ w':World, S76 w'->w'.cell? (Addr.mk w.heap.size 11 none)=some (Value.slice x77.p x77.l x77.c))/\(0 <= (2:Int)/\(2:Int) < (3:Nat))/\∃ x78:Int, (∀ w':World, S76 w'->w'.cell? ((Addr.mk w1.heap.size 0 none).add ((2:Int).toNat * 1))=some (Value.int .i64 x78))/\z1j_sh x78 (fun r80 w79=>S76 w79/\let w81 := w79.alloc (Obj.cells #[(Value.string r80)] 9)
 S76 w81/\apS 1 16 [(Value.string (str []))] 9 x77 (Sl.mk (some (Addr.mk w79.heap.size 0 none)) 1 1) w81 fun s82 w83=>S76 w83/\wrOk w83 (Addr.mk w.heap.size 11 none)/\
 (let w84 := w83.setCell (Addr.mk w.heap.size 11 none) (Value.slice s82.p s82.l s82.c)
 z1i_k0 (Addr.mk w.heap.size 0 none) (Addr.mk w2.heap.size 0 none) K w84)) w75)
 (cnd (r29 == (6:Int))
 (∃ x85:Int, w28.cell? (Addr.mk w.heap.size 12 none)=some (Value.int .i64 x85)/\(0 <= (2:Int)/\(2:Int) < (3:Nat))/\∃ x86:Int, w28.cell? ((Addr.mk w1.heap.size 0 none).add ((2:Int).toNat * 1))=some (Value.int .i64 x86)/\wrOk w28 (Addr.mk w.heap.size 12 none)/\
 (let w87 := w28.setCell (Addr.mk w.heap.size 12 none) (Value.int .i64 (IntKind.wrap .i64 (x85 + x86)))
 z1i_k0 (Addr.mk w.heap.size 0 none) (Addr.mk w2.heap.size 0 none) K w87))
 (cnd (r29 == (7:Int))
 (let w88 := w28.drew
 ∃ S89:World->Prop, S89 w88/\∃ x90:Sl, (∀ w':World, S89 w'->w'.cell? (Addr.mk w.heap.size 13 none)=some (Value.slice x90.p x90.l x90.c))/\(0 <= (2:Int)/\(2:Int) < (3:Nat))/\∃ x91:Int, (∀ w':World, S89 w'->w'.cell? ((Addr.mk w1.heap.size 0 none).add ((2:Int).toNat * 1))=some (Value.int .i64 x91))/\(let w92 := w88.alloc (Obj.cells #[] 25)
 S89 w92/\(apS 1 24 [(Value.slice none 0 0)] 25 (Sl.mk (some (Addr.mk w88.heap.size 0 none)) 0 0) x90 w92 fun s93 w94=>S89 w94/\let w95 := w94.alloc (Obj.cells #[(Value.int .i64 r6), (Value.int .i64 x91)] 3)
 S89 w95/\let w96 := w95.alloc (Obj.cells #[(Value.slice (some (Addr.mk w94.heap.size 0 none)) 2 2)] 25)
 S89 w96/\apS 1 24 [(Value.slice none 0 0)] 25 s93 (Sl.mk (some (Addr.mk w95.heap.size 0 none)) 1 1) w96 fun s97 w98=>S89 w98/\wrOk w98 (Addr.mk w.heap.size 13 none)/\
 (let w99 := w98.setCell (Addr.mk w.heap.size 13 none) (Value.slice s97.p s97.l s97.c)
 z1i_k0 (Addr.mk w.heap.size 0 none) (Addr.mk w2.heap.size 0 none) K w99))
/\(let w100 := w92.alloc (Obj.cells #[(Value.int .i64 r6), (Value.int .i64 x91)] 3)
 S89 w100/\(∀ u u':World, Ext u u'->S89 u->S89 u')/\((∀ u:World, ExtL u (u.alloc (Obj.cells #[(Value.slice (some (Addr.mk w92.heap.size 0 none)) 2 2)] 25)))/\True)/\∀ w101:World, Ext w100 w101->apS 1 24 [(Value.slice none 0 0)] 25 (Sl.mk (some (Addr.mk w88.heap.size 0 none)) 0 0) x90 w101 fun s102 w103=>Ext w101 w103/\∀ w104:World, Ext w103 w104->∀ w105:World, Ext w100 w105->ninL w105.heap.size []->Ext (w105.alloc (Obj.cells #[(Value.slice (some (Addr.mk w92.heap.size 0 none)) 2 2)] 25)) w104->apS 1 24 [(Value.slice none 0 0)] 25 s102 (Sl.mk (some (Addr.mk w105.heap.size 0 none)) 1 1) w104 fun s106 w107=>S89 w107/\wrOk w107 (Addr.mk w.heap.size 13 none)/\
 (let w108 := w107.setCell (Addr.mk w.heap.size 13 none) (Value.slice s106.p s106.l s106.c)
 z1i_k0 (Addr.mk w.heap.size 0 none) (Addr.mk w2.heap.size 0 none) K w108)))
/\(let w109 := w88.alloc (Obj.cells #[(Value.int .i64 r6), (Value.int .i64 x91)] 3)
 S89 w109/\(let w110 := w109.alloc (Obj.cells #[] 25)
 S89 w110/\(∀ u u':World, Ext u u'->S89 u->S89 u')/\((∀ u:World, ExtL u (u.alloc (Obj.cells #[(Value.slice (some (Addr.mk w88.heap.size 0 none)) 2 2)] 25)))/\True)/\∀ w111:World, Ext w110 w111->apS 1 24 [(Value.slice none 0 0)] 25 (Sl.mk (some (Addr.mk w109.heap.size 0 none)) 0 0) x90 w111 fun s112 w113=>Ext w111 w113/\∀ w114:World, Ext w113 w114->∀ w115:World, Ext w110 w115->ninL w115.heap.size []->Ext (w115.alloc (Obj.cells #[(Value.slice (some (Addr.mk w88.heap.size 0 none)) 2 2)] 25)) w114->apS 1 24 [(Value.slice none 0 0)] 25 s112 (Sl.mk (some (Addr.mk w115.heap.size 0 none)) 1 1) w114 fun s116 w117=>S89 w117/\wrOk w117 (Addr.mk w.heap.size 13 none)/\
 (let w118 := w117.setCell (Addr.mk w.heap.size 13 none) (Value.slice s116.p s116.l s116.c)
 z1i_k0 (Addr.mk w.heap.size 0 none) (Addr.mk w2.heap.size 0 none) K w118))
/\(let w119 := w109.alloc (Obj.cells #[(Value.slice (some (Addr.mk w88.heap.size 0 none)) 2 2)] 25)
 S89 w119/\let w120 := w119.alloc (Obj.cells #[] 25)
 S89 w120/\apS 1 24 [(Value.slice none 0 0)] 25 (Sl.mk (some (Addr.mk w119.heap.size 0 none)) 0 0) x90 w120 fun s121 w122=>S89 w122/\apS 1 24 [(Value.slice none 0 0)] 25 s121 (Sl.mk (some (Addr.mk w109.heap.size 0 none)) 1 1) w122 fun s123 w124=>S89 w124/\wrOk w124 (Addr.mk w.heap.size 13 none)/\
 (let w125 := w124.setCell (Addr.mk w.heap.size 13 none) (Value.slice s123.p s123.l s123.c)
 z1i_k0 (Addr.mk w.heap.size 0 none) (Addr.mk w2.heap.size 0 none) K w125))))
 (cnd (r29 == (8:Int))
 (∃ x126:Int, w28.cell? (Addr.mk w.heap.size 14 none)=some (Value.int .i64 x126)/\(0 <= (2:Int)/\(2:Int) < (3:Nat))/\∃ x127:Int, w28.cell? ((Addr.mk w1.heap.size 0 none).add ((2:Int).toNat * 1))=some (Value.int .i64 x127)/\wrOk w28 (Addr.mk w.heap.size 14 none)/\
 (let w128 := w28.setCell (Addr.mk w.heap.size 14 none) (Value.int .i64 (IntKind.wrap .i64 (x126 + x127)))
 z1i_k0 (Addr.mk w.heap.size 0 none) (Addr.mk w2.heap.size 0 none) K w128))
 (cnd (r29 == (9:Int))
 (∃ x129:Int, w28.cell? (Addr.mk w.heap.size 16 none)=some (Value.int .i64 x129)/\(0 <= (2:Int)/\(2:Int) < (3:Nat))/\∃ x130:Int, w28.cell? ((Addr.mk w1.heap.size 0 none).add ((2:Int).toNat * 1))=some (Value.int .i64 x130)/\wrOk w28 (Addr.mk w.heap.size 16 none)/\
 (let w131 := w28.setCell (Addr.mk w.heap.size 16 none) (Value.int .i64 (IntKind.wrap .i64 (x129 + x130)))
 z1i_k0 (Addr.mk w.heap.size 0 none) (Addr.mk w2.heap.size 0 none) K w131))
 (cnd (r29 == (10:Int))
 (∃ x132:Sl, w28.cell? (Addr.mk w.heap.size 1 none)=some (Value.slice x132.p x132.l x132.c)/\(0 <= (2:Int)/\(2:Int) < (3:Nat))/\∃ x133:Int, w28.cell? ((Addr.mk w1.heap.size 0 none).add ((2:Int).toNat * 1))=some (Value.int .i64 x133)/\let w134 := w28.alloc (Obj.cells #[(Value.int .i64 r6), (Value.int .i64 x133)] 66)
 apS 2 16 [(Value.int .i64 0), (Value.int .i64 0)] 66 x132 (Sl.mk (some (Addr.mk w28.heap.size 0 none)) 1 1) w134 fun s135 w136=>wrOk w136 (Addr.mk w.heap.size 1 none)/\
 (let w137 := w136.setCell (Addr.mk w.heap.size 1 none) (Value.slice s135.p s135.l s135.c)
 z1i_k0 (Addr.mk w.heap.size 0 none) (Addr.mk w2.heap.size 0 none) K w137))
 (cnd (r29 == (11:Int))
 (∃ x138:Sl, w28.cell? (Addr.mk w.heap.size 2 none)=some (Value.slice x138.p x138.l x138.c)/\cnd (decide (r6 < (x138.l:Int)))
 (let w139 := w28.drew
 ∃ S140:World->Prop, S140 w139/\∃ x141:Sl, (∀ w':World, S140 w'->w'.cell? (Addr.mk w.heap.size 2 none)=some (Value.slice x141.p x141.l x141.c))/\(0 <= (0:Int)/\(0:Int) <= r6/\r6 <= (x141.c:Nat))/\∃ x142:Sl, (∀ w':World, S140 w'->w'.cell? (Addr.mk w.heap.size 2 none)=some (Value.slice x142.p x142.l x142.c))/\(0 <= (IntKind.wrap .i64 (r6 + (1:Int)))/\(IntKind.wrap .i64 (r6 + (1:Int))) <= (x142.l:Nat))/\let w143 := w139.alloc (Obj.cells #[] 64)
 S140 w143/\apS 5 48 [(Value.string (str [])), (Value.int .i64 0), (Value.int .i64 0), (Value.int .i64 0), (Value.bool false)] 64 (Sl.mk (some (Addr.mk w139.heap.size 0 none)) 0 0) (Sl.mk (subP x141.p 0 x141.c 5) (r6.toNat - 0) (x141.c - 0)) w143 fun s144 w145=>S140 w145/\apS 5 48 [(Value.string (str [])), (Value.int .i64 0), (Value.int .i64 0), (Value.int .i64 0), (Value.bool false)] 64 s144 (Sl.mk (subP x142.p (IntKind.wrap .i64 (r6 + (1:Int))).toNat x142.c 5) (x142.l - (IntKind.wrap .i64 (r6 + (1:Int))).toNat) (x142.c - (IntKind.wrap .i64 (r6 + (1:Int))).toNat)) w145 fun s146 w147=>S140 w147/\wrOk w147 (Addr.mk w.heap.size 2 none)/\
 (let w148 := w147.setCell (Addr.mk w.heap.size 2 none) (Value.slice s146.p s146.l s146.c)
 z1i_k0 (Addr.mk w.heap.size 0 none) (Addr.mk w2.heap.size 0 none) K w148))
 (z1i_k0 (Addr.mk w.heap.size 0 none) (Addr.mk w2.heap.size 0 none) K w28))
 (z1i_k0 (Addr.mk w.heap.size 0 none) (Addr.mk w2.heap.size 0 none) K w28))))))))))))) w26))))) w3
structure z1i_sh (t_0:T43) (q_1_0 q_1_1 q_1_2:Int) (K:Pw.T4) (w:World):Prop where
 out:z1i_sd t_0 q_1_0 q_1_1 q_1_2 K w
def z1i_L0 (Kv:VW):Cur [tQ, tQ] WP := fun t_2 t_4=>z1i_k0 t_2 t_4 (T43.un (kk (.g 20 :: tS :: tL :: tL :: tL :: tI :: tI :: tS :: tI :: tI :: tS :: tL :: tL :: tI :: tL :: tI :: tI :: tI :: tI :: tI :: tI :: []) Kv))
noncomputable def z1i_S:Pw.Spec := fun vs w Kv=>un (.g 20 :: tS :: tL :: tL :: tL :: tI :: tI :: tS :: tI :: tI :: tS :: tL :: tL :: tI :: tL :: tI :: tI :: tI :: tI :: tI :: tI :: .g 3 :: tI :: tI :: tI :: []) (fun t_0_0 t_0_1 t_0_2 t_0_3 t_0_4 t_0_5 t_0_6 t_0_7 t_0_8 t_0_9 t_0_10 t_0_11 t_0_12 t_0_13 t_0_14 t_0_15 t_0_16 t_0_17 t_0_18 t_0_19 q_1_0 q_1_1 q_1_2=>z1i_sh ⟨t_0_0, t_0_1, t_0_2, t_0_3, t_0_4, t_0_5, t_0_6, t_0_7, t_0_8, t_0_9, t_0_10, t_0_11, t_0_12, t_0_13, t_0_14, t_0_15, t_0_16, t_0_17, t_0_18, t_0_19⟩ q_1_0 q_1_1 q_1_2 (T43.un (kk (.g 20 :: tS :: tL :: tL :: tL :: tI :: tI :: tS :: tI :: tI :: tS :: tL :: tL :: tI :: tL :: tI :: tI :: tI :: tI :: tI :: tI :: []) Kv))) nF vs w
def z1i_A (Kv:VW):A := (qr 3 (qr 4 (qr 6 (qr 6 (qr 6 (qr 6 (qs (qr 3 (qb (qr 2 (qc (qr 5 (qc (A.drw (dp [0, 1, 2, 3, 4, 5, 6, 7, 8, 9, 10] (DA.prw 11 (dp [12, 13] (DA.eff 14 DA.done))))) ql)) (qr 2 (qc (qr 5 (qc (A.drw (dp [0, 1, 2, 3, 4, 5, 6, 7, 8, 9, 10] (DA.prw 11 (dp [12, 13] (DA.eff 14 DA.done))))) ql)) (qr 2 (qc (qr 5 (qc (A.drw (dp [0, 1, 2, 3, 4, 5, 6, 7, 8, 9, 10] (DA.prw 11 (dp [12, 13] (DA.eff 14 DA.done))))) ql)) (qr 2 (qc (A.reg (qn 4 (RA.raw (qn 2 RA.done)))) (qr 2 (qc (A.drw (dp [0, 1, 2, 3] (DA.eff 4 (DA.pur 5 (DA.eff 6 (dp [7, 8] (DA.eff 9 DA.done))))))) (qr 2 (qc (A.drw (dp [0, 1, 2, 3] (DA.eff 4 (DA.eff 5 (DA.eff 6 (DA.pur 7 (DA.eff 8 DA.done))))))) (qr 2 (qc (A.reg (qn 4 (RA.raw (qn 2 RA.done)))) (qr 2 (qc (A.drw (dp [1, 2, 4, 5, 6] (DA.two 0 (DA.two 3 (DA.eff 7 (DA.eff 8 (DA.eff 9 (DA.pur 10 (DA.eff 11 DA.done))))) 7 (DA.flo [8] [3] (DA.eff 9 (DA.pur 10 (DA.eff 11 DA.done))))) 7 (DA.two 0 (DA.flo [8] [3] (DA.eff 9 (DA.pur 10 (DA.eff 11 DA.done)))) 8 (DA.eff 0 (DA.eff 3 (DA.eff 9 (DA.pur 10 (DA.eff 11 DA.done))))))))) (qr 2 (qc (A.reg (qn 4 (RA.raw (qn 2 RA.done)))) (qr 2 (qc (A.reg (qn 5 (RA.raw (qn 3 RA.done)))) (qr 2 (qc (qe 10) (qr 2 (qc (qr 5 (qc (A.drw (dp [1, 2, 3, 4, 6, 7, 8] (DA.prw 9 (DA.pur 10 (DA.eff 0 (DA.eff 5 (DA.eff 11 (DA.pur 12 (DA.eff 13 DA.done))))))))) ql)) ql)))))))))))))))))))))))))) (A.cut [2, 4] (uR0 [tQ, tQ] (z1i_L0 Kv)) (qr 2 ql)))))))))
theorem z1i_ok:Sound Tryz.prog 17 z1i_S := okS (x := z1i_A) (fun Kv t_0_0 t_0_1 t_0_2 t_0_3 t_0_4 t_0_5 t_0_6 t_0_7 t_0_8 t_0_9 t_0_10 t_0_11 t_0_12 t_0_13 t_0_14 t_0_15 t_0_16 t_0_17 t_0_18 t_0_19 q_1_0 q_1_1 q_1_2=>z1i_sd ⟨t_0_0, t_0_1, t_0_2, t_0_3, t_0_4, t_0_5, t_0_6, t_0_7, t_0_8, t_0_9, t_0_10, t_0_11, t_0_12, t_0_13, t_0_14, t_0_15, t_0_16, t_0_17, t_0_18, t_0_19⟩ q_1_0 q_1_1 q_1_2 (T43.un (kk (.g 20 :: tS :: tL :: tL :: tL :: tI :: tI :: tS :: tI :: tI :: tS :: tL :: tL :: tI :: tL :: tI :: tI :: tI :: tI :: tI :: tI :: []) Kv))) progMixed (Γ := [(28, z1y_S), (29, z1j_S)]) ⟨.inl z1y_ok, .inl z1j_ok, trivial⟩ Tryz.call17 Tryz.func17 (fun Kv=>hStep (hCut0 (F := z1i_L0 Kv) (G := fun t_2 t_4=>z1i_k0d t_2 t_4 (T43.un (kk (.g 20 :: tS :: tL :: tL :: tL :: tI :: tI :: tS :: tI :: tI :: tS :: tL :: tL :: tI :: tL :: tI :: tI :: tI :: tI :: tI :: tI :: []) Kv)))) <| hEnd)
end Go.Proofs.YtfkmpbpkahcogaaGreatDoor
