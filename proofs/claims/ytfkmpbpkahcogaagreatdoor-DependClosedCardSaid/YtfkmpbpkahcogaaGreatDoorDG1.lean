/- The bodies' formulas, by program. -/
import Derived.Test.YtfkmpbpkahcogaaGreatDoorProg
import Derived.KernelRfl
import Derived.Test.YtfkmpbpkahcogaaGreatDoorPwY
import Derived.Test.YtfkmpbpkahcogaaGreatDoorDT
import Derived.Test.YtfkmpbpkahcogaaGreatDoorCG0
import Derived.Test.YtfkmpbpkahcogaaGreatDoorCG1
import Derived.Test.YtfkmpbpkahcogaaGreatDoorDG0
set_option maxRecDepth 20000
namespace Go.Proofs.YtfkmpbpkahcogaaGreatDoor
open Go Pw
def z30_sd (c_0:Int) (K:Pw.T1) (w:World):Prop :=
 cnd (decide ((97:Int) <= c_0))
 (cnd (decide (c_0 <= (122:Int)))
 (K true w)
 (cnd (decide ((65:Int) <= c_0))
 (K (decide (c_0 <= (90:Int))) w)
 (K false w)))
 (cnd (decide ((65:Int) <= c_0))
 (K (decide (c_0 <= (90:Int))) w)
 (K false w))
structure z30_sh (c_0:Int) (K:Pw.T1) (w:World):Prop where
 out:z30_sd c_0 K w
noncomputable def z30_S:Pw.Spec := fun vs w Kv=>un [.f (.i .u8)] (fun c_0=>z30_sh c_0 (kk [tB] Kv)) nF vs w
def z30_A (_:VW):A := (qr 1 (qs (A.reg (qn 3 (RA.spl 5 (qn 4 (RA.spl 9 (qk 6 (qn 2 RA.done)) (qn 3 (RA.spl 12 (qn 5 RA.done) (qk 2 (qn 3 RA.done)))))) (qk 2 (qn 5 (RA.spl 12 (qn 5 RA.done) (qk 2 (qn 3 RA.done)))))))) ql))
theorem z30_ok:Sound Tryz.prog 148 z30_S := okS (x := z30_A) (fun Kv c_0=>z30_sd c_0 (kk [tB] Kv)) progMixed (Γ := []) trivial Tryz.call148 Tryz.func148 (fun _=>hEnd)
def z3a_b0 (s_0:ByteArray) (at_1:Int) (has_2:Value) (N0:ByteArray->Int->Value->World->Prop) (K:Pw.T2) (w:World):Prop :=
 cnd (decide (at_1 < (s_0.size:Int)))
 ((0 <= at_1/\at_1 < (s_0.size:Nat))/\CallV Tryz.prog has_2 [(Value.int .u8 ((s_0.data.toList.getD at_1.toNat 0).toNat:Int))] w fun u1 w2=>∃ x3:Bool, u1=(Value.bool x3)/\cnd x3
 (inR .i64 (at_1 + (1:Int))/\N0 s_0 (at_1 + (1:Int)) has_2 w2)
 (K at_1 w2))
 (K at_1 w)
def z3a_l0d (s_0:ByteArray) (at_1:Int) (has_2:Value) (K:Pw.T2) (w:World):Prop :=
 ∃ (I:Int->World->Prop) (μ:Int->World->Nat), I at_1 w/\∀ (at_11:Int) (w1:World), I at_11 w1 ->
 z3a_b0 s_0 at_11 has_2 (fun s_0' at_1' has_2' w'=>((s_0'=s_0/\has_2'=has_2/\True)/\I at_1' w')/\μ at_1' w' < μ at_11 w1) K w1
structure z3a_l0 (s_0:ByteArray) (at_1:Int) (has_2:Value) (K:Pw.T2) (w:World):Prop where
 out:z3a_l0d s_0 at_1 has_2 K w
def z3a_sd (s_0:ByteArray) (at_1:Int) (has_2:Value) (K:Pw.T2) (w:World):Prop :=
 z3a_l0 s_0 at_1 has_2 K w
structure z3a_sh (s_0:ByteArray) (at_1:Int) (has_2:Value) (K:Pw.T2) (w:World):Prop where
 out:z3a_sd s_0 at_1 has_2 K w
def z3a_L0 (Kv:VW):Cur [tS, tI, tV] WP := fun s_0 at_1 has_2=>z3a_l0 s_0 at_1 has_2 (kk [tI] Kv)
noncomputable def z3a_S:Pw.Spec := fun vs w Kv=>un [tS, tI, tV] (fun s_0 at_1 has_2=>z3a_sh s_0 at_1 has_2 (kk [tI] Kv)) nF vs w
def z3a_A (Kv:VW):A := (qr 1 (qs (qb (A.loop [0, 1, 2] (uR0 [tS, tI, tV] (z3a_L0 Kv)) (qs (qs (A.reg (qn 5 (RA.spl 11 (qn 4 (RA.dyn (Value.bool false) (qn 1 RA.done))) (qk 5 (qn 1 RA.done))))) (qc ql ql)) (qb (qe 3))))) (qr 2 ql)))
theorem z3a_ok:Sound Tryz.prog 149 z3a_S := okS (x := z3a_A) (fun Kv s_0 at_1 has_2=>z3a_sd s_0 at_1 has_2 (kk [tI] Kv)) progMixed (Γ := []) trivial Tryz.call149 Tryz.func149 (fun Kv=>hStep (hLoop0 (L := z3a_L0 Kv) (fun N0 s_0 at_1 has_2=>z3a_b0 s_0 at_1 has_2 N0 (kk [tI] Kv)) (fun ⟨a0, _, a2, _⟩ _ h=>let ⟨I, μ, h0, hr⟩ := h.out; ⟨fun b0 b1 b2 w=>(b0=a0/\b2=a2/\True)/\I b1 w, fun _ b1 _ w=>μ b1 w, ⟨⟨rfl, rfl, trivial⟩, h0⟩, fun ⟨_, _, _, _⟩ _ ⟨⟨e0, e2, _⟩, hI⟩=>by cases e0; cases e2; exact hr _ _ hI⟩)) <| hEnd)
def z36_sd (c_0:Int) (K:Pw.T1) (w:World):Prop :=
 cnd (decide ((48:Int) <= c_0))
 (K (decide (c_0 <= (57:Int))) w)
 (K false w)
structure z36_sh (c_0:Int) (K:Pw.T1) (w:World):Prop where
 out:z36_sd c_0 K w
noncomputable def z36_S:Pw.Spec := fun vs w Kv=>un [.f (.i .u8)] (fun c_0=>z36_sh c_0 (kk [tB] Kv)) nF vs w
def z36_A (_:VW):A := (qr 1 (qs (A.reg (qn 3 (RA.spl 5 (qn 4 RA.done) (qk 2 (qn 2 RA.done))))) ql))
theorem z36_ok:Sound Tryz.prog 153 z36_S := okS (x := z36_A) (fun Kv c_0=>z36_sd c_0 (kk [tB] Kv)) progMixed (Γ := []) trivial Tryz.call153 Tryz.func153 (fun _=>hEnd)
def z2y_sd (c_0:Int) (K:Pw.T1) (w:World):Prop :=
 z30_sh c_0 (fun r2 w1=>cnd r2
 (K true w1)
 (z36_sh c_0 (fun r4 w3=>cnd r4
 (K true w3)
 (K (c_0 == (95:Int)) w3)) w1)) w
structure z2y_sh (c_0:Int) (K:Pw.T1) (w:World):Prop where
 out:z2y_sd c_0 K w
noncomputable def z2y_S:Pw.Spec := fun vs w Kv=>un [.f (.i .u8)] (fun c_0=>z2y_sh c_0 (kk [tB] Kv)) nF vs w
def z2y_A (_:VW):A := (qr 1 (qs (A.reg (qn 3 (RA.spl 5 (qk 2 (qn 2 (qk 2 (qn 2 RA.done)))) (qn 4 (RA.spl 9 (qk 2 (qn 2 RA.done)) (qn 4 RA.done)))))) ql))
theorem z2y_ok:Sound Tryz.prog 150 z2y_S := okS (x := z2y_A) (fun Kv c_0=>z2y_sd c_0 (kk [tB] Kv)) progMixed (Γ := [(148, z30_S), (153, z36_S)]) ⟨.inl z30_ok, .inl z36_ok, trivial⟩ Tryz.call150 Tryz.func150 (fun _=>hEnd)
def z2z_sd (s_0:ByteArray) (K:Pw.T1) (w:World):Prop :=
 cnd (!decide (s_0=(str [])))
 (cnd (decide ((s_0.size:Int) <= (30:Int)))
 ((0 <= (0:Int)/\(0:Int) < (s_0.size:Nat))/\z30_sh ((s_0.data.toList.getD (0:Int).toNat 0).toNat:Int) (fun r2 w1=>cnd r2
 (z3a_sh s_0 (0:Int) (Value.func (.func 150) #[] #[]) (fun r4 w3=>K (r4 == (s_0.size:Int)) w3) w1)
 (K false w1)) w)
 (K false w))
 (K false w)
structure z2z_sh (s_0:ByteArray) (K:Pw.T1) (w:World):Prop where
 out:z2z_sd s_0 K w
noncomputable def z2z_S:Pw.Spec := fun vs w Kv=>un [tS] (fun s_0=>z2z_sh s_0 (kk [tB] Kv)) nF vs w
def z2z_A (_:VW):A := (qr 1 (qs (A.reg (qn 3 (RA.spl 5 (qn 5 (RA.spl 10 (qn 5 (RA.spl 15 (qn 7 RA.done) (qk 5 (qn 2 RA.done)))) (qk 3 (qn 2 (qk 5 (qn 2 RA.done)))))) (qk 3 (qn 2 (qk 3 (qn 2 (qk 5 (qn 2 RA.done))))))))) ql))
theorem z2z_ok:Sound Tryz.prog 139 z2z_S := okS (x := z2z_A) (fun Kv s_0=>z2z_sd s_0 (kk [tB] Kv)) progMixed (Γ := [(148, z30_S), (149, z3a_S)]) ⟨.inl z30_ok, .inl z3a_ok, trivial⟩ Tryz.call139 Tryz.func139 (fun _=>hEnd)
structure z1r_sh (e_0_0:ByteArray) (e_0_1 e_0_2:Int) (e_0_3:ByteArray) (e_0_4:Sl) (deep_1:Int) (parts_2:Option Addr) (K:Pw.T1) (w:World):Prop where
 out:Calls Tryz.prog 128 #[(Value.agg #[(Value.string e_0_0), (Value.int .i64 e_0_1), (Value.int .i64 e_0_2), (Value.string e_0_3), (Value.slice e_0_4.p e_0_4.l e_0_4.c)]), (Value.int .i64 deep_1), (Value.pointer parts_2)] w fun e w'=>∃ r0:Bool, e=.returned (Value.bool r0)/\K r0 w'
noncomputable def z1r_S:Pw.Spec := fun vs w Kv =>
 match vs with
 | [.agg ⟨[.string e_0_0, .int .i64 e_0_1, .int .i64 e_0_2, .string e_0_3, .slice e_0_4p e_0_4l e_0_4c]⟩, .int .i64 deep_1, .pointer parts_2]=>z1r_sh e_0_0 e_0_1 e_0_2 e_0_3 ⟨e_0_4p, e_0_4l, e_0_4c⟩ deep_1 parts_2 (fun r0 w'=>Kv (Value.bool r0) w') w
 | _=>False
theorem z1r_okr:Sound Tryz.prog 128 z1r_S := ⟨Tryz.call128, fun vs w Kv h=>by
  unfold z1r_S at h
  split at h
  · exact h.out.mono fun e w' he=>by
      obtain ⟨_, he, hk⟩ := he
      exact ⟨_, he, hk⟩
  · exact h.elim⟩
def z1r_k0d (deep_1:Int) (parts_2:Option Addr) (e_3:Addr) (K:Pw.T1) (w:World):Prop :=
 ∃ x27:Sl, w.cell? (e_3.add 4)=some (Value.slice x27.p x27.l x27.c)/\cnd ((x27.l:Int) == (2:Int))
 (∃ x28:Int, w.cell? (e_3.add 1)=some (Value.int .i64 x28)/\∃ x29:Int, w.cell? (e_3.add 2)=some (Value.int .i64 x29)/\cnd (x28 == (0:Int) && (x29 == (0:Int) && true))
 (∃ x30:ByteArray, w.cell? (e_3.add 3)=some (Value.string x30)/\cnd (decide (x30=(str [])))
 (∃ x31:Sl, w.cell? (e_3.add 4)=some (Value.slice x31.p x31.l x31.c)/\nz x31.p fun a32=>(0 <= (0:Int)/\(0:Int) < (x31.l:Nat))/\∃ x33:ByteArray, w.cell? (a32.add ((0:Int).toNat * 5))=some (Value.string x33)/\∃ x34:Int, w.cell? ((a32.add ((0:Int).toNat * 5)).add 1)=some (Value.int .i64 x34)/\∃ x35:Int, w.cell? ((a32.add ((0:Int).toNat * 5)).add 2)=some (Value.int .i64 x35)/\∃ x36:ByteArray, w.cell? ((a32.add ((0:Int).toNat * 5)).add 3)=some (Value.string x36)/\∃ x37:Sl, w.cell? ((a32.add ((0:Int).toNat * 5)).add 4)=some (Value.slice x37.p x37.l x37.c)/\inR .i64 (deep_1 - (1:Int))/\z1r_sh x33 x34 x35 x36 x37 (deep_1 - (1:Int)) parts_2 (fun r39 w38=>cnd r39
 (∃ x40:Sl, w38.cell? (e_3.add 4)=some (Value.slice x40.p x40.l x40.c)/\nz x40.p fun a41=>(0 <= (1:Int)/\(1:Int) < (x40.l:Nat))/\∃ x42:ByteArray, w38.cell? (a41.add ((1:Int).toNat * 5))=some (Value.string x42)/\∃ x43:Int, w38.cell? ((a41.add ((1:Int).toNat * 5)).add 1)=some (Value.int .i64 x43)/\∃ x44:Int, w38.cell? ((a41.add ((1:Int).toNat * 5)).add 2)=some (Value.int .i64 x44)/\∃ x45:ByteArray, w38.cell? ((a41.add ((1:Int).toNat * 5)).add 3)=some (Value.string x45)/\∃ x46:Sl, w38.cell? ((a41.add ((1:Int).toNat * 5)).add 4)=some (Value.slice x46.p x46.l x46.c)/\inR .i64 (deep_1 - (1:Int))/\z1r_sh x42 x43 x44 x45 x46 (deep_1 - (1:Int)) parts_2 (fun r48 w47=>K r48 w47) w38)
 (K false w38)) w)
 (K false w))
 (K false w))
 (K false w)
structure z1r_k0 (deep_1:Int) (parts_2:Option Addr) (e_3:Addr) (K:Pw.T1) (w:World):Prop where
 out:z1r_k0d deep_1 parts_2 e_3 K w
def z1r_sd (e_0_0:ByteArray) (e_0_1 e_0_2:Int) (e_0_3:ByteArray) (e_0_4:Sl) (deep_1:Int) (parts_2:Option Addr) (K:Pw.T1) (w:World):Prop :=
 let w1 := w.alloc (Obj.cells #[(Value.string e_0_0), (Value.int .i64 e_0_1), (Value.int .i64 e_0_2), (Value.string e_0_3), (Value.slice e_0_4.p e_0_4.l e_0_4.c)] 38)
 nz parts_2 fun a2=>∃ x3:Int, w1.cell? a2=some (Value.int .i64 x3)/\inR .i64 (x3 + (1:Int))/\nz parts_2 fun a4=>wrOk w1 a4/\
 (let w5 := w1.setCell a4 (Value.int .i64 (x3 + (1:Int)))
 cnd (deep_1 == (0:Int))
 (K false w5)
 (nz parts_2 fun a6=>∃ x7:Int, w5.cell? a6=some (Value.int .i64 x7)/\cnd (decide (x7 > (60:Int)))
 (K false w5)
 (∃ x8:ByteArray, w5.cell? (Addr.mk w.heap.size 0 none)=some (Value.string x8)/\cnd (decide (x8=(str [110, 117, 109])))
 (∃ x9:Int, w5.cell? (Addr.mk w.heap.size 1 none)=some (Value.int .i64 x9)/\∃ x10:Int, w5.cell? (Addr.mk w.heap.size 2 none)=some (Value.int .i64 x10)/\z2x_sh x9 x10 (fun r12 w11=>cnd r12
 (∃ x13:Int, w11.cell? (Addr.mk w.heap.size 1 none)=some (Value.int .i64 x13)/\cnd (decide (x13 >= (0:Int)))
 (∃ x14:Int, w11.cell? (Addr.mk w.heap.size 2 none)=some (Value.int .i64 x14)/\x14 ≠ 0/\cnd ((Int.tmod (1000000:Int) x14) == (0:Int))
 (∃ x15:Int, w11.cell? (Addr.mk w.heap.size 1 none)=some (Value.int .i64 x15)/\∃ x16:Int, w11.cell? (Addr.mk w.heap.size 2 none)=some (Value.int .i64 x16)/\inR .i64 ((1000000000:Int) * x16)/\cnd (decide (x15 <= ((1000000000:Int) * x16)))
 (∃ x17:ByteArray, w11.cell? (Addr.mk w.heap.size 3 none)=some (Value.string x17)/\cnd (decide (x17=(str [])))
 (∃ x18:Sl, w11.cell? (Addr.mk w.heap.size 4 none)=some (Value.slice x18.p x18.l x18.c)/\K ((x18.l:Int) == (0:Int)) w11)
 (K false w11))
 (K false w11))
 (K false w11))
 (K false w11))
 (K false w11)) w5)
 (cnd (decide (x8=(str [110, 97, 109, 101])))
 (∃ x19:ByteArray, w5.cell? (Addr.mk w.heap.size 3 none)=some (Value.string x19)/\z2z_sh x19 (fun r21 w20=>cnd r21
 (∃ x22:ByteArray, w20.cell? (Addr.mk w.heap.size 3 none)=some (Value.string x22)/\cnd (!decide (x22=(str [109, 105, 110])))
 (∃ x23:ByteArray, w20.cell? (Addr.mk w.heap.size 3 none)=some (Value.string x23)/\cnd (!decide (x23=(str [109, 97, 120])))
 (∃ x24:Int, w20.cell? (Addr.mk w.heap.size 1 none)=some (Value.int .i64 x24)/\∃ x25:Int, w20.cell? (Addr.mk w.heap.size 2 none)=some (Value.int .i64 x25)/\cnd (x24 == (0:Int) && (x25 == (0:Int) && true))
 (∃ x26:Sl, w20.cell? (Addr.mk w.heap.size 4 none)=some (Value.slice x26.p x26.l x26.c)/\K ((x26.l:Int) == (0:Int)) w20)
 (K false w20))
 (K false w20))
 (K false w20))
 (K false w20)) w5)
 (cnd (decide (x8=(str [43])))
 (cnd (decide (x8=(str [43])))
 (z1r_k0 deep_1 parts_2 (Addr.mk w.heap.size 0 none) K w5)
 (K false w5))
 (cnd (decide (x8=(str [45])))
 (cnd (decide (x8=(str [45])))
 (z1r_k0 deep_1 parts_2 (Addr.mk w.heap.size 0 none) K w5)
 (K false w5))
 (cnd (decide (x8=(str [42])))
 (cnd (decide (x8=(str [42])))
 (z1r_k0 deep_1 parts_2 (Addr.mk w.heap.size 0 none) K w5)
 (K false w5))
 (cnd (decide (x8=(str [47])))
 (cnd (decide (x8=(str [47])))
 (z1r_k0 deep_1 parts_2 (Addr.mk w.heap.size 0 none) K w5)
 (K false w5))
 (cnd (decide (x8=(str [109, 105, 110])))
 (cnd (decide (x8=(str [109, 105, 110])))
 (z1r_k0 deep_1 parts_2 (Addr.mk w.heap.size 0 none) K w5)
 (K false w5))
 (cnd (decide (x8=(str [109, 97, 120])))
 (z1r_k0 deep_1 parts_2 (Addr.mk w.heap.size 0 none) K w5)
 (K false w5)))))))))))
def z1r_P0 (Kv:VW) (ρ:Rho) (vs:List Value) (w:World):Prop :=
 match ρ, vs with
 | _, [.int .i64 deep_1, .pointer parts_2, .pointer (some e_3)]=>z1r_k0 deep_1 parts_2 e_3 (fun r0 w'=>Kv (Value.bool r0) w') w
 | _, _=>False
noncomputable def z1r_E:Pw.Env := [(128, z1r_S), (138, z2x_S), (139, z2z_S)]
noncomputable def z1r_C:Code := (Tryz.f128.body).getD .skip
noncomputable def z1r_A (Kv:VW):Pw.A :=
 (qr 2 (qr 6 (qs (qs (A.reg (qn 3 (RA.spl 14 (qk 4 (qn 1 RA.done)) (qn 5 RA.done)))) (qc (qr 1 ql) ql)) (qs (qr 2 (qb (qr 2 (qc (qs (A.reg (qn 4 (RA.spl 27 (qn 6 (RA.spl 33 (qn 7 (RA.spl 40 (qn 10 (RA.spl 50 (qn 5 (RA.spl 55 (qn 6 RA.done) (qk 4 (qn 2 RA.done)))) (qk 3 (qn 2 (qk 4 (qn 2 RA.done)))))) (qk 8 (qn 2 (qk 3 (qn 2 (qk 4 (qn 2 RA.done)))))))) (qk 5 (qn 2 (qk 8 (qn 2 (qk 3 (qn 2 (qk 4 (qn 2 RA.done)))))))))) (qk 4 (qn 2 (qk 5 (qn 2 (qk 8 (qn 2 (qk 3 (qn 2 (qk 4 (qn 2 RA.done))))))))))))) ql) (qr 2 (qc (qs (A.reg (qn 4 (RA.spl 66 (qn 5 (RA.spl 71 (qn 5 (RA.spl 76 (qn 6 (RA.spl 82 (qn 6 RA.done) (qk 4 (qn 2 RA.done)))) (qk 4 (qn 2 (qk 4 (qn 2 RA.done)))))) (qk 3 (qn 2 (qk 4 (qn 2 (qk 4 (qn 2 RA.done)))))))) (qk 3 (qn 2 (qk 3 (qn 2 (qk 4 (qn 2 (qk 4 (qn 2 RA.done))))))))))) ql) (qs (qr 2 (qc ql (qr 2 (qc ql (qr 2 (qc ql (qr 2 (qc ql (qr 2 (qc ql (qe 2))))))))))) (qc (A.cut [1, 2, 3] (z1r_P0 Kv) (qs (A.reg (qn 5 (RA.spl 99 (qn 6 (RA.spl 105 (qn 5 (RA.spl 110 (qn 10 (RA.spl 120 (qn 10 RA.done) (qk 8 (qn 2 RA.done)))) (qk 8 (qn 2 (qk 8 (qn 2 RA.done)))))) (qk 3 (qn 2 (qk 8 (qn 2 (qk 8 (qn 2 RA.done)))))))) (qk 4 (qn 2 (qk 3 (qn 2 (qk 8 (qn 2 (qk 8 (qn 2 RA.done))))))))))) ql)) ql)))))))) (qr 1 ql)))))
noncomputable def z1r_O (Kv:VW):List Ob := (obs Tryz.prog z1r_E 130 (z1r_A Kv) z1r_C (fun _=>retQ Tryz.prog Tryz.f128.results Kv))
theorem z1r_e (Kv:VW) (e_0_0:ByteArray) (e_0_1 e_0_2:Int) (e_0_3:ByteArray) (e_0_4p:Option Addr) (e_0_4l e_0_4c:Nat) (deep_1:Int) (parts_2:Option Addr) (w:World):z1r_sd e_0_0 e_0_1 e_0_2 e_0_3 ⟨e_0_4p, e_0_4l, e_0_4c⟩ deep_1 parts_2 (fun r0 w'=>Kv (Value.bool r0) w') w=W Tryz.prog z1r_E 130 (z1r_A Kv) z1r_C [] (retQ Tryz.prog Tryz.f128.results Kv) [] (startS [(Value.agg #[(Value.string e_0_0), (Value.int .i64 e_0_1), (Value.int .i64 e_0_2), (Value.string e_0_3), (Value.slice e_0_4p e_0_4l e_0_4c)]), (Value.int .i64 deep_1), (Value.pointer parts_2)]) w := by kernel_rfl
theorem z1r_e0 (Kv:VW) (ρ:Rho) (deep_1:Int) (parts_2:Option Addr) (e_3:Addr) (w:World):z1r_k0d deep_1 parts_2 e_3 (fun r0 w'=>Kv (Value.bool r0) w') w=goalAt Tryz.prog z1r_E 130 (z1r_O Kv) 0 (ρ) [(Value.int .i64 deep_1), (Value.pointer parts_2), (Value.pointer (some e_3))] w := by kernel_rfl
theorem z1r_q0 (Kv:VW) (ρ:Rho) (vs:List Value) (w:World):labAt (z1r_O Kv) 0 ρ vs w=z1r_P0 Kv ρ vs w := by kernel_rfl
theorem z1r_h0 (Kv:VW):holdsAt Tryz.prog z1r_E 130 (z1r_O Kv) 0 := holdsAt_cut (.inl (by kernel_rfl)) (fun ρ vs w h=>by
  rw [z1r_q0] at h
  unfold z1r_P0 at h
  split at h
  · rw [← z1r_e0]; exact h.out
  · exact h.elim)
theorem z1r_n (Kv:VW):obAt (z1r_O Kv) 1=none := by kernel_rfl
theorem z1r_h (Kv:VW):∀ k, holdsAt Tryz.prog z1r_E 130 (z1r_O Kv) k := fun k=>match k with
  | 0=>z1r_h0 Kv
  | k + 1=>holdsAt_ge (z1r_n Kv) (Nat.le_add_left _ _)
theorem z1r_mk (e_0_0:ByteArray) (e_0_1 e_0_2:Int) (e_0_3:ByteArray) (e_0_4p:Option Addr) (e_0_4l e_0_4c:Nat) (deep_1:Int) (parts_2:Option Addr) {K:Bool->World->Prop} {w:World} (h:z1r_sd e_0_0 e_0_1 e_0_2 e_0_3 ⟨e_0_4p, e_0_4l, e_0_4c⟩ deep_1 parts_2 K w):z1r_sh e_0_0 e_0_1 e_0_2 e_0_3 ⟨e_0_4p, e_0_4l, e_0_4c⟩ deep_1 parts_2 K w := by
  have e:(fun r0 w'=>(fun v w'=>∃ r0:Bool, v=(Value.bool r0)/\K r0 w') (Value.bool r0) w')=K := by
    funext r0 w'
    apply propext
    constructor
    · rintro ⟨r0', hv, hk⟩
      cases hv
      exact hk
    · intro hk
      exact ⟨_, rfl, hk⟩
  have h':z1r_sd e_0_0 e_0_1 e_0_2 e_0_3 ⟨e_0_4p, e_0_4l, e_0_4c⟩ deep_1 parts_2 (fun r0 w'=>(fun v w'=>∃ r0:Bool, v=(Value.bool r0)/\K r0 w') (Value.bool r0) w') w := by rw [e]; exact h
  rw [z1r_e (fun v w'=>∃ r0:Bool, v=(Value.bool r0)/\K r0 w')] at h'
  refine ⟨(calls_sound (Γ := z1r_E) progMixed ⟨.inl z1r_okr, .inl z2x_ok, .inl z2z_ok, trivial⟩ Tryz.func128 (code := z1r_C) (by kernel_rfl) (z1r_A (fun v w'=>∃ r0:Bool, v=(Value.bool r0)/\K r0 w')) (fun v w'=>∃ r0:Bool, v=(Value.bool r0)/\K r0 w') (holds_all (z1r_h (fun v w'=>∃ r0:Bool, v=(Value.bool r0)/\K r0 w'))) (Nat.le_of_ble_eq_true (by kernel_rfl)) h').mono fun e w' he=>?_⟩
  obtain ⟨v, rfl, _, rfl, hk⟩ := he
  exact ⟨_, rfl, hk⟩
def z37_k0d (t_3:ByteArray) (K:Pw.T2) (w:World):Prop :=
 cnd (decide (t_3=(str [42])))
 (cnd (decide (t_3=(str [42])))
 (K (1:Int) w)
 (K (2:Int) w))
 (cnd (decide (t_3=(str [47])))
 (K (1:Int) w)
 (K (2:Int) w))
structure z37_k0 (t_3:ByteArray) (K:Pw.T2) (w:World):Prop where
 out:z37_k0d t_3 K w
def z37_sd (op_0:ByteArray) (K:Pw.T2) (w:World):Prop :=
 cnd (decide (op_0=(str [43])))
 (cnd (decide (op_0=(str [43])))
 (K (0:Int) w)
 (z37_k0 op_0 K w))
 (cnd (decide (op_0=(str [45])))
 (K (0:Int) w)
 (z37_k0 op_0 K w))
structure z37_sh (op_0:ByteArray) (K:Pw.T2) (w:World):Prop where
 out:z37_sd op_0 K w
def z37_L0 (Kv:VW):Cur [tS] WP := fun t_3=>z37_k0 t_3 (kk [tI] Kv)
noncomputable def z37_S:Pw.Spec := fun vs w Kv=>un [tS] (fun op_0=>z37_sh op_0 (kk [tI] Kv)) nF vs w
def z37_A (Kv:VW):A := (qr 1 (qs (qr 1 (qb (qs (qr 2 (qc ql (qe 2))) (qc (qr 1 ql) (A.cut [3] (uR0 [tS] (z37_L0 Kv)) (qs (qr 2 (qc ql (qe 2))) (qc (qr 1 ql) ql))))))) (qr 1 ql)))
theorem z37_ok:Sound Tryz.prog 140 z37_S := okS (x := z37_A) (fun Kv op_0=>z37_sd op_0 (kk [tI] Kv)) progMixed (Γ := []) trivial Tryz.call140 Tryz.func140 (fun Kv=>hStep (hCut0 (F := z37_L0 Kv) (G := fun t_3=>z37_k0d t_3 (kk [tI] Kv))) <| hEnd)
def z2r_sd (x_0_0 x_0_1:Int) (K:Pw.T3) (w:World):Prop :=
 let w1 := w.alloc (Obj.cells #[(Value.int .i64 x_0_0), (Value.int .i64 x_0_1)] 35)
 let w2 := w1.drew
 ∃ x3:Int, w2.cell? (Addr.mk w.heap.size 0 none)=some (Value.int .i64 x3)/\∃ x4:Int, w2.cell? (Addr.mk w.heap.size 1 none)=some (Value.int .i64 x4)/\x4 ≠ 0/\∃ x5:Int, w2.cell? (Addr.mk w.heap.size 1 none)=some (Value.int .i64 x5)/\x5 ≠ 0/\inR .i64 (Int.tdiv (1000000:Int) x5)/\inR .i64 ((Int.tmod x3 x4) * (Int.tdiv (1000000:Int) x5))/\cnd (((Int.tmod x3 x4) * (Int.tdiv (1000000:Int) x5)) == (0:Int))
 (∃ x6:Int, w2.cell? (Addr.mk w.heap.size 0 none)=some (Value.int .i64 x6)/\∃ x7:Int, w2.cell? (Addr.mk w.heap.size 1 none)=some (Value.int .i64 x7)/\x7 ≠ 0/\inR .i64 (Int.tdiv x6 x7)/\z2q_sh (Int.tdiv x6 x7) (fun r9 w8=>K r9 w8) w2)
 (∃ x10:Int, w2.cell? (Addr.mk w.heap.size 0 none)=some (Value.int .i64 x10)/\∃ x11:Int, w2.cell? (Addr.mk w.heap.size 1 none)=some (Value.int .i64 x11)/\x11 ≠ 0/\inR .i64 (Int.tdiv x10 x11)/\z2q_sh (Int.tdiv x10 x11) (fun r13 w12=>(((r13.size + (str [46]).size:Nat):Int) <= maxI)/\inR .i64 ((1000000:Int) + ((Int.tmod x3 x4) * (Int.tdiv (1000000:Int) x5)))/\z2q_sh ((1000000:Int) + ((Int.tmod x3 x4) * (Int.tdiv (1000000:Int) x5))) (fun r15 w14=>(0 <= (1:Int)/\(1:Int) <= (r15.size:Nat))/\z1p_sh (r15.extract 1 r15.size) (str [48]) (fun r17 w16=>((((r13 ++ (str [46])).size + r17.size:Nat):Int) <= maxI)/\K ((r13 ++ (str [46])) ++ r17) w16) w14) w12) w2)
structure z2r_sh (x_0_0 x_0_1:Int) (K:Pw.T3) (w:World):Prop where
 out:z2r_sd x_0_0 x_0_1 K w
noncomputable def z2r_S:Pw.Spec := fun vs w Kv=>un [.g 2, tI, tI] (fun x_0_0 x_0_1=>z2r_sh x_0_0 x_0_1 (kk [tS] Kv)) nF vs w
def z2r_A (_:VW):A := (qr 2 (qs (A.drp (dp [0, 1, 2, 3, 4, 5, 6, 7, 8, 9] DA.done)) (qs (qr 2 (qc (qr 7 ql) ql)) (qr 14 ql))))
theorem z2r_ok:Sound Tryz.prog 141 z2r_S := okS (x := z2r_A) (fun Kv x_0_0 x_0_1=>z2r_sd x_0_0 x_0_1 (kk [tS] Kv)) progMixed (Γ := [(33, z2q_S), (151, z1p_S)]) ⟨.inl z2q_ok, .inl z1p_ok, trivial⟩ Tryz.call141 Tryz.func141 (fun _=>hEnd)
structure z39_sh (e_0_0:ByteArray) (e_0_1 e_0_2:Int) (e_0_3:ByteArray) (e_0_4:Sl) (least_1:Int) (K:Pw.T3) (w:World):Prop where
 out:Calls Tryz.prog 129 #[(Value.agg #[(Value.string e_0_0), (Value.int .i64 e_0_1), (Value.int .i64 e_0_2), (Value.string e_0_3), (Value.slice e_0_4.p e_0_4.l e_0_4.c)]), (Value.int .i64 least_1)] w fun e w'=>∃ r0:ByteArray, e=.returned (Value.string r0)/\K r0 w'
noncomputable def z39_S:Pw.Spec := fun vs w Kv =>
 match vs with
 | [.agg ⟨[.string e_0_0, .int .i64 e_0_1, .int .i64 e_0_2, .string e_0_3, .slice e_0_4p e_0_4l e_0_4c]⟩, .int .i64 least_1]=>z39_sh e_0_0 e_0_1 e_0_2 e_0_3 ⟨e_0_4p, e_0_4l, e_0_4c⟩ least_1 (fun r0 w'=>Kv (Value.string r0) w') w
 | _=>False
theorem z39_okr:Sound Tryz.prog 129 z39_S := ⟨Tryz.call129, fun vs w Kv h=>by
  unfold z39_S at h
  split at h
  · exact h.out.mono fun e w' he=>by
      obtain ⟨_, he, hk⟩ := he
      exact ⟨_, he, hk⟩
  · exact h.elim⟩
def z39_k2d (least_1 own_5:Int) (out_6:ByteArray) (K:Pw.T3) (w:World):Prop :=
 cnd (decide (own_5 < least_1))
 (((((str [40]).size + out_6.size:Nat):Int) <= maxI)/\(((((str [40]) ++ out_6).size + (str [41]).size:Nat):Int) <= maxI)/\K (((str [40]) ++ out_6) ++ (str [41])) w)
 (K out_6 w)
structure z39_k2 (least_1 own_5:Int) (out_6:ByteArray) (K:Pw.T3) (w:World):Prop where
 out:z39_k2d least_1 own_5 out_6 K w
def z39_k0d (least_1:Int) (e_2:Addr) (own_5:Int) (K:Pw.T3) (w:World):Prop :=
 let w11 := w.drew
 ∃ S12:World->Prop, S12 w11/\∃ x13:ByteArray, (∀ w':World, S12 w'->w'.cell? e_2=some (Value.string x13))/\(((x13.size + (str [40]).size:Nat):Int) <= maxI)/\∃ x14:Sl, (∀ w':World, S12 w'->w'.cell? (e_2.add 4)=some (Value.slice x14.p x14.l x14.c))/\nz x14.p fun a15=>(0 <= (0:Int)/\(0:Int) < (x14.l:Nat))/\∃ x16:ByteArray, (∀ w':World, S12 w'->w'.cell? (a15.add ((0:Int).toNat * 5))=some (Value.string x16))/\∃ x17:Int, (∀ w':World, S12 w'->w'.cell? ((a15.add ((0:Int).toNat * 5)).add 1)=some (Value.int .i64 x17))/\∃ x18:Int, (∀ w':World, S12 w'->w'.cell? ((a15.add ((0:Int).toNat * 5)).add 2)=some (Value.int .i64 x18))/\∃ x19:ByteArray, (∀ w':World, S12 w'->w'.cell? ((a15.add ((0:Int).toNat * 5)).add 3)=some (Value.string x19))/\∃ x20:Sl, (∀ w':World, S12 w'->w'.cell? ((a15.add ((0:Int).toNat * 5)).add 4)=some (Value.slice x20.p x20.l x20.c))/\∃ x21:Sl, (∀ w':World, S12 w'->w'.cell? (e_2.add 4)=some (Value.slice x21.p x21.l x21.c))/\nz x21.p fun a22=>(0 <= (1:Int)/\(1:Int) < (x21.l:Nat))/\∃ x23:ByteArray, (∀ w':World, S12 w'->w'.cell? (a22.add ((1:Int).toNat * 5))=some (Value.string x23))/\∃ x24:Int, (∀ w':World, S12 w'->w'.cell? ((a22.add ((1:Int).toNat * 5)).add 1)=some (Value.int .i64 x24))/\∃ x25:Int, (∀ w':World, S12 w'->w'.cell? ((a22.add ((1:Int).toNat * 5)).add 2)=some (Value.int .i64 x25))/\∃ x26:ByteArray, (∀ w':World, S12 w'->w'.cell? ((a22.add ((1:Int).toNat * 5)).add 3)=some (Value.string x26))/\∃ x27:Sl, (∀ w':World, S12 w'->w'.cell? ((a22.add ((1:Int).toNat * 5)).add 4)=some (Value.slice x27.p x27.l x27.c))/\z39_sh x16 x17 x18 x19 x20 (0:Int) (fun r29 w28=>S12 w28/\((((x13 ++ (str [40])).size + r29.size:Nat):Int) <= maxI)/\(((((x13 ++ (str [40])) ++ r29).size + (str [44, 32]).size:Nat):Int) <= maxI)/\z39_sh x23 x24 x25 x26 x27 (0:Int) (fun r31 w30=>S12 w30/\((((((x13 ++ (str [40])) ++ r29) ++ (str [44, 32])).size + r31.size:Nat):Int) <= maxI)/\(((((((x13 ++ (str [40])) ++ r29) ++ (str [44, 32])) ++ r31).size + (str [41]).size:Nat):Int) <= maxI)/\z39_k2 least_1 own_5 (((((x13 ++ (str [40])) ++ r29) ++ (str [44, 32])) ++ r31) ++ (str [41])) K w30) w28) w11
structure z39_k0 (least_1:Int) (e_2:Addr) (own_5:Int) (K:Pw.T3) (w:World):Prop where
 out:z39_k0d least_1 e_2 own_5 K w
def z39_k1d (least_1:Int) (e_2:Addr) (own_5:Int) (K:Pw.T3) (w:World):Prop :=
 let w32 := w.drew
 ∃ S33:World->Prop, S33 w32/\∃ x34:Sl, (∀ w':World, S33 w'->w'.cell? (e_2.add 4)=some (Value.slice x34.p x34.l x34.c))/\nz x34.p fun a35=>(0 <= (0:Int)/\(0:Int) < (x34.l:Nat))/\∃ x36:ByteArray, (∀ w':World, S33 w'->w'.cell? (a35.add ((0:Int).toNat * 5))=some (Value.string x36))/\∃ x37:Int, (∀ w':World, S33 w'->w'.cell? ((a35.add ((0:Int).toNat * 5)).add 1)=some (Value.int .i64 x37))/\∃ x38:Int, (∀ w':World, S33 w'->w'.cell? ((a35.add ((0:Int).toNat * 5)).add 2)=some (Value.int .i64 x38))/\∃ x39:ByteArray, (∀ w':World, S33 w'->w'.cell? ((a35.add ((0:Int).toNat * 5)).add 3)=some (Value.string x39))/\∃ x40:Sl, (∀ w':World, S33 w'->w'.cell? ((a35.add ((0:Int).toNat * 5)).add 4)=some (Value.slice x40.p x40.l x40.c))/\∃ x41:ByteArray, (∀ w':World, S33 w'->w'.cell? e_2=some (Value.string x41))/\∃ x42:Sl, (∀ w':World, S33 w'->w'.cell? (e_2.add 4)=some (Value.slice x42.p x42.l x42.c))/\nz x42.p fun a43=>(0 <= (1:Int)/\(1:Int) < (x42.l:Nat))/\∃ x44:ByteArray, (∀ w':World, S33 w'->w'.cell? (a43.add ((1:Int).toNat * 5))=some (Value.string x44))/\∃ x45:Int, (∀ w':World, S33 w'->w'.cell? ((a43.add ((1:Int).toNat * 5)).add 1)=some (Value.int .i64 x45))/\∃ x46:Int, (∀ w':World, S33 w'->w'.cell? ((a43.add ((1:Int).toNat * 5)).add 2)=some (Value.int .i64 x46))/\∃ x47:ByteArray, (∀ w':World, S33 w'->w'.cell? ((a43.add ((1:Int).toNat * 5)).add 3)=some (Value.string x47))/\∃ x48:Sl, (∀ w':World, S33 w'->w'.cell? ((a43.add ((1:Int).toNat * 5)).add 4)=some (Value.slice x48.p x48.l x48.c))/\inR .i64 (own_5 + (1:Int))/\z39_sh x36 x37 x38 x39 x40 own_5 (fun r50 w49=>S33 w49/\(((r50.size + (str [32]).size:Nat):Int) <= maxI)/\((((r50 ++ (str [32])).size + x41.size:Nat):Int) <= maxI)/\(((((r50 ++ (str [32])) ++ x41).size + (str [32]).size:Nat):Int) <= maxI)/\z39_sh x44 x45 x46 x47 x48 (own_5 + (1:Int)) (fun r52 w51=>S33 w51/\((((((r50 ++ (str [32])) ++ x41) ++ (str [32])).size + r52.size:Nat):Int) <= maxI)/\z39_k2 least_1 own_5 ((((r50 ++ (str [32])) ++ x41) ++ (str [32])) ++ r52) K w51) w49) w32
structure z39_k1 (least_1:Int) (e_2:Addr) (own_5:Int) (K:Pw.T3) (w:World):Prop where
 out:z39_k1d least_1 e_2 own_5 K w
def z39_sd (e_0_0:ByteArray) (e_0_1 e_0_2:Int) (e_0_3:ByteArray) (e_0_4:Sl) (least_1:Int) (K:Pw.T3) (w:World):Prop :=
 let w1 := w.alloc (Obj.cells #[(Value.string e_0_0), (Value.int .i64 e_0_1), (Value.int .i64 e_0_2), (Value.string e_0_3), (Value.slice e_0_4.p e_0_4.l e_0_4.c)] 38)
 ∃ x2:ByteArray, w1.cell? (Addr.mk w.heap.size 0 none)=some (Value.string x2)/\z37_sh x2 (fun r4 w3=>∃ x5:ByteArray, w3.cell? (Addr.mk w.heap.size 0 none)=some (Value.string x5)/\cnd (decide (x5=(str [110, 117, 109])))
 (∃ x6:Int, w3.cell? (Addr.mk w.heap.size 1 none)=some (Value.int .i64 x6)/\∃ x7:Int, w3.cell? (Addr.mk w.heap.size 2 none)=some (Value.int .i64 x7)/\z2r_sh x6 x7 (fun r9 w8=>z39_k2 least_1 r4 r9 K w8) w3)
 (cnd (decide (x5=(str [110, 97, 109, 101])))
 (∃ x10:ByteArray, w3.cell? (Addr.mk w.heap.size 3 none)=some (Value.string x10)/\z39_k2 least_1 r4 x10 K w3)
 (cnd (decide (x5=(str [109, 105, 110])))
 (cnd (decide (x5=(str [109, 105, 110])))
 (z39_k0 least_1 (Addr.mk w.heap.size 0 none) r4 K w3)
 (z39_k1 least_1 (Addr.mk w.heap.size 0 none) r4 K w3))
 (cnd (decide (x5=(str [109, 97, 120])))
 (z39_k0 least_1 (Addr.mk w.heap.size 0 none) r4 K w3)
 (z39_k1 least_1 (Addr.mk w.heap.size 0 none) r4 K w3))))) w1
def z39_P0 (Kv:VW) (ρ:Rho) (vs:List Value) (w:World):Prop :=
 match ρ, vs with
 | _, [.int .i64 least_1, .pointer (some e_2), .int .i64 own_5]=>z39_k0 least_1 e_2 own_5 (fun r0 w'=>Kv (Value.string r0) w') w
 | _, _=>False
def z39_P1 (Kv:VW) (ρ:Rho) (vs:List Value) (w:World):Prop :=
 match ρ, vs with
 | _, [.int .i64 least_1, .pointer (some e_2), .int .i64 own_5]=>z39_k1 least_1 e_2 own_5 (fun r0 w'=>Kv (Value.string r0) w') w
 | _, _=>False
def z39_P2 (Kv:VW) (ρ:Rho) (vs:List Value) (w:World):Prop :=
 match ρ, vs with
 | _, [.int .i64 least_1, .int .i64 own_5, .string out_6]=>z39_k2 least_1 own_5 out_6 (fun r0 w'=>Kv (Value.string r0) w') w
 | _, _=>False
noncomputable def z39_E:Pw.Env := [(129, z39_S), (140, z37_S), (141, z2r_S)]
noncomputable def z39_C:Code := (Tryz.f129.body).getD .skip
noncomputable def z39_A (Kv:VW):Pw.A :=
 (qr 2 (qr 4 (qr 1 (qs (qr 2 (qb (qr 2 (qc (qe 4) (qr 2 (qc (qe 3) (qs (qr 2 (qc ql (qe 2))) (qc (A.cut [1, 2, 5] (z39_P0 Kv) (A.drw (dp [0, 1, 2, 3, 4, 5, 6, 10, 11, 12, 13] (DA.eff 7 (dp [8, 9] (DA.eff 14 (dp [15, 16, 17] DA.done))))))) (A.cut [1, 2, 5] (z39_P1 Kv) (A.drw (dp [0, 1, 2, 3, 4, 7, 8, 11, 12, 13, 14, 15, 16] (DA.eff 5 (dp [6, 9, 10] (DA.eff 17 (dp [18, 19] DA.done))))))))))))))) (A.cut [1, 5, 6] (z39_P2 Kv) (qs (qr 3 (qc (qr 4 ql) ql)) (qr 2 ql)))))))
noncomputable def z39_O (Kv:VW):List Ob := (obs Tryz.prog z39_E 67 (z39_A Kv) z39_C (fun _=>retQ Tryz.prog Tryz.f129.results Kv))
theorem z39_e (Kv:VW) (e_0_0:ByteArray) (e_0_1 e_0_2:Int) (e_0_3:ByteArray) (e_0_4p:Option Addr) (e_0_4l e_0_4c:Nat) (least_1:Int) (w:World):z39_sd e_0_0 e_0_1 e_0_2 e_0_3 ⟨e_0_4p, e_0_4l, e_0_4c⟩ least_1 (fun r0 w'=>Kv (Value.string r0) w') w=W Tryz.prog z39_E 67 (z39_A Kv) z39_C [] (retQ Tryz.prog Tryz.f129.results Kv) [] (startS [(Value.agg #[(Value.string e_0_0), (Value.int .i64 e_0_1), (Value.int .i64 e_0_2), (Value.string e_0_3), (Value.slice e_0_4p e_0_4l e_0_4c)]), (Value.int .i64 least_1)]) w := by kernel_rfl
theorem z39_e0 (Kv:VW) (ρ:Rho) (least_1:Int) (e_2:Addr) (own_5:Int) (w:World):z39_k0d least_1 e_2 own_5 (fun r0 w'=>Kv (Value.string r0) w') w=goalAt Tryz.prog z39_E 67 (z39_O Kv) 0 (ρ) [(Value.int .i64 least_1), (Value.pointer (some e_2)), (Value.int .i64 own_5)] w := by kernel_rfl
theorem z39_q0 (Kv:VW) (ρ:Rho) (vs:List Value) (w:World):labAt (z39_O Kv) 0 ρ vs w=z39_P0 Kv ρ vs w := by kernel_rfl
theorem z39_h0 (Kv:VW):holdsAt Tryz.prog z39_E 67 (z39_O Kv) 0 := holdsAt_cut (.inl (by kernel_rfl)) (fun ρ vs w h=>by
  rw [z39_q0] at h
  unfold z39_P0 at h
  split at h
  · rw [← z39_e0]; exact h.out
  · exact h.elim)
theorem z39_e1 (Kv:VW) (ρ:Rho) (least_1:Int) (e_2:Addr) (own_5:Int) (w:World):z39_k1d least_1 e_2 own_5 (fun r0 w'=>Kv (Value.string r0) w') w=goalAt Tryz.prog z39_E 67 (z39_O Kv) 1 (ρ) [(Value.int .i64 least_1), (Value.pointer (some e_2)), (Value.int .i64 own_5)] w := by kernel_rfl
theorem z39_q1 (Kv:VW) (ρ:Rho) (vs:List Value) (w:World):labAt (z39_O Kv) 1 ρ vs w=z39_P1 Kv ρ vs w := by kernel_rfl
theorem z39_h1 (Kv:VW):holdsAt Tryz.prog z39_E 67 (z39_O Kv) 1 := holdsAt_cut (.inl (by kernel_rfl)) (fun ρ vs w h=>by
  rw [z39_q1] at h
  unfold z39_P1 at h
  split at h
  · rw [← z39_e1]; exact h.out
  · exact h.elim)
theorem z39_e2 (Kv:VW) (ρ:Rho) (least_1 own_5:Int) (out_6:ByteArray) (w:World):z39_k2d least_1 own_5 out_6 (fun r0 w'=>Kv (Value.string r0) w') w=goalAt Tryz.prog z39_E 67 (z39_O Kv) 2 (ρ) [(Value.int .i64 least_1), (Value.int .i64 own_5), (Value.string out_6)] w := by kernel_rfl
theorem z39_q2 (Kv:VW) (ρ:Rho) (vs:List Value) (w:World):labAt (z39_O Kv) 2 ρ vs w=z39_P2 Kv ρ vs w := by kernel_rfl
theorem z39_h2 (Kv:VW):holdsAt Tryz.prog z39_E 67 (z39_O Kv) 2 := holdsAt_cut (.inl (by kernel_rfl)) (fun ρ vs w h=>by
  rw [z39_q2] at h
  unfold z39_P2 at h
  split at h
  · rw [← z39_e2]; exact h.out
  · exact h.elim)
theorem z39_n (Kv:VW):obAt (z39_O Kv) 3=none := by kernel_rfl
theorem z39_h (Kv:VW):∀ k, holdsAt Tryz.prog z39_E 67 (z39_O Kv) k := fun k=>match k with
  | 0=>z39_h0 Kv
  | 1=>z39_h1 Kv
  | 2=>z39_h2 Kv
  | k + 3=>holdsAt_ge (z39_n Kv) (Nat.le_add_left _ _)
theorem z39_mk (e_0_0:ByteArray) (e_0_1 e_0_2:Int) (e_0_3:ByteArray) (e_0_4p:Option Addr) (e_0_4l e_0_4c:Nat) (least_1:Int) {K:ByteArray->World->Prop} {w:World} (h:z39_sd e_0_0 e_0_1 e_0_2 e_0_3 ⟨e_0_4p, e_0_4l, e_0_4c⟩ least_1 K w):z39_sh e_0_0 e_0_1 e_0_2 e_0_3 ⟨e_0_4p, e_0_4l, e_0_4c⟩ least_1 K w := by
  have e:(fun r0 w'=>(fun v w'=>∃ r0:ByteArray, v=(Value.string r0)/\K r0 w') (Value.string r0) w')=K := by
    funext r0 w'
    apply propext
    constructor
    · rintro ⟨r0', hv, hk⟩
      cases hv
      exact hk
    · intro hk
      exact ⟨_, rfl, hk⟩
  have h':z39_sd e_0_0 e_0_1 e_0_2 e_0_3 ⟨e_0_4p, e_0_4l, e_0_4c⟩ least_1 (fun r0 w'=>(fun v w'=>∃ r0:ByteArray, v=(Value.string r0)/\K r0 w') (Value.string r0) w') w := by rw [e]; exact h
  rw [z39_e (fun v w'=>∃ r0:ByteArray, v=(Value.string r0)/\K r0 w')] at h'
  refine ⟨(calls_sound (Γ := z39_E) progMixed ⟨.inl z39_okr, .inl z37_ok, .inl z2r_ok, trivial⟩ Tryz.func129 (code := z39_C) (by kernel_rfl) (z39_A (fun v w'=>∃ r0:ByteArray, v=(Value.string r0)/\K r0 w')) (fun v w'=>∃ r0:ByteArray, v=(Value.string r0)/\K r0 w') (holds_all (z39_h (fun v w'=>∃ r0:ByteArray, v=(Value.string r0)/\K r0 w'))) (Nat.le_of_ble_eq_true (by kernel_rfl)) h').mono fun e w' he=>?_⟩
  obtain ⟨v, rfl, _, rfl, hk⟩ := he
  exact ⟨_, rfl, hk⟩
def z1q_sd (e_0_0:ByteArray) (e_0_1 e_0_2:Int) (e_0_3:ByteArray) (e_0_4:Sl) (K:Pw.T3) (w:World):Prop :=
 let w1 := w.alloc (Obj.cells #[(Value.string e_0_0), (Value.int .i64 e_0_1), (Value.int .i64 e_0_2), (Value.string e_0_3), (Value.slice e_0_4.p e_0_4.l e_0_4.c)] 38)
 let w2 := w1.alloc (Obj.cells #[(Value.int .i64 0)] 3)
 wrOk w2 (Addr.mk w1.heap.size 0 none)/\
 (let w3 := w2.setCell (Addr.mk w1.heap.size 0 none) (Value.int .i64 0)
 ∃ x4:ByteArray, w3.cell? (Addr.mk w.heap.size 0 none)=some (Value.string x4)/\∃ x5:Int, w3.cell? (Addr.mk w.heap.size 1 none)=some (Value.int .i64 x5)/\∃ x6:Int, w3.cell? (Addr.mk w.heap.size 2 none)=some (Value.int .i64 x6)/\∃ x7:ByteArray, w3.cell? (Addr.mk w.heap.size 3 none)=some (Value.string x7)/\∃ x8:Sl, w3.cell? (Addr.mk w.heap.size 4 none)=some (Value.slice x8.p x8.l x8.c)/\z1r_sh x4 x5 x6 x7 x8 (12:Int) (some (Addr.mk w1.heap.size 0 none)) (fun r10 w9=>cnd (!r10)
 (K (str []) w9)
 (∃ x11:ByteArray, w9.cell? (Addr.mk w.heap.size 0 none)=some (Value.string x11)/\∃ x12:Int, w9.cell? (Addr.mk w.heap.size 1 none)=some (Value.int .i64 x12)/\∃ x13:Int, w9.cell? (Addr.mk w.heap.size 2 none)=some (Value.int .i64 x13)/\∃ x14:ByteArray, w9.cell? (Addr.mk w.heap.size 3 none)=some (Value.string x14)/\∃ x15:Sl, w9.cell? (Addr.mk w.heap.size 4 none)=some (Value.slice x15.p x15.l x15.c)/\z39_sh x11 x12 x13 x14 x15 (0:Int) (fun r17 w16=>K r17 w16) w9)) w3)
structure z1q_sh (e_0_0:ByteArray) (e_0_1 e_0_2:Int) (e_0_3:ByteArray) (e_0_4:Sl) (K:Pw.T3) (w:World):Prop where
 out:z1q_sd e_0_0 e_0_1 e_0_2 e_0_3 e_0_4 K w
noncomputable def z1q_S:Pw.Spec := fun vs w Kv=>un [.g 5, tS, tI, tI, tS, tL] (fun e_0_0 e_0_1 e_0_2 e_0_3 e_0_4=>z1q_sh e_0_0 e_0_1 e_0_2 e_0_3 e_0_4 (kk [tS] Kv)) nF vs w
def z1q_A (_:VW):A := (qr 2 (qr 2 (qs (qr 3 (qc (qr 1 ql) ql)) (qr 3 ql))))
theorem z1q_ok:Sound Tryz.prog 111 z1q_S := okS (x := z1q_A) (fun Kv e_0_0 e_0_1 e_0_2 e_0_3 e_0_4=>z1q_sd e_0_0 e_0_1 e_0_2 e_0_3 e_0_4 (kk [tS] Kv)) progMixed (Γ := [(128, z1r_S), (129, z39_S)]) ⟨.inl z1r_okr, .inl z39_okr, trivial⟩ Tryz.call111 Tryz.func111 (fun _=>hEnd)
def z33_sd (e_0_0:ByteArray) (e_0_1 e_0_2:Int) (e_0_3:ByteArray) (e_0_4:Sl) (K:Pw.T1) (w:World):Prop :=
 let w1 := w.alloc (Obj.cells #[(Value.string e_0_0), (Value.int .i64 e_0_1), (Value.int .i64 e_0_2), (Value.string e_0_3), (Value.slice e_0_4.p e_0_4.l e_0_4.c)] 38)
 ∃ x2:ByteArray, w1.cell? (Addr.mk w.heap.size 0 none)=some (Value.string x2)/\∃ x3:Int, w1.cell? (Addr.mk w.heap.size 1 none)=some (Value.int .i64 x3)/\∃ x4:Int, w1.cell? (Addr.mk w.heap.size 2 none)=some (Value.int .i64 x4)/\∃ x5:ByteArray, w1.cell? (Addr.mk w.heap.size 3 none)=some (Value.string x5)/\∃ x6:Sl, w1.cell? (Addr.mk w.heap.size 4 none)=some (Value.slice x6.p x6.l x6.c)/\z1q_sh x2 x3 x4 x5 x6 (fun r8 w7=>K (!decide (r8=(str []))) w7) w1
structure z33_sh (e_0_0:ByteArray) (e_0_1 e_0_2:Int) (e_0_3:ByteArray) (e_0_4:Sl) (K:Pw.T1) (w:World):Prop where
 out:z33_sd e_0_0 e_0_1 e_0_2 e_0_3 e_0_4 K w
noncomputable def z33_S:Pw.Spec := fun vs w Kv=>un [.g 5, tS, tI, tI, tS, tL] (fun e_0_0 e_0_1 e_0_2 e_0_3 e_0_4=>z33_sh e_0_0 e_0_1 e_0_2 e_0_3 e_0_4 (kk [tB] Kv)) nF vs w
def z33_A (_:VW):A := (qr 2 (qr 4 ql))
theorem z33_ok:Sound Tryz.prog 90 z33_S := okS (x := z33_A) (fun Kv e_0_0 e_0_1 e_0_2 e_0_3 e_0_4=>z33_sd e_0_0 e_0_1 e_0_2 e_0_3 e_0_4 (kk [tB] Kv)) progMixed (Γ := [(111, z1q_S)]) ⟨.inl z1q_ok, trivial⟩ Tryz.call90 Tryz.func90 (fun _=>hEnd)
def z2b_b0 (t_1 t_2 e_3:Addr) (t_8:Sl) (t_9 t_10:Int) (N0:Addr->Addr->Addr->Sl->Int->Int->World->Prop) (K:Pw.T1) (w:World):Prop :=
 cnd (decide (t_10 < t_9))
 (nz t_8.p fun a3=>(0 <= t_10/\t_10 < (t_8.l:Nat))/\∃ x4:ByteArray, w.cell? (a3.add (t_10.toNat * 5))=some (Value.string x4)/\∃ x5:Int, w.cell? ((a3.add (t_10.toNat * 5)).add 1)=some (Value.int .i64 x5)/\∃ x6:Int, w.cell? ((a3.add (t_10.toNat * 5)).add 2)=some (Value.int .i64 x6)/\∃ x7:ByteArray, w.cell? ((a3.add (t_10.toNat * 5)).add 3)=some (Value.string x7)/\∃ x8:Sl, w.cell? ((a3.add (t_10.toNat * 5)).add 4)=some (Value.slice x8.p x8.l x8.c)/\let w9 := w.alloc (Obj.cells #[(Value.string (str [])), (Value.int .i64 0), (Value.int .i64 0), (Value.string (str [])), (Value.slice none 0 0)] 38)
 stN w9 (Addr.mk w.heap.size 0 none) [(Value.string x4), (Value.int .i64 x5), (Value.int .i64 x6), (Value.string x7), (Value.slice x8.p x8.l x8.c)] fun w10=>∃ x11:Value, w10.cell? t_1=some x11/\∃ x12:ByteArray, w10.cell? (Addr.mk w.heap.size 0 none)=some (Value.string x12)/\∃ x13:Int, w10.cell? (Addr.mk w.heap.size 1 none)=some (Value.int .i64 x13)/\∃ x14:Int, w10.cell? (Addr.mk w.heap.size 2 none)=some (Value.int .i64 x14)/\∃ x15:ByteArray, w10.cell? (Addr.mk w.heap.size 3 none)=some (Value.string x15)/\∃ x16:Sl, w10.cell? (Addr.mk w.heap.size 4 none)=some (Value.slice x16.p x16.l x16.c)/\CallV Tryz.prog x11 [(Value.agg #[(Value.string x12), (Value.int .i64 x13), (Value.int .i64 x14), (Value.string x15), (Value.slice x16.p x16.l x16.c)])] w10 fun u17 w18=>∃ x19:Bool, u17=(Value.bool x19)/\cnd (!x19)
 (K false w18)
 (inR .i64 (t_10 + (1:Int))/\N0 t_1 t_2 e_3 t_8 t_9 (t_10 + (1:Int)) w18))
 (∃ x20:Value, w.cell? t_2=some x20/\∃ x21:ByteArray, w.cell? e_3=some (Value.string x21)/\∃ x22:Int, w.cell? (e_3.add 1)=some (Value.int .i64 x22)/\∃ x23:Int, w.cell? (e_3.add 2)=some (Value.int .i64 x23)/\∃ x24:ByteArray, w.cell? (e_3.add 3)=some (Value.string x24)/\∃ x25:Sl, w.cell? (e_3.add 4)=some (Value.slice x25.p x25.l x25.c)/\CallV Tryz.prog x20 [(Value.agg #[(Value.string x21), (Value.int .i64 x22), (Value.int .i64 x23), (Value.string x24), (Value.slice x25.p x25.l x25.c)])] w fun u26 w27=>∃ x28:Bool, u26=(Value.bool x28)/\K x28 w27)
def z2b_l0d (t_1 t_2 e_3:Addr) (t_8:Sl) (t_9 t_10:Int) (K:Pw.T1) (w:World):Prop :=
 ∃ (I:Int->World->Prop) (μ:Int->World->Nat), I t_10 w/\∀ (t_101:Int) (w1:World), I t_101 w1 ->
 z2b_b0 t_1 t_2 e_3 t_8 t_9 t_101 (fun t_1' t_2' e_3' t_8' t_9' t_10' w'=>((t_1'=t_1/\t_2'=t_2/\e_3'=e_3/\t_8'=t_8/\t_9'=t_9/\True)/\I t_10' w')/\μ t_10' w' < μ t_101 w1) K w1
structure z2b_l0 (t_1 t_2 e_3:Addr) (t_8:Sl) (t_9 t_10:Int) (K:Pw.T1) (w:World):Prop where
 out:z2b_l0d t_1 t_2 e_3 t_8 t_9 t_10 K w
def z2b_sd (e_0_0:ByteArray) (e_0_1 e_0_2:Int) (e_0_3:ByteArray) (e_0_4:Sl) (t_1 t_2:Addr) (K:Pw.T1) (w:World):Prop :=
 let w1 := w.alloc (Obj.cells #[(Value.string e_0_0), (Value.int .i64 e_0_1), (Value.int .i64 e_0_2), (Value.string e_0_3), (Value.slice e_0_4.p e_0_4.l e_0_4.c)] 38)
 ∃ x2:Sl, w1.cell? (Addr.mk w.heap.size 4 none)=some (Value.slice x2.p x2.l x2.c)/\z2b_l0 t_1 t_2 (Addr.mk w.heap.size 0 none) x2 (x2.l:Int) (0:Int) K w1
structure z2b_sh (e_0_0:ByteArray) (e_0_1 e_0_2:Int) (e_0_3:ByteArray) (e_0_4:Sl) (t_1 t_2:Addr) (K:Pw.T1) (w:World):Prop where
 out:z2b_sd e_0_0 e_0_1 e_0_2 e_0_3 e_0_4 t_1 t_2 K w
def z2b_L0 (Kv:VW):Cur [tQ, tQ, tQ, tL, tI, tI] WP := fun t_1 t_2 e_3 t_8 t_9 t_10=>z2b_l0 t_1 t_2 e_3 t_8 t_9 t_10 (kk [tB] Kv)
noncomputable def z2b_S:Pw.Spec := fun vs w Kv=>un [.g 5, tS, tI, tI, tS, tL, tQ, tQ] (fun e_0_0 e_0_1 e_0_2 e_0_3 e_0_4 t_1 t_2=>z2b_sh e_0_0 e_0_1 e_0_2 e_0_3 e_0_4 t_1 t_2 (kk [tB] Kv)) nF vs w
def z2b_A (Kv:VW):A := (qr 2 (qs (qr 4 (qb (A.loop [1, 2, 3, 8, 9, 10] (uR0 [tQ, tQ, tQ, tL, tI, tI] (z2b_L0 Kv)) (qr 1 (qs (qc ql ql) (qs (qb (qr 4 (qs (A.reg (qn 2 (RA.dyn (Value.bool false) (qn 1 RA.done)))) (qc (qr 1 ql) ql)))) (qe 2))))))) (qs (A.reg (qn 2 (RA.dyn (Value.bool false) (qn 1 RA.done)))) ql)))
theorem z2b_ok:Sound Tryz.prog 113 z2b_S := okS (x := z2b_A) (fun Kv e_0_0 e_0_1 e_0_2 e_0_3 e_0_4 t_1 t_2=>z2b_sd e_0_0 e_0_1 e_0_2 e_0_3 e_0_4 t_1 t_2 (kk [tB] Kv)) progMixed (Γ := []) trivial Tryz.call113 Tryz.func113 (fun Kv=>hStep (hLoop0 (L := z2b_L0 Kv) (fun N0 t_1 t_2 e_3 t_8 t_9 t_10=>z2b_b0 t_1 t_2 e_3 t_8 t_9 t_10 N0 (kk [tB] Kv)) (fun ⟨a0, a1, a2, a3, a4, _, _⟩ _ h=>let ⟨I, μ, h0, hr⟩ := h.out; ⟨fun b0 b1 b2 b3 b4 b5 w=>(b0=a0/\b1=a1/\b2=a2/\b3=a3/\b4=a4/\True)/\I b5 w, fun _ _ _ _ _ b5 w=>μ b5 w, ⟨⟨rfl, rfl, rfl, rfl, rfl, trivial⟩, h0⟩, fun ⟨_, _, _, _, _, _, _⟩ _ ⟨⟨e0, e1, e2, e3, e4, _⟩, hI⟩=>by cases e0; cases e1; cases e2; cases e3; cases e4; exact hr _ _ hI⟩)) <| hEnd)
def z2l_sd (yield_0:Value) (t_1:Addr) (K:Pw.T13) (w:World):Prop :=
 let w1 := w.alloc (Obj.cells (Value.cells yield_0) 101)
 let w2 := w1.alloc (Obj.cells #[Value.nilFunc] 101)
 wrOk w2 (Addr.mk w1.heap.size 0 none)/\
 (let w3 := w2.setCell (Addr.mk w1.heap.size 0 none) (Value.func (.func 113) #[] #[(Value.pointer (some (Addr.mk w1.heap.size 0 none))), (Value.pointer (some (Addr.mk w.heap.size 0 none)))])
 ∃ x4:Value, w3.cell? (Addr.mk w1.heap.size 0 none)=some x4/\∃ x5:ByteArray, w3.cell? t_1=some (Value.string x5)/\∃ x6:Int, w3.cell? (t_1.add 1)=some (Value.int .i64 x6)/\∃ x7:Int, w3.cell? (t_1.add 2)=some (Value.int .i64 x7)/\∃ x8:ByteArray, w3.cell? (t_1.add 3)=some (Value.string x8)/\∃ x9:Sl, w3.cell? (t_1.add 4)=some (Value.slice x9.p x9.l x9.c)/\CallV Tryz.prog x4 [(Value.agg #[(Value.string x5), (Value.int .i64 x6), (Value.int .i64 x7), (Value.string x8), (Value.slice x9.p x9.l x9.c)])] w3 fun u10 w11=>∃ x12:Bool, u10=(Value.bool x12)/\K w11)
structure z2l_sh (yield_0:Value) (t_1:Addr) (K:Pw.T13) (w:World):Prop where
 out:z2l_sd yield_0 t_1 K w
noncomputable def z2l_S:Pw.Spec := fun vs w Kv=>un [tV, tQ] (fun yield_0 t_1=>z2l_sh yield_0 t_1 (kk [.u 0] Kv)) nF vs w
def z2l_A (_:VW):A := (qr 1 (qr 1 (qr 2 (A.reg (qn 2 (RA.dyn (Value.bool false) RA.done))))))
theorem z2l_ok:Sound Tryz.prog 112 z2l_S := okS (x := z2l_A) (fun Kv yield_0 t_1=>z2l_sd yield_0 t_1 (kk [.u 0] Kv)) progMixed (Γ := []) trivial Tryz.call112 Tryz.func112 (fun _=>hEnd)
def z32_sd (e_0_0:ByteArray) (e_0_1 e_0_2:Int) (e_0_3:ByteArray) (e_0_4:Sl) (K:Value->World->Prop) (w:World):Prop :=
 let w1 := w.alloc (Obj.cells #[(Value.string e_0_0), (Value.int .i64 e_0_1), (Value.int .i64 e_0_2), (Value.string e_0_3), (Value.slice e_0_4.p e_0_4.l e_0_4.c)] 38)
 K (Value.func (.func 112) #[] #[(Value.pointer (some (Addr.mk w.heap.size 0 none)))]) w1
structure z32_sh (e_0_0:ByteArray) (e_0_1 e_0_2:Int) (e_0_3:ByteArray) (e_0_4:Sl) (K:Value->World->Prop) (w:World):Prop where
 out:z32_sd e_0_0 e_0_1 e_0_2 e_0_3 e_0_4 K w
noncomputable def z32_S:Pw.Spec := fun vs w Kv=>un [.g 5, tS, tI, tI, tS, tL] (fun e_0_0 e_0_1 e_0_2 e_0_3 e_0_4=>z32_sh e_0_0 e_0_1 e_0_2 e_0_3 e_0_4 (kk [tV] Kv)) nF vs w
def z32_A (_:VW):A := (qr 2 (qr 2 ql))
theorem z32_ok:Sound Tryz.prog 91 z32_S := okS (x := z32_A) (fun Kv e_0_0 e_0_1 e_0_2 e_0_3 e_0_4=>z32_sd e_0_0 e_0_1 e_0_2 e_0_3 e_0_4 (kk [tV] Kv)) progMixed (Γ := []) trivial Tryz.call91 Tryz.func91 (fun _=>hEnd)
noncomputable def z31_C:Code := (Tryz.f62.body).getD .skip
noncomputable def z31_rc0:Code := rfAt z31_C 0
noncomputable def z31_as0:Code := rfAs z31_rc0
noncomputable def z31_bd0:Code := rfBd z31_rc0
def z31_ps0:Array Tmp := #[10]
def z31_f0d (t_2:Sl) (out_3:Addr) (t_9:Value) (K:Pw.T0) (w:World):Prop :=
 rfF Tryz.prog 27 [(2, (Value.slice t_2.p t_2.l t_2.c)), (3, (Value.pointer (some out_3))), (9, t_9)] t_9 z31_ps0 z31_as0 z31_bd0 w (fun w'=>∃ x31:Sl, w'.cell? out_3=some (Value.slice x31.p x31.l x31.c)/\w'.heap[w.heap.size]?=some (Obj.deferred (some []))/\(let w32 := w'.putObj w.heap.size (Obj.deferred none)
 K x31 w32)) (fun w'=>w'.heap[w.heap.size]?=some (Obj.deferred (some []))/\(let w17 := w'.putObj w.heap.size (Obj.deferred none)
 K t_2 w17))
structure z31_f0 (t_2:Sl) (out_3:Addr) (t_9:Value) (K:Pw.T0) (w:World):Prop where
 out:z31_f0d t_2 out_3 t_9 K w
def z31_r0d (t_2:Sl) (out_3:Addr) (t_9:Value) (t_10_0:ByteArray) (t_10_1 t_10_2:Int) (t_10_3:ByteArray) (t_10_4:Sl) (M:World->(World->Prop)->Prop) (Nn0 Nr0:World->Prop) (K:Pw.T0) (w:World):Prop :=
 let w18 := w.alloc (Obj.cells #[(Value.string (str [])), (Value.int .i64 0), (Value.int .i64 0), (Value.string (str [])), (Value.slice none 0 0)] 38)
 stN w18 (Addr.mk w.heap.size 0 none) [(Value.string t_10_0), (Value.int .i64 t_10_1), (Value.int .i64 t_10_2), (Value.string t_10_3), (Value.slice t_10_4.p t_10_4.l t_10_4.c)] fun w19=>M w19 (fun w0=>∃ x20:ByteArray, w0.cell? (Addr.mk w.heap.size 0 none)=some (Value.string x20)/\cnd (decide (x20=(str [110, 97, 109, 101])))
 (∃ x21:Sl, w0.cell? out_3=some (Value.slice x21.p x21.l x21.c)/\∃ x22:ByteArray, w0.cell? (Addr.mk w.heap.size 3 none)=some (Value.string x22)/\z2a_sh x21 x22 (fun r24 w23=>cnd (!r24)
 (∃ x25:Sl, w23.cell? out_3=some (Value.slice x25.p x25.l x25.c)/\∃ x26:ByteArray, w23.cell? (Addr.mk w.heap.size 3 none)=some (Value.string x26)/\let w27 := w23.alloc (Obj.cells #[(Value.string x26)] 9)
 apS 1 16 [(Value.string (str []))] 9 x25 (Sl.mk (some (Addr.mk w23.heap.size 0 none)) 1 1) w27 fun s28 w29=>wrOk w29 out_3/\
 (let w30 := w29.setCell out_3 (Value.slice s28.p s28.l s28.c)
 Nn0 w30))
 (Nn0 w23)) w0)
 (Nn0 w0))
structure z31_r0 (t_2:Sl) (out_3:Addr) (t_9:Value) (t_10_0:ByteArray) (t_10_1 t_10_2:Int) (t_10_3:ByteArray) (t_10_4:Sl) (M:World->(World->Prop)->Prop) (Nn0 Nr0:World->Prop) (K:Pw.T0) (w:World):Prop where
 out:z31_r0d t_2 out_3 t_9 t_10_0 t_10_1 t_10_2 t_10_3 t_10_4 M Nn0 Nr0 K w
def z31_sd (e_0_0:ByteArray) (e_0_1 e_0_2:Int) (e_0_3:ByteArray) (e_0_4:Sl) (K:Pw.T0) (w:World):Prop :=
 let w1 := w.alloc (Obj.cells #[(Value.string e_0_0), (Value.int .i64 e_0_1), (Value.int .i64 e_0_2), (Value.string e_0_3), (Value.slice e_0_4.p e_0_4.l e_0_4.c)] 38)
 ∃ x2:ByteArray, w1.cell? (Addr.mk w.heap.size 0 none)=some (Value.string x2)/\∃ x3:Int, w1.cell? (Addr.mk w.heap.size 1 none)=some (Value.int .i64 x3)/\∃ x4:Int, w1.cell? (Addr.mk w.heap.size 2 none)=some (Value.int .i64 x4)/\∃ x5:ByteArray, w1.cell? (Addr.mk w.heap.size 3 none)=some (Value.string x5)/\∃ x6:Sl, w1.cell? (Addr.mk w.heap.size 4 none)=some (Value.slice x6.p x6.l x6.c)/\z33_sh x2 x3 x4 x5 x6 (fun r8 w7=>cnd (!r8)
 (K (Sl.mk none 0 0) w7)
 (let w9 := w7.alloc (Obj.cells #[(Value.slice none 0 0)] 39)
 ∃ x10:ByteArray, w9.cell? (Addr.mk w.heap.size 0 none)=some (Value.string x10)/\∃ x11:Int, w9.cell? (Addr.mk w.heap.size 1 none)=some (Value.int .i64 x11)/\∃ x12:Int, w9.cell? (Addr.mk w.heap.size 2 none)=some (Value.int .i64 x12)/\∃ x13:ByteArray, w9.cell? (Addr.mk w.heap.size 3 none)=some (Value.string x13)/\∃ x14:Sl, w9.cell? (Addr.mk w.heap.size 4 none)=some (Value.slice x14.p x14.l x14.c)/\z32_sh x10 x11 x12 x13 x14 (fun r16 w15=>z31_f0 (Sl.mk none 0 0) (Addr.mk w7.heap.size 0 none) r16 K w15) w9)) w1
structure z31_sh (e_0_0:ByteArray) (e_0_1 e_0_2:Int) (e_0_3:ByteArray) (e_0_4:Sl) (K:Pw.T0) (w:World):Prop where
 out:z31_sd e_0_0 e_0_1 e_0_2 e_0_3 e_0_4 K w
def z31_P0 (Kv:VW) (ρ:Rho) (vs:List Value) (w:World):Prop :=
 match ρ, vs with
 | _, [.slice t_2p t_2l t_2c, .pointer (some out_3), t_9]=>z31_f0 ⟨t_2p, t_2l, t_2c⟩ out_3 t_9 (fun r0 w'=>Kv (Value.slice r0.p r0.l r0.c) w') w
 | _, _=>False
noncomputable def z31_S:Pw.Spec := fun vs w Kv =>
 match vs with
 | [.agg ⟨[.string e_0_0, .int .i64 e_0_1, .int .i64 e_0_2, .string e_0_3, .slice e_0_4p e_0_4l e_0_4c]⟩]=>z31_sh e_0_0 e_0_1 e_0_2 e_0_3 ⟨e_0_4p, e_0_4l, e_0_4c⟩ (fun r0 w'=>Kv (Value.slice r0.p r0.l r0.c) w') w
 | _=>False
noncomputable def z31_E:Pw.Env := [(31, z2a_S), (90, z33_S), (91, z32_S)]
noncomputable def z31_A (Kv:VW):Pw.A :=
 (qr 2 (qs (qr 3 (qc (qr 1 ql) ql)) (qr 1 (qs (qr 2 (qb (A.rf [2, 3, 9] (z31_P0 Kv) (qb (qs (A.reg (qn 4 (RA.spl 14 (qn 6 RA.done) (qk 5 (qn 1 RA.done))))) (qc (qe 6) ql)))))) (qr 2 ql)))))
noncomputable def z31_O (Kv:VW):List Ob := (obs Tryz.prog z31_E 27 (z31_A Kv) z31_C (fun _=>retQ Tryz.prog Tryz.f62.results Kv))
theorem z31_e (Kv:VW) (e_0_0:ByteArray) (e_0_1 e_0_2:Int) (e_0_3:ByteArray) (e_0_4p:Option Addr) (e_0_4l e_0_4c:Nat) (w:World):z31_sd e_0_0 e_0_1 e_0_2 e_0_3 ⟨e_0_4p, e_0_4l, e_0_4c⟩ (fun r0 w'=>Kv (Value.slice r0.p r0.l r0.c) w') w=W Tryz.prog z31_E 27 (z31_A Kv) z31_C [] (retQ Tryz.prog Tryz.f62.results Kv) [] (startS [(Value.agg #[(Value.string e_0_0), (Value.int .i64 e_0_1), (Value.int .i64 e_0_2), (Value.string e_0_3), (Value.slice e_0_4p e_0_4l e_0_4c)])]) w := by kernel_rfl
theorem z31_e0 (Kv:VW) (ρ:Rho) (t_2p:Option Addr) (t_2l t_2c:Nat) (out_3:Addr) (t_9:Value) (w:World):z31_f0d ⟨t_2p, t_2l, t_2c⟩ out_3 t_9 (fun r0 w'=>Kv (Value.slice r0.p r0.l r0.c) w') w=goalAt Tryz.prog z31_E 27 (z31_O Kv) 0 (ρ) [(Value.slice t_2p t_2l t_2c), (Value.pointer (some out_3)), t_9] w := by kernel_rfl
theorem z31_q0 (Kv:VW) (ρ:Rho) (vs:List Value) (w:World):labAt (z31_O Kv) 0 ρ vs w=z31_P0 Kv ρ vs w := by kernel_rfl
theorem z31_h0 (Kv:VW):holdsAt Tryz.prog z31_E 27 (z31_O Kv) 0 := holdsAt_cut (.inr (by kernel_rfl)) (fun ρ vs w h=>by
  rw [z31_q0] at h
  unfold z31_P0 at h
  split at h
  · rw [← z31_e0]; exact h.out
  · exact h.elim)
theorem z31_n (Kv:VW):obAt (z31_O Kv) 1=none := by kernel_rfl
theorem z31_h (Kv:VW):∀ k, holdsAt Tryz.prog z31_E 27 (z31_O Kv) k := fun k=>match k with
  | 0=>z31_h0 Kv
  | k + 1=>holdsAt_ge (z31_n Kv) (Nat.le_add_left _ _)
theorem z31_ok:Sound Tryz.prog 62 z31_S := ⟨Tryz.call62, fun vs w Kv h=>by
  unfold z31_S at h
  split at h
  · have h := h.out
    rw [z31_e] at h
    exact calls_sound (Γ := z31_E) progMixed ⟨.inl z2a_ok, .inl z33_ok, .inl z32_ok, trivial⟩ Tryz.func62 (code := z31_C) (by kernel_rfl) (z31_A Kv) Kv (holds_all (z31_h Kv)) (Nat.le_of_ble_eq_true (by kernel_rfl)) h
  · exact h.elim⟩
theorem z31_er0 (Kv:VW) (t_2p:Option Addr) (t_2l t_2c:Nat) (out_3:Addr) (t_9:Value) (t_10_0:ByteArray) (t_10_1 t_10_2:Int) (t_10_3:ByteArray) (t_10_4p:Option Addr) (t_10_4l t_10_4c:Nat) (M:World->(World->Prop)->Prop) (N R:World->Prop) (w:World):z31_r0d ⟨t_2p, t_2l, t_2c⟩ out_3 t_9 t_10_0 t_10_1 t_10_2 t_10_3 ⟨t_10_4p, t_10_4l, t_10_4c⟩ M N R (fun r0 w'=>Kv (Value.slice r0.p r0.l r0.c) w') w=rdW Tryz.prog z31_E 27 (qe 2) ((qb (qs (A.reg (qn 4 (RA.spl 14 (qn 6 RA.done) (qk 5 (qn 1 RA.done))))) (qc (qe 6) ql)))) z31_ps0 z31_as0 z31_bd0 [(2, (Value.slice t_2p t_2l t_2c)), (3, (Value.pointer (some out_3))), (9, t_9)] [(Value.agg #[(Value.string t_10_0), (Value.int .i64 t_10_1), (Value.int .i64 t_10_2), (Value.string t_10_3), (Value.slice t_10_4p t_10_4l t_10_4c)])] M N R w := by kernel_rfl
theorem z31_y0 (Kv:VW) (t_2p:Option Addr) (t_2l t_2c:Nat) (out_3:Addr) (t_9:Value) (t_10_0:ByteArray) (t_10_1 t_10_2:Int) (t_10_3:ByteArray) (t_10_4p:Option Addr) (t_10_4l t_10_4c:Nat) {fn d l:Nat} {tmps:Array Value} {K':VW} {w:World} (hag:agrT 27 [(2, (Value.slice t_2p t_2l t_2c)), (3, (Value.pointer (some out_3))), (9, t_9)] tmps) (hl:w.heap[l]?=some (lrec fn tmps z31_ps0 z31_as0 z31_bd0 d .ready none))
    (h:z31_r0 ⟨t_2p, t_2l, t_2c⟩ out_3 t_9 t_10_0 t_10_1 t_10_2 t_10_3 ⟨t_10_4p, t_10_4l, t_10_4c⟩ (rMid l fn tmps z31_ps0 z31_as0 z31_bd0 d) (rN l fn tmps z31_ps0 z31_as0 z31_bd0 d K') (rR l fn tmps z31_ps0 z31_as0 z31_bd0 d K') (fun r0 w'=>Kv (Value.slice r0.p r0.l r0.c) w') w):Yl Tryz.prog l #[(Value.agg #[(Value.string t_10_0), (Value.int .i64 t_10_1), (Value.int .i64 t_10_2), (Value.string t_10_3), (Value.slice t_10_4p t_10_4l t_10_4c)])] w K' :=
  round_sound (xa := (qe 2)) (xb := (qb (qs (A.reg (qn 4 (RA.spl 14 (qn 6 RA.done) (qk 5 (qn 1 RA.done))))) (qc (qe 6) ql)))) (Γ := z31_E) progMixed ⟨.inl z2a_ok, .inl z33_ok, .inl z32_ok, trivial⟩ (fun _=>rfl) (fun o ho=>by cases ho) rfl rfl rfl hag hl rfl (by rw [← z31_er0 Kv]; exact h.out)
end Go.Proofs.YtfkmpbpkahcogaaGreatDoor
