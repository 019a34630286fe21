/- The bodies' formulas, by program. -/
import Derived.Test.YtfkmpbpkahcogaaGreatDoorProg
import Derived.KernelRfl
import Derived.Test.YtfkmpbpkahcogaaGreatDoorPwY
import Derived.Test.YtfkmpbpkahcogaaGreatDoorDT
import Derived.Test.YtfkmpbpkahcogaaGreatDoorCG0
import Derived.Test.YtfkmpbpkahcogaaGreatDoorCG1
import Derived.Test.YtfkmpbpkahcogaaGreatDoorDG0
import Derived.Test.YtfkmpbpkahcogaaGreatDoorDG1
set_option maxRecDepth 20000
namespace Go.Proofs.YtfkmpbpkahcogaaGreatDoor
open Go Pw
def z1t_sd (s_0:ByteArray) (t_1:Addr) (K:Pw.T13) (w:World):Prop :=
 ∃ x1:Sl, w.cell? t_1=some (Value.slice x1.p x1.l x1.c)/\z2a_sh x1 s_0 (fun r3 w2=>cnd (!r3)
 (∃ x4:Sl, w2.cell? t_1=some (Value.slice x4.p x4.l x4.c)/\let w5 := w2.alloc (Obj.cells #[(Value.string s_0)] 9)
 apS 1 16 [(Value.string (str []))] 9 x4 (Sl.mk (some (Addr.mk w2.heap.size 0 none)) 1 1) w5 fun s6 w7=>wrOk w7 t_1/\
 (let w8 := w7.setCell t_1 (Value.slice s6.p s6.l s6.c)
 K w8))
 (K w2)) w
structure z1t_sh (s_0:ByteArray) (t_1:Addr) (K:Pw.T13) (w:World):Prop where
 out:z1t_sd s_0 t_1 K w
noncomputable def z1t_S:Pw.Spec := fun vs w Kv=>un [tS, tQ] (fun s_0 t_1=>z1t_sh s_0 t_1 (kk [.u 0] Kv)) nF vs w
def z1t_A (_:VW):A := (qr 4 (qc (qe 5) ql))
theorem z1t_ok:Sound Tryz.prog 30 z1t_S := okS (x := z1t_A) (fun Kv s_0 t_1=>z1t_sd s_0 t_1 (kk [.u 0] Kv)) progMixed (Γ := [(31, z2a_S)]) ⟨.inl z2a_ok, trivial⟩ Tryz.call30 Tryz.func30 (fun _=>hEnd)
def z34_sd (id_0:Int) (K:Pw.T3) (w:World):Prop :=
 z2q_sh id_0 (fun r2 w1=>((((str [108, 111, 116, 32]).size + r2.size:Nat):Int) <= maxI)/\K ((str [108, 111, 116, 32]) ++ r2) w1) w
structure z34_sh (id_0:Int) (K:Pw.T3) (w:World):Prop where
 out:z34_sd id_0 K w
noncomputable def z34_S:Pw.Spec := fun vs w Kv=>un [tI] (fun id_0=>z34_sh id_0 (kk [tS] Kv)) nF vs w
def z34_A (_:VW):A := (qr 1 (qr 4 ql))
theorem z34_ok:Sound Tryz.prog 32 z34_S := okS (x := z34_A) (fun Kv id_0=>z34_sd id_0 (kk [tS] Kv)) progMixed (Γ := [(33, z2q_S)]) ⟨.inl z2q_ok, trivial⟩ Tryz.call32 Tryz.func32 (fun _=>hEnd)
def z2d_b2 (out_3 add_4_c0:Addr) (t_40 t_41:Int) (N2:Addr->Addr->Int->Int->World->Prop) (K:Pw.T0) (w:World):Prop :=
 cnd (decide (t_41 < t_40))
 (inR .i64 (t_41 + (1:Int))/\z2q_sh (t_41 + (1:Int)) (fun r29 w28=>((((str [114, 101, 113, 117, 105, 114, 101, 32]).size + r29.size:Nat):Int) <= maxI)/\z1t_sh ((str [114, 101, 113, 117, 105, 114, 101, 32]) ++ r29) add_4_c0 (fun w30=>inR .i64 (t_41 + (1:Int))/\N2 out_3 add_4_c0 t_40 (t_41 + (1:Int)) w30) w28) w)
 (∃ x31:Sl, w.cell? out_3=some (Value.slice x31.p x31.l x31.c)/\let w32 := w.alloc (Obj.cells #[(Value.string (str [114, 97, 110, 103, 101])), (Value.string (str [102, 111, 114, 109, 117, 108, 97])), (Value.string (str [116, 105, 101, 115])), (Value.string (str [109, 111, 115, 116])), (Value.string (str [99, 111, 109, 98, 111, 115])), (Value.string (str [98, 117, 100, 103, 101, 116])), (Value.string (str [116, 105, 109, 101, 115]))] 9)
 apS 1 16 [(Value.string (str []))] 9 x31 (Sl.mk (some (Addr.mk w.heap.size 0 none)) 7 7) w32 fun s33 w34=>K s33 w34)
def z2d_l2d (out_3 add_4_c0:Addr) (t_40 t_41:Int) (K:Pw.T0) (w:World):Prop :=
 ∃ (I:Int->World->Prop) (μ:Int->World->Nat), I t_41 w/\∀ (t_411:Int) (w1:World), I t_411 w1 ->
 z2d_b2 out_3 add_4_c0 t_40 t_411 (fun out_3' add_4_c0' t_40' t_41' w'=>((out_3'=out_3/\add_4_c0'=add_4_c0/\t_40'=t_40/\True)/\I t_41' w')/\μ t_41' w' < μ t_411 w1) K w1
structure z2d_l2 (out_3 add_4_c0:Addr) (t_40 t_41:Int) (K:Pw.T0) (w:World):Prop where
 out:z2d_l2d out_3 add_4_c0 t_40 t_41 K w
def z2d_b1 (t_1 out_3 add_4_c0:Addr) (t_26:Sl) (t_27 t_28:Int) (N1:Addr->Addr->Addr->Sl->Int->Int->World->Prop) (K:Pw.T0) (w:World):Prop :=
 cnd (decide (t_28 < t_27))
 (nz t_26.p fun a17=>(0 <= t_28/\t_28 < (t_26.l:Nat))/\∃ x18:ByteArray, w.cell? (a17.add (t_28.toNat * 5))=some (Value.string x18)/\∃ x19:Int, w.cell? ((a17.add (t_28.toNat * 5)).add 1)=some (Value.int .i64 x19)/\∃ x20:Int, w.cell? ((a17.add (t_28.toNat * 5)).add 2)=some (Value.int .i64 x20)/\∃ x21:Int, w.cell? ((a17.add (t_28.toNat * 5)).add 3)=some (Value.int .i64 x21)/\∃ x22:Bool, w.cell? ((a17.add (t_28.toNat * 5)).add 4)=some (Value.bool x22)/\let w23 := w.alloc (Obj.cells #[(Value.string (str [])), (Value.int .i64 0), (Value.int .i64 0), (Value.int .i64 0), (Value.bool false)] 64)
 stN w23 (Addr.mk w.heap.size 0 none) [(Value.string x18), (Value.int .i64 x19), (Value.int .i64 x20), (Value.int .i64 x21), (Value.bool x22)] fun w24=>∃ x25:ByteArray, w24.cell? (Addr.mk w.heap.size 0 none)=some (Value.string x25)/\((((str [99, 114, 105, 116, 101, 114, 105, 111, 110, 32]).size + x25.size:Nat):Int) <= maxI)/\z1t_sh ((str [99, 114, 105, 116, 101, 114, 105, 111, 110, 32]) ++ x25) add_4_c0 (fun w26=>inR .i64 (t_28 + (1:Int))/\N1 t_1 out_3 add_4_c0 t_26 t_27 (t_28 + (1:Int)) w26) w24)
 (∃ x27:Sl, w.cell? (t_1.add 3)=some (Value.slice x27.p x27.l x27.c)/\z2d_l2 out_3 add_4_c0 (x27.l:Int) (0:Int) K w)
def z2d_l1d (t_1 out_3 add_4_c0:Addr) (t_26:Sl) (t_27 t_28:Int) (K:Pw.T0) (w:World):Prop :=
 ∃ (I:Int->World->Prop) (μ:Int->World->Nat), I t_28 w/\∀ (t_281:Int) (w1:World), I t_281 w1 ->
 z2d_b1 t_1 out_3 add_4_c0 t_26 t_27 t_281 (fun t_1' out_3' add_4_c0' t_26' t_27' t_28' w'=>((t_1'=t_1/\out_3'=out_3/\add_4_c0'=add_4_c0/\t_26'=t_26/\t_27'=t_27/\True)/\I t_28' w')/\μ t_28' w' < μ t_281 w1) K w1
structure z2d_l1 (t_1 out_3 add_4_c0:Addr) (t_26:Sl) (t_27 t_28:Int) (K:Pw.T0) (w:World):Prop where
 out:z2d_l1d t_1 out_3 add_4_c0 t_26 t_27 t_28 K w
def z2d_b0 (t_1 out_3 add_4_c0:Addr) (t_13:Sl) (t_14 t_15:Int) (N0:Addr->Addr->Addr->Sl->Int->Int->World->Prop) (K:Pw.T0) (w:World):Prop :=
 cnd (decide (t_15 < t_14))
 (nz t_13.p fun a6=>(0 <= t_15/\t_15 < (t_13.l:Nat))/\∃ x7:Int, w.cell? (a6.add (t_15.toNat * 2))=some (Value.int .i64 x7)/\∃ x8:Int, w.cell? ((a6.add (t_15.toNat * 2)).add 1)=some (Value.int .i64 x8)/\let w9 := w.alloc (Obj.cells #[(Value.int .i64 0), (Value.int .i64 0)] 66)
 wrOk w9 (Addr.mk w.heap.size 0 none)/\
 (let w10 := w9.setCell (Addr.mk w.heap.size 0 none) (Value.int .i64 x7)
 wrOk w10 (Addr.mk w.heap.size 1 none)/\
 (let w11 := w10.setCell (Addr.mk w.heap.size 1 none) (Value.int .i64 x8)
 ∃ x12:Int, w11.cell? (Addr.mk w.heap.size 0 none)=some (Value.int .i64 x12)/\z34_sh x12 (fun r14 w13=>z1t_sh r14 add_4_c0 (fun w15=>inR .i64 (t_15 + (1:Int))/\N0 t_1 out_3 add_4_c0 t_13 t_14 (t_15 + (1:Int)) w15) w13) w11)))
 (∃ x16:Sl, w.cell? (t_1.add 2)=some (Value.slice x16.p x16.l x16.c)/\z2d_l1 t_1 out_3 add_4_c0 x16 (x16.l:Int) (0:Int) K w)
def z2d_l0d (t_1 out_3 add_4_c0:Addr) (t_13:Sl) (t_14 t_15:Int) (K:Pw.T0) (w:World):Prop :=
 ∃ (I:Int->World->Prop) (μ:Int->World->Nat), I t_15 w/\∀ (t_151:Int) (w1:World), I t_151 w1 ->
 z2d_b0 t_1 out_3 add_4_c0 t_13 t_14 t_151 (fun t_1' out_3' add_4_c0' t_13' t_14' t_15' w'=>((t_1'=t_1/\out_3'=out_3/\add_4_c0'=add_4_c0/\t_13'=t_13/\t_14'=t_14/\True)/\I t_15' w')/\μ t_15' w' < μ t_151 w1) K w1
structure z2d_l0 (t_1 out_3 add_4_c0:Addr) (t_13:Sl) (t_14 t_15:Int) (K:Pw.T0) (w:World):Prop where
 out:z2d_l0d t_1 out_3 add_4_c0 t_13 t_14 t_15 K w
def z2d_sd (t_0:T43) (K:Pw.T0) (w:World):Prop :=
 let w1 := w.alloc (Obj.cells (T43.cs t_0).toArray 43)
 let w2 := w1.alloc (Obj.cells #[(Value.string (str [110, 97, 109, 101]))] 9)
 let w3 := w2.alloc (Obj.cells #[(Value.slice none 0 0)] 39)
 wrOk w3 (Addr.mk w2.heap.size 0 none)/\
 (let w4 := w3.setCell (Addr.mk w2.heap.size 0 none) (Value.slice (some (Addr.mk w1.heap.size 0 none)) 1 1)
 ∃ x5:Sl, w4.cell? (Addr.mk w.heap.size 1 none)=some (Value.slice x5.p x5.l x5.c)/\z2d_l0 (Addr.mk w.heap.size 0 none) (Addr.mk w2.heap.size 0 none) (Addr.mk w2.heap.size 0 none) x5 (x5.l:Int) (0:Int) K w4)
structure z2d_sh (t_0:T43) (K:Pw.T0) (w:World):Prop where
 out:z2d_sd t_0 K w
def z2d_L0 (Kv:VW):Cur [tQ, tQ, .c 30 0 1, tQ, tL, tI, tI] WP := fun t_1 out_3 add_4_c0 t_13 t_14 t_15=>z2d_l0 t_1 out_3 add_4_c0 t_13 t_14 t_15 (kk [tL] Kv)
def z2d_L1 (Kv:VW):Cur [tQ, tQ, .c 30 0 1, tQ, tL, tI, tI] WP := fun t_1 out_3 add_4_c0 t_26 t_27 t_28=>z2d_l1 t_1 out_3 add_4_c0 t_26 t_27 t_28 (kk [tL] Kv)
def z2d_L2 (Kv:VW):Cur [tQ, .c 30 0 1, tQ, tI, tI] WP := fun out_3 add_4_c0 t_40 t_41=>z2d_l2 out_3 add_4_c0 t_40 t_41 (kk [tL] Kv)
noncomputable def z2d_S:Pw.Spec := fun vs w Kv=>un (.g 20 :: tS :: tL :: tL :: tL :: tI :: tI :: tS :: tI :: tI :: tS :: tL :: tL :: tI :: tL :: tI :: tI :: tI :: tI :: tI :: tI :: []) (fun t_0_0 t_0_1 t_0_2 t_0_3 t_0_4 t_0_5 t_0_6 t_0_7 t_0_8 t_0_9 t_0_10 t_0_11 t_0_12 t_0_13 t_0_14 t_0_15 t_0_16 t_0_17 t_0_18 t_0_19=>z2d_sh ⟨t_0_0, t_0_1, t_0_2, t_0_3, t_0_4, t_0_5, t_0_6, t_0_7, t_0_8, t_0_9, t_0_10, t_0_11, t_0_12, t_0_13, t_0_14, t_0_15, t_0_16, t_0_17, t_0_18, t_0_19⟩ (kk [tL] Kv)) nF vs w
def z2d_A (Kv:VW):A := (qr 2 (qr 3 (qr 2 (qs (qr 4 (qb (A.loop [1, 3, 4, 13, 14, 15] (uR0 [tQ, tQ, .c 30 0 1, tQ, tL, tI, tI] (z2d_L0 Kv)) (qr 1 (qs (qc ql ql) (qs (qb (qr 4 (qe 5))) (qe 2))))))) (qs (qr 4 (qb (A.loop [1, 3, 4, 26, 27, 28] (uR0 [tQ, tQ, .c 30 0 1, tQ, tL, tI, tI] (z2d_L1 Kv)) (qr 1 (qs (qc ql ql) (qs (qb (qr 4 (qe 5))) (qe 2))))))) (qs (qr 4 (qb (A.loop [3, 4, 40, 41] (uR0 [tQ, .c 30 0 1, tQ, tI, tI] (z2d_L2 Kv)) (qr 1 (qs (qc ql ql) (qs (qb (qr 2 (qe 6))) (qe 2))))))) (qr 4 ql)))))))
theorem z2d_ok:Sound Tryz.prog 12 z2d_S := okS (x := z2d_A) (fun Kv t_0_0 t_0_1 t_0_2 t_0_3 t_0_4 t_0_5 t_0_6 t_0_7 t_0_8 t_0_9 t_0_10 t_0_11 t_0_12 t_0_13 t_0_14 t_0_15 t_0_16 t_0_17 t_0_18 t_0_19=>z2d_sd ⟨t_0_0, t_0_1, t_0_2, t_0_3, t_0_4, t_0_5, t_0_6, t_0_7, t_0_8, t_0_9, t_0_10, t_0_11, t_0_12, t_0_13, t_0_14, t_0_15, t_0_16, t_0_17, t_0_18, t_0_19⟩ (kk [tL] Kv)) progMixed (Γ := [(30, z1t_S), (32, z34_S), (33, z2q_S)]) ⟨.inl z1t_ok, .inl z34_ok, .inl z2q_ok, trivial⟩ Tryz.call12 Tryz.func12 (fun Kv=>hStep (hLoop0 (L := z2d_L0 Kv) (fun N0 t_1 out_3 add_4_c0 t_13 t_14 t_15=>z2d_b0 t_1 out_3 add_4_c0 t_13 t_14 t_15 N0 (kk [tL] Kv)) (fun ⟨a0, a1, a2, a3, a4, _, _⟩ _ h=>let ⟨I, μ, h0, hr⟩ := h.out; ⟨fun b0 b1 b2 b3 b4 b5 w=>(b0=a0/\b1=a1/\b2=a2/\b3=a3/\b4=a4/\True)/\I b5 w, fun _ _ _ _ _ b5 w=>μ b5 w, ⟨⟨rfl, rfl, rfl, rfl, rfl, trivial⟩, h0⟩, fun ⟨_, _, _, _, _, _, _⟩ _ ⟨⟨e0, e1, e2, e3, e4, _⟩, hI⟩=>by cases e0; cases e1; cases e2; cases e3; cases e4; exact hr _ _ hI⟩)) <| hStep (hLoop0 (L := z2d_L1 Kv) (fun N1 t_1 out_3 add_4_c0 t_26 t_27 t_28=>z2d_b1 t_1 out_3 add_4_c0 t_26 t_27 t_28 N1 (kk [tL] Kv)) (fun ⟨a0, a1, a2, a3, a4, _, _⟩ _ h=>let ⟨I, μ, h0, hr⟩ := h.out; ⟨fun b0 b1 b2 b3 b4 b5 w=>(b0=a0/\b1=a1/\b2=a2/\b3=a3/\b4=a4/\True)/\I b5 w, fun _ _ _ _ _ b5 w=>μ b5 w, ⟨⟨rfl, rfl, rfl, rfl, rfl, trivial⟩, h0⟩, fun ⟨_, _, _, _, _, _, _⟩ _ ⟨⟨e0, e1, e2, e3, e4, _⟩, hI⟩=>by cases e0; cases e1; cases e2; cases e3; cases e4; exact hr _ _ hI⟩)) <| hStep (hLoop0 (L := z2d_L2 Kv) (fun N2 out_3 add_4_c0 t_40 t_41=>z2d_b2 out_3 add_4_c0 t_40 t_41 N2 (kk [tL] Kv)) (fun ⟨a0, a1, a2, _, _⟩ _ h=>let ⟨I, μ, h0, hr⟩ := h.out; ⟨fun b0 b1 b2 b3 w=>(b0=a0/\b1=a1/\b2=a2/\True)/\I b3 w, fun _ _ _ b3 w=>μ b3 w, ⟨⟨rfl, rfl, rfl, trivial⟩, h0⟩, fun ⟨_, _, _, _, _⟩ _ ⟨⟨e0, e1, e2, _⟩, hI⟩=>by cases e0; cases e1; cases e2; exact hr _ _ hI⟩)) <| hEnd)
def z2i_sd (t_0:T43) (clause_1:ByteArray) (K:ByteArray->ByteArray->Int->World->Prop) (w:World):Prop :=
 let w1 := w.alloc (Obj.cells (T43.cs t_0).toArray 43)
 let w2 := w1.alloc (Obj.cells #[(Value.string (str [])), (Value.string (str [])), (Value.int .i64 0)] 73)
 z18_sh clause_1 (str [114, 101, 113, 117, 105, 114, 101, 32]) (fun r4 w3=>z2p_sh r4 (fun r6 r7 w5=>∃ x8:Sl, w5.cell? (Addr.mk w.heap.size 3 none)=some (Value.slice x8.p x8.l x8.c)/\inR .i64 (r6 - (1:Int))/\nz x8.p fun a9=>(0 <= (r6 - (1:Int))/\(r6 - (1:Int)) < (x8.l:Nat))/\∃ x10:ByteArray, w5.cell? (a9.add ((r6 - (1:Int)).toNat * 3))=some (Value.string x10)/\∃ x11:ByteArray, w5.cell? ((a9.add ((r6 - (1:Int)).toNat * 3)).add 1)=some (Value.string x11)/\∃ x12:Int, w5.cell? ((a9.add ((r6 - (1:Int)).toNat * 3)).add 2)=some (Value.int .i64 x12)/\stN w5 (Addr.mk w1.heap.size 0 none) [(Value.string x10), (Value.string x11), (Value.int .i64 x12)] fun w13=>∃ x14:ByteArray, w13.cell? (Addr.mk w1.heap.size 0 none)=some (Value.string x14)/\∃ x15:ByteArray, w13.cell? (Addr.mk w1.heap.size 1 none)=some (Value.string x15)/\∃ x16:Int, w13.cell? (Addr.mk w1.heap.size 2 none)=some (Value.int .i64 x16)/\K x14 x15 x16 w13) w3) w2
structure z2i_sh (t_0:T43) (clause_1:ByteArray) (K:ByteArray->ByteArray->Int->World->Prop) (w:World):Prop where
 out:z2i_sd t_0 clause_1 K w
noncomputable def z2i_S:Pw.Spec := fun vs w Kv=>un (.g 20 :: tS :: tL :: tL :: tL :: tI :: tI :: tS :: tI :: tI :: tS :: tL :: tL :: tI :: tL :: tI :: tI :: tI :: tI :: tI :: tI :: tS :: []) (fun t_0_0 t_0_1 t_0_2 t_0_3 t_0_4 t_0_5 t_0_6 t_0_7 t_0_8 t_0_9 t_0_10 t_0_11 t_0_12 t_0_13 t_0_14 t_0_15 t_0_16 t_0_17 t_0_18 t_0_19 clause_1=>z2i_sh ⟨t_0_0, t_0_1, t_0_2, t_0_3, t_0_4, t_0_5, t_0_6, t_0_7, t_0_8, t_0_9, t_0_10, t_0_11, t_0_12, t_0_13, t_0_14, t_0_15, t_0_16, t_0_17, t_0_18, t_0_19⟩ clause_1 (kk [.g 3, tS, tS, tI] Kv)) nF vs w
def z2i_A (_:VW):A := (qr 2 (qr 8 (qr 7 ql)))
theorem z2i_ok:Sound Tryz.prog 61 z2i_S := okS (x := z2i_A) (fun Kv t_0_0 t_0_1 t_0_2 t_0_3 t_0_4 t_0_5 t_0_6 t_0_7 t_0_8 t_0_9 t_0_10 t_0_11 t_0_12 t_0_13 t_0_14 t_0_15 t_0_16 t_0_17 t_0_18 t_0_19 clause_1=>z2i_sd ⟨t_0_0, t_0_1, t_0_2, t_0_3, t_0_4, t_0_5, t_0_6, t_0_7, t_0_8, t_0_9, t_0_10, t_0_11, t_0_12, t_0_13, t_0_14, t_0_15, t_0_16, t_0_17, t_0_18, t_0_19⟩ clause_1 (kk [.g 3, tS, tS, tI] Kv)) progMixed (Γ := [(88, z2p_S), (89, z18_S)]) ⟨.inl z2p_ok, .inl z18_ok, trivial⟩ Tryz.call61 Tryz.func61 (fun _=>hEnd)
def z25_sd (id_0:Int) (t_1:Addr) (K:Pw.T1) (w:World):Prop :=
 let w1 := w.drew
 ∃ S2:World->Prop, S2 w1/\∃ x3:ByteArray, (∀ w':World, S2 w'->w'.cell? t_1=some (Value.string x3))/\z34_sh id_0 (fun r5 w4=>S2 w4/\K (decide (r5=x3)) w4) w1
structure z25_sh (id_0:Int) (t_1:Addr) (K:Pw.T1) (w:World):Prop where
 out:z25_sd id_0 t_1 K w
noncomputable def z25_S:Pw.Spec := fun vs w Kv=>un [tI, tQ] (fun id_0 t_1=>z25_sh id_0 t_1 (kk [tB] Kv)) nF vs w
def z25_A (_:VW):A := (qr 1 (qs (A.drw (dp [0, 2] (DA.eff 1 (dp [3, 4] DA.done)))) ql))
theorem z25_ok:Sound Tryz.prog 65 z25_S := okS (x := z25_A) (fun Kv id_0 t_1=>z25_sd id_0 t_1 (kk [tB] Kv)) progMixed (Γ := [(32, z34_S)]) ⟨.inl z34_ok, trivial⟩ Tryz.call65 Tryz.func65 (fun _=>hEnd)
def z2k_sd (l_0:Sl) (t_1:Addr) (K:Pw.T1) (w:World):Prop :=
 z05_sh l_0 (Value.func (.func 65) #[] #[(Value.pointer (some t_1))]) (fun r2 w1=>K r2 w1) w
structure z2k_sh (l_0:Sl) (t_1:Addr) (K:Pw.T1) (w:World):Prop where
 out:z2k_sd l_0 t_1 K w
noncomputable def z2k_S:Pw.Spec := fun vs w Kv=>un [tL, tQ] (fun l_0 t_1=>z2k_sh l_0 t_1 (kk [tB] Kv)) nF vs w
def z2k_A (_:VW):A := (qr 1 (qr 4 ql))
theorem z2k_ok:Sound Tryz.prog 64 z2k_S := okS (x := z2k_A) (fun Kv l_0 t_1=>z2k_sd l_0 t_1 (kk [tB] Kv)) progMixed (Γ := [(51, z05_S)]) ⟨.inl z05_ok, trivial⟩ Tryz.call64 Tryz.func64 (fun _=>hEnd)
def z2u_sd (l_0:Sl) (is_1:Value) (K:Sl->Bool->World->Prop) (w:World):Prop :=
 z09_sh l_0 is_1 (fun r2 w1=>cnd (decide (r2 < (0:Int)))
 (K (Sl.mk none 0 0) false w1)
 (nz l_0.p fun a3=>(0 <= r2/\r2 < (l_0.l:Nat))/\∃ x4:Sl, w1.cell? (a3.add (r2.toNat * 1))=some (Value.slice x4.p x4.l x4.c)/\K x4 true w1)) w
structure z2u_sh (l_0:Sl) (is_1:Value) (K:Sl->Bool->World->Prop) (w:World):Prop where
 out:z2u_sd l_0 is_1 K w
noncomputable def z2u_S:Pw.Spec := fun vs w Kv=>un [tL, tV] (fun l_0 is_1=>z2u_sh l_0 is_1 (kk [.u 2, tL, tB] Kv)) nF vs w
def z2u_A (_:VW):A := (qr 2 (qr 4 (qs (qr 2 (qc (qr 3 ql) ql)) (qr 6 ql))))
theorem z2u_ok:Sound Tryz.prog 63 z2u_S := okS (x := z2u_A) (fun Kv l_0 is_1=>z2u_sd l_0 is_1 (kk [.u 2, tL, tB] Kv)) progMixed (Γ := [(92, z09_S)]) ⟨.inl z09_ok, trivial⟩ Tryz.call63 Tryz.func63 (fun _=>hEnd)
def z2w_sd (t_0:T43) (clause_1 other_2:ByteArray) (K:Pw.T1) (w:World):Prop :=
 let w1 := w.alloc (Obj.cells (T43.cs t_0).toArray 43)
 let w2 := w1.alloc (Obj.cells #[(Value.string other_2)] 9)
 ∃ x3:ByteArray, w2.cell? (Addr.mk w1.heap.size 0 none)=some (Value.string x3)/\z1n_sh x3 (str [99, 114, 105, 116, 101, 114, 105, 111, 110, 32]) (fun r5 r6 w4=>∃ x7:ByteArray, w4.cell? (Addr.mk w1.heap.size 0 none)=some (Value.string x7)/\z1o_sh x7 (str [108, 111, 116, 32]) (fun r9 w8=>z1o_sh clause_1 (str [114, 101, 113, 117, 105, 114, 101, 32]) (fun r11 w10=>cnd r11
 (cnd r6
 (T43.ld w10 (Addr.mk w.heap.size 0 none) fun x12=>z2i_sh x12 clause_1 (fun r14_0 r14_1 r14_2 w13=>K (decide (r14_0=r5)) w13) w10)
 (K false w10))
 (cnd (decide (clause_1=(str [102, 111, 114, 109, 117, 108, 97])))
 (∃ x15:ByteArray, w10.cell? (Addr.mk w.heap.size 6 none)=some (Value.string x15)/\∃ x16:Int, w10.cell? (Addr.mk w.heap.size 7 none)=some (Value.int .i64 x16)/\∃ x17:Int, w10.cell? (Addr.mk w.heap.size 8 none)=some (Value.int .i64 x17)/\∃ x18:ByteArray, w10.cell? (Addr.mk w.heap.size 9 none)=some (Value.string x18)/\∃ x19:Sl, w10.cell? (Addr.mk w.heap.size 10 none)=some (Value.slice x19.p x19.l x19.c)/\z31_sh x15 x16 x17 x18 x19 (fun r21 w20=>∃ x22:ByteArray, w20.cell? (Addr.mk w1.heap.size 0 none)=some (Value.string x22)/\cnd (decide (x22=(str [114, 97, 110, 103, 101])))
 (z2a_sh r21 (str [112, 114, 105, 99, 101]) (fun r24 w23=>cnd r24
 (K true w23)
 (z2a_sh r21 (str [108, 111, 119]) (fun r26 w25=>K r26 w25) w23)) w20)
 (cnd r6
 (z2a_sh r21 r5 (fun r28 w27=>K r28 w27) w20)
 (K false w20))) w10)
 (cnd (decide (clause_1=(str [116, 105, 101, 115])))
 (∃ x29:ByteArray, w10.cell? (Addr.mk w1.heap.size 0 none)=some (Value.string x29)/\cnd (decide (x29=(str [114, 97, 110, 103, 101])))
 (∃ x30:Sl, w10.cell? (Addr.mk w.heap.size 11 none)=some (Value.slice x30.p x30.l x30.c)/\z2a_sh x30 (str [112, 114, 105, 99, 101]) (fun r32 w31=>K r32 w31) w10)
 (cnd r6
 (∃ x33:Sl, w10.cell? (Addr.mk w.heap.size 11 none)=some (Value.slice x33.p x33.l x33.c)/\z2a_sh x33 r5 (fun r35 w34=>K r35 w34) w10)
 (K false w10)))
 (cnd (decide (clause_1=(str [109, 111, 115, 116])))
 (K r9 w10)
 (cnd (decide (clause_1=(str [98, 117, 100, 103, 101, 116])))
 (cnd r9
 (K true w10)
 (∃ x36:ByteArray, w10.cell? (Addr.mk w1.heap.size 0 none)=some (Value.string x36)/\K (decide (x36=(str [99, 111, 109, 98, 111, 115]))) w10))
 (cnd (decide (clause_1=(str [99, 111, 109, 98, 111, 115])))
 (∃ x37:Sl, w10.cell? (Addr.mk w.heap.size 13 none)=some (Value.slice x37.p x37.l x37.c)/\z2u_sh x37 (Value.func (.func 64) #[] #[(Value.pointer (some (Addr.mk w1.heap.size 0 none)))]) (fun r39 r40 w38=>K r40 w38) w10)
 (K false w10))))))) w8) w4) w2
structure z2w_sh (t_0:T43) (clause_1 other_2:ByteArray) (K:Pw.T1) (w:World):Prop where
 out:z2w_sd t_0 clause_1 other_2 K w
noncomputable def z2w_S:Pw.Spec := fun vs w Kv=>un (.g 20 :: tS :: tL :: tL :: tL :: tI :: tI :: tS :: tI :: tI :: tS :: tL :: tL :: tI :: tL :: tI :: tI :: tI :: tI :: tI :: tI :: tS :: tS :: []) (fun t_0_0 t_0_1 t_0_2 t_0_3 t_0_4 t_0_5 t_0_6 t_0_7 t_0_8 t_0_9 t_0_10 t_0_11 t_0_12 t_0_13 t_0_14 t_0_15 t_0_16 t_0_17 t_0_18 t_0_19 clause_1 other_2=>z2w_sh ⟨t_0_0, t_0_1, t_0_2, t_0_3, t_0_4, t_0_5, t_0_6, t_0_7, t_0_8, t_0_9, t_0_10, t_0_11, t_0_12, t_0_13, t_0_14, t_0_15, t_0_16, t_0_17, t_0_18, t_0_19⟩ clause_1 other_2 (kk [tB] Kv)) nF vs w
def z2w_A (_:VW):A := (qr 3 (qr 7 (qr 3 (qs (qb (qr 3 (qc (qs (A.reg (qn 2 (RA.spl 24 (qn 8 RA.done) (qk 6 (qn 2 RA.done))))) ql) (qr 3 (qc (qr 4 (qs (qr 2 (qc (qs (A.reg (qn 3 (RA.spl 42 (qk 2 (qn 2 RA.done)) (qn 4 RA.done)))) ql) ql)) (qs (A.reg (qn 2 (RA.spl 47 (qn 5 RA.done) (qk 3 (qn 2 RA.done))))) ql))) (qr 3 (qc (qs (qr 2 (qc (qr 4 ql) ql)) (qs (A.reg (qn 2 (RA.spl 61 (qn 6 RA.done) (qk 4 (qn 2 RA.done))))) ql)) (qr 3 (qc (qr 2 ql) (qr 3 (qc (qs (A.reg (qn 2 (RA.spl 75 (qk 2 (qn 2 RA.done)) (qn 4 RA.done)))) ql) (qr 3 (qc (qr 9 (qr 2 ql)) ql))))))))))))) (qr 1 ql)))))
theorem z2w_ok:Sound Tryz.prog 39 z2w_S := okS (x := z2w_A) (fun Kv t_0_0 t_0_1 t_0_2 t_0_3 t_0_4 t_0_5 t_0_6 t_0_7 t_0_8 t_0_9 t_0_10 t_0_11 t_0_12 t_0_13 t_0_14 t_0_15 t_0_16 t_0_17 t_0_18 t_0_19 clause_1 other_2=>z2w_sd ⟨t_0_0, t_0_1, t_0_2, t_0_3, t_0_4, t_0_5, t_0_6, t_0_7, t_0_8, t_0_9, t_0_10, t_0_11, t_0_12, t_0_13, t_0_14, t_0_15, t_0_16, t_0_17, t_0_18, t_0_19⟩ clause_1 other_2 (kk [tB] Kv)) progMixed (Γ := [(31, z2a_S), (50, z1o_S), (60, z1n_S), (61, z2i_S), (62, z31_S), (63, z2u_S)]) ⟨.inl z2a_ok, .inl z1o_ok, .inl z1n_ok, .inl z2i_ok, .inl z31_ok, .inl z2u_ok, trivial⟩ Tryz.call39 Tryz.func39 (fun _=>hEnd)
def z2j_sd (other_0:ByteArray) (t_1 t_2:Addr) (K:Pw.T1) (w:World):Prop :=
 T43.ld w t_1 fun x1=>∃ x2:ByteArray, w.cell? t_2=some (Value.string x2)/\z2w_sh x1 x2 other_0 (fun r4 w3=>K (!r4) w3) w
structure z2j_sh (other_0:ByteArray) (t_1 t_2:Addr) (K:Pw.T1) (w:World):Prop where
 out:z2j_sd other_0 t_1 t_2 K w
noncomputable def z2j_S:Pw.Spec := fun vs w Kv=>un [tS, tQ, tQ] (fun other_0 t_1 t_2=>z2j_sh other_0 t_1 t_2 (kk [tB] Kv)) nF vs w
def z2j_A (_:VW):A := (qr 1 (qr 6 ql))
theorem z2j_ok:Sound Tryz.prog 38 z2j_S := okS (x := z2j_A) (fun Kv other_0 t_1 t_2=>z2j_sd other_0 t_1 t_2 (kk [tB] Kv)) progMixed (Γ := [(39, z2w_S)]) ⟨.inl z2w_ok, trivial⟩ Tryz.call38 Tryz.func38 (fun _=>hEnd)
def z2s_sd (t_0:T43) (clause_1:ByteArray) (K:Pw.T0) (w:World):Prop :=
 let w1 := w.alloc (Obj.cells (T43.cs t_0).toArray 43)
 let w2 := w1.alloc (Obj.cells #[(Value.string clause_1)] 9)
 T43.ld w2 (Addr.mk w.heap.size 0 none) fun x3=>z2d_sh x3 (fun r5 w4=>∃ x6:ByteArray, w4.cell? (Addr.mk w1.heap.size 0 none)=some (Value.string x6)/\z2a_sh r5 x6 (fun r8 w7=>cnd (!r8)
 (K (Sl.mk none 0 0) w7)
 (z1m_sh r5 (Value.func (.func 38) #[] #[(Value.pointer (some (Addr.mk w.heap.size 0 none))), (Value.pointer (some (Addr.mk w1.heap.size 0 none)))]) (fun r10 w9=>K r10 w9) w7)) w4) w2
structure z2s_sh (t_0:T43) (clause_1:ByteArray) (K:Pw.T0) (w:World):Prop where
 out:z2s_sd t_0 clause_1 K w
noncomputable def z2s_S:Pw.Spec := fun vs w Kv=>un (.g 20 :: tS :: tL :: tL :: tL :: tI :: tI :: tS :: tI :: tI :: tS :: tL :: tL :: tI :: tL :: tI :: tI :: tI :: tI :: tI :: tI :: tS :: []) (fun t_0_0 t_0_1 t_0_2 t_0_3 t_0_4 t_0_5 t_0_6 t_0_7 t_0_8 t_0_9 t_0_10 t_0_11 t_0_12 t_0_13 t_0_14 t_0_15 t_0_16 t_0_17 t_0_18 t_0_19 clause_1=>z2s_sh ⟨t_0_0, t_0_1, t_0_2, t_0_3, t_0_4, t_0_5, t_0_6, t_0_7, t_0_8, t_0_9, t_0_10, t_0_11, t_0_12, t_0_13, t_0_14, t_0_15, t_0_16, t_0_17, t_0_18, t_0_19⟩ clause_1 (kk [tL] Kv)) nF vs w
def z2s_A (_:VW):A := (qr 3 (qr 3 (qs (qr 4 (qc (qr 1 ql) ql)) (qr 4 ql))))
theorem z2s_ok:Sound Tryz.prog 15 z2s_S := okS (x := z2s_A) (fun Kv t_0_0 t_0_1 t_0_2 t_0_3 t_0_4 t_0_5 t_0_6 t_0_7 t_0_8 t_0_9 t_0_10 t_0_11 t_0_12 t_0_13 t_0_14 t_0_15 t_0_16 t_0_17 t_0_18 t_0_19 clause_1=>z2s_sd ⟨t_0_0, t_0_1, t_0_2, t_0_3, t_0_4, t_0_5, t_0_6, t_0_7, t_0_8, t_0_9, t_0_10, t_0_11, t_0_12, t_0_13, t_0_14, t_0_15, t_0_16, t_0_17, t_0_18, t_0_19⟩ clause_1 (kk [tL] Kv)) progMixed (Γ := [(12, z2d_S), (31, z2a_S), (37, z1m_S)]) ⟨.inl z2d_ok, .inl z2a_ok, .inl z1m_ok, trivial⟩ Tryz.call15 Tryz.func15 (fun _=>hEnd)
def z2t_b0 (out_5 t_11:Sl) (t_12 t_13:Int) (N0:Sl->Sl->Int->Int->World->Prop) (K:Pw.T0) (w:World):Prop :=
 cnd (decide (t_13 < t_12))
 (nz t_11.p fun a9=>(0 <= t_13/\t_13 < (t_11.l:Nat))/\∃ x10:ByteArray, w.cell? (a9.add (t_13.toNat * 1))=some (Value.string x10)/\z2a_sh out_5 x10 (fun r12 w11=>cnd (!r12)
 (let w13 := w11.alloc (Obj.cells #[(Value.string x10)] 9)
 apS 1 16 [(Value.string (str []))] 9 out_5 (Sl.mk (some (Addr.mk w11.heap.size 0 none)) 1 1) w13 fun s14 w15=>inR .i64 (t_13 + (1:Int))/\N0 s14 t_11 t_12 (t_13 + (1:Int)) w15)
 (inR .i64 (t_13 + (1:Int))/\N0 out_5 t_11 t_12 (t_13 + (1:Int)) w11)) w)
 (K out_5 w)
def z2t_l0d (out_5 t_11:Sl) (t_12 t_13:Int) (K:Pw.T0) (w:World):Prop :=
 ∃ (I:Sl->Int->World->Prop) (μ:Sl->Int->World->Nat), I out_5 t_13 w/\∀ (out_51:Sl) (t_131:Int) (w1:World), I out_51 t_131 w1 ->
 z2t_b0 out_51 t_11 t_12 t_131 (fun out_5' t_11' t_12' t_13' w'=>((t_11'=t_11/\t_12'=t_12/\True)/\I out_5' t_13' w')/\μ out_5' t_13' w' < μ out_51 t_131 w1) K w1
structure z2t_l0 (out_5 t_11:Sl) (t_12 t_13:Int) (K:Pw.T0) (w:World):Prop where
 out:z2t_l0d out_5 t_11 t_12 t_13 K w
def z2t_sd (old_0 next_1:T43) (K:Pw.T0) (w:World):Prop :=
 let w1 := w.alloc (Obj.cells (T43.cs old_0).toArray 43)
 let w2 := w1.alloc (Obj.cells (T43.cs next_1).toArray 43)
 T43.ld w2 (Addr.mk w1.heap.size 0 none) fun x3=>z2d_sh x3 (fun r5 w4=>T43.ld w4 (Addr.mk w.heap.size 0 none) fun x6=>z2d_sh x6 (fun r8 w7=>z2t_l0 r5 r8 (r8.l:Int) (0:Int) K w7) w4) w2
structure z2t_sh (old_0 next_1:T43) (K:Pw.T0) (w:World):Prop where
 out:z2t_sd old_0 next_1 K w
def z2t_L0 (Kv:VW):Cur [tL, tL, tI, tI] WP := fun out_5 t_11 t_12 t_13=>z2t_l0 out_5 t_11 t_12 t_13 (kk [tL] Kv)
noncomputable def z2t_S:Pw.Spec := fun vs w Kv=>un (.g 20 :: tS :: tL :: tL :: tL :: tI :: tI :: tS :: tI :: tI :: tS :: tL :: tL :: tI :: tL :: tI :: tI :: tI :: tI :: tI :: tI :: .g 20 :: tS :: tL :: tL :: tL :: tI :: tI :: tS :: tI :: tI :: tS :: tL :: tL :: tI :: tL :: tI :: tI :: tI :: tI :: tI :: tI :: []) (fun old_0_0 old_0_1 old_0_2 old_0_3 old_0_4 old_0_5 old_0_6 old_0_7 old_0_8 old_0_9 old_0_10 old_0_11 old_0_12 old_0_13 old_0_14 old_0_15 old_0_16 old_0_17 old_0_18 old_0_19 next_1_0 next_1_1 next_1_2 next_1_3 next_1_4 next_1_5 next_1_6 next_1_7 next_1_8 next_1_9 next_1_10 next_1_11 next_1_12 next_1_13 next_1_14 next_1_15 next_1_16 next_1_17 next_1_18 next_1_19=>z2t_sh ⟨old_0_0, old_0_1, old_0_2, old_0_3, old_0_4, old_0_5, old_0_6, old_0_7, old_0_8, old_0_9, old_0_10, old_0_11, old_0_12, old_0_13, old_0_14, old_0_15, old_0_16, old_0_17, old_0_18, old_0_19⟩ ⟨next_1_0, next_1_1, next_1_2, next_1_3, next_1_4, next_1_5, next_1_6, next_1_7, next_1_8, next_1_9, next_1_10, next_1_11, next_1_12, next_1_13, next_1_14, next_1_15, next_1_16, next_1_17, next_1_18, next_1_19⟩ (kk [tL] Kv)) nF vs w
def z2t_A (Kv:VW):A := (qr 3 (qr 3 (qs (qr 4 (qb (A.loop [5, 11, 12, 13] (uR0 [tL, tL, tI, tI] (z2t_L0 Kv)) (qr 1 (qs (qc ql ql) (qs (qb (qr 3 (qr 4 (qc (qe 5) ql)))) (qe 2))))))) (qr 2 ql))))
theorem z2t_ok:Sound Tryz.prog 41 z2t_S := okS (x := z2t_A) (fun Kv old_0_0 old_0_1 old_0_2 old_0_3 old_0_4 old_0_5 old_0_6 old_0_7 old_0_8 old_0_9 old_0_10 old_0_11 old_0_12 old_0_13 old_0_14 old_0_15 old_0_16 old_0_17 old_0_18 old_0_19 next_1_0 next_1_1 next_1_2 next_1_3 next_1_4 next_1_5 next_1_6 next_1_7 next_1_8 next_1_9 next_1_10 next_1_11 next_1_12 next_1_13 next_1_14 next_1_15 next_1_16 next_1_17 next_1_18 next_1_19=>z2t_sd ⟨old_0_0, old_0_1, old_0_2, old_0_3, old_0_4, old_0_5, old_0_6, old_0_7, old_0_8, old_0_9, old_0_10, old_0_11, old_0_12, old_0_13, old_0_14, old_0_15, old_0_16, old_0_17, old_0_18, old_0_19⟩ ⟨next_1_0, next_1_1, next_1_2, next_1_3, next_1_4, next_1_5, next_1_6, next_1_7, next_1_8, next_1_9, next_1_10, next_1_11, next_1_12, next_1_13, next_1_14, next_1_15, next_1_16, next_1_17, next_1_18, next_1_19⟩ (kk [tL] Kv)) progMixed (Γ := [(12, z2d_S), (31, z2a_S)]) ⟨.inl z2d_ok, .inl z2a_ok, trivial⟩ Tryz.call41 Tryz.func41 (fun Kv=>hStep (hLoop0 (L := z2t_L0 Kv) (fun N0 out_5 t_11 t_12 t_13=>z2t_b0 out_5 t_11 t_12 t_13 N0 (kk [tL] Kv)) (fun ⟨_, a1, a2, _, _⟩ _ h=>let ⟨I, μ, h0, hr⟩ := h.out; ⟨fun b0 b1 b2 b3 w=>(b1=a1/\b2=a2/\True)/\I b0 b3 w, fun b0 _ _ b3 w=>μ b0 b3 w, ⟨⟨rfl, rfl, trivial⟩, h0⟩, fun ⟨_, _, _, _, _⟩ _ ⟨⟨e1, e2, _⟩, hI⟩=>by cases e1; cases e2; exact hr _ _ _ hI⟩)) <| hEnd)
structure z2v_sh (a_0_0:ByteArray) (a_0_1 a_0_2:Int) (a_0_3:ByteArray) (a_0_4:Sl) (b_1_0:ByteArray) (b_1_1 b_1_2:Int) (b_1_3:ByteArray) (b_1_4:Sl) (K:Pw.T1) (w:World):Prop where
 out:Calls Tryz.prog 68 #[(Value.agg #[(Value.string a_0_0), (Value.int .i64 a_0_1), (Value.int .i64 a_0_2), (Value.string a_0_3), (Value.slice a_0_4.p a_0_4.l a_0_4.c)]), (Value.agg #[(Value.string b_1_0), (Value.int .i64 b_1_1), (Value.int .i64 b_1_2), (Value.string b_1_3), (Value.slice b_1_4.p b_1_4.l b_1_4.c)])] w fun e w'=>∃ r0:Bool, e=.returned (Value.bool r0)/\K r0 w'
noncomputable def z2v_S:Pw.Spec := fun vs w Kv =>
 match vs with
 | [.agg ⟨[.string a_0_0, .int .i64 a_0_1, .int .i64 a_0_2, .string a_0_3, .slice a_0_4p a_0_4l a_0_4c]⟩, .agg ⟨[.string b_1_0, .int .i64 b_1_1, .int .i64 b_1_2, .string b_1_3, .slice b_1_4p b_1_4l b_1_4c]⟩]=>z2v_sh a_0_0 a_0_1 a_0_2 a_0_3 ⟨a_0_4p, a_0_4l, a_0_4c⟩ b_1_0 b_1_1 b_1_2 b_1_3 ⟨b_1_4p, b_1_4l, b_1_4c⟩ (fun r0 w'=>Kv (Value.bool r0) w') w
 | _=>False
theorem z2v_okr:Sound Tryz.prog 68 z2v_S := ⟨Tryz.call68, fun vs w Kv h=>by
  unfold z2v_S at h
  split at h
  · exact h.out.mono fun e w' he=>by
      obtain ⟨_, he, hk⟩ := he
      exact ⟨_, he, hk⟩
  · exact h.elim⟩
def z2v_sd (a_0_0:ByteArray) (a_0_1 a_0_2:Int) (a_0_3:ByteArray) (a_0_4:Sl) (b_1_0:ByteArray) (b_1_1 b_1_2:Int) (b_1_3:ByteArray) (b_1_4:Sl) (K:Pw.T1) (w:World):Prop :=
 let w1 := w.alloc (Obj.cells #[(Value.string a_0_0), (Value.int .i64 a_0_1), (Value.int .i64 a_0_2), (Value.string a_0_3), (Value.slice a_0_4.p a_0_4.l a_0_4.c)] 38)
 let w2 := w1.alloc (Obj.cells #[(Value.string b_1_0), (Value.int .i64 b_1_1), (Value.int .i64 b_1_2), (Value.string b_1_3), (Value.slice b_1_4.p b_1_4.l b_1_4.c)] 38)
 ∃ x3:ByteArray, w2.cell? (Addr.mk w.heap.size 0 none)=some (Value.string x3)/\∃ x4:ByteArray, w2.cell? (Addr.mk w1.heap.size 0 none)=some (Value.string x4)/\cnd (decide (x3=x4))
 (∃ x5:Int, w2.cell? (Addr.mk w.heap.size 1 none)=some (Value.int .i64 x5)/\∃ x6:Int, w2.cell? (Addr.mk w.heap.size 2 none)=some (Value.int .i64 x6)/\∃ x7:Int, w2.cell? (Addr.mk w1.heap.size 1 none)=some (Value.int .i64 x7)/\∃ x8:Int, w2.cell? (Addr.mk w1.heap.size 2 none)=some (Value.int .i64 x8)/\cnd (x5 == x7 && (x6 == x8 && true))
 (∃ x9:ByteArray, w2.cell? (Addr.mk w.heap.size 3 none)=some (Value.string x9)/\∃ x10:ByteArray, w2.cell? (Addr.mk w1.heap.size 3 none)=some (Value.string x10)/\cnd (decide (x9=x10))
 (∃ x11:Sl, w2.cell? (Addr.mk w.heap.size 4 none)=some (Value.slice x11.p x11.l x11.c)/\∃ x12:Sl, w2.cell? (Addr.mk w1.heap.size 4 none)=some (Value.slice x12.p x12.l x12.c)/\z04_sh x11 x12 (Value.func (.func 68) #[] #[]) (fun r14 w13=>K r14 w13) w2)
 (K false w2))
 (K false w2))
 (K false w2)
noncomputable def z2v_E:Pw.Env := [(97, z04_S)]
noncomputable def z2v_C:Code := (Tryz.f68.body).getD .skip
noncomputable def z2v_A (Kv:VW):Pw.A :=
 (qr 3 (qs (A.reg (qn 6 (RA.spl 10 (qn 7 (RA.spl 17 (qn 7 (RA.spl 24 (qn 7 RA.done) (qk 5 (qn 2 RA.done)))) (qk 5 (qn 2 (qk 5 (qn 2 RA.done)))))) (qk 5 (qn 2 (qk 5 (qn 2 (qk 5 (qn 2 RA.done))))))))) ql))
noncomputable def z2v_O (Kv:VW):List Ob := (obs Tryz.prog z2v_E 31 (z2v_A Kv) z2v_C (fun _=>retQ Tryz.prog Tryz.f68.results Kv))
theorem z2v_e (Kv:VW) (a_0_0:ByteArray) (a_0_1 a_0_2:Int) (a_0_3:ByteArray) (a_0_4p:Option Addr) (a_0_4l a_0_4c:Nat) (b_1_0:ByteArray) (b_1_1 b_1_2:Int) (b_1_3:ByteArray) (b_1_4p:Option Addr) (b_1_4l b_1_4c:Nat) (w:World):z2v_sd a_0_0 a_0_1 a_0_2 a_0_3 ⟨a_0_4p, a_0_4l, a_0_4c⟩ b_1_0 b_1_1 b_1_2 b_1_3 ⟨b_1_4p, b_1_4l, b_1_4c⟩ (fun r0 w'=>Kv (Value.bool r0) w') w=W Tryz.prog z2v_E 31 (z2v_A Kv) z2v_C [] (retQ Tryz.prog Tryz.f68.results Kv) [] (startS [(Value.agg #[(Value.string a_0_0), (Value.int .i64 a_0_1), (Value.int .i64 a_0_2), (Value.string a_0_3), (Value.slice a_0_4p a_0_4l a_0_4c)]), (Value.agg #[(Value.string b_1_0), (Value.int .i64 b_1_1), (Value.int .i64 b_1_2), (Value.string b_1_3), (Value.slice b_1_4p b_1_4l b_1_4c)])]) w := by kernel_rfl
theorem z2v_n (Kv:VW):obAt (z2v_O Kv) 0=none := by kernel_rfl
theorem z2v_h (Kv:VW):∀ k, holdsAt Tryz.prog z2v_E 31 (z2v_O Kv) k := fun _=>holdsAt_ge (z2v_n Kv) (Nat.zero_le _)
theorem z2v_mk (a_0_0:ByteArray) (a_0_1 a_0_2:Int) (a_0_3:ByteArray) (a_0_4p:Option Addr) (a_0_4l a_0_4c:Nat) (b_1_0:ByteArray) (b_1_1 b_1_2:Int) (b_1_3:ByteArray) (b_1_4p:Option Addr) (b_1_4l b_1_4c:Nat) {K:Bool->World->Prop} {w:World} (h:z2v_sd a_0_0 a_0_1 a_0_2 a_0_3 ⟨a_0_4p, a_0_4l, a_0_4c⟩ b_1_0 b_1_1 b_1_2 b_1_3 ⟨b_1_4p, b_1_4l, b_1_4c⟩ K w):z2v_sh a_0_0 a_0_1 a_0_2 a_0_3 ⟨a_0_4p, a_0_4l, a_0_4c⟩ b_1_0 b_1_1 b_1_2 b_1_3 ⟨b_1_4p, b_1_4l, b_1_4c⟩ K w := by
  have e:(fun r0 w'=>(fun v w'=>∃ r0:Bool, v=(Value.bool r0)/\K r0 w') (Value.bool r0) w')=K := by
    funext r0 w'
    apply propext
    constructor
    · rintro ⟨r0', hv, hk⟩
      cases hv
      exact hk
    · intro hk
      exact ⟨_, rfl, hk⟩
  have h':z2v_sd a_0_0 a_0_1 a_0_2 a_0_3 ⟨a_0_4p, a_0_4l, a_0_4c⟩ b_1_0 b_1_1 b_1_2 b_1_3 ⟨b_1_4p, b_1_4l, b_1_4c⟩ (fun r0 w'=>(fun v w'=>∃ r0:Bool, v=(Value.bool r0)/\K r0 w') (Value.bool r0) w') w := by rw [e]; exact h
  rw [z2v_e (fun v w'=>∃ r0:Bool, v=(Value.bool r0)/\K r0 w')] at h'
  refine ⟨(calls_sound (Γ := z2v_E) progMixed ⟨.inl z04_ok, trivial⟩ Tryz.func68 (code := z2v_C) (by kernel_rfl) (z2v_A (fun v w'=>∃ r0:Bool, v=(Value.bool r0)/\K r0 w')) (fun v w'=>∃ r0:Bool, v=(Value.bool r0)/\K r0 w') (holds_all (z2v_h (fun v w'=>∃ r0:Bool, v=(Value.bool r0)/\K r0 w'))) (Nat.le_of_ble_eq_true (by kernel_rfl)) h').mono fun e w' he=>?_⟩
  obtain ⟨v, rfl, _, rfl, hk⟩ := he
  exact ⟨_, rfl, hk⟩
def z2f_sd (x_0 y_1:Sl) (K:Pw.T1) (w:World):Prop :=
 z22_sh x_0 y_1 (fun r2 w1=>K r2 w1) w
structure z2f_sh (x_0 y_1:Sl) (K:Pw.T1) (w:World):Prop where
 out:z2f_sd x_0 y_1 K w
noncomputable def z2f_S:Pw.Spec := fun vs w Kv=>un [tL, tL] (fun x_0 y_1=>z2f_sh x_0 y_1 (kk [tB] Kv)) nF vs w
def z2f_A (_:VW):A := (qr 1 (qr 4 ql))
theorem z2f_ok:Sound Tryz.prog 71 z2f_S := okS (x := z2f_A) (fun Kv x_0 y_1=>z2f_sd x_0 y_1 (kk [tB] Kv)) progMixed (Γ := [(72, z22_S)]) ⟨.inl z22_ok, trivial⟩ Tryz.call71 Tryz.func71 (fun _=>hEnd)
def z2g_sd (l_0_0 l_0_1:Int) (t_1:Addr) (K:Pw.T1) (w:World):Prop :=
 let w1 := w.alloc (Obj.cells #[(Value.int .i64 l_0_0), (Value.int .i64 l_0_1)] 66)
 let w2 := w1.drew
 ∃ S3:World->Prop, S3 w2/\∃ x4:Int, (∀ w':World, S3 w'->w'.cell? (Addr.mk w.heap.size 0 none)=some (Value.int .i64 x4))/\∃ x5:ByteArray, (∀ w':World, S3 w'->w'.cell? t_1=some (Value.string x5))/\z34_sh x4 (fun r7 w6=>S3 w6/\K (decide (r7=x5)) w6) w2
structure z2g_sh (l_0_0 l_0_1:Int) (t_1:Addr) (K:Pw.T1) (w:World):Prop where
 out:z2g_sd l_0_0 l_0_1 t_1 K w
noncomputable def z2g_S:Pw.Spec := fun vs w Kv=>un [.g 2, tI, tI, tQ] (fun l_0_0 l_0_1 t_1=>z2g_sh l_0_0 l_0_1 t_1 (kk [tB] Kv)) nF vs w
def z2g_A (_:VW):A := (qr 2 (qs (A.drw (dp [0, 1, 3] (DA.eff 2 (dp [4, 5] DA.done)))) ql))
theorem z2g_ok:Sound Tryz.prog 73 z2g_S := okS (x := z2g_A) (fun Kv l_0_0 l_0_1 t_1=>z2g_sd l_0_0 l_0_1 t_1 (kk [tB] Kv)) progMixed (Γ := [(32, z34_S)]) ⟨.inl z34_ok, trivial⟩ Tryz.call73 Tryz.func73 (fun _=>hEnd)
def z0v_sd (l_0:Sl) (is_1:Value) (K:Pw.T6) (w:World):Prop :=
 let w1 := w.alloc (Obj.cells #[(Value.int .i64 0), (Value.int .i64 0)] 66)
 z06_sh l_0 is_1 (fun r3 w2=>cnd (decide (r3 < (0:Int)))
 (∃ x4:Int, w2.cell? (Addr.mk w.heap.size 0 none)=some (Value.int .i64 x4)/\∃ x5:Int, w2.cell? (Addr.mk w.heap.size 1 none)=some (Value.int .i64 x5)/\wrOk w2 (Addr.mk w.heap.size 0 none)/\
 (let w6 := w2.setCell (Addr.mk w.heap.size 0 none) (Value.int .i64 x4)
 wrOk w6 (Addr.mk w.heap.size 1 none)/\
 (let w7 := w6.setCell (Addr.mk w.heap.size 1 none) (Value.int .i64 x5)
 ∃ x8:Int, w7.cell? (Addr.mk w.heap.size 0 none)=some (Value.int .i64 x8)/\∃ x9:Int, w7.cell? (Addr.mk w.heap.size 1 none)=some (Value.int .i64 x9)/\K x8 x9 false w7)))
 (nz l_0.p fun a10=>(0 <= r3/\r3 < (l_0.l:Nat))/\∃ x11:Int, w2.cell? (a10.add (r3.toNat * 2))=some (Value.int .i64 x11)/\∃ x12:Int, w2.cell? ((a10.add (r3.toNat * 2)).add 1)=some (Value.int .i64 x12)/\wrOk w2 (Addr.mk w.heap.size 0 none)/\
 (let w13 := w2.setCell (Addr.mk w.heap.size 0 none) (Value.int .i64 x11)
 wrOk w13 (Addr.mk w.heap.size 1 none)/\
 (let w14 := w13.setCell (Addr.mk w.heap.size 1 none) (Value.int .i64 x12)
 ∃ x15:Int, w14.cell? (Addr.mk w.heap.size 0 none)=some (Value.int .i64 x15)/\∃ x16:Int, w14.cell? (Addr.mk w.heap.size 1 none)=some (Value.int .i64 x16)/\K x15 x16 true w14)))) w1
structure z0v_sh (l_0:Sl) (is_1:Value) (K:Pw.T6) (w:World):Prop where
 out:z0v_sd l_0 is_1 K w
noncomputable def z0v_S:Pw.Spec := fun vs w Kv=>un [tL, tV] (fun l_0 is_1=>z0v_sh l_0 is_1 (kk [.u 2, .g 2, tI, tI, tB] Kv)) nF vs w
def z0v_A (_:VW):A := (qr 2 (qr 4 (qs (qr 2 (qc (qr 3 ql) ql)) (qr 6 ql))))
theorem z0v_ok:Sound Tryz.prog 74 z0v_S := okS (x := z0v_A) (fun Kv l_0 is_1=>z0v_sd l_0 is_1 (kk [.u 2, .g 2, tI, tI, tB] Kv)) progMixed (Γ := [(98, z06_S)]) ⟨.inl z06_ok, trivial⟩ Tryz.call74 Tryz.func74 (fun _=>hEnd)
def z2h_sd (c_0_0:ByteArray) (c_0_1 c_0_2 c_0_3:Int) (c_0_4:Bool) (t_1:Addr) (K:Pw.T1) (w:World):Prop :=
 let w1 := w.alloc (Obj.cells #[(Value.string c_0_0), (Value.int .i64 c_0_1), (Value.int .i64 c_0_2), (Value.int .i64 c_0_3), (Value.bool c_0_4)] 64)
 ∃ x2:ByteArray, w1.cell? (Addr.mk w.heap.size 0 none)=some (Value.string x2)/\((((str [99, 114, 105, 116, 101, 114, 105, 111, 110, 32]).size + x2.size:Nat):Int) <= maxI)/\∃ x3:ByteArray, w1.cell? t_1=some (Value.string x3)/\K (decide (((str [99, 114, 105, 116, 101, 114, 105, 111, 110, 32]) ++ x2)=x3)) w1
structure z2h_sh (c_0_0:ByteArray) (c_0_1 c_0_2 c_0_3:Int) (c_0_4:Bool) (t_1:Addr) (K:Pw.T1) (w:World):Prop where
 out:z2h_sd c_0_0 c_0_1 c_0_2 c_0_3 c_0_4 t_1 K w
noncomputable def z2h_S:Pw.Spec := fun vs w Kv=>un [.g 5, tS, tI, tI, tI, tB, tQ] (fun c_0_0 c_0_1 c_0_2 c_0_3 c_0_4 t_1=>z2h_sh c_0_0 c_0_1 c_0_2 c_0_3 c_0_4 t_1 (kk [tB] Kv)) nF vs w
def z2h_A (_:VW):A := (qr 2 (qr 6 ql))
theorem z2h_ok:Sound Tryz.prog 75 z2h_S := okS (x := z2h_A) (fun Kv c_0_0 c_0_1 c_0_2 c_0_3 c_0_4 t_1=>z2h_sd c_0_0 c_0_1 c_0_2 c_0_3 c_0_4 t_1 (kk [tB] Kv)) progMixed (Γ := []) trivial Tryz.call75 Tryz.func75 (fun _=>hEnd)
def z02_sd (l_0:Sl) (is_1:Value) (K:ByteArray->Int->Int->Int->Bool->Bool->World->Prop) (w:World):Prop :=
 let w1 := w.alloc (Obj.cells #[(Value.string (str [])), (Value.int .i64 0), (Value.int .i64 0), (Value.int .i64 0), (Value.bool false)] 64)
 z00_sh l_0 is_1 (fun r3 w2=>cnd (decide (r3 < (0:Int)))
 (∃ x4:ByteArray, w2.cell? (Addr.mk w.heap.size 0 none)=some (Value.string x4)/\∃ x5:Int, w2.cell? (Addr.mk w.heap.size 1 none)=some (Value.int .i64 x5)/\∃ x6:Int, w2.cell? (Addr.mk w.heap.size 2 none)=some (Value.int .i64 x6)/\∃ x7:Int, w2.cell? (Addr.mk w.heap.size 3 none)=some (Value.int .i64 x7)/\∃ x8:Bool, w2.cell? (Addr.mk w.heap.size 4 none)=some (Value.bool x8)/\stN w2 (Addr.mk w.heap.size 0 none) [(Value.string x4), (Value.int .i64 x5), (Value.int .i64 x6), (Value.int .i64 x7), (Value.bool x8)] fun w9=>∃ x10:ByteArray, w9.cell? (Addr.mk w.heap.size 0 none)=some (Value.string x10)/\∃ x11:Int, w9.cell? (Addr.mk w.heap.size 1 none)=some (Value.int .i64 x11)/\∃ x12:Int, w9.cell? (Addr.mk w.heap.size 2 none)=some (Value.int .i64 x12)/\∃ x13:Int, w9.cell? (Addr.mk w.heap.size 3 none)=some (Value.int .i64 x13)/\∃ x14:Bool, w9.cell? (Addr.mk w.heap.size 4 none)=some (Value.bool x14)/\K x10 x11 x12 x13 x14 false w9)
 (nz l_0.p fun a15=>(0 <= r3/\r3 < (l_0.l:Nat))/\∃ x16:ByteArray, w2.cell? (a15.add (r3.toNat * 5))=some (Value.string x16)/\∃ x17:Int, w2.cell? ((a15.add (r3.toNat * 5)).add 1)=some (Value.int .i64 x17)/\∃ x18:Int, w2.cell? ((a15.add (r3.toNat * 5)).add 2)=some (Value.int .i64 x18)/\∃ x19:Int, w2.cell? ((a15.add (r3.toNat * 5)).add 3)=some (Value.int .i64 x19)/\∃ x20:Bool, w2.cell? ((a15.add (r3.toNat * 5)).add 4)=some (Value.bool x20)/\stN w2 (Addr.mk w.heap.size 0 none) [(Value.string x16), (Value.int .i64 x17), (Value.int .i64 x18), (Value.int .i64 x19), (Value.bool x20)] fun w21=>∃ x22:ByteArray, w21.cell? (Addr.mk w.heap.size 0 none)=some (Value.string x22)/\∃ x23:Int, w21.cell? (Addr.mk w.heap.size 1 none)=some (Value.int .i64 x23)/\∃ x24:Int, w21.cell? (Addr.mk w.heap.size 2 none)=some (Value.int .i64 x24)/\∃ x25:Int, w21.cell? (Addr.mk w.heap.size 3 none)=some (Value.int .i64 x25)/\∃ x26:Bool, w21.cell? (Addr.mk w.heap.size 4 none)=some (Value.bool x26)/\K x22 x23 x24 x25 x26 true w21)) w1
structure z02_sh (l_0:Sl) (is_1:Value) (K:ByteArray->Int->Int->Int->Bool->Bool->World->Prop) (w:World):Prop where
 out:z02_sd l_0 is_1 K w
noncomputable def z02_S:Pw.Spec := fun vs w Kv=>un [tL, tV] (fun l_0 is_1=>z02_sh l_0 is_1 (kk [.u 2, .g 5, tS, tI, tI, tI, tB, tB] Kv)) nF vs w
def z02_A (_:VW):A := (qr 2 (qr 4 (qs (qr 2 (qc (qr 3 ql) ql)) (qr 6 ql))))
theorem z02_ok:Sound Tryz.prog 76 z02_S := okS (x := z02_A) (fun Kv l_0 is_1=>z02_sd l_0 is_1 (kk [.u 2, .g 5, tS, tI, tI, tI, tB, tB] Kv)) progMixed (Γ := [(99, z00_S)]) ⟨.inl z00_ok, trivial⟩ Tryz.call76 Tryz.func76 (fun _=>hEnd)
def z2m_sd (a_0 b_1:T43) (clause_2:ByteArray) (K:Pw.T1) (w:World):Prop :=
 let w1 := w.alloc (Obj.cells (T43.cs a_0).toArray 43)
 let w2 := w1.alloc (Obj.cells (T43.cs b_1).toArray 43)
 let w3 := w2.alloc (Obj.cells #[(Value.string clause_2)] 9)
 ∃ x4:ByteArray, w3.cell? (Addr.mk w2.heap.size 0 none)=some (Value.string x4)/\cnd (decide (x4=(str [110, 97, 109, 101])))
 (∃ x5:ByteArray, w3.cell? (Addr.mk w.heap.size 0 none)=some (Value.string x5)/\∃ x6:ByteArray, w3.cell? (Addr.mk w1.heap.size 0 none)=some (Value.string x6)/\K (decide (x5=x6)) w3)
 (cnd (decide (x4=(str [114, 97, 110, 103, 101])))
 (∃ x7:Int, w3.cell? (Addr.mk w.heap.size 4 none)=some (Value.int .i64 x7)/\∃ x8:Int, w3.cell? (Addr.mk w1.heap.size 4 none)=some (Value.int .i64 x8)/\cnd (x7 == x8)
 (∃ x9:Int, w3.cell? (Addr.mk w.heap.size 5 none)=some (Value.int .i64 x9)/\∃ x10:Int, w3.cell? (Addr.mk w1.heap.size 5 none)=some (Value.int .i64 x10)/\K (x9 == x10) w3)
 (K false w3))
 (cnd (decide (x4=(str [102, 111, 114, 109, 117, 108, 97])))
 (∃ x11:ByteArray, w3.cell? (Addr.mk w.heap.size 6 none)=some (Value.string x11)/\∃ x12:Int, w3.cell? (Addr.mk w.heap.size 7 none)=some (Value.int .i64 x12)/\∃ x13:Int, w3.cell? (Addr.mk w.heap.size 8 none)=some (Value.int .i64 x13)/\∃ x14:ByteArray, w3.cell? (Addr.mk w.heap.size 9 none)=some (Value.string x14)/\∃ x15:Sl, w3.cell? (Addr.mk w.heap.size 10 none)=some (Value.slice x15.p x15.l x15.c)/\∃ x16:ByteArray, w3.cell? (Addr.mk w1.heap.size 6 none)=some (Value.string x16)/\∃ x17:Int, w3.cell? (Addr.mk w1.heap.size 7 none)=some (Value.int .i64 x17)/\∃ x18:Int, w3.cell? (Addr.mk w1.heap.size 8 none)=some (Value.int .i64 x18)/\∃ x19:ByteArray, w3.cell? (Addr.mk w1.heap.size 9 none)=some (Value.string x19)/\∃ x20:Sl, w3.cell? (Addr.mk w1.heap.size 10 none)=some (Value.slice x20.p x20.l x20.c)/\z2v_sh x11 x12 x13 x14 x15 x16 x17 x18 x19 x20 (fun r22 w21=>K r22 w21) w3)
 (cnd (decide (x4=(str [116, 105, 101, 115])))
 (∃ x23:Sl, w3.cell? (Addr.mk w.heap.size 11 none)=some (Value.slice x23.p x23.l x23.c)/\∃ x24:Sl, w3.cell? (Addr.mk w1.heap.size 11 none)=some (Value.slice x24.p x24.l x24.c)/\z2n_sh x23 x24 (fun r26 w25=>K r26 w25) w3)
 (cnd (decide (x4=(str [109, 111, 115, 116])))
 (∃ x27:Int, w3.cell? (Addr.mk w.heap.size 12 none)=some (Value.int .i64 x27)/\∃ x28:Int, w3.cell? (Addr.mk w1.heap.size 12 none)=some (Value.int .i64 x28)/\K (x27 == x28) w3)
 (cnd (decide (x4=(str [99, 111, 109, 98, 111, 115])))
 (∃ x29:Sl, w3.cell? (Addr.mk w.heap.size 13 none)=some (Value.slice x29.p x29.l x29.c)/\∃ x30:Sl, w3.cell? (Addr.mk w1.heap.size 13 none)=some (Value.slice x30.p x30.l x30.c)/\z21_sh x29 x30 (Value.func (.func 71) #[] #[]) (fun r32 w31=>K r32 w31) w3)
 (cnd (decide (x4=(str [98, 117, 100, 103, 101, 116])))
 (∃ x33:Int, w3.cell? (Addr.mk w.heap.size 14 none)=some (Value.int .i64 x33)/\∃ x34:Int, w3.cell? (Addr.mk w1.heap.size 14 none)=some (Value.int .i64 x34)/\K (x33 == x34) w3)
 (cnd (decide (x4=(str [116, 105, 109, 101, 115])))
 (∃ x35:Int, w3.cell? (Addr.mk w.heap.size 15 none)=some (Value.int .i64 x35)/\∃ x36:Int, w3.cell? (Addr.mk w.heap.size 16 none)=some (Value.int .i64 x36)/\∃ x37:Int, w3.cell? (Addr.mk w.heap.size 17 none)=some (Value.int .i64 x37)/\∃ x38:Int, w3.cell? (Addr.mk w.heap.size 18 none)=some (Value.int .i64 x38)/\∃ x39:Int, w3.cell? (Addr.mk w.heap.size 19 none)=some (Value.int .i64 x39)/\∃ x40:Int, w3.cell? (Addr.mk w1.heap.size 15 none)=some (Value.int .i64 x40)/\∃ x41:Int, w3.cell? (Addr.mk w1.heap.size 16 none)=some (Value.int .i64 x41)/\∃ x42:Int, w3.cell? (Addr.mk w1.heap.size 17 none)=some (Value.int .i64 x42)/\∃ x43:Int, w3.cell? (Addr.mk w1.heap.size 18 none)=some (Value.int .i64 x43)/\∃ x44:Int, w3.cell? (Addr.mk w1.heap.size 19 none)=some (Value.int .i64 x44)/\K (x35 == x40 && (x36 == x41 && (x37 == x42 && (x38 == x43 && (x39 == x44 && true))))) w3)
 (∃ x45:ByteArray, w3.cell? (Addr.mk w2.heap.size 0 none)=some (Value.string x45)/\z1o_sh x45 (str [108, 111, 116, 32]) (fun r47 w46=>cnd r47
 (∃ x48:Sl, w46.cell? (Addr.mk w.heap.size 1 none)=some (Value.slice x48.p x48.l x48.c)/\z0v_sh x48 (Value.func (.func 73) #[] #[(Value.pointer (some (Addr.mk w2.heap.size 0 none)))]) (fun r50_0 r50_1 r51 w49=>let w52 := w49.alloc (Obj.cells #[(Value.int .i64 0), (Value.int .i64 0)] 66)
 wrOk w52 (Addr.mk w49.heap.size 0 none)/\
 (let w53 := w52.setCell (Addr.mk w49.heap.size 0 none) (Value.int .i64 r50_0)
 wrOk w53 (Addr.mk w49.heap.size 1 none)/\
 (let w54 := w53.setCell (Addr.mk w49.heap.size 1 none) (Value.int .i64 r50_1)
 ∃ x55:Sl, w54.cell? (Addr.mk w1.heap.size 1 none)=some (Value.slice x55.p x55.l x55.c)/\z0v_sh x55 (Value.func (.func 73) #[] #[(Value.pointer (some (Addr.mk w2.heap.size 0 none)))]) (fun r57_0 r57_1 r58 w56=>let w59 := w56.alloc (Obj.cells #[(Value.int .i64 0), (Value.int .i64 0)] 66)
 wrOk w59 (Addr.mk w56.heap.size 0 none)/\
 (let w60 := w59.setCell (Addr.mk w56.heap.size 0 none) (Value.int .i64 r57_0)
 wrOk w60 (Addr.mk w56.heap.size 1 none)/\
 (let w61 := w60.setCell (Addr.mk w56.heap.size 1 none) (Value.int .i64 r57_1)
 ∃ x62:Int, w61.cell? (Addr.mk w49.heap.size 1 none)=some (Value.int .i64 x62)/\∃ x63:Int, w61.cell? (Addr.mk w56.heap.size 1 none)=some (Value.int .i64 x63)/\K (x62 == x63) w61))) w54))) w46)
 (∃ x64:ByteArray, w46.cell? (Addr.mk w2.heap.size 0 none)=some (Value.string x64)/\z1o_sh x64 (str [99, 114, 105, 116, 101, 114, 105, 111, 110, 32]) (fun r66 w65=>cnd r66
 (∃ x67:Sl, w65.cell? (Addr.mk w.heap.size 2 none)=some (Value.slice x67.p x67.l x67.c)/\z02_sh x67 (Value.func (.func 75) #[] #[(Value.pointer (some (Addr.mk w2.heap.size 0 none)))]) (fun r69_0 r69_1 r69_2 r69_3 r69_4 r70 w68=>let w71 := w68.alloc (Obj.cells #[(Value.string (str [])), (Value.int .i64 0), (Value.int .i64 0), (Value.int .i64 0), (Value.bool false)] 64)
 stN w71 (Addr.mk w68.heap.size 0 none) [(Value.string r69_0), (Value.int .i64 r69_1), (Value.int .i64 r69_2), (Value.int .i64 r69_3), (Value.bool r69_4)] fun w72=>∃ x73:Sl, w72.cell? (Addr.mk w1.heap.size 2 none)=some (Value.slice x73.p x73.l x73.c)/\z02_sh x73 (Value.func (.func 75) #[] #[(Value.pointer (some (Addr.mk w2.heap.size 0 none)))]) (fun r75_0 r75_1 r75_2 r75_3 r75_4 r76 w74=>let w77 := w74.alloc (Obj.cells #[(Value.string (str [])), (Value.int .i64 0), (Value.int .i64 0), (Value.int .i64 0), (Value.bool false)] 64)
 stN w77 (Addr.mk w74.heap.size 0 none) [(Value.string r75_0), (Value.int .i64 r75_1), (Value.int .i64 r75_2), (Value.int .i64 r75_3), (Value.bool r75_4)] fun w78=>∃ x79:ByteArray, w78.cell? (Addr.mk w68.heap.size 0 none)=some (Value.string x79)/\∃ x80:Int, w78.cell? (Addr.mk w68.heap.size 1 none)=some (Value.int .i64 x80)/\∃ x81:Int, w78.cell? (Addr.mk w68.heap.size 2 none)=some (Value.int .i64 x81)/\∃ x82:Int, w78.cell? (Addr.mk w68.heap.size 3 none)=some (Value.int .i64 x82)/\∃ x83:Bool, w78.cell? (Addr.mk w68.heap.size 4 none)=some (Value.bool x83)/\∃ x84:ByteArray, w78.cell? (Addr.mk w74.heap.size 0 none)=some (Value.string x84)/\∃ x85:Int, w78.cell? (Addr.mk w74.heap.size 1 none)=some (Value.int .i64 x85)/\∃ x86:Int, w78.cell? (Addr.mk w74.heap.size 2 none)=some (Value.int .i64 x86)/\∃ x87:Int, w78.cell? (Addr.mk w74.heap.size 3 none)=some (Value.int .i64 x87)/\∃ x88:Bool, w78.cell? (Addr.mk w74.heap.size 4 none)=some (Value.bool x88)/\K (decide (x79=x84) && (x80 == x85 && (x81 == x86 && (x82 == x87 && (x83 == x88 && true))))) w78) w72) w65)
 (let w89 := w65.drew
 ∃ S90:World->Prop, S90 w89/\T43.lds S90 (Addr.mk w.heap.size 0 none) fun x91=>∃ x92:ByteArray, (∀ w':World, S90 w'->w'.cell? (Addr.mk w2.heap.size 0 none)=some (Value.string x92))/\T43.lds S90 (Addr.mk w1.heap.size 0 none) fun x93=>∃ x94:ByteArray, (∀ w':World, S90 w'->w'.cell? (Addr.mk w2.heap.size 0 none)=some (Value.string x94))/\z2i_sh x91 x92 (fun r96_0 r96_1 r96_2 w95=>S90 w95/\z2i_sh x93 x94 (fun r98_0 r98_1 r98_2 w97=>S90 w97/\K (decide (r96_0=r98_0) && (decide (r96_1=r98_1) && (r96_2 == r98_2 && true))) w97) w95) w89)) w46)) w3))))))))
structure z2m_sh (a_0 b_1:T43) (clause_2:ByteArray) (K:Pw.T1) (w:World):Prop where
 out:z2m_sd a_0 b_1 clause_2 K w
noncomputable def z2m_S:Pw.Spec := fun vs w Kv=>un (.g 20 :: tS :: tL :: tL :: tL :: tI :: tI :: tS :: tI :: tI :: tS :: tL :: tL :: tI :: tL :: tI :: tI :: tI :: tI :: tI :: tI :: .g 20 :: tS :: tL :: tL :: tL :: tI :: tI :: tS :: tI :: tI :: tS :: tL :: tL :: tI :: tL :: tI :: tI :: tI :: tI :: tI :: tI :: tS :: []) (fun a_0_0 a_0_1 a_0_2 a_0_3 a_0_4 a_0_5 a_0_6 a_0_7 a_0_8 a_0_9 a_0_10 a_0_11 a_0_12 a_0_13 a_0_14 a_0_15 a_0_16 a_0_17 a_0_18 a_0_19 b_1_0 b_1_1 b_1_2 b_1_3 b_1_4 b_1_5 b_1_6 b_1_7 b_1_8 b_1_9 b_1_10 b_1_11 b_1_12 b_1_13 b_1_14 b_1_15 b_1_16 b_1_17 b_1_18 b_1_19 clause_2=>z2m_sh ⟨a_0_0, a_0_1, a_0_2, a_0_3, a_0_4, a_0_5, a_0_6, a_0_7, a_0_8, a_0_9, a_0_10, a_0_11, a_0_12, a_0_13, a_0_14, a_0_15, a_0_16, a_0_17, a_0_18, a_0_19⟩ ⟨b_1_0, b_1_1, b_1_2, b_1_3, b_1_4, b_1_5, b_1_6, b_1_7, b_1_8, b_1_9, b_1_10, b_1_11, b_1_12, b_1_13, b_1_14, b_1_15, b_1_16, b_1_17, b_1_18, b_1_19⟩ clause_2 (kk [tB] Kv)) nF vs w
def z2m_A (_:VW):A := (qr 4 (qs (qr 1 (qb (qr 2 (qc (qr 6 ql) (qr 2 (qc (qs (A.reg (qn 6 (RA.spl 32 (qn 7 RA.done) (qk 5 (qn 2 RA.done))))) ql) (qr 2 (qc (qr 6 ql) (qr 2 (qc (qr 6 ql) (qr 2 (qc (qr 6 ql) (qr 2 (qc (qr 6 ql) (qr 2 (qc (qr 6 ql) (qr 2 (qc (qr 6 ql) ql)))))))))))))))))) (qs (qr 2 (qc (qr 2 (qr 10 (qr 10 (qr 6 ql)))) ql)) (qs (qr 2 (qc (qr 2 (qr 10 (qr 10 (qr 4 ql)))) ql)) (qs (A.drw (dp [0, 1, 3, 4] (DA.eff 2 (DA.eff 5 (dp [6, 7] DA.done))))) ql)))))
theorem z2m_ok:Sound Tryz.prog 43 z2m_S := okS (x := z2m_A) (fun Kv a_0_0 a_0_1 a_0_2 a_0_3 a_0_4 a_0_5 a_0_6 a_0_7 a_0_8 a_0_9 a_0_10 a_0_11 a_0_12 a_0_13 a_0_14 a_0_15 a_0_16 a_0_17 a_0_18 a_0_19 b_1_0 b_1_1 b_1_2 b_1_3 b_1_4 b_1_5 b_1_6 b_1_7 b_1_8 b_1_9 b_1_10 b_1_11 b_1_12 b_1_13 b_1_14 b_1_15 b_1_16 b_1_17 b_1_18 b_1_19 clause_2=>z2m_sd ⟨a_0_0, a_0_1, a_0_2, a_0_3, a_0_4, a_0_5, a_0_6, a_0_7, a_0_8, a_0_9, a_0_10, a_0_11, a_0_12, a_0_13, a_0_14, a_0_15, a_0_16, a_0_17, a_0_18, a_0_19⟩ ⟨b_1_0, b_1_1, b_1_2, b_1_3, b_1_4, b_1_5, b_1_6, b_1_7, b_1_8, b_1_9, b_1_10, b_1_11, b_1_12, b_1_13, b_1_14, b_1_15, b_1_16, b_1_17, b_1_18, b_1_19⟩ clause_2 (kk [tB] Kv)) progMixed (Γ := [(50, z1o_S), (61, z2i_S), (68, z2v_S), (69, z2n_S), (70, z21_S), (74, z0v_S), (76, z02_S)]) ⟨.inl z1o_ok, .inl z2i_ok, .inl z2v_okr, .inl z2n_ok, .inl z21_ok, .inl z0v_ok, .inl z02_ok, trivial⟩ Tryz.call43 Tryz.func43 (fun _=>hEnd)
def z1s_sd (c_0:ByteArray) (t_1 t_2:Addr) (t_3 t_4:Addr) (K:Pw.T1) (w:World):Prop :=
 ∃ x1:Sl, w.cell? t_1=some (Value.slice x1.p x1.l x1.c)/\z2a_sh x1 c_0 (fun r3 w2=>cnd r3
 (∃ x4:Sl, w2.cell? t_2=some (Value.slice x4.p x4.l x4.c)/\z2a_sh x4 c_0 (fun r6 w5=>cnd r6
 (T43.ld w5 t_3 fun x7=>T43.ld w5 t_4 fun x8=>z2m_sh x7 x8 c_0 (fun r10 w9=>K r10 w9) w5)
 (K false w5)) w2)
 (K false w2)) w
structure z1s_sh (c_0:ByteArray) (t_1 t_2:Addr) (t_3 t_4:Addr) (K:Pw.T1) (w:World):Prop where
 out:z1s_sd c_0 t_1 t_2 t_3 t_4 K w
noncomputable def z1s_S:Pw.Spec := fun vs w Kv=>un [tS, tQ, tQ, tQ, tQ] (fun c_0 t_1 t_2 t_3 t_4=>z1s_sh c_0 t_1 t_2 t_3 t_4 (kk [tB] Kv)) nF vs w
def z1s_A (_:VW):A := (qr 1 (qs (A.reg (qn 4 (RA.spl 10 (qn 5 (RA.spl 15 (qn 6 RA.done) (qk 4 (qn 2 RA.done)))) (qk 3 (qn 2 (qk 4 (qn 2 RA.done))))))) ql))
theorem z1s_ok:Sound Tryz.prog 42 z1s_S := okS (x := z1s_A) (fun Kv c_0 t_1 t_2 t_3 t_4=>z1s_sd c_0 t_1 t_2 t_3 t_4 (kk [tB] Kv)) progMixed (Γ := [(31, z2a_S), (43, z2m_S)]) ⟨.inl z2a_ok, .inl z2m_ok, trivial⟩ Tryz.call42 Tryz.func42 (fun _=>hEnd)
def z2c_sd (old_0 next_1:T43) (K:Pw.T0) (w:World):Prop :=
 let w1 := w.alloc (Obj.cells (T43.cs old_0).toArray 43)
 let w2 := w1.alloc (Obj.cells (T43.cs next_1).toArray 43)
 let w3 := w2.drew
 ∃ S4:World->Prop, S4 w3/\T43.lds S4 (Addr.mk w.heap.size 0 none) fun x5=>T43.lds S4 (Addr.mk w1.heap.size 0 none) fun x6=>(∀ u u':World, Ext u u'->S4 u->S4 u')/\((∀ u:World, ExtL u (u.alloc (Obj.cells #[(Value.slice none 0 0)] 39)))/\(∀ u:World, ExtL u (u.alloc (Obj.cells #[(Value.slice none 0 0)] 39)))/\True)/\∀ w7:World, Ext w3 w7->z2d_sh x5 (fun r9 w8=>Ext w7 w8/\∀ w10:World, Ext w8 w10->z2d_sh x6 (fun r12 w11=>Ext w10 w11/\∀ w13:World, Ext w11 w13->∀ w14:World, Ext w3 w14->ninL w14.heap.size []->Ext (w14.alloc (Obj.cells #[(Value.slice none 0 0)] 39)) w13->∀ w15:World, Ext w3 w15->ninL w15.heap.size [w14.heap.size]->Ext (w15.alloc (Obj.cells #[(Value.slice none 0 0)] 39)) w13->wrOk w13 (Addr.mk w14.heap.size 0 none)/\
 (let w16 := w13.setCell (Addr.mk w14.heap.size 0 none) (Value.slice r9.p r9.l r9.c)
 S4 w16/\wrOk w16 (Addr.mk w15.heap.size 0 none)/\
 (let w17 := w16.setCell (Addr.mk w15.heap.size 0 none) (Value.slice r12.p r12.l r12.c)
 T43.ld w17 (Addr.mk w.heap.size 0 none) fun x18=>T43.ld w17 (Addr.mk w1.heap.size 0 none) fun x19=>z2t_sh x18 x19 (fun r21 w20=>z1m_sh r21 (Value.func (.func 42) #[] #[(Value.pointer (some (Addr.mk w14.heap.size 0 none))), (Value.pointer (some (Addr.mk w15.heap.size 0 none))), (Value.pointer (some (Addr.mk w.heap.size 0 none))), (Value.pointer (some (Addr.mk w1.heap.size 0 none)))]) (fun r23 w22=>K r23 w22) w20) w17))) w10) w7
structure z2c_sh (old_0 next_1:T43) (K:Pw.T0) (w:World):Prop where
 out:z2c_sd old_0 next_1 K w
noncomputable def z2c_S:Pw.Spec := fun vs w Kv=>un (.g 20 :: tS :: tL :: tL :: tL :: tI :: tI :: tS :: tI :: tI :: tS :: tL :: tL :: tI :: tL :: tI :: tI :: tI :: tI :: tI :: tI :: .g 20 :: tS :: tL :: tL :: tL :: tI :: tI :: tS :: tI :: tI :: tS :: tL :: tL :: tI :: tL :: tI :: tI :: tI :: tI :: tI :: tI :: []) (fun old_0_0 old_0_1 old_0_2 old_0_3 old_0_4 old_0_5 old_0_6 old_0_7 old_0_8 old_0_9 old_0_10 old_0_11 old_0_12 old_0_13 old_0_14 old_0_15 old_0_16 old_0_17 old_0_18 old_0_19 next_1_0 next_1_1 next_1_2 next_1_3 next_1_4 next_1_5 next_1_6 next_1_7 next_1_8 next_1_9 next_1_10 next_1_11 next_1_12 next_1_13 next_1_14 next_1_15 next_1_16 next_1_17 next_1_18 next_1_19=>z2c_sh ⟨old_0_0, old_0_1, old_0_2, old_0_3, old_0_4, old_0_5, old_0_6, old_0_7, old_0_8, old_0_9, old_0_10, old_0_11, old_0_12, old_0_13, old_0_14, old_0_15, old_0_16, old_0_17, old_0_18, old_0_19⟩ ⟨next_1_0, next_1_1, next_1_2, next_1_3, next_1_4, next_1_5, next_1_6, next_1_7, next_1_8, next_1_9, next_1_10, next_1_11, next_1_12, next_1_13, next_1_14, next_1_15, next_1_16, next_1_17, next_1_18, next_1_19⟩ (kk [tL] Kv)) nF vs w
def z2c_A (_:VW):A := (qr 3 (qs (A.drw (dp [0, 2] (DA.flo [4, 5] [1, 3] (DA.eff 6 (DA.eff 7 DA.done))))) (qr 6 ql)))
theorem z2c_ok:Sound Tryz.prog 18 z2c_S := okS (x := z2c_A) (fun Kv old_0_0 old_0_1 old_0_2 old_0_3 old_0_4 old_0_5 old_0_6 old_0_7 old_0_8 old_0_9 old_0_10 old_0_11 old_0_12 old_0_13 old_0_14 old_0_15 old_0_16 old_0_17 old_0_18 old_0_19 next_1_0 next_1_1 next_1_2 next_1_3 next_1_4 next_1_5 next_1_6 next_1_7 next_1_8 next_1_9 next_1_10 next_1_11 next_1_12 next_1_13 next_1_14 next_1_15 next_1_16 next_1_17 next_1_18 next_1_19=>z2c_sd ⟨old_0_0, old_0_1, old_0_2, old_0_3, old_0_4, old_0_5, old_0_6, old_0_7, old_0_8, old_0_9, old_0_10, old_0_11, old_0_12, old_0_13, old_0_14, old_0_15, old_0_16, old_0_17, old_0_18, old_0_19⟩ ⟨next_1_0, next_1_1, next_1_2, next_1_3, next_1_4, next_1_5, next_1_6, next_1_7, next_1_8, next_1_9, next_1_10, next_1_11, next_1_12, next_1_13, next_1_14, next_1_15, next_1_16, next_1_17, next_1_18, next_1_19⟩ (kk [tL] Kv)) progMixed (Γ := [(12, z2d_S), (37, z1m_S), (41, z2t_S)]) ⟨.inl z2d_ok, .inl z1m_ok, .inl z2t_ok, trivial⟩ Tryz.call18 Tryz.func18 (fun _=>hEnd)
def z19_sd (u_0:ByteArray) (t_1:Addr) (K:Pw.T1) (w:World):Prop :=
 ∃ x1:Option Nat, w.cell? t_1=some (Value.map x1)/\nzm x1 fun m2=>∃ l3:List (ByteArray × Bool), Ms w m2 (l3.map fun p=>(p.1, Value.bool p.2))/\K (sgetD false u_0 l3) w
structure z19_sh (u_0:ByteArray) (t_1:Addr) (K:Pw.T1) (w:World):Prop where
 out:z19_sd u_0 t_1 K w
noncomputable def z19_S:Pw.Spec := fun vs w Kv=>un [tS, tQ] (fun u_0 t_1=>z19_sh u_0 t_1 (kk [tB] Kv)) nF vs w
def z19_A (_:VW):A := (qr 1 (qr 4 ql))
theorem z19_ok:Sound Tryz.prog 47 z19_S := okS (x := z19_A) (fun Kv u_0 t_1=>z19_sd u_0 t_1 (kk [tB] Kv)) progMixed (Γ := []) trivial Tryz.call47 Tryz.func47 (fun _=>hEnd)
def z1a_sd (c_0:ByteArray) (t_1:Addr) (K:Pw.T1) (w:World):Prop :=
 ∃ x1:Option Nat, w.cell? t_1=some (Value.map x1)/\nzm x1 fun m2=>∃ l3:List (ByteArray × Bool), Ms w m2 (l3.map fun p=>(p.1, Value.bool p.2))/\K (!(sgetD false c_0 l3)) w
structure z1a_sh (c_0:ByteArray) (t_1:Addr) (K:Pw.T1) (w:World):Prop where
 out:z1a_sd c_0 t_1 K w
noncomputable def z1a_S:Pw.Spec := fun vs w Kv=>un [tS, tQ] (fun c_0 t_1=>z1a_sh c_0 t_1 (kk [tB] Kv)) nF vs w
def z1a_A (_:VW):A := (qr 1 (qr 5 ql))
theorem z1a_ok:Sound Tryz.prog 48 z1a_S := okS (x := z1a_A) (fun Kv c_0 t_1=>z1a_sd c_0 t_1 (kk [tB] Kv)) progMixed (Γ := []) trivial Tryz.call48 Tryz.func48 (fun _=>hEnd)
def z24_b3 (old_2 next_3:Addr) (all_5:Sl) (in_6:Addr) (c_10:ByteArray) (t_29 t_30:Int) (t_32:Sl) (t_33 t_34:Int) (t_40:Sl) (t_41 t_42:Int) (N3:Addr->Addr->Sl->Addr->ByteArray->Int->Int->Sl->Int->Int->Sl->Int->Int->World->Prop) (N2:Addr->Addr->Sl->Addr->Int->Int->Sl->Int->Int->World->Prop) (N1:Addr->Addr->Sl->Addr->Int->Int->World->Prop) (K:Pw.T0) (w:World):Prop :=
 cnd (decide (t_42 < t_41))
 (nz t_40.p fun a24=>(0 <= t_42/\t_42 < (t_40.l:Nat))/\T43.ld w (a24.add (t_42.toNat * 20)) fun x25=>let w26 := w.alloc (Obj.cells (T43.cs (T43.mk (str []) (Sl.mk none 0 0) (Sl.mk none 0 0) (Sl.mk none 0 0) (0:Int) (0:Int) (str []) (0:Int) (0:Int) (str []) (Sl.mk none 0 0) (Sl.mk none 0 0) (0:Int) (Sl.mk none 0 0) (0:Int) (0:Int) (0:Int) (0:Int) (0:Int) (0:Int))).toArray 43)
 stN w26 (Addr.mk w.heap.size 0 none) (T43.cs x25) fun w27=>let w28 := w27.drew
 ∃ S29:World->Prop, S29 w28/\∃ x30:Option Nat, (∀ w':World, S29 w'->w'.cell? in_6=some (Value.map x30))/\∃ x31:Option Nat, (∀ w':World, S29 w'->w'.cell? in_6=some (Value.map x31))/\nzm x31 fun m32=>∃ l33:List (ByteArray × Bool), Ms w28 m32 (l33.map fun p=>(p.1, Value.bool p.2))/\S29 w28/\cnd (sgetD false c_10 l33)
 (nzm x30 fun m34=>(∃ l:List (ByteArray × Value), Ms w28 m34 l)/\let w35 := w28.sset m34 c_10 (Value.bool true)
 inR .i64 (t_42 + (1:Int))/\N3 old_2 next_3 all_5 in_6 c_10 t_29 t_30 t_32 t_33 t_34 t_40 t_41 (t_42 + (1:Int)) w35)
 (T43.lds S29 (Addr.mk w.heap.size 0 none) fun x36=>z2s_sh x36 c_10 (fun r38 w37=>S29 w37/\z0t_sh r38 (Value.func (.func 47) #[] #[(Value.pointer (some in_6))]) (fun r40 w39=>S29 w39/\nzm x30 fun m41=>(∃ l:List (ByteArray × Value), Ms w39 m41 l)/\let w42 := w39.sset m41 c_10 (Value.bool r40)
 inR .i64 (t_42 + (1:Int))/\N3 old_2 next_3 all_5 in_6 c_10 t_29 t_30 t_32 t_33 t_34 t_40 t_41 (t_42 + (1:Int)) w42) w37) w28))
 (inR .i64 (t_34 + (1:Int))/\N2 old_2 next_3 all_5 in_6 t_29 t_30 t_32 t_33 (t_34 + (1:Int)) w)
def z24_l3d (old_2 next_3:Addr) (all_5:Sl) (in_6:Addr) (c_10:ByteArray) (t_29 t_30:Int) (t_32:Sl) (t_33 t_34:Int) (t_40:Sl) (t_41 t_42:Int) (N2:Addr->Addr->Sl->Addr->Int->Int->Sl->Int->Int->World->Prop) (N1:Addr->Addr->Sl->Addr->Int->Int->World->Prop) (K:Pw.T0) (w:World):Prop :=
 ∃ (I:Int->World->Prop) (μ:Int->World->Nat), I t_42 w/\∀ (t_421:Int) (w1:World), I t_421 w1 ->
 z24_b3 old_2 next_3 all_5 in_6 c_10 t_29 t_30 t_32 t_33 t_34 t_40 t_41 t_421 (fun old_2' next_3' all_5' in_6' c_10' t_29' t_30' t_32' t_33' t_34' t_40' t_41' t_42' w'=>((old_2'=old_2/\next_3'=next_3/\all_5'=all_5/\in_6'=in_6/\c_10'=c_10/\t_29'=t_29/\t_30'=t_30/\t_32'=t_32/\t_33'=t_33/\t_34'=t_34/\t_40'=t_40/\t_41'=t_41/\True)/\I t_42' w')/\μ t_42' w' < μ t_421 w1) N2 N1 K w1
structure z24_l3 (old_2 next_3:Addr) (all_5:Sl) (in_6:Addr) (c_10:ByteArray) (t_29 t_30:Int) (t_32:Sl) (t_33 t_34:Int) (t_40:Sl) (t_41 t_42:Int) (N2:Addr->Addr->Sl->Addr->Int->Int->Sl->Int->Int->World->Prop) (N1:Addr->Addr->Sl->Addr->Int->Int->World->Prop) (K:Pw.T0) (w:World):Prop where
 out:z24_l3d old_2 next_3 all_5 in_6 c_10 t_29 t_30 t_32 t_33 t_34 t_40 t_41 t_42 N2 N1 K w
def z24_b2 (old_2 next_3:Addr) (all_5:Sl) (in_6:Addr) (t_29 t_30:Int) (t_32:Sl) (t_33 t_34:Int) (N2:Addr->Addr->Sl->Addr->Int->Int->Sl->Int->Int->World->Prop) (N1:Addr->Addr->Sl->Addr->Int->Int->World->Prop) (K:Pw.T0) (w:World):Prop :=
 cnd (decide (t_34 < t_33))
 (nz t_32.p fun a19=>(0 <= t_34/\t_34 < (t_32.l:Nat))/\∃ x20:ByteArray, w.cell? (a19.add (t_34.toNat * 1))=some (Value.string x20)/\T43.ld w old_2 fun x21=>T43.ld w next_3 fun x22=>let w23 := w.alloc (Obj.cells #[(Value.string x21.f0), (Value.slice x21.f1.p x21.f1.l x21.f1.c), (Value.slice x21.f2.p x21.f2.l x21.f2.c), (Value.slice x21.f3.p x21.f3.l x21.f3.c), (Value.int .i64 x21.f4), (Value.int .i64 x21.f5), (Value.string x21.f6), (Value.int .i64 x21.f7), (Value.int .i64 x21.f8), (Value.string x21.f9), (Value.slice x21.f10.p x21.f10.l x21.f10.c), (Value.slice x21.f11.p x21.f11.l x21.f11.c), (Value.int .i64 x21.f12), (Value.slice x21.f13.p x21.f13.l x21.f13.c), (Value.int .i64 x21.f14), (Value.int .i64 x21.f15), (Value.int .i64 x21.f16), (Value.int .i64 x21.f17), (Value.int .i64 x21.f18), (Value.int .i64 x21.f19), (Value.string x22.f0), (Value.slice x22.f1.p x22.f1.l x22.f1.c), (Value.slice x22.f2.p x22.f2.l x22.f2.c), (Value.slice x22.f3.p x22.f3.l x22.f3.c), (Value.int .i64 x22.f4), (Value.int .i64 x22.f5), (Value.string x22.f6), (Value.int .i64 x22.f7), (Value.int .i64 x22.f8), (Value.string x22.f9), (Value.slice x22.f10.p x22.f10.l x22.f10.c), (Value.slice x22.f11.p x22.f11.l x22.f11.c), (Value.int .i64 x22.f12), (Value.slice x22.f13.p x22.f13.l x22.f13.c), (Value.int .i64 x22.f14), (Value.int .i64 x22.f15), (Value.int .i64 x22.f16), (Value.int .i64 x22.f17), (Value.int .i64 x22.f18), (Value.int .i64 x22.f19)] 43)
 z24_l3 old_2 next_3 all_5 in_6 x20 t_29 t_30 t_32 t_33 t_34 (Sl.mk (some (Addr.mk w.heap.size 0 none)) 2 2) (2:Int) (0:Int) N2 N1 K w23)
 (inR .i64 (t_30 + (1:Int))/\N1 old_2 next_3 all_5 in_6 t_29 (t_30 + (1:Int)) w)
def z24_l2d (old_2 next_3:Addr) (all_5:Sl) (in_6:Addr) (t_29 t_30:Int) (t_32:Sl) (t_33 t_34:Int) (N1:Addr->Addr->Sl->Addr->Int->Int->World->Prop) (K:Pw.T0) (w:World):Prop :=
 ∃ (I:Int->World->Prop) (μ:Int->World->Nat), I t_34 w/\∀ (t_341:Int) (w1:World), I t_341 w1 ->
 z24_b2 old_2 next_3 all_5 in_6 t_29 t_30 t_32 t_33 t_341 (fun old_2' next_3' all_5' in_6' t_29' t_30' t_32' t_33' t_34' w'=>((old_2'=old_2/\next_3'=next_3/\all_5'=all_5/\in_6'=in_6/\t_29'=t_29/\t_30'=t_30/\t_32'=t_32/\t_33'=t_33/\True)/\I t_34' w')/\μ t_34' w' < μ t_341 w1) N1 K w1
structure z24_l2 (old_2 next_3:Addr) (all_5:Sl) (in_6:Addr) (t_29 t_30:Int) (t_32:Sl) (t_33 t_34:Int) (N1:Addr->Addr->Sl->Addr->Int->Int->World->Prop) (K:Pw.T0) (w:World):Prop where
 out:z24_l2d old_2 next_3 all_5 in_6 t_29 t_30 t_32 t_33 t_34 N1 K w
def z24_b1 (old_2 next_3:Addr) (all_5:Sl) (in_6:Addr) (t_29 t_30:Int) (N1:Addr->Addr->Sl->Addr->Int->Int->World->Prop) (K:Pw.T0) (w:World):Prop :=
 cnd (decide (t_30 < t_29))
 (z24_l2 old_2 next_3 all_5 in_6 t_29 t_30 all_5 (all_5.l:Int) (0:Int) N1 K w)
 (z1m_sh all_5 (Value.func (.func 48) #[] #[(Value.pointer (some in_6))]) (fun r44 w43=>K r44 w43) w)
def z24_l1d (old_2 next_3:Addr) (all_5:Sl) (in_6:Addr) (t_29 t_30:Int) (K:Pw.T0) (w:World):Prop :=
 ∃ (I:Int->World->Prop) (μ:Int->World->Nat), I t_30 w/\∀ (t_301:Int) (w1:World), I t_301 w1 ->
 z24_b1 old_2 next_3 all_5 in_6 t_29 t_301 (fun old_2' next_3' all_5' in_6' t_29' t_30' w'=>((old_2'=old_2/\next_3'=next_3/\all_5'=all_5/\in_6'=in_6/\t_29'=t_29/\True)/\I t_30' w')/\μ t_30' w' < μ t_301 w1) K w1
structure z24_l1 (old_2 next_3:Addr) (all_5:Sl) (in_6:Addr) (t_29 t_30:Int) (K:Pw.T0) (w:World):Prop where
 out:z24_l1d old_2 next_3 all_5 in_6 t_29 t_30 K w
def z24_b0 (old_2 next_3:Addr) (all_5:Sl) (in_6:Addr) (t_19:Sl) (t_20 t_21:Int) (N0:Addr->Addr->Sl->Addr->Sl->Int->Int->World->Prop) (K:Pw.T0) (w:World):Prop :=
 cnd (decide (t_21 < t_20))
 (nz t_19.p fun a14=>(0 <= t_21/\t_21 < (t_19.l:Nat))/\∃ x15:ByteArray, w.cell? (a14.add (t_21.toNat * 1))=some (Value.string x15)/\∃ x16:Option Nat, w.cell? in_6=some (Value.map x16)/\nzm x16 fun m17=>(∃ l:List (ByteArray × Value), Ms w m17 l)/\let w18 := w.sset m17 x15 (Value.bool true)
 inR .i64 (t_21 + (1:Int))/\N0 old_2 next_3 all_5 in_6 t_19 t_20 (t_21 + (1:Int)) w18)
 (z24_l1 old_2 next_3 all_5 in_6 (all_5.l:Int) (0:Int) K w)
def z24_l0d (old_2 next_3:Addr) (all_5:Sl) (in_6:Addr) (t_19:Sl) (t_20 t_21:Int) (K:Pw.T0) (w:World):Prop :=
 ∃ (I:Int->World->Prop) (μ:Int->World->Nat), I t_21 w/\∀ (t_211:Int) (w1:World), I t_211 w1 ->
 z24_b0 old_2 next_3 all_5 in_6 t_19 t_20 t_211 (fun old_2' next_3' all_5' in_6' t_19' t_20' t_21' w'=>((old_2'=old_2/\next_3'=next_3/\all_5'=all_5/\in_6'=in_6/\t_19'=t_19/\t_20'=t_20/\True)/\I t_21' w')/\μ t_21' w' < μ t_211 w1) K w1
structure z24_l0 (old_2 next_3:Addr) (all_5:Sl) (in_6:Addr) (t_19:Sl) (t_20 t_21:Int) (K:Pw.T0) (w:World):Prop where
 out:z24_l0d old_2 next_3 all_5 in_6 t_19 t_20 t_21 K w
def z24_sd (old_0 next_1:T43) (K:Pw.T0) (w:World):Prop :=
 let w1 := w.alloc (Obj.cells (T43.cs old_0).toArray 43)
 let w2 := w1.alloc (Obj.cells (T43.cs next_1).toArray 43)
 T43.ld w2 (Addr.mk w.heap.size 0 none) fun x3=>T43.ld w2 (Addr.mk w1.heap.size 0 none) fun x4=>z2t_sh x3 x4 (fun r6 w5=>let w7 := w5.alloc (Obj.map #[] 0)
 let w8 := w7.alloc (Obj.cells #[(Value.map none)] 58)
 wrOk w8 (Addr.mk w7.heap.size 0 none)/\
 (let w9 := w8.setCell (Addr.mk w7.heap.size 0 none) (Value.map (some w5.heap.size))
 T43.ld w9 (Addr.mk w.heap.size 0 none) fun x10=>T43.ld w9 (Addr.mk w1.heap.size 0 none) fun x11=>z2c_sh x10 x11 (fun r13 w12=>z24_l0 (Addr.mk w.heap.size 0 none) (Addr.mk w1.heap.size 0 none) r6 (Addr.mk w7.heap.size 0 none) r13 (r13.l:Int) (0:Int) K w12) w9)) w2
structure z24_sh (old_0 next_1:T43) (K:Pw.T0) (w:World):Prop where
 out:z24_sd old_0 next_1 K w
def z24_L0 (Kv:VW):Cur [tQ, tQ, tL, tQ, tL, tI, tI] WP := fun old_2 next_3 all_5 in_6 t_19 t_20 t_21=>z24_l0 old_2 next_3 all_5 in_6 t_19 t_20 t_21 (kk [tL] Kv)
def z24_L1 (Kv:VW):Cur [tQ, tQ, tL, tQ, tI, tI] WP := fun old_2 next_3 all_5 in_6 t_29 t_30=>z24_l1 old_2 next_3 all_5 in_6 t_29 t_30 (kk [tL] Kv)
def z24_L2 (Kv:VW):Cur [tQ, tQ, tL, tQ, tI, tI] WP->Cur [tQ, tQ, tL, tQ, tI, tI, tL, tI, tI] WP := fun N1 old_2 next_3 all_5 in_6 t_29 t_30 t_32 t_33 t_34=>z24_l2 old_2 next_3 all_5 in_6 t_29 t_30 t_32 t_33 t_34 N1 (kk [tL] Kv)
def z24_L3 (Kv:VW):Cur [tQ, tQ, tL, tQ, tI, tI, tL, tI, tI] WP->Cur [tQ, tQ, tL, tQ, tI, tI] WP->Cur [tQ, tQ, tL, tQ, tS, tI, tI, tL, tI, tI, tL, tI, tI] WP := fun N2 N1 old_2 next_3 all_5 in_6 c_10 t_29 t_30 t_32 t_33 t_34 t_40 t_41 t_42=>z24_l3 old_2 next_3 all_5 in_6 c_10 t_29 t_30 t_32 t_33 t_34 t_40 t_41 t_42 N2 N1 (kk [tL] Kv)
noncomputable def z24_S:Pw.Spec := fun vs w Kv=>un (.g 20 :: tS :: tL :: tL :: tL :: tI :: tI :: tS :: tI :: tI :: tS :: tL :: tL :: tI :: tL :: tI :: tI :: tI :: tI :: tI :: tI :: .g 20 :: tS :: tL :: tL :: tL :: tI :: tI :: tS :: tI :: tI :: tS :: tL :: tL :: tI :: tL :: tI :: tI :: tI :: tI :: tI :: tI :: []) (fun old_0_0 old_0_1 old_0_2 old_0_3 old_0_4 old_0_5 old_0_6 old_0_7 old_0_8 old_0_9 old_0_10 old_0_11 old_0_12 old_0_13 old_0_14 old_0_15 old_0_16 old_0_17 old_0_18 old_0_19 next_1_0 next_1_1 next_1_2 next_1_3 next_1_4 next_1_5 next_1_6 next_1_7 next_1_8 next_1_9 next_1_10 next_1_11 next_1_12 next_1_13 next_1_14 next_1_15 next_1_16 next_1_17 next_1_18 next_1_19=>z24_sh ⟨old_0_0, old_0_1, old_0_2, old_0_3, old_0_4, old_0_5, old_0_6, old_0_7, old_0_8, old_0_9, old_0_10, old_0_11, old_0_12, old_0_13, old_0_14, old_0_15, old_0_16, old_0_17, old_0_18, old_0_19⟩ ⟨next_1_0, next_1_1, next_1_2, next_1_3, next_1_4, next_1_5, next_1_6, next_1_7, next_1_8, next_1_9, next_1_10, next_1_11, next_1_12, next_1_13, next_1_14, next_1_15, next_1_16, next_1_17, next_1_18, next_1_19⟩ (kk [tL] Kv)) nF vs w
def z24_A (Kv:VW):A := (qr 3 (qr 4 (qr 3 (qs (qr 5 (qb (A.loop [2, 3, 5, 6, 19, 20, 21] (uR0 [tQ, tQ, tL, tQ, tL, tI, tI] (z24_L0 Kv)) (qr 1 (qs (qc ql ql) (qs (qb (qr 3 (qe 3))) (qe 2))))))) (qs (qr 3 (qb (A.loop [2, 3, 5, 6, 29, 30] (uR0 [tQ, tQ, tL, tQ, tI, tI] (z24_L1 Kv)) (qr 1 (qs (qc ql ql) (qs (qb (qr 3 (qb (A.loop [2, 3, 5, 6, 29, 30, 32, 33, 34] (uR1 [tQ, tQ, tL, tQ, tI, tI] [tQ, tQ, tL, tQ, tI, tI, tL, tI, tI] (z24_L2 Kv)) (qr 1 (qs (qc ql ql) (qs (qb (qr 3 (qr 5 (qb (A.loop [2, 3, 5, 6, 10, 29, 30, 32, 33, 34, 40, 41, 42] (uR2 [tQ, tQ, tL, tQ, tI, tI, tL, tI, tI] [tQ, tQ, tL, tQ, tI, tI] [tQ, tQ, tL, tQ, tS, tI, tI, tL, tI, tI, tL, tI, tI] (z24_L3 Kv)) (qr 1 (qs (qc ql ql) (qs (qb (qr 4 (A.drw (dp [0, 1, 2, 3] (DA.eff 4 (DA.pur 5 (DA.spl 51 (DA.skp 6 (DA.skp 7 (DA.skp 9 (DA.skp 8 (DA.skp 10 (DA.pur 11 (DA.eff 12 DA.done))))))) (dp [6, 7, 9] (DA.eff 8 (DA.eff 10 (DA.pur 11 (DA.eff 12 DA.done)))))))))))) (qe 2))))))))) (qe 2)))))))) (qe 2))))))) (qr 4 ql))))))
theorem z24_ok:Sound Tryz.prog 20 z24_S := okS (x := z24_A) (fun Kv old_0_0 old_0_1 old_0_2 old_0_3 old_0_4 old_0_5 old_0_6 old_0_7 old_0_8 old_0_9 old_0_10 old_0_11 old_0_12 old_0_13 old_0_14 old_0_15 old_0_16 old_0_17 old_0_18 old_0_19 next_1_0 next_1_1 next_1_2 next_1_3 next_1_4 next_1_5 next_1_6 next_1_7 next_1_8 next_1_9 next_1_10 next_1_11 next_1_12 next_1_13 next_1_14 next_1_15 next_1_16 next_1_17 next_1_18 next_1_19=>z24_sd ⟨old_0_0, old_0_1, old_0_2, old_0_3, old_0_4, old_0_5, old_0_6, old_0_7, old_0_8, old_0_9, old_0_10, old_0_11, old_0_12, old_0_13, old_0_14, old_0_15, old_0_16, old_0_17, old_0_18, old_0_19⟩ ⟨next_1_0, next_1_1, next_1_2, next_1_3, next_1_4, next_1_5, next_1_6, next_1_7, next_1_8, next_1_9, next_1_10, next_1_11, next_1_12, next_1_13, next_1_14, next_1_15, next_1_16, next_1_17, next_1_18, next_1_19⟩ (kk [tL] Kv)) progMixed (Γ := [(15, z2s_S), (18, z2c_S), (37, z1m_S), (41, z2t_S), (46, z0t_S)]) ⟨.inl z2s_ok, .inl z2c_ok, .inl z1m_ok, .inl z2t_ok, .inl z0t_ok, trivial⟩ Tryz.call20 Tryz.func20 (fun Kv=>hStep (hLoop0 (L := z24_L0 Kv) (fun N0 old_2 next_3 all_5 in_6 t_19 t_20 t_21=>z24_b0 old_2 next_3 all_5 in_6 t_19 t_20 t_21 N0 (kk [tL] Kv)) (fun ⟨a0, a1, a2, a3, a4, a5, _, _⟩ _ h=>let ⟨I, μ, h0, hr⟩ := h.out; ⟨fun b0 b1 b2 b3 b4 b5 b6 w=>(b0=a0/\b1=a1/\b2=a2/\b3=a3/\b4=a4/\b5=a5/\True)/\I b6 w, fun _ _ _ _ _ _ b6 w=>μ b6 w, ⟨⟨rfl, rfl, rfl, rfl, rfl, rfl, trivial⟩, h0⟩, fun ⟨_, _, _, _, _, _, _, _⟩ _ ⟨⟨e0, e1, e2, e3, e4, e5, _⟩, hI⟩=>by cases e0; cases e1; cases e2; cases e3; cases e4; cases e5; exact hr _ _ hI⟩)) <| hStep (hLoop0 (L := z24_L1 Kv) (fun N1 old_2 next_3 all_5 in_6 t_29 t_30=>z24_b1 old_2 next_3 all_5 in_6 t_29 t_30 N1 (kk [tL] Kv)) (fun ⟨a0, a1, a2, a3, a4, _, _⟩ _ h=>let ⟨I, μ, h0, hr⟩ := h.out; ⟨fun b0 b1 b2 b3 b4 b5 w=>(b0=a0/\b1=a1/\b2=a2/\b3=a3/\b4=a4/\True)/\I b5 w, fun _ _ _ _ _ b5 w=>μ b5 w, ⟨⟨rfl, rfl, rfl, rfl, rfl, trivial⟩, h0⟩, fun ⟨_, _, _, _, _, _, _⟩ _ ⟨⟨e0, e1, e2, e3, e4, _⟩, hI⟩=>by cases e0; cases e1; cases e2; cases e3; cases e4; exact hr _ _ hI⟩)) <| hStep (hLoop1 (L := z24_L2 Kv) (fun N1 N2 old_2 next_3 all_5 in_6 t_29 t_30 t_32 t_33 t_34=>z24_b2 old_2 next_3 all_5 in_6 t_29 t_30 t_32 t_33 t_34 N2 N1 (kk [tL] Kv)) (fun _ ⟨a0, a1, a2, a3, a4, a5, a6, a7, _, _⟩ _ h=>let ⟨I, μ, h0, hr⟩ := h.out; ⟨fun b0 b1 b2 b3 b4 b5 b6 b7 b8 w=>(b0=a0/\b1=a1/\b2=a2/\b3=a3/\b4=a4/\b5=a5/\b6=a6/\b7=a7/\True)/\I b8 w, fun _ _ _ _ _ _ _ _ b8 w=>μ b8 w, ⟨⟨rfl, rfl, rfl, rfl, rfl, rfl, rfl, rfl, trivial⟩, h0⟩, fun ⟨_, _, _, _, _, _, _, _, _, _⟩ _ ⟨⟨e0, e1, e2, e3, e4, e5, e6, e7, _⟩, hI⟩=>by cases e0; cases e1; cases e2; cases e3; cases e4; cases e5; cases e6; cases e7; exact hr _ _ hI⟩)) <| hStep (hLoop2 (L := z24_L3 Kv) (fun N2 N1 N3 old_2 next_3 all_5 in_6 c_10 t_29 t_30 t_32 t_33 t_34 t_40 t_41 t_42=>z24_b3 old_2 next_3 all_5 in_6 c_10 t_29 t_30 t_32 t_33 t_34 t_40 t_41 t_42 N3 N2 N1 (kk [tL] Kv)) (fun _ _ ⟨a0, a1, a2, a3, a4, a5, a6, a7, a8, a9, a10, a11, _, _⟩ _ h=>let ⟨I, μ, h0, hr⟩ := h.out; ⟨fun b0 b1 b2 b3 b4 b5 b6 b7 b8 b9 b10 b11 b12 w=>(b0=a0/\b1=a1/\b2=a2/\b3=a3/\b4=a4/\b5=a5/\b6=a6/\b7=a7/\b8=a8/\b9=a9/\b10=a10/\b11=a11/\True)/\I b12 w, fun _ _ _ _ _ _ _ _ _ _ _ _ b12 w=>μ b12 w, ⟨⟨rfl, rfl, rfl, rfl, rfl, rfl, rfl, rfl, rfl, rfl, rfl, rfl, trivial⟩, h0⟩, fun ⟨_, _, _, _, _, _, _, _, _, _, _, _, _, _⟩ _ ⟨⟨e0, e1, e2, e3, e4, e5, e6, e7, e8, e9, e10, e11, _⟩, hI⟩=>by cases e0; cases e1; cases e2; cases e3; cases e4; cases e5; cases e6; cases e7; cases e8; cases e9; cases e10; cases e11; exact hr _ _ hI⟩)) <| hEnd)
def z0u_sd (id_0:Int) (t_1:Addr) (K:Pw.T1) (w:World):Prop :=
 let w1 := w.drew
 ∃ S2:World->Prop, S2 w1/\∃ x3:ByteArray, (∀ w':World, S2 w'->w'.cell? t_1=some (Value.string x3))/\z34_sh id_0 (fun r5 w4=>S2 w4/\K (decide (r5=x3)) w4) w1
structure z0u_sh (id_0:Int) (t_1:Addr) (K:Pw.T1) (w:World):Prop where
 out:z0u_sd id_0 t_1 K w
noncomputable def z0u_S:Pw.Spec := fun vs w Kv=>un [tI, tQ] (fun id_0 t_1=>z0u_sh id_0 t_1 (kk [tB] Kv)) nF vs w
def z0u_A (_:VW):A := (qr 1 (qs (A.drw (dp [0, 2] (DA.eff 1 (dp [3, 4] DA.done)))) ql))
theorem z0u_ok:Sound Tryz.prog 52 z0u_S := okS (x := z0u_A) (fun Kv id_0 t_1=>z0u_sd id_0 t_1 (kk [tB] Kv)) progMixed (Γ := [(32, z34_S)]) ⟨.inl z34_ok, trivial⟩ Tryz.call52 Tryz.func52 (fun _=>hEnd)
def z1u_sd (c_0:ByteArray) (t_1:Addr) (K:Pw.T1) (w:World):Prop :=
 let w1 := w.alloc (Obj.cells #[(Value.string c_0)] 9)
 ∃ x2:ByteArray, w1.cell? (Addr.mk w.heap.size 0 none)=some (Value.string x2)/\z1o_sh x2 (str [108, 111, 116, 32]) (fun r4 w3=>cnd r4
 (∃ x5:Sl, w3.cell? t_1=some (Value.slice x5.p x5.l x5.c)/\z05_sh x5 (Value.func (.func 52) #[] #[(Value.pointer (some (Addr.mk w.heap.size 0 none)))]) (fun r7 w6=>K r7 w6) w3)
 (∃ x8:ByteArray, w3.cell? (Addr.mk w.heap.size 0 none)=some (Value.string x8)/\cnd (decide (x8=(str [110, 97, 109, 101])))
 (cnd (decide (x8=(str [110, 97, 109, 101])))
 (K false w3)
 (K true w3))
 (cnd (decide (x8=(str [116, 105, 109, 101, 115])))
 (cnd (decide (x8=(str [116, 105, 109, 101, 115])))
 (K false w3)
 (K true w3))
 (cnd (decide (x8=(str [109, 111, 115, 116])))
 (cnd (decide (x8=(str [109, 111, 115, 116])))
 (K false w3)
 (K true w3))
 (cnd (decide (x8=(str [99, 111, 109, 98, 111, 115])))
 (cnd (decide (x8=(str [99, 111, 109, 98, 111, 115])))
 (K false w3)
 (K true w3))
 (cnd (decide (x8=(str [98, 117, 100, 103, 101, 116])))
 (K false w3)
 (K true w3))))))) w1
structure z1u_sh (c_0:ByteArray) (t_1:Addr) (K:Pw.T1) (w:World):Prop where
 out:z1u_sd c_0 t_1 K w
noncomputable def z1u_S:Pw.Spec := fun vs w Kv=>un [tS, tQ] (fun c_0 t_1=>z1u_sh c_0 t_1 (kk [tB] Kv)) nF vs w
def z1u_A (_:VW):A := (qr 2 (qs (qr 2 (qc (qr 4 ql) ql)) (qs (qr 1 (qb (qs (qr 2 (qc ql (qr 2 (qc ql (qr 2 (qc ql (qr 2 (qc ql (qe 2))))))))) (qc (qr 1 ql) ql)))) (qr 1 ql))))
theorem z1u_ok:Sound Tryz.prog 49 z1u_S := okS (x := z1u_A) (fun Kv c_0 t_1=>z1u_sd c_0 t_1 (kk [tB] Kv)) progMixed (Γ := [(50, z1o_S), (51, z05_S)]) ⟨.inl z1o_ok, .inl z05_ok, trivial⟩ Tryz.call49 Tryz.func49 (fun _=>hEnd)
def z2e_sd (old_0 next_1:T43) (lots_2:Sl) (K:Pw.T1) (w:World):Prop :=
 let w1 := w.alloc (Obj.cells (T43.cs old_0).toArray 43)
 let w2 := w1.alloc (Obj.cells (T43.cs next_1).toArray 43)
 let w3 := w2.alloc (Obj.cells #[(Value.slice lots_2.p lots_2.l lots_2.c)] 25)
 T43.ld w3 (Addr.mk w.heap.size 0 none) fun x4=>T43.ld w3 (Addr.mk w1.heap.size 0 none) fun x5=>z24_sh x4 x5 (fun r7 w6=>z0t_sh r7 (Value.func (.func 49) #[] #[(Value.pointer (some (Addr.mk w2.heap.size 0 none)))]) (fun r9 w8=>K r9 w8) w6) w3
structure z2e_sh (old_0 next_1:T43) (lots_2:Sl) (K:Pw.T1) (w:World):Prop where
 out:z2e_sd old_0 next_1 lots_2 K w
noncomputable def z2e_S:Pw.Spec := fun vs w Kv=>un (.g 20 :: tS :: tL :: tL :: tL :: tI :: tI :: tS :: tI :: tI :: tS :: tL :: tL :: tI :: tL :: tI :: tI :: tI :: tI :: tI :: tI :: .g 20 :: tS :: tL :: tL :: tL :: tI :: tI :: tS :: tI :: tI :: tS :: tL :: tL :: tI :: tL :: tI :: tI :: tI :: tI :: tI :: tI :: tL :: []) (fun old_0_0 old_0_1 old_0_2 old_0_3 old_0_4 old_0_5 old_0_6 old_0_7 old_0_8 old_0_9 old_0_10 old_0_11 old_0_12 old_0_13 old_0_14 old_0_15 old_0_16 old_0_17 old_0_18 old_0_19 next_1_0 next_1_1 next_1_2 next_1_3 next_1_4 next_1_5 next_1_6 next_1_7 next_1_8 next_1_9 next_1_10 next_1_11 next_1_12 next_1_13 next_1_14 next_1_15 next_1_16 next_1_17 next_1_18 next_1_19 lots_2=>z2e_sh ⟨old_0_0, old_0_1, old_0_2, old_0_3, old_0_4, old_0_5, old_0_6, old_0_7, old_0_8, old_0_9, old_0_10, old_0_11, old_0_12, old_0_13, old_0_14, old_0_15, old_0_16, old_0_17, old_0_18, old_0_19⟩ ⟨next_1_0, next_1_1, next_1_2, next_1_3, next_1_4, next_1_5, next_1_6, next_1_7, next_1_8, next_1_9, next_1_10, next_1_11, next_1_12, next_1_13, next_1_14, next_1_15, next_1_16, next_1_17, next_1_18, next_1_19⟩ lots_2 (kk [tB] Kv)) nF vs w
def z2e_A (_:VW):A := (qr 4 (qr 6 ql))
theorem z2e_ok:Sound Tryz.prog 22 z2e_S := okS (x := z2e_A) (fun Kv old_0_0 old_0_1 old_0_2 old_0_3 old_0_4 old_0_5 old_0_6 old_0_7 old_0_8 old_0_9 old_0_10 old_0_11 old_0_12 old_0_13 old_0_14 old_0_15 old_0_16 old_0_17 old_0_18 old_0_19 next_1_0 next_1_1 next_1_2 next_1_3 next_1_4 next_1_5 next_1_6 next_1_7 next_1_8 next_1_9 next_1_10 next_1_11 next_1_12 next_1_13 next_1_14 next_1_15 next_1_16 next_1_17 next_1_18 next_1_19 lots_2=>z2e_sd ⟨old_0_0, old_0_1, old_0_2, old_0_3, old_0_4, old_0_5, old_0_6, old_0_7, old_0_8, old_0_9, old_0_10, old_0_11, old_0_12, old_0_13, old_0_14, old_0_15, old_0_16, old_0_17, old_0_18, old_0_19⟩ ⟨next_1_0, next_1_1, next_1_2, next_1_3, next_1_4, next_1_5, next_1_6, next_1_7, next_1_8, next_1_9, next_1_10, next_1_11, next_1_12, next_1_13, next_1_14, next_1_15, next_1_16, next_1_17, next_1_18, next_1_19⟩ lots_2 (kk [tB] Kv)) progMixed (Γ := [(20, z24_S), (46, z0t_S)]) ⟨.inl z24_ok, .inl z0t_ok, trivial⟩ Tryz.call22 Tryz.func22 (fun _=>hEnd)
end Go.Proofs.YtfkmpbpkahcogaaGreatDoor
