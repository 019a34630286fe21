/- The bodies' formulas, by program. -/
import Derived.Test.YtfkmpbpkahcogaaGreatDoorProg
import Derived.KernelRfl
import Derived.Test.YtfkmpbpkahcogaaGreatDoorPwY
import Derived.Test.YtfkmpbpkahcogaaGreatDoorDT
import Derived.Test.YtfkmpbpkahcogaaGreatDoorCG0
import Derived.Test.YtfkmpbpkahcogaaGreatDoorCG1
import Derived.Test.YtfkmpbpkahcogaaGreatDoorDG0
import Derived.Test.YtfkmpbpkahcogaaGreatDoorDG1
import Derived.Test.YtfkmpbpkahcogaaGreatDoorDG2
import Derived.Test.YtfkmpbpkahcogaaGreatDoorDG3
import Derived.Test.YtfkmpbpkahcogaaGreatDoorDG4
set_option maxRecDepth 20000
namespace Go.Proofs.YtfkmpbpkahcogaaGreatDoor
open Go Pw
def z07_sd (s_0:ByteArray) (K:Pw.T5) (w:World):Prop :=
 let w1 := w.alloc (Obj.cells #[(Value.string (str [])), (Value.int .i64 0), (Value.int .i64 0), (Value.string (str [])), (Value.slice none 0 0)] 38)
 stN w1 (Addr.mk w.heap.size 0 none) [(Value.string (str [110, 97, 109, 101])), (Value.int .i64 0), (Value.int .i64 0), (Value.string s_0), (Value.slice none 0 0)] fun w2=>∃ x3:ByteArray, w2.cell? (Addr.mk w.heap.size 0 none)=some (Value.string x3)/\∃ x4:Int, w2.cell? (Addr.mk w.heap.size 1 none)=some (Value.int .i64 x4)/\∃ x5:Int, w2.cell? (Addr.mk w.heap.size 2 none)=some (Value.int .i64 x5)/\∃ x6:ByteArray, w2.cell? (Addr.mk w.heap.size 3 none)=some (Value.string x6)/\∃ x7:Sl, w2.cell? (Addr.mk w.heap.size 4 none)=some (Value.slice x7.p x7.l x7.c)/\K x3 x4 x5 x6 x7 w2
structure z07_sh (s_0:ByteArray) (K:Pw.T5) (w:World):Prop where
 out:z07_sd s_0 K w
noncomputable def z07_S:Pw.Spec := fun vs w Kv=>un [tS] (fun s_0=>z07_sh s_0 (kk [.g 5, tS, tI, tI, tS, tL] Kv)) nF vs w
def z07_A (_:VW):A := (qr 1 (qr 3 ql))
theorem z07_ok:Sound Tryz.prog 53 z07_S := okS (x := z07_A) (fun Kv s_0=>z07_sd s_0 (kk [.g 5, tS, tI, tI, tS, tL] Kv)) progMixed (Γ := []) trivial Tryz.call53 Tryz.func53 (fun _=>hEnd)
def z08_sd (s_0 a_1_0:ByteArray) (a_1_1 a_1_2:Int) (a_1_3:ByteArray) (a_1_4:Sl) (b_2_0:ByteArray) (b_2_1 b_2_2:Int) (b_2_3:ByteArray) (b_2_4:Sl) (K:Pw.T5) (w:World):Prop :=
 let w1 := w.alloc (Obj.cells #[(Value.string a_1_0), (Value.int .i64 a_1_1), (Value.int .i64 a_1_2), (Value.string a_1_3), (Value.slice a_1_4.p a_1_4.l a_1_4.c)] 38)
 let w2 := w1.alloc (Obj.cells #[(Value.string b_2_0), (Value.int .i64 b_2_1), (Value.int .i64 b_2_2), (Value.string b_2_3), (Value.slice b_2_4.p b_2_4.l b_2_4.c)] 38)
 let w3 := w2.alloc (Obj.cells #[(Value.string (str [])), (Value.int .i64 0), (Value.int .i64 0), (Value.string (str [])), (Value.slice none 0 0)] 38)
 ∃ x4:ByteArray, w3.cell? (Addr.mk w.heap.size 0 none)=some (Value.string x4)/\∃ x5:Int, w3.cell? (Addr.mk w.heap.size 1 none)=some (Value.int .i64 x5)/\∃ x6:Int, w3.cell? (Addr.mk w.heap.size 2 none)=some (Value.int .i64 x6)/\∃ x7:ByteArray, w3.cell? (Addr.mk w.heap.size 3 none)=some (Value.string x7)/\∃ x8:Sl, w3.cell? (Addr.mk w.heap.size 4 none)=some (Value.slice x8.p x8.l x8.c)/\∃ x9:ByteArray, w3.cell? (Addr.mk w1.heap.size 0 none)=some (Value.string x9)/\∃ x10:Int, w3.cell? (Addr.mk w1.heap.size 1 none)=some (Value.int .i64 x10)/\∃ x11:Int, w3.cell? (Addr.mk w1.heap.size 2 none)=some (Value.int .i64 x11)/\∃ x12:ByteArray, w3.cell? (Addr.mk w1.heap.size 3 none)=some (Value.string x12)/\∃ x13:Sl, w3.cell? (Addr.mk w1.heap.size 4 none)=some (Value.slice x13.p x13.l x13.c)/\let w14 := w3.alloc (Obj.cells #[(Value.string x4), (Value.int .i64 x5), (Value.int .i64 x6), (Value.string x7), (Value.slice x8.p x8.l x8.c), (Value.string x9), (Value.int .i64 x10), (Value.int .i64 x11), (Value.string x12), (Value.slice x13.p x13.l x13.c)] 38)
 stN w14 (Addr.mk w2.heap.size 0 none) [(Value.string s_0), (Value.int .i64 0), (Value.int .i64 0), (Value.string (str [])), (Value.slice (some (Addr.mk w3.heap.size 0 none)) 2 2)] fun w15=>∃ x16:ByteArray, w15.cell? (Addr.mk w2.heap.size 0 none)=some (Value.string x16)/\∃ x17:Int, w15.cell? (Addr.mk w2.heap.size 1 none)=some (Value.int .i64 x17)/\∃ x18:Int, w15.cell? (Addr.mk w2.heap.size 2 none)=some (Value.int .i64 x18)/\∃ x19:ByteArray, w15.cell? (Addr.mk w2.heap.size 3 none)=some (Value.string x19)/\∃ x20:Sl, w15.cell? (Addr.mk w2.heap.size 4 none)=some (Value.slice x20.p x20.l x20.c)/\K x16 x17 x18 x19 x20 w15
structure z08_sh (s_0 a_1_0:ByteArray) (a_1_1 a_1_2:Int) (a_1_3:ByteArray) (a_1_4:Sl) (b_2_0:ByteArray) (b_2_1 b_2_2:Int) (b_2_3:ByteArray) (b_2_4:Sl) (K:Pw.T5) (w:World):Prop where
 out:z08_sd s_0 a_1_0 a_1_1 a_1_2 a_1_3 a_1_4 b_2_0 b_2_1 b_2_2 b_2_3 b_2_4 K w
noncomputable def z08_S:Pw.Spec := fun vs w Kv=>un [tS, .g 5, tS, tI, tI, tS, tL, .g 5, tS, tI, tI, tS, tL] (fun s_0 a_1_0 a_1_1 a_1_2 a_1_3 a_1_4 b_2_0 b_2_1 b_2_2 b_2_3 b_2_4=>z08_sh s_0 a_1_0 a_1_1 a_1_2 a_1_3 a_1_4 b_2_0 b_2_1 b_2_2 b_2_3 b_2_4 (kk [.g 5, tS, tI, tI, tS, tL] Kv)) nF vs w
def z08_A (_:VW):A := (qr 3 (qr 6 ql))
theorem z08_ok:Sound Tryz.prog 54 z08_S := okS (x := z08_A) (fun Kv s_0 a_1_0 a_1_1 a_1_2 a_1_3 a_1_4 b_2_0 b_2_1 b_2_2 b_2_3 b_2_4=>z08_sd s_0 a_1_0 a_1_1 a_1_2 a_1_3 a_1_4 b_2_0 b_2_1 b_2_2 b_2_3 b_2_4 (kk [.g 5, tS, tI, tI, tS, tL] Kv)) progMixed (Γ := []) trivial Tryz.call54 Tryz.func54 (fun _=>hEnd)
def z0e_sd (K:Pw.T4) (w:World):Prop :=
 let w1 := w.alloc (Obj.cells (T43.cs (T43.mk (str []) (Sl.mk none 0 0) (Sl.mk none 0 0) (Sl.mk none 0 0) (0:Int) (0:Int) (str []) (0:Int) (0:Int) (str []) (Sl.mk none 0 0) (Sl.mk none 0 0) (0:Int) (Sl.mk none 0 0) (0:Int) (0:Int) (0:Int) (0:Int) (0:Int) (0:Int))).toArray 43)
 let w2 := w1.alloc (Obj.cells #[(Value.string (str [])), (Value.int .i64 0), (Value.int .i64 0), (Value.string (str [])), (Value.slice none 0 0)] 38)
 stN w2 (Addr.mk w1.heap.size 0 none) [(Value.string (str [110, 117, 109])), (Value.int .i64 60), (Value.int .i64 1), (Value.string (str [])), (Value.slice none 0 0)] fun w3=>let w4 := w3.drew
 ∃ S5:World->Prop, S5 w4/\∃ x6:ByteArray, (∀ w':World, S5 w'->w'.cell? (Addr.mk w1.heap.size 0 none)=some (Value.string x6))/\∃ x7:Int, (∀ w':World, S5 w'->w'.cell? (Addr.mk w1.heap.size 1 none)=some (Value.int .i64 x7))/\∃ x8:Int, (∀ w':World, S5 w'->w'.cell? (Addr.mk w1.heap.size 2 none)=some (Value.int .i64 x8))/\∃ x9:ByteArray, (∀ w':World, S5 w'->w'.cell? (Addr.mk w1.heap.size 3 none)=some (Value.string x9))/\∃ x10:Sl, (∀ w':World, S5 w'->w'.cell? (Addr.mk w1.heap.size 4 none)=some (Value.slice x10.p x10.l x10.c))/\(∀ u u':World, Ext u u'->S5 u->S5 u')/\((∀ u:World, ExtL u (u.alloc (Obj.cells #[(Value.int .i64 1), (Value.int .i64 100), (Value.int .i64 2), (Value.int .i64 100)] 66)))/\(∀ u:World, ExtL u (u.alloc (Obj.cells #[(Value.string (str [113, 117, 97, 108, 105, 116, 121])), (Value.int .i64 1), (Value.int .i64 0), (Value.int .i64 10), (Value.bool false), (Value.string (str [100, 97, 121, 115])), (Value.int .i64 2), (Value.int .i64 1), (Value.int .i64 60), (Value.bool false)] 64)))/\(∀ u:World, ExtL u (u.alloc (Obj.cells #[(Value.string (str [100, 97, 121, 115])), (Value.string (str [60, 61])), (Value.int .i64 30)] 73)))/\(∀ u:World, ExtL u (u.alloc (Obj.cells #[(Value.string (str [112, 114, 105, 99, 101])), (Value.string (str [113, 117, 97, 108, 105, 116, 121]))] 9)))/\True)/\∀ w11:World, Ext w4 w11->z07_sh (str [113, 117, 97, 108, 105, 116, 121]) (fun r13_0 r13_1 r13_2 r13_3 r13_4 w12=>Ext w11 w12/\∀ w14:World, Ext w12 w14->z07_sh (str [108, 111, 119]) (fun r16_0 r16_1 r16_2 r16_3 r16_4 w15=>Ext w14 w15/\∀ w17:World, Ext w15 w17->z08_sh (str [42]) x6 x7 x8 x9 x10 r16_0 r16_1 r16_2 r16_3 r16_4 (fun r19_0 r19_1 r19_2 r19_3 r19_4 w18=>Ext w17 w18/\∀ w20:World, Ext w18 w20->z07_sh (str [112, 114, 105, 99, 101]) (fun r22_0 r22_1 r22_2 r22_3 r22_4 w21=>Ext w20 w21/\∀ w23:World, Ext w21 w23->z08_sh (str [47]) r19_0 r19_1 r19_2 r19_3 r19_4 r22_0 r22_1 r22_2 r22_3 r22_4 (fun r25_0 r25_1 r25_2 r25_3 r25_4 w24=>Ext w23 w24/\∀ w26:World, Ext w24 w26->z08_sh (str [43]) r13_0 r13_1 r13_2 r13_3 r13_4 r25_0 r25_1 r25_2 r25_3 r25_4 (fun r28_0 r28_1 r28_2 r28_3 r28_4 w27=>Ext w26 w27/\∀ w29:World, Ext w27 w29->∀ w30:World, Ext w4 w30->ninL w30.heap.size []->Ext (w30.alloc (Obj.cells #[(Value.int .i64 1), (Value.int .i64 100), (Value.int .i64 2), (Value.int .i64 100)] 66)) w29->∀ w31:World, Ext w4 w31->ninL w31.heap.size [w30.heap.size]->Ext (w31.alloc (Obj.cells #[(Value.string (str [113, 117, 97, 108, 105, 116, 121])), (Value.int .i64 1), (Value.int .i64 0), (Value.int .i64 10), (Value.bool false), (Value.string (str [100, 97, 121, 115])), (Value.int .i64 2), (Value.int .i64 1), (Value.int .i64 60), (Value.bool false)] 64)) w29->∀ w32:World, Ext w4 w32->ninL w32.heap.size [w31.heap.size, w30.heap.size]->Ext (w32.alloc (Obj.cells #[(Value.string (str [100, 97, 121, 115])), (Value.string (str [60, 61])), (Value.int .i64 30)] 73)) w29->∀ w33:World, Ext w4 w33->ninL w33.heap.size [w32.heap.size, w31.heap.size, w30.heap.size]->Ext (w33.alloc (Obj.cells #[(Value.string (str [112, 114, 105, 99, 101])), (Value.string (str [113, 117, 97, 108, 105, 116, 121]))] 9)) w29->stN w29 (Addr.mk w.heap.size 0 none) (T43.cs (T43.mk (str []) (Sl.mk (some (Addr.mk w30.heap.size 0 none)) 2 2) (Sl.mk (some (Addr.mk w31.heap.size 0 none)) 2 2) (Sl.mk (some (Addr.mk w32.heap.size 0 none)) 1 1) (1:Int) (100:Int) r28_0 r28_1 r28_2 r28_3 r28_4 (Sl.mk (some (Addr.mk w33.heap.size 0 none)) 2 2) (0:Int) (Sl.mk none 0 0) (0:Int) (0:Int) (0:Int) (0:Int) (0:Int) (0:Int))) fun w34=>T43.ld w34 (Addr.mk w.heap.size 0 none) fun x35=>K x35 w34) w26) w23) w20) w17) w14) w11
structure z0e_sh (K:Pw.T4) (w:World):Prop where
 out:z0e_sd K w
noncomputable def z0e_S:Pw.Spec := fun vs w Kv=>un [] (z0e_sh (T43.un (kk (.g 20 :: tS :: tL :: tL :: tL :: tI :: tI :: tS :: tI :: tI :: tS :: tL :: tL :: tI :: tL :: tI :: tI :: tI :: tI :: tI :: tI :: []) Kv))) nF vs w
def z0e_A (_:VW):A := (qr 1 (qr 1 (qr 1 (qr 4 (qs (A.drw (dp [0, 1, 3, 4, 6, 8, 9, 11, 12, 13, 14, 17] (DA.flo [2, 5, 7, 21] [10, 15, 16, 18, 19, 20] (DA.pur 22 (DA.eff 23 DA.done))))) ql)))))
theorem z0e_ok:Sound Tryz.prog 25 z0e_S := okS (x := z0e_A) (fun Kv=>z0e_sd (T43.un (kk (.g 20 :: tS :: tL :: tL :: tL :: tI :: tI :: tS :: tI :: tI :: tS :: tL :: tL :: tI :: tL :: tI :: tI :: tI :: tI :: tI :: tI :: []) Kv))) progMixed (Γ := [(53, z07_S), (54, z08_S)]) ⟨.inl z07_ok, .inl z08_ok, trivial⟩ Tryz.call25 Tryz.func25 (fun _=>hEnd)
def z26_sd (l_0 want_1:Sl) (K:Pw.T1) (w:World):Prop :=
 z1k_sh l_0 want_1 (fun r2 w1=>K r2 w1) w
structure z26_sh (l_0 want_1:Sl) (K:Pw.T1) (w:World):Prop where
 out:z26_sd l_0 want_1 K w
noncomputable def z26_S:Pw.Spec := fun vs w Kv=>un [tL, tL] (fun l_0 want_1=>z26_sh l_0 want_1 (kk [tB] Kv)) nF vs w
def z26_A (_:VW):A := (qr 1 (qr 4 ql))
theorem z26_ok:Sound Tryz.prog 13 z26_S := okS (x := z26_A) (fun Kv l_0 want_1=>z26_sd l_0 want_1 (kk [tB] Kv)) progMixed (Γ := [(34, z1k_S)]) ⟨.inl z1k_ok, trivial⟩ Tryz.call13 Tryz.func13 (fun _=>hEnd)
def z0o_sd (K:Pw.T1) (w:World):Prop :=
 z0e_sh (fun r2 w1=>z0e_sh (fun r4 w3=>z0e_sh (fun r6 w5=>z0e_sh (fun r8 w7=>let w9 := w7.alloc (Obj.cells (T43.cs (T43.mk (str []) (Sl.mk none 0 0) (Sl.mk none 0 0) (Sl.mk none 0 0) (0:Int) (0:Int) (str []) (0:Int) (0:Int) (str []) (Sl.mk none 0 0) (Sl.mk none 0 0) (0:Int) (Sl.mk none 0 0) (0:Int) (0:Int) (0:Int) (0:Int) (0:Int) (0:Int))).toArray 43)
 let w10 := w9.alloc (Obj.cells (T43.cs (T43.mk (str []) (Sl.mk none 0 0) (Sl.mk none 0 0) (Sl.mk none 0 0) (0:Int) (0:Int) (str []) (0:Int) (0:Int) (str []) (Sl.mk none 0 0) (Sl.mk none 0 0) (0:Int) (Sl.mk none 0 0) (0:Int) (0:Int) (0:Int) (0:Int) (0:Int) (0:Int))).toArray 43)
 let w11 := w10.alloc (Obj.cells (T43.cs (T43.mk (str []) (Sl.mk none 0 0) (Sl.mk none 0 0) (Sl.mk none 0 0) (0:Int) (0:Int) (str []) (0:Int) (0:Int) (str []) (Sl.mk none 0 0) (Sl.mk none 0 0) (0:Int) (Sl.mk none 0 0) (0:Int) (0:Int) (0:Int) (0:Int) (0:Int) (0:Int))).toArray 43)
 let w12 := w11.alloc (Obj.cells (T43.cs (T43.mk (str []) (Sl.mk none 0 0) (Sl.mk none 0 0) (Sl.mk none 0 0) (0:Int) (0:Int) (str []) (0:Int) (0:Int) (str []) (Sl.mk none 0 0) (Sl.mk none 0 0) (0:Int) (Sl.mk none 0 0) (0:Int) (0:Int) (0:Int) (0:Int) (0:Int) (0:Int))).toArray 43)
 stN w12 (Addr.mk w7.heap.size 0 none) (T43.cs r2) fun w13=>stN w13 (Addr.mk w9.heap.size 0 none) (T43.cs r4) fun w14=>stN w14 (Addr.mk w10.heap.size 0 none) (T43.cs r6) fun w15=>stN w15 (Addr.mk w11.heap.size 0 none) (T43.cs r8) fun w16=>∃ x17:Sl, w16.cell? (Addr.mk w9.heap.size 2 none)=some (Value.slice x17.p x17.l x17.c)/\nz x17.p fun a18=>(0 <= (1:Int)/\(1:Int) < (x17.l:Nat))/\wrOk w16 ((a18.add ((1:Int).toNat * 5)).add 3)/\
 (let w19 := w16.setCell ((a18.add ((1:Int).toNat * 5)).add 3) (Value.int .i64 90)
 wrOk w19 (Addr.mk w10.heap.size 5 none)/\
 (let w20 := w19.setCell (Addr.mk w10.heap.size 5 none) (Value.int .i64 200)
 ∃ x21:Sl, w20.cell? (Addr.mk w11.heap.size 1 none)=some (Value.slice x21.p x21.l x21.c)/\nz x21.p fun a22=>(0 <= (1:Int)/\(1:Int) < (x21.l:Nat))/\wrOk w20 ((a22.add ((1:Int).toNat * 2)).add 1)/\
 (let w23 := w20.setCell ((a22.add ((1:Int).toNat * 2)).add 1) (Value.int .i64 50)
 T43.ld w23 (Addr.mk w7.heap.size 0 none) fun x24=>z2d_sh x24 (fun r26 w25=>let w27 := w25.alloc (Obj.cells #[(Value.string (str [110, 97, 109, 101])), (Value.string (str [108, 111, 116, 32, 49])), (Value.string (str [108, 111, 116, 32, 50])), (Value.string (str [99, 114, 105, 116, 101, 114, 105, 111, 110, 32, 113, 117, 97, 108, 105, 116, 121])), (Value.string (str [99, 114, 105, 116, 101, 114, 105, 111, 110, 32, 100, 97, 121, 115])), (Value.string (str [114, 101, 113, 117, 105, 114, 101, 32, 49])), (Value.string (str [114, 97, 110, 103, 101])), (Value.string (str [102, 111, 114, 109, 117, 108, 97])), (Value.string (str [116, 105, 101, 115])), (Value.string (str [109, 111, 115, 116])), (Value.string (str [99, 111, 109, 98, 111, 115])), (Value.string (str [98, 117, 100, 103, 101, 116])), (Value.string (str [116, 105, 109, 101, 115]))] 9)
 z26_sh r26 (Sl.mk (some (Addr.mk w25.heap.size 0 none)) 13 13) (fun r29 w28=>cnd (!r29)
 (K false w28)
 (T43.ld w28 (Addr.mk w7.heap.size 0 none) fun x30=>z2s_sh x30 (str [102, 111, 114, 109, 117, 108, 97]) (fun r32 w31=>let w33 := w31.alloc (Obj.cells #[(Value.string (str [99, 114, 105, 116, 101, 114, 105, 111, 110, 32, 113, 117, 97, 108, 105, 116, 121])), (Value.string (str [114, 97, 110, 103, 101]))] 9)
 z26_sh r32 (Sl.mk (some (Addr.mk w31.heap.size 0 none)) 2 2) (fun r35 w34=>cnd (!r35)
 (K false w34)
 (T43.ld w34 (Addr.mk w7.heap.size 0 none) fun x36=>z2s_sh x36 (str [116, 105, 101, 115]) (fun r38 w37=>let w39 := w37.alloc (Obj.cells #[(Value.string (str [99, 114, 105, 116, 101, 114, 105, 111, 110, 32, 113, 117, 97, 108, 105, 116, 121])), (Value.string (str [114, 97, 110, 103, 101]))] 9)
 z26_sh r38 (Sl.mk (some (Addr.mk w37.heap.size 0 none)) 2 2) (fun r41 w40=>cnd (!r41)
 (K false w40)
 (T43.ld w40 (Addr.mk w7.heap.size 0 none) fun x42=>z2s_sh x42 (str [114, 101, 113, 117, 105, 114, 101, 32, 49]) (fun r44 w43=>let w45 := w43.alloc (Obj.cells #[(Value.string (str [99, 114, 105, 116, 101, 114, 105, 111, 110, 32, 100, 97, 121, 115]))] 9)
 z26_sh r44 (Sl.mk (some (Addr.mk w43.heap.size 0 none)) 1 1) (fun r47 w46=>cnd (!r47)
 (K false w46)
 (T43.ld w46 (Addr.mk w7.heap.size 0 none) fun x48=>T43.ld w46 (Addr.mk w9.heap.size 0 none) fun x49=>z2c_sh x48 x49 (fun r51 w50=>let w52 := w50.alloc (Obj.cells #[(Value.string (str [99, 114, 105, 116, 101, 114, 105, 111, 110, 32, 100, 97, 121, 115]))] 9)
 z26_sh r51 (Sl.mk (some (Addr.mk w50.heap.size 0 none)) 1 1) (fun r54 w53=>cnd r54
 (T43.ld w53 (Addr.mk w7.heap.size 0 none) fun x55=>T43.ld w53 (Addr.mk w9.heap.size 0 none) fun x56=>z24_sh x55 x56 (fun r58 w57=>let w59 := w57.alloc (Obj.cells #[(Value.string (str [99, 114, 105, 116, 101, 114, 105, 111, 110, 32, 100, 97, 121, 115])), (Value.string (str [114, 101, 113, 117, 105, 114, 101, 32, 49]))] 9)
 z26_sh r58 (Sl.mk (some (Addr.mk w57.heap.size 0 none)) 2 2) (fun r61 w60=>cnd r61
 (T43.ld w60 (Addr.mk w7.heap.size 0 none) fun x62=>T43.ld w60 (Addr.mk w10.heap.size 0 none) fun x63=>z24_sh x62 x63 (fun r65 w64=>let w66 := w64.alloc (Obj.cells #[(Value.string (str [114, 97, 110, 103, 101])), (Value.string (str [102, 111, 114, 109, 117, 108, 97])), (Value.string (str [116, 105, 101, 115]))] 9)
 z26_sh r65 (Sl.mk (some (Addr.mk w64.heap.size 0 none)) 3 3) (fun r68 w67=>cnd r68
 (T43.ld w67 (Addr.mk w7.heap.size 0 none) fun x69=>T43.ld w67 (Addr.mk w11.heap.size 0 none) fun x70=>let w71 := w67.alloc (Obj.cells #[(Value.int .i64 1)] 3)
 z2e_sh x69 x70 (Sl.mk (some (Addr.mk w67.heap.size 0 none)) 1 1) (fun r73 w72=>cnd (!r73)
 (T43.ld w72 (Addr.mk w7.heap.size 0 none) fun x74=>T43.ld w72 (Addr.mk w11.heap.size 0 none) fun x75=>let w76 := w72.alloc (Obj.cells #[(Value.int .i64 1), (Value.int .i64 2)] 3)
 z2e_sh x74 x75 (Sl.mk (some (Addr.mk w72.heap.size 0 none)) 2 2) (fun r78 w77=>K r78 w77) w76)
 (K false w72)) w71)
 (K false w67)) w66) w60)
 (K false w60)) w59) w53)
 (K false w53)) w52) w46)) w45) w40)) w39) w34)) w33) w28)) w27) w23)))) w5) w3) w1) w
structure z0o_sh (K:Pw.T1) (w:World):Prop where
 out:z0o_sd K w
noncomputable def z0o_S:Pw.Spec := fun vs w Kv=>un [] (z0o_sh (kk [tB] Kv)) nF vs w
def z0o_A (_:VW):A := (qr 1 (qr 12 (qr 5 (qr 2 (qr 5 (qs (qr 5 (qc (qr 1 ql) ql)) (qs (qs (A.reg (qn 6 (RA.spl 28 (qk 5 (qn 2 (qk 5 (qn 1 RA.done)))) (qn 7 (RA.spl 35 (qk 5 (qn 1 RA.done)) (qn 6 RA.done)))))) (qc (qr 1 ql) ql)) (qs (A.reg (qn 6 (RA.spl 47 (qn 7 (RA.spl 54 (qn 7 (RA.spl 61 (qn 7 (RA.spl 68 (qn 6 RA.done) (qk 4 (qn 2 RA.done)))) (qk 5 (qn 2 (qk 4 (qn 2 RA.done)))))) (qk 5 (qn 2 (qk 5 (qn 2 (qk 4 (qn 2 RA.done)))))))) (qk 5 (qn 2 (qk 5 (qn 2 (qk 5 (qn 2 (qk 4 (qn 2 RA.done))))))))))) ql))))))))
theorem z0o_ok:Sound Tryz.prog 10 z0o_S := okS (x := z0o_A) (fun Kv=>z0o_sd (kk [tB] Kv)) progMixed (Γ := [(12, z2d_S), (13, z26_S), (15, z2s_S), (18, z2c_S), (20, z24_S), (22, z2e_S), (25, z0e_S)]) ⟨.inl z2d_ok, .inl z26_ok, .inl z2s_ok, .inl z2c_ok, .inl z24_ok, .inl z2e_ok, .inl z0e_ok, trivial⟩ Tryz.call10 Tryz.func10 (fun _=>hEnd)
def z1v_b0 (out_3:Nat) (t_7:Sl) (t_8 t_9:Int) (N0:Nat->Sl->Int->Int->World->Prop) (K:Pw.T11) (w:World):Prop :=
 cnd (decide (t_9 < t_8))
 (nz t_7.p fun a2=>(0 <= t_9/\t_9 < (t_7.l:Nat))/\∃ x3:ByteArray, w.cell? (a2.add (t_9.toNat * 1))=some (Value.string x3)/\(∃ l:List (ByteArray × Value), Ms w out_3 l)/\let w4 := w.sset out_3 x3 (Value.bool true)
 inR .i64 (t_9 + (1:Int))/\N0 out_3 t_7 t_8 (t_9 + (1:Int)) w4)
 (K (some out_3) w)
def z1v_l0d (out_3:Nat) (t_7:Sl) (t_8 t_9:Int) (K:Pw.T11) (w:World):Prop :=
 ∃ (I:Int->World->Prop) (μ:Int->World->Nat), I t_9 w/\∀ (t_91:Int) (w1:World), I t_91 w1 ->
 z1v_b0 out_3 t_7 t_8 t_91 (fun out_3' t_7' t_8' t_9' w'=>((out_3'=out_3/\t_7'=t_7/\t_8'=t_8/\True)/\I t_9' w')/\μ t_9' w' < μ t_91 w1) K w1
structure z1v_l0 (out_3:Nat) (t_7:Sl) (t_8 t_9:Int) (K:Pw.T11) (w:World):Prop where
 out:z1v_l0d out_3 t_7 t_8 t_9 K w
def z1v_sd (l_0:Sl) (K:Pw.T11) (w:World):Prop :=
 let w1 := w.alloc (Obj.map #[] 0)
 z1v_l0 w.heap.size l_0 (l_0.l:Int) (0:Int) K w1
structure z1v_sh (l_0:Sl) (K:Pw.T11) (w:World):Prop where
 out:z1v_sd l_0 K w
def z1v_L0 (Kv:VW):Cur [tN, tL, tI, tI] WP := fun out_3 t_7 t_8 t_9=>z1v_l0 out_3 t_7 t_8 t_9 (kk [tM] Kv)
noncomputable def z1v_S:Pw.Spec := fun vs w Kv=>un [tL] (fun l_0=>z1v_sh l_0 (kk [tM] Kv)) nF vs w
def z1v_A (Kv:VW):A := (qr 1 (qr 2 (qs (qr 3 (qb (A.loop [3, 7, 8, 9] (uR0 [tN, tL, tI, tI] (z1v_L0 Kv)) (qr 1 (qs (qc ql ql) (qs (qb (qr 3 (qe 3))) (qe 2))))))) (qr 2 ql))))
theorem z1v_ok:Sound Tryz.prog 24 z1v_S := okS (x := z1v_A) (fun Kv l_0=>z1v_sd l_0 (kk [tM] Kv)) progMixed (Γ := []) trivial Tryz.call24 Tryz.func24 (fun Kv=>hStep (hLoop0 (L := z1v_L0 Kv) (fun N0 out_3 t_7 t_8 t_9=>z1v_b0 out_3 t_7 t_8 t_9 N0 (kk [tM] Kv)) (fun ⟨a0, a1, a2, _, _⟩ _ h=>let ⟨I, μ, h0, hr⟩ := h.out; ⟨fun b0 b1 b2 b3 w=>(b0=a0/\b1=a1/\b2=a2/\True)/\I b3 w, fun _ _ _ b3 w=>μ b3 w, ⟨⟨rfl, rfl, rfl, trivial⟩, h0⟩, fun ⟨_, _, _, _, _⟩ _ ⟨⟨e0, e1, e2, _⟩, hI⟩=>by cases e0; cases e1; cases e2; exact hr _ _ hI⟩)) <| hEnd)
end Go.Proofs.YtfkmpbpkahcogaaGreatDoor
