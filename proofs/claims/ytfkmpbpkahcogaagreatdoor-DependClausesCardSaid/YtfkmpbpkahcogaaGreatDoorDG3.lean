/- The bodies' formulas, by program. -/
import Derived.Test.YtfkmpbpkahcogaaGreatDoorProg
import Derived.KernelRfl
import Derived.Test.YtfkmpbpkahcogaaGreatDoorPwY
import Derived.Test.YtfkmpbpkahcogaaGreatDoorDT
import Derived.Test.YtfkmpbpkahcogaaGreatDoorCG0
import Derived.Test.YtfkmpbpkahcogaaGreatDoorCG1
import Derived.Test.YtfkmpbpkahcogaaGreatDoorDG0
import Derived.Test.YtfkmpbpkahcogaaGreatDoorDG1
import Derived.Test.YtfkmpbpkahcogaaGreatDoorDG2
set_option maxRecDepth 20000
namespace Go.Proofs.YtfkmpbpkahcogaaGreatDoor
open Go Pw
def z1y_sd (n_0 m_1:Int) (K:Pw.T2) (w:World):Prop :=
 m_1 ≠ 0/\inR .i64 ((Int.tmod n_0 m_1) + m_1)/\m_1 ≠ 0/\K (Int.tmod ((Int.tmod n_0 m_1) + m_1) m_1) w
structure z1y_sh (n_0 m_1:Int) (K:Pw.T2) (w:World):Prop where
 out:z1y_sd n_0 m_1 K w
noncomputable def z1y_S:Pw.Spec := fun vs w Kv=>un [tI, tI] (fun n_0 m_1=>z1y_sh n_0 m_1 (kk [tI] Kv)) nF vs w
def z1y_A (_:VW):A := (qr 1 (qr 8 ql))
theorem z1y_ok:Sound Tryz.prog 28 z1y_S := okS (x := z1y_A) (fun Kv n_0 m_1=>z1y_sd n_0 m_1 (kk [tI] Kv)) progMixed (Γ := []) trivial Tryz.call28 Tryz.func28 (fun _=>hEnd)
def z17_sd (K:Pw.T0) (w:World):Prop :=
 let w1 := w.alloc (Obj.cells #[(Value.string (str [112, 114, 105, 99, 101])), (Value.string (str [108, 111, 119])), (Value.string (str [113, 117, 97, 108, 105, 116, 121])), (Value.string (str [100, 97, 121, 115]))] 9)
 K (Sl.mk (some (Addr.mk w.heap.size 0 none)) 4 4) w1
structure z17_sh (K:Pw.T0) (w:World):Prop where
 out:z17_sd K w
noncomputable def z17_S:Pw.Spec := fun vs w Kv=>un [] (z17_sh (kk [tL] Kv)) nF vs w
def z17_A (_:VW):A := (qr 1 (qr 2 ql))
theorem z17_ok:Sound Tryz.prog 56 z17_S := okS (x := z17_A) (fun Kv=>z17_sd (kk [tL] Kv)) progMixed (Γ := []) trivial Tryz.call56 Tryz.func56 (fun _=>hEnd)
def z1f_k1d (l_0:Sl) (t_2:Addr) (stack_3 ops_4:Sl) (k_5 rest_7:Int) (N0:Sl->Addr->Sl->Sl->Int->World->Prop) (K:Pw.T5) (w:World):Prop :=
 (13:Int) ≠ 0/\inR .i64 ((Int.tmod rest_7 (13:Int)) - (3:Int))/\(13:Int) ≠ 0/\inR .i64 (Int.tdiv rest_7 (13:Int))/\(4:Int) ≠ 0/\inR .i64 ((1:Int) + (Int.tmod (Int.tdiv rest_7 (13:Int)) (4:Int)))/\z1b_sh ((Int.tmod rest_7 (13:Int)) - (3:Int)) ((1:Int) + (Int.tmod (Int.tdiv rest_7 (13:Int)) (4:Int))) (fun r8_0 r8_1 r9 w7=>let w10 := w7.alloc (Obj.cells #[(Value.int .i64 0), (Value.int .i64 0)] 35)
 wrOk w10 (Addr.mk w7.heap.size 0 none)/\
 (let w11 := w10.setCell (Addr.mk w7.heap.size 0 none) (Value.int .i64 r8_0)
 wrOk w11 (Addr.mk w7.heap.size 1 none)/\
 (let w12 := w11.setCell (Addr.mk w7.heap.size 1 none) (Value.int .i64 r8_1)
 ∃ x13:Int, w12.cell? (Addr.mk w7.heap.size 0 none)=some (Value.int .i64 x13)/\∃ x14:Int, w12.cell? (Addr.mk w7.heap.size 1 none)=some (Value.int .i64 x14)/\let w15 := w12.alloc (Obj.cells #[(Value.string (str [110, 117, 109])), (Value.int .i64 x13), (Value.int .i64 x14), (Value.string (str [])), (Value.slice none 0 0)] 38)
 apS 5 72 [(Value.string (str [])), (Value.int .i64 0), (Value.int .i64 0), (Value.string (str [])), (Value.slice none 0 0)] 38 stack_3 (Sl.mk (some (Addr.mk w12.heap.size 0 none)) 1 1) w15 fun s16 w17=>inR .i64 (k_5 + (1:Int))/\N0 l_0 t_2 s16 ops_4 (k_5 + (1:Int)) w17))) w
structure z1f_k1 (l_0:Sl) (t_2:Addr) (stack_3 ops_4:Sl) (k_5 rest_7:Int) (N0:Sl->Addr->Sl->Sl->Int->World->Prop) (K:Pw.T5) (w:World):Prop where
 out:z1f_k1d l_0 t_2 stack_3 ops_4 k_5 rest_7 N0 K w
def z1f_k3d (l_0:Sl) (t_2:Addr) (stack_3 ops_4:Sl) (k_5 rest_7:Int) (N0:Sl->Addr->Sl->Sl->Int->World->Prop) (K:Pw.T5) (w:World):Prop :=
 z17_sh (fun r19 w18=>(4:Int) ≠ 0/\nz r19.p fun a20=>(0 <= (Int.tmod rest_7 (4:Int))/\(Int.tmod rest_7 (4:Int)) < (r19.l:Nat))/\∃ x21:ByteArray, w18.cell? (a20.add ((Int.tmod rest_7 (4:Int)).toNat * 1))=some (Value.string x21)/\let w22 := w18.alloc (Obj.cells #[(Value.string (str [110, 97, 109, 101])), (Value.int .i64 0), (Value.int .i64 0), (Value.string x21), (Value.slice none 0 0)] 38)
 apS 5 72 [(Value.string (str [])), (Value.int .i64 0), (Value.int .i64 0), (Value.string (str [])), (Value.slice none 0 0)] 38 stack_3 (Sl.mk (some (Addr.mk w18.heap.size 0 none)) 1 1) w22 fun s23 w24=>inR .i64 (k_5 + (1:Int))/\N0 l_0 t_2 s23 ops_4 (k_5 + (1:Int)) w24) w
structure z1f_k3 (l_0:Sl) (t_2:Addr) (stack_3 ops_4:Sl) (k_5 rest_7:Int) (N0:Sl->Addr->Sl->Sl->Int->World->Prop) (K:Pw.T5) (w:World):Prop where
 out:z1f_k3d l_0 t_2 stack_3 ops_4 k_5 rest_7 N0 K w
def z1f_k4d (l_0:Sl) (t_2:Addr) (stack_3 ops_4:Sl) (k_5 rest_7:Int) (N0:Sl->Addr->Sl->Sl->Int->World->Prop) (K:Pw.T5) (w:World):Prop :=
 cnd (decide ((stack_3.l:Int) > (1:Int)))
 (inR .i64 ((stack_3.l:Int) - (2:Int))/\nz stack_3.p fun a25=>(0 <= ((stack_3.l:Int) - (2:Int))/\((stack_3.l:Int) - (2:Int)) < (stack_3.l:Nat))/\∃ x26:ByteArray, w.cell? (a25.add (((stack_3.l:Int) - (2:Int)).toNat * 5))=some (Value.string x26)/\∃ x27:Int, w.cell? ((a25.add (((stack_3.l:Int) - (2:Int)).toNat * 5)).add 1)=some (Value.int .i64 x27)/\∃ x28:Int, w.cell? ((a25.add (((stack_3.l:Int) - (2:Int)).toNat * 5)).add 2)=some (Value.int .i64 x28)/\∃ x29:ByteArray, w.cell? ((a25.add (((stack_3.l:Int) - (2:Int)).toNat * 5)).add 3)=some (Value.string x29)/\∃ x30:Sl, w.cell? ((a25.add (((stack_3.l:Int) - (2:Int)).toNat * 5)).add 4)=some (Value.slice x30.p x30.l x30.c)/\let w31 := w.alloc (Obj.cells #[(Value.string (str [])), (Value.int .i64 0), (Value.int .i64 0), (Value.string (str [])), (Value.slice none 0 0)] 38)
 stN w31 (Addr.mk w.heap.size 0 none) [(Value.string x26), (Value.int .i64 x27), (Value.int .i64 x28), (Value.string x29), (Value.slice x30.p x30.l x30.c)] fun w32=>inR .i64 ((stack_3.l:Int) - (1:Int))/\nz stack_3.p fun a33=>(0 <= ((stack_3.l:Int) - (1:Int))/\((stack_3.l:Int) - (1:Int)) < (stack_3.l:Nat))/\∃ x34:ByteArray, w32.cell? (a33.add (((stack_3.l:Int) - (1:Int)).toNat * 5))=some (Value.string x34)/\∃ x35:Int, w32.cell? ((a33.add (((stack_3.l:Int) - (1:Int)).toNat * 5)).add 1)=some (Value.int .i64 x35)/\∃ x36:Int, w32.cell? ((a33.add (((stack_3.l:Int) - (1:Int)).toNat * 5)).add 2)=some (Value.int .i64 x36)/\∃ x37:ByteArray, w32.cell? ((a33.add (((stack_3.l:Int) - (1:Int)).toNat * 5)).add 3)=some (Value.string x37)/\∃ x38:Sl, w32.cell? ((a33.add (((stack_3.l:Int) - (1:Int)).toNat * 5)).add 4)=some (Value.slice x38.p x38.l x38.c)/\let w39 := w32.alloc (Obj.cells #[(Value.string (str [])), (Value.int .i64 0), (Value.int .i64 0), (Value.string (str [])), (Value.slice none 0 0)] 38)
 stN w39 (Addr.mk w32.heap.size 0 none) [(Value.string x34), (Value.int .i64 x35), (Value.int .i64 x36), (Value.string x37), (Value.slice x38.p x38.l x38.c)] fun w40=>let w41 := w40.drew
 ∃ S42:World->Prop, S42 w41/\inR .i64 ((stack_3.l:Int) - (2:Int))/\(0 <= (0:Int)/\(0:Int) <= ((stack_3.l:Int) - (2:Int))/\((stack_3.l:Int) - (2:Int)) <= (stack_3.c:Nat))/\(6:Int) ≠ 0/\nz ops_4.p fun a43=>(0 <= (Int.tmod rest_7 (6:Int))/\(Int.tmod rest_7 (6:Int)) < (ops_4.l:Nat))/\∃ x44:ByteArray, (∀ w':World, S42 w'->w'.cell? (a43.add ((Int.tmod rest_7 (6:Int)).toNat * 1))=some (Value.string x44))/\∃ x45:ByteArray, (∀ w':World, S42 w'->w'.cell? (Addr.mk w.heap.size 0 none)=some (Value.string x45))/\∃ x46:Int, (∀ w':World, S42 w'->w'.cell? (Addr.mk w.heap.size 1 none)=some (Value.int .i64 x46))/\∃ x47:Int, (∀ w':World, S42 w'->w'.cell? (Addr.mk w.heap.size 2 none)=some (Value.int .i64 x47))/\∃ x48:ByteArray, (∀ w':World, S42 w'->w'.cell? (Addr.mk w.heap.size 3 none)=some (Value.string x48))/\∃ x49:Sl, (∀ w':World, S42 w'->w'.cell? (Addr.mk w.heap.size 4 none)=some (Value.slice x49.p x49.l x49.c))/\∃ x50:ByteArray, (∀ w':World, S42 w'->w'.cell? (Addr.mk w32.heap.size 0 none)=some (Value.string x50))/\∃ x51:Int, (∀ w':World, S42 w'->w'.cell? (Addr.mk w32.heap.size 1 none)=some (Value.int .i64 x51))/\∃ x52:Int, (∀ w':World, S42 w'->w'.cell? (Addr.mk w32.heap.size 2 none)=some (Value.int .i64 x52))/\∃ x53:ByteArray, (∀ w':World, S42 w'->w'.cell? (Addr.mk w32.heap.size 3 none)=some (Value.string x53))/\∃ x54:Sl, (∀ w':World, S42 w'->w'.cell? (Addr.mk w32.heap.size 4 none)=some (Value.slice x54.p x54.l x54.c))/\let w55 := w41.alloc (Obj.cells #[(Value.string x45), (Value.int .i64 x46), (Value.int .i64 x47), (Value.string x48), (Value.slice x49.p x49.l x49.c), (Value.string x50), (Value.int .i64 x51), (Value.int .i64 x52), (Value.string x53), (Value.slice x54.p x54.l x54.c)] 38)
 S42 w55/\let w56 := w55.alloc (Obj.cells #[(Value.string x44), (Value.int .i64 0), (Value.int .i64 0), (Value.string (str [])), (Value.slice (some (Addr.mk w41.heap.size 0 none)) 2 2)] 38)
 S42 w56/\apS 5 72 [(Value.string (str [])), (Value.int .i64 0), (Value.int .i64 0), (Value.string (str [])), (Value.slice none 0 0)] 38 (Sl.mk (subP stack_3.p 0 stack_3.c 5) (((stack_3.l:Int) - (2:Int)).toNat - 0) (stack_3.c - 0)) (Sl.mk (some (Addr.mk w55.heap.size 0 none)) 1 1) w56 fun s57 w58=>S42 w58/\inR .i64 (k_5 + (1:Int))/\N0 l_0 t_2 s57 ops_4 (k_5 + (1:Int)) w58)
 (inR .i64 (k_5 + (1:Int))/\N0 l_0 t_2 stack_3 ops_4 (k_5 + (1:Int)) w)
structure z1f_k4 (l_0:Sl) (t_2:Addr) (stack_3 ops_4:Sl) (k_5 rest_7:Int) (N0:Sl->Addr->Sl->Sl->Int->World->Prop) (K:Pw.T5) (w:World):Prop where
 out:z1f_k4d l_0 t_2 stack_3 ops_4 k_5 rest_7 N0 K w
def z1f_k2d (l_0:Sl) (t_2:Addr) (stack_3 ops_4:Sl) (k_5 rest_7 t_33:Int) (N0:Sl->Addr->Sl->Sl->Int->World->Prop) (K:Pw.T5) (w:World):Prop :=
 cnd (t_33 == (2:Int))
 (cnd (t_33 == (2:Int))
 (z1f_k3 l_0 t_2 stack_3 ops_4 k_5 rest_7 N0 K w)
 (z1f_k4 l_0 t_2 stack_3 ops_4 k_5 rest_7 N0 K w))
 (cnd (t_33 == (3:Int))
 (cnd (t_33 == (3:Int))
 (z1f_k3 l_0 t_2 stack_3 ops_4 k_5 rest_7 N0 K w)
 (z1f_k4 l_0 t_2 stack_3 ops_4 k_5 rest_7 N0 K w))
 (cnd (t_33 == (4:Int))
 (z1f_k3 l_0 t_2 stack_3 ops_4 k_5 rest_7 N0 K w)
 (z1f_k4 l_0 t_2 stack_3 ops_4 k_5 rest_7 N0 K w)))
structure z1f_k2 (l_0:Sl) (t_2:Addr) (stack_3 ops_4:Sl) (k_5 rest_7 t_33:Int) (N0:Sl->Addr->Sl->Sl->Int->World->Prop) (K:Pw.T5) (w:World):Prop where
 out:z1f_k2d l_0 t_2 stack_3 ops_4 k_5 rest_7 t_33 N0 K w
def z1f_b6 (t_2:Addr) (stack_3:Sl) (e_12:Addr) (k_13:Int) (N6:Addr->Sl->Addr->Int->World->Prop) (K:Pw.T5) (w:World):Prop :=
 cnd (decide (k_13 < (stack_3.l:Int)))
 (let w73 := w.drew
 ∃ S74:World->Prop, S74 w73/\∃ x75:ByteArray, (∀ w':World, S74 w'->w'.cell? e_12=some (Value.string x75))/\∃ x76:Int, (∀ w':World, S74 w'->w'.cell? (e_12.add 1)=some (Value.int .i64 x76))/\∃ x77:Int, (∀ w':World, S74 w'->w'.cell? (e_12.add 2)=some (Value.int .i64 x77))/\∃ x78:ByteArray, (∀ w':World, S74 w'->w'.cell? (e_12.add 3)=some (Value.string x78))/\∃ x79:Sl, (∀ w':World, S74 w'->w'.cell? (e_12.add 4)=some (Value.slice x79.p x79.l x79.c))/\nz stack_3.p fun a80=>(0 <= k_13/\k_13 < (stack_3.l:Nat))/\∃ x81:ByteArray, (∀ w':World, S74 w'->w'.cell? (a80.add (k_13.toNat * 5))=some (Value.string x81))/\∃ x82:Int, (∀ w':World, S74 w'->w'.cell? ((a80.add (k_13.toNat * 5)).add 1)=some (Value.int .i64 x82))/\∃ x83:Int, (∀ w':World, S74 w'->w'.cell? ((a80.add (k_13.toNat * 5)).add 2)=some (Value.int .i64 x83))/\∃ x84:ByteArray, (∀ w':World, S74 w'->w'.cell? ((a80.add (k_13.toNat * 5)).add 3)=some (Value.string x84))/\∃ x85:Sl, (∀ w':World, S74 w'->w'.cell? ((a80.add (k_13.toNat * 5)).add 4)=some (Value.slice x85.p x85.l x85.c))/\let w86 := w73.alloc (Obj.cells #[(Value.string x75), (Value.int .i64 x76), (Value.int .i64 x77), (Value.string x78), (Value.slice x79.p x79.l x79.c), (Value.string x81), (Value.int .i64 x82), (Value.int .i64 x83), (Value.string x84), (Value.slice x85.p x85.l x85.c)] 38)
 stN w86 e_12 [(Value.string (str [43])), (Value.int .i64 0), (Value.int .i64 0), (Value.string (str [])), (Value.slice (some (Addr.mk w73.heap.size 0 none)) 2 2)] fun w87=>inR .i64 (k_13 + (1:Int))/\N6 t_2 stack_3 e_12 (k_13 + (1:Int)) w87)
 (∃ x88:ByteArray, w.cell? e_12=some (Value.string x88)/\∃ x89:Int, w.cell? (e_12.add 1)=some (Value.int .i64 x89)/\∃ x90:Int, w.cell? (e_12.add 2)=some (Value.int .i64 x90)/\∃ x91:ByteArray, w.cell? (e_12.add 3)=some (Value.string x91)/\∃ x92:Sl, w.cell? (e_12.add 4)=some (Value.slice x92.p x92.l x92.c)/\stN w t_2 [(Value.string x88), (Value.int .i64 x89), (Value.int .i64 x90), (Value.string x91), (Value.slice x92.p x92.l x92.c)] fun w93=>∃ x94:ByteArray, w93.cell? t_2=some (Value.string x94)/\∃ x95:Int, w93.cell? (t_2.add 1)=some (Value.int .i64 x95)/\∃ x96:Int, w93.cell? (t_2.add 2)=some (Value.int .i64 x96)/\∃ x97:ByteArray, w93.cell? (t_2.add 3)=some (Value.string x97)/\∃ x98:Sl, w93.cell? (t_2.add 4)=some (Value.slice x98.p x98.l x98.c)/\K x94 x95 x96 x97 x98 w93)
def z1f_l6d (t_2:Addr) (stack_3:Sl) (e_12:Addr) (k_13:Int) (K:Pw.T5) (w:World):Prop :=
 ∃ (I:Int->World->Prop) (μ:Int->World->Nat), I k_13 w/\∀ (k_131:Int) (w1:World), I k_131 w1 ->
 z1f_b6 t_2 stack_3 e_12 k_131 (fun t_2' stack_3' e_12' k_13' w'=>((t_2'=t_2/\stack_3'=stack_3/\e_12'=e_12/\True)/\I k_13' w')/\μ k_13' w' < μ k_131 w1) K w1
structure z1f_l6 (t_2:Addr) (stack_3:Sl) (e_12:Addr) (k_13:Int) (K:Pw.T5) (w:World):Prop where
 out:z1f_l6d t_2 stack_3 e_12 k_13 K w
def z1f_k5d (t_2:Addr) (stack_3:Sl) (K:Pw.T5) (w:World):Prop :=
 cnd ((stack_3.l:Int) == (0:Int))
 (stN w t_2 [(Value.string (str [110, 97, 109, 101])), (Value.int .i64 0), (Value.int .i64 0), (Value.string (str [112, 114, 105, 99, 101])), (Value.slice none 0 0)] fun w59=>∃ x60:ByteArray, w59.cell? t_2=some (Value.string x60)/\∃ x61:Int, w59.cell? (t_2.add 1)=some (Value.int .i64 x61)/\∃ x62:Int, w59.cell? (t_2.add 2)=some (Value.int .i64 x62)/\∃ x63:ByteArray, w59.cell? (t_2.add 3)=some (Value.string x63)/\∃ x64:Sl, w59.cell? (t_2.add 4)=some (Value.slice x64.p x64.l x64.c)/\K x60 x61 x62 x63 x64 w59)
 (nz stack_3.p fun a65=>(0 <= (0:Int)/\(0:Int) < (stack_3.l:Nat))/\∃ x66:ByteArray, w.cell? (a65.add ((0:Int).toNat * 5))=some (Value.string x66)/\∃ x67:Int, w.cell? ((a65.add ((0:Int).toNat * 5)).add 1)=some (Value.int .i64 x67)/\∃ x68:Int, w.cell? ((a65.add ((0:Int).toNat * 5)).add 2)=some (Value.int .i64 x68)/\∃ x69:ByteArray, w.cell? ((a65.add ((0:Int).toNat * 5)).add 3)=some (Value.string x69)/\∃ x70:Sl, w.cell? ((a65.add ((0:Int).toNat * 5)).add 4)=some (Value.slice x70.p x70.l x70.c)/\let w71 := w.alloc (Obj.cells #[(Value.string (str [])), (Value.int .i64 0), (Value.int .i64 0), (Value.string (str [])), (Value.slice none 0 0)] 38)
 stN w71 (Addr.mk w.heap.size 0 none) [(Value.string x66), (Value.int .i64 x67), (Value.int .i64 x68), (Value.string x69), (Value.slice x70.p x70.l x70.c)] fun w72=>z1f_l6 t_2 stack_3 (Addr.mk w.heap.size 0 none) (1:Int) K w72)
structure z1f_k5 (t_2:Addr) (stack_3:Sl) (K:Pw.T5) (w:World):Prop where
 out:z1f_k5d t_2 stack_3 K w
def z1f_b0 (l_0:Sl) (t_2:Addr) (stack_3 ops_4:Sl) (k_5:Int) (N0:Sl->Addr->Sl->Sl->Int->World->Prop) (K:Pw.T5) (w:World):Prop :=
 cnd (decide (k_5 < (l_0.l:Int)))
 (cnd (decide (k_5 < (80:Int)))
 (nz l_0.p fun a3=>(0 <= k_5/\k_5 < (l_0.l:Nat))/\∃ x4:Int, w.cell? (a3.add (k_5.toNat * 1))=some (Value.int .i64 x4)/\z1y_sh x4 (1000:Int) (fun r6 w5=>(10:Int) ≠ 0/\inR .i64 (Int.tdiv r6 (10:Int))/\(10:Int) ≠ 0/\cnd ((Int.tmod r6 (10:Int)) == (0:Int))
 (cnd ((Int.tmod r6 (10:Int)) == (0:Int))
 (z1f_k1 l_0 t_2 stack_3 ops_4 k_5 (Int.tdiv r6 (10:Int)) N0 K w5)
 (z1f_k2 l_0 t_2 stack_3 ops_4 k_5 (Int.tdiv r6 (10:Int)) (Int.tmod r6 (10:Int)) N0 K w5))
 (cnd ((Int.tmod r6 (10:Int)) == (1:Int))
 (z1f_k1 l_0 t_2 stack_3 ops_4 k_5 (Int.tdiv r6 (10:Int)) N0 K w5)
 (z1f_k2 l_0 t_2 stack_3 ops_4 k_5 (Int.tdiv r6 (10:Int)) (Int.tmod r6 (10:Int)) N0 K w5))) w)
 (z1f_k5 t_2 stack_3 K w))
 (z1f_k5 t_2 stack_3 K w)
def z1f_l0d (l_0:Sl) (t_2:Addr) (stack_3 ops_4:Sl) (k_5:Int) (K:Pw.T5) (w:World):Prop :=
 ∃ (I:Sl->Int->World->Prop) (μ:Sl->Int->World->Nat), I stack_3 k_5 w/\∀ (stack_31:Sl) (k_51:Int) (w1:World), I stack_31 k_51 w1 ->
 z1f_b0 l_0 t_2 stack_31 ops_4 k_51 (fun l_0' t_2' stack_3' ops_4' k_5' w'=>((l_0'=l_0/\t_2'=t_2/\ops_4'=ops_4/\True)/\I stack_3' k_5' w')/\μ stack_3' k_5' w' < μ stack_31 k_51 w1) K w1
structure z1f_l0 (l_0:Sl) (t_2:Addr) (stack_3 ops_4:Sl) (k_5:Int) (K:Pw.T5) (w:World):Prop where
 out:z1f_l0d l_0 t_2 stack_3 ops_4 k_5 K w
def z1f_sd (l_0:Sl) (K:Pw.T5) (w:World):Prop :=
 let w1 := w.alloc (Obj.cells #[(Value.string (str [])), (Value.int .i64 0), (Value.int .i64 0), (Value.string (str [])), (Value.slice none 0 0)] 38)
 let w2 := w1.alloc (Obj.cells #[(Value.string (str [43])), (Value.string (str [45])), (Value.string (str [42])), (Value.string (str [47])), (Value.string (str [109, 105, 110])), (Value.string (str [109, 97, 120]))] 9)
 z1f_l0 l_0 (Addr.mk w.heap.size 0 none) (Sl.mk none 0 0) (Sl.mk (some (Addr.mk w1.heap.size 0 none)) 6 6) (0:Int) K w2
structure z1f_sh (l_0:Sl) (K:Pw.T5) (w:World):Prop where
 out:z1f_sd l_0 K w
def z1f_L0 (Kv:VW):Cur [tL, tQ, tL, tL, tI] WP := fun l_0 t_2 stack_3 ops_4 k_5=>z1f_l0 l_0 t_2 stack_3 ops_4 k_5 (kk [.g 5, tS, tI, tI, tS, tL] Kv)
def z1f_L1 (Kv:VW):Cur [tL, tQ, tL, tL, tI] WP->Cur [tL, tQ, tL, tL, tI, tI] WP := fun N0 l_0 t_2 stack_3 ops_4 k_5 rest_7=>z1f_k1 l_0 t_2 stack_3 ops_4 k_5 rest_7 N0 (kk [.g 5, tS, tI, tI, tS, tL] Kv)
def z1f_L2 (Kv:VW):Cur [tL, tQ, tL, tL, tI] WP->Cur [tL, tQ, tL, tL, tI, tI, tI] WP := fun N0 l_0 t_2 stack_3 ops_4 k_5 rest_7 t_33=>z1f_k2 l_0 t_2 stack_3 ops_4 k_5 rest_7 t_33 N0 (kk [.g 5, tS, tI, tI, tS, tL] Kv)
def z1f_L3 (Kv:VW):Cur [tL, tQ, tL, tL, tI] WP->Cur [tL, tQ, tL, tL, tI, tI] WP := fun N0 l_0 t_2 stack_3 ops_4 k_5 rest_7=>z1f_k3 l_0 t_2 stack_3 ops_4 k_5 rest_7 N0 (kk [.g 5, tS, tI, tI, tS, tL] Kv)
def z1f_L4 (Kv:VW):Cur [tL, tQ, tL, tL, tI] WP->Cur [tL, tQ, tL, tL, tI, tI] WP := fun N0 l_0 t_2 stack_3 ops_4 k_5 rest_7=>z1f_k4 l_0 t_2 stack_3 ops_4 k_5 rest_7 N0 (kk [.g 5, tS, tI, tI, tS, tL] Kv)
def z1f_L5 (Kv:VW):Cur [tQ, tL] WP := fun t_2 stack_3=>z1f_k5 t_2 stack_3 (kk [.g 5, tS, tI, tI, tS, tL] Kv)
def z1f_L6 (Kv:VW):Cur [tQ, tL, tQ, tI] WP := fun t_2 stack_3 e_12 k_13=>z1f_l6 t_2 stack_3 e_12 k_13 (kk [.g 5, tS, tI, tI, tS, tL] Kv)
noncomputable def z1f_S:Pw.Spec := fun vs w Kv=>un [tL] (fun l_0=>z1f_sh l_0 (kk [.g 5, tS, tI, tI, tS, tL] Kv)) nF vs w
def z1f_A (Kv:VW):A := (qr 1 (qr 1 (qr 2 (qs (qr 1 (qb (A.loop [0, 2, 3, 4, 5] (uR0 [tL, tQ, tL, tL, tI] (z1f_L0 Kv)) (qs (qs (A.reg (qn 5 (RA.spl 19 (qn 3 RA.done) (qk 2 (qn 1 RA.done))))) (qc ql ql)) (qs (qb (qr 6 (qr 3 (qr 2 (qb (qs (qr 2 (qc ql (qe 2))) (qc (A.cut [0, 2, 3, 4, 5, 7] (uR1 [tL, tQ, tL, tL, tI] [tL, tQ, tL, tL, tI, tI] (z1f_L1 Kv)) (qr 14 (qe 6))) (A.cut [0, 2, 3, 4, 5, 7, 33] (uR1 [tL, tQ, tL, tL, tI] [tL, tQ, tL, tL, tI, tI, tI] (z1f_L2 Kv)) (qs (qr 2 (qc ql (qr 2 (qc ql (qe 2))))) (qc (A.cut [0, 2, 3, 4, 5, 7] (uR1 [tL, tQ, tL, tL, tI] [tL, tQ, tL, tL, tI, tI] (z1f_L3 Kv)) (qe 10)) (A.cut [0, 2, 3, 4, 5, 7] (uR1 [tL, tQ, tL, tL, tI] [tL, tQ, tL, tL, tI, tI] (z1f_L4 Kv)) (qr 3 (qc (qr 8 (qr 8 (A.drw (dp [0, 1, 2, 3, 4, 5, 6, 7, 8, 9, 10, 11] (DA.eff 12 (DA.pur 13 (DA.eff 14 (DA.eff 15 (DA.pur 16 DA.done))))))))) ql))))))))))))) (qe 3)))))) (A.cut [2, 3] (uR0 [tQ, tL] (z1f_L5 Kv)) (qs (qr 3 (qc (qr 2 ql) ql)) (qr 5 (qs (qr 1 (qb (A.loop [2, 3, 12, 13] (uR0 [tQ, tL, tQ, tI] (z1f_L6 Kv)) (qs (qr 4 (qc ql ql)) (qs (qb (A.drw (dp [0, 1, 2, 3, 4] (DA.eff 5 (DA.pur 6 (DA.eff 7 DA.done)))))) (qe 3)))))) (qr 2 ql)))))))))
theorem z1f_ok:Sound Tryz.prog 27 z1f_S := okS (x := z1f_A) (fun Kv l_0=>z1f_sd l_0 (kk [.g 5, tS, tI, tI, tS, tL] Kv)) progMixed (Γ := [(28, z1y_S), (55, z1b_S), (56, z17_S)]) ⟨.inl z1y_ok, .inl z1b_ok, .inl z17_ok, trivial⟩ Tryz.call27 Tryz.func27 (fun Kv=>hStep (hLoop0 (L := z1f_L0 Kv) (fun N0 l_0 t_2 stack_3 ops_4 k_5=>z1f_b0 l_0 t_2 stack_3 ops_4 k_5 N0 (kk [.g 5, tS, tI, tI, tS, tL] Kv)) (fun ⟨a0, a1, _, a3, _, _⟩ _ h=>let ⟨I, μ, h0, hr⟩ := h.out; ⟨fun b0 b1 b2 b3 b4 w=>(b0=a0/\b1=a1/\b3=a3/\True)/\I b2 b4 w, fun _ _ b2 _ b4 w=>μ b2 b4 w, ⟨⟨rfl, rfl, rfl, trivial⟩, h0⟩, fun ⟨_, _, _, _, _, _⟩ _ ⟨⟨e0, e1, e3, _⟩, hI⟩=>by cases e0; cases e1; cases e3; exact hr _ _ _ hI⟩)) <| hStep (hCut1 (F := z1f_L1 Kv) (G := fun N0 l_0 t_2 stack_3 ops_4 k_5 rest_7=>z1f_k1d l_0 t_2 stack_3 ops_4 k_5 rest_7 N0 (kk [.g 5, tS, tI, tI, tS, tL] Kv))) <| hStep (hCut1 (F := z1f_L2 Kv) (G := fun N0 l_0 t_2 stack_3 ops_4 k_5 rest_7 t_33=>z1f_k2d l_0 t_2 stack_3 ops_4 k_5 rest_7 t_33 N0 (kk [.g 5, tS, tI, tI, tS, tL] Kv))) <| hStep (hCut1 (F := z1f_L3 Kv) (G := fun N0 l_0 t_2 stack_3 ops_4 k_5 rest_7=>z1f_k3d l_0 t_2 stack_3 ops_4 k_5 rest_7 N0 (kk [.g 5, tS, tI, tI, tS, tL] Kv))) <| hStep (hCut1 (F := z1f_L4 Kv) (G := fun N0 l_0 t_2 stack_3 ops_4 k_5 rest_7=>z1f_k4d l_0 t_2 stack_3 ops_4 k_5 rest_7 N0 (kk [.g 5, tS, tI, tI, tS, tL] Kv))) <| hStep (hCut0 (F := z1f_L5 Kv) (G := fun t_2 stack_3=>z1f_k5d t_2 stack_3 (kk [.g 5, tS, tI, tI, tS, tL] Kv))) <| hStep (hLoop0 (L := z1f_L6 Kv) (fun N6 t_2 stack_3 e_12 k_13=>z1f_b6 t_2 stack_3 e_12 k_13 N6 (kk [.g 5, tS, tI, tI, tS, tL] Kv)) (fun ⟨a0, a1, a2, _, _⟩ _ h=>let ⟨I, μ, h0, hr⟩ := h.out; ⟨fun b0 b1 b2 b3 w=>(b0=a0/\b1=a1/\b2=a2/\True)/\I b3 w, fun _ _ _ b3 w=>μ b3 w, ⟨⟨rfl, rfl, rfl, trivial⟩, h0⟩, fun ⟨_, _, _, _, _⟩ _ ⟨⟨e0, e1, e2, _⟩, hI⟩=>by cases e0; cases e1; cases e2; exact hr _ _ hI⟩)) <| hEnd)
def z0s_sd (c_0:Int) (K:Pw.T1) (w:World):Prop :=
 cnd (decide (c_0 >= (97:Int)))
 (cnd (decide (c_0 <= (122:Int)))
 (K true w)
 (cnd (decide (c_0 >= (65:Int)))
 (K (decide (c_0 <= (90:Int))) w)
 (K false w)))
 (cnd (decide (c_0 >= (65:Int)))
 (K (decide (c_0 <= (90:Int))) w)
 (K false w))
structure z0s_sh (c_0:Int) (K:Pw.T1) (w:World):Prop where
 out:z0s_sd c_0 K w
noncomputable def z0s_S:Pw.Spec := fun vs w Kv=>un [.f (.i .u8)] (fun c_0=>z0s_sh c_0 (kk [tB] Kv)) nF vs w
def z0s_A (_:VW):A := (qr 1 (qs (A.reg (qn 3 (RA.spl 5 (qn 4 (RA.spl 9 (qk 6 (qn 2 RA.done)) (qn 3 (RA.spl 12 (qn 5 RA.done) (qk 2 (qn 3 RA.done)))))) (qk 2 (qn 5 (RA.spl 12 (qn 5 RA.done) (qk 2 (qn 3 RA.done)))))))) ql))
theorem z0s_ok:Sound Tryz.prog 143 z0s_S := okS (x := z0s_A) (fun Kv c_0=>z0s_sd c_0 (kk [tB] Kv)) progMixed (Γ := []) trivial Tryz.call143 Tryz.func143 (fun _=>hEnd)
def z13_sd (c_0:Int) (K:Pw.T1) (w:World):Prop :=
 cnd (decide (c_0 >= (48:Int)))
 (K (decide (c_0 <= (57:Int))) w)
 (K false w)
structure z13_sh (c_0:Int) (K:Pw.T1) (w:World):Prop where
 out:z13_sd c_0 K w
noncomputable def z13_S:Pw.Spec := fun vs w Kv=>un [.f (.i .u8)] (fun c_0=>z13_sh c_0 (kk [tB] Kv)) nF vs w
def z13_A (_:VW):A := (qr 1 (qs (A.reg (qn 3 (RA.spl 5 (qn 4 RA.done) (qk 2 (qn 2 RA.done))))) ql))
theorem z13_ok:Sound Tryz.prog 152 z13_S := okS (x := z13_A) (fun Kv c_0=>z13_sd c_0 (kk [tB] Kv)) progMixed (Γ := []) trivial Tryz.call152 Tryz.func152 (fun _=>hEnd)
def z0g_sd (c_0:Int) (K:Pw.T1) (w:World):Prop :=
 z0s_sh c_0 (fun r2 w1=>z13_sh c_0 (fun r4 w3=>cnd r2
 (K true w3)
 (cnd r4
 (K true w3)
 (K (c_0 == (95:Int)) w3))) w1) w
structure z0g_sh (c_0:Int) (K:Pw.T1) (w:World):Prop where
 out:z0g_sd c_0 K w
noncomputable def z0g_S:Pw.Spec := fun vs w Kv=>un [.f (.i .u8)] (fun c_0=>z0g_sh c_0 (kk [tB] Kv)) nF vs w
def z0g_A (_:VW):A := (qr 1 (qr 3 (qr 3 (qs (A.reg (qn 2 (RA.spl 10 (qk 1 (qn 2 (qk 2 (qn 2 RA.done)))) (qn 3 (RA.spl 13 (qk 2 (qn 2 RA.done)) (qn 4 RA.done)))))) ql))))
theorem z0g_ok:Sound Tryz.prog 142 z0g_S := okS (x := z0g_A) (fun Kv c_0=>z0g_sd c_0 (kk [tB] Kv)) progMixed (Γ := [(143, z0s_S), (152, z13_S)]) ⟨.inl z0s_ok, .inl z13_ok, trivial⟩ Tryz.call142 Tryz.func142 (fun _=>hEnd)
def z0r_b0 (s_0:ByteArray) (k_3:Int) (N0:ByteArray->Int->World->Prop) (K:Pw.T1) (w:World):Prop :=
 cnd (decide (k_3 < (s_0.size:Int)))
 ((0 <= k_3/\k_3 < (s_0.size:Nat))/\z0g_sh ((s_0.data.toList.getD k_3.toNat 0).toNat:Int) (fun r2 w1=>(0 <= k_3/\k_3 < (s_0.size:Nat))/\z0s_sh ((s_0.data.toList.getD k_3.toNat 0).toNat:Int) (fun r4 w3=>cnd (!r2)
 (K false w3)
 (cnd (k_3 == (0:Int))
 (cnd (!r4)
 (K false w3)
 (inR .i64 (k_3 + (1:Int))/\N0 s_0 (k_3 + (1:Int)) w3))
 (inR .i64 (k_3 + (1:Int))/\N0 s_0 (k_3 + (1:Int)) w3))) w1) w)
 (K true w)
def z0r_l0d (s_0:ByteArray) (k_3:Int) (K:Pw.T1) (w:World):Prop :=
 ∃ (I:Int->World->Prop) (μ:Int->World->Nat), I k_3 w/\∀ (k_31:Int) (w1:World), I k_31 w1 ->
 z0r_b0 s_0 k_31 (fun s_0' k_3' w'=>((s_0'=s_0/\True)/\I k_3' w')/\μ k_3' w' < μ k_31 w1) K w1
structure z0r_l0 (s_0:ByteArray) (k_3:Int) (K:Pw.T1) (w:World):Prop where
 out:z0r_l0d s_0 k_3 K w
def z0r_sd (s_0:ByteArray) (K:Pw.T1) (w:World):Prop :=
 cnd (decide ((s_0.size:Int) < (1:Int)))
 (K false w)
 (cnd (decide ((s_0.size:Int) > (30:Int)))
 (K false w)
 (z0r_l0 s_0 (0:Int) K w))
structure z0r_sh (s_0:ByteArray) (K:Pw.T1) (w:World):Prop where
 out:z0r_sd s_0 K w
def z0r_L0 (Kv:VW):Cur [tS, tI] WP := fun s_0 k_3=>z0r_l0 s_0 k_3 (kk [tB] Kv)
noncomputable def z0r_S:Pw.Spec := fun vs w Kv=>un [tS] (fun s_0=>z0r_sh s_0 (kk [tB] Kv)) nF vs w
def z0r_A (Kv:VW):A := (qr 1 (qs (qs (A.reg (qn 4 (RA.spl 9 (qk 3 (qn 1 RA.done)) (qn 4 RA.done)))) (qc (qr 1 ql) ql)) (qs (qr 1 (qb (A.loop [0, 3] (uR0 [tS, tI] (z0r_L0 Kv)) (qs (qr 4 (qc ql ql)) (qs (qb (qr 5 (qr 5 (qs (A.reg (qn 3 (RA.spl 30 (qk 6 (qn 1 RA.done)) (qn 3 (RA.spl 33 (qn 4 RA.done) (qk 2 (qn 2 RA.done))))))) (qc (qr 1 ql) ql))))) (qe 3)))))) (qr 1 ql))))
theorem z0r_ok:Sound Tryz.prog 131 z0r_S := okS (x := z0r_A) (fun Kv s_0=>z0r_sd s_0 (kk [tB] Kv)) progMixed (Γ := [(142, z0g_S), (143, z0s_S)]) ⟨.inl z0g_ok, .inl z0s_ok, trivial⟩ Tryz.call131 Tryz.func131 (fun Kv=>hStep (hLoop0 (L := z0r_L0 Kv) (fun N0 s_0 k_3=>z0r_b0 s_0 k_3 N0 (kk [tB] Kv)) (fun ⟨a0, _, _⟩ _ h=>let ⟨I, μ, h0, hr⟩ := h.out; ⟨fun b0 b1 w=>(b0=a0/\True)/\I b1 w, fun _ b1 w=>μ b1 w, ⟨⟨rfl, trivial⟩, h0⟩, fun ⟨_, _, _⟩ _ ⟨⟨e0, _⟩, hI⟩=>by cases e0; exact hr _ _ hI⟩)) <| hEnd)
def z1e_k0d (e_1:Addr) (K:Pw.T1) (w:World):Prop :=
 ∃ x21:Int, w.cell? (e_1.add 1)=some (Value.int .i64 x21)/\∃ x22:Int, w.cell? (e_1.add 2)=some (Value.int .i64 x22)/\cnd (x21 == (0:Int) && (x22 == (0:Int) && true))
 (∃ x23:ByteArray, w.cell? (e_1.add 3)=some (Value.string x23)/\cnd (decide (x23=(str [])))
 (∃ x24:Sl, w.cell? (e_1.add 4)=some (Value.slice x24.p x24.l x24.c)/\K ((x24.l:Int) == (2:Int)) w)
 (K false w))
 (K false w)
structure z1e_k0 (e_1:Addr) (K:Pw.T1) (w:World):Prop where
 out:z1e_k0d e_1 K w
def z1e_sd (e_0_0:ByteArray) (e_0_1 e_0_2:Int) (e_0_3:ByteArray) (e_0_4:Sl) (K:Pw.T1) (w:World):Prop :=
 let w1 := w.alloc (Obj.cells #[(Value.string e_0_0), (Value.int .i64 e_0_1), (Value.int .i64 e_0_2), (Value.string e_0_3), (Value.slice e_0_4.p e_0_4.l e_0_4.c)] 38)
 ∃ x2:ByteArray, w1.cell? (Addr.mk w.heap.size 0 none)=some (Value.string x2)/\cnd (decide (x2=(str [110, 117, 109])))
 (∃ x3:Int, w1.cell? (Addr.mk w.heap.size 1 none)=some (Value.int .i64 x3)/\∃ x4:Int, w1.cell? (Addr.mk w.heap.size 2 none)=some (Value.int .i64 x4)/\z0w_sh x3 x4 (fun r6 w5=>cnd r6
 (∃ x7:Int, w5.cell? (Addr.mk w.heap.size 1 none)=some (Value.int .i64 x7)/\cnd (decide (x7 >= (0:Int)))
 (∃ x8:Int, w5.cell? (Addr.mk w.heap.size 2 none)=some (Value.int .i64 x8)/\x8 ≠ 0/\cnd ((Int.tmod (1000000:Int) x8) == (0:Int))
 (∃ x9:Int, w5.cell? (Addr.mk w.heap.size 1 none)=some (Value.int .i64 x9)/\∃ x10:Int, w5.cell? (Addr.mk w.heap.size 2 none)=some (Value.int .i64 x10)/\inR .i64 ((1000000000:Int) * x10)/\cnd (decide (x9 <= ((1000000000:Int) * x10)))
 (∃ x11:ByteArray, w5.cell? (Addr.mk w.heap.size 3 none)=some (Value.string x11)/\cnd (decide (x11=(str [])))
 (∃ x12:Sl, w5.cell? (Addr.mk w.heap.size 4 none)=some (Value.slice x12.p x12.l x12.c)/\K ((x12.l:Int) == (0:Int)) w5)
 (K false w5))
 (K false w5))
 (K false w5))
 (K false w5))
 (K false w5)) w1)
 (cnd (decide (x2=(str [110, 97, 109, 101])))
 (∃ x13:ByteArray, w1.cell? (Addr.mk w.heap.size 3 none)=some (Value.string x13)/\z0r_sh x13 (fun r15 w14=>cnd r15
 (∃ x16:ByteArray, w14.cell? (Addr.mk w.heap.size 3 none)=some (Value.string x16)/\cnd (!decide (x16=(str [109, 105, 110])))
 (∃ x17:ByteArray, w14.cell? (Addr.mk w.heap.size 3 none)=some (Value.string x17)/\cnd (!decide (x17=(str [109, 97, 120])))
 (∃ x18:Int, w14.cell? (Addr.mk w.heap.size 1 none)=some (Value.int .i64 x18)/\∃ x19:Int, w14.cell? (Addr.mk w.heap.size 2 none)=some (Value.int .i64 x19)/\cnd (x18 == (0:Int) && (x19 == (0:Int) && true))
 (∃ x20:Sl, w14.cell? (Addr.mk w.heap.size 4 none)=some (Value.slice x20.p x20.l x20.c)/\K ((x20.l:Int) == (0:Int)) w14)
 (K false w14))
 (K false w14))
 (K false w14))
 (K false w14)) w1)
 (cnd (decide (x2=(str [43])))
 (cnd (decide (x2=(str [43])))
 (z1e_k0 (Addr.mk w.heap.size 0 none) K w1)
 (K false w1))
 (cnd (decide (x2=(str [45])))
 (cnd (decide (x2=(str [45])))
 (z1e_k0 (Addr.mk w.heap.size 0 none) K w1)
 (K false w1))
 (cnd (decide (x2=(str [42])))
 (cnd (decide (x2=(str [42])))
 (z1e_k0 (Addr.mk w.heap.size 0 none) K w1)
 (K false w1))
 (cnd (decide (x2=(str [47])))
 (cnd (decide (x2=(str [47])))
 (z1e_k0 (Addr.mk w.heap.size 0 none) K w1)
 (K false w1))
 (cnd (decide (x2=(str [109, 105, 110])))
 (cnd (decide (x2=(str [109, 105, 110])))
 (z1e_k0 (Addr.mk w.heap.size 0 none) K w1)
 (K false w1))
 (cnd (decide (x2=(str [109, 97, 120])))
 (z1e_k0 (Addr.mk w.heap.size 0 none) K w1)
 (K false w1))))))))
structure z1e_sh (e_0_0:ByteArray) (e_0_1 e_0_2:Int) (e_0_3:ByteArray) (e_0_4:Sl) (K:Pw.T1) (w:World):Prop where
 out:z1e_sd e_0_0 e_0_1 e_0_2 e_0_3 e_0_4 K w
def z1e_L0 (Kv:VW):Cur [tQ] WP := fun e_1=>z1e_k0 e_1 (kk [tB] Kv)
noncomputable def z1e_S:Pw.Spec := fun vs w Kv=>un [.g 5, tS, tI, tI, tS, tL] (fun e_0_0 e_0_1 e_0_2 e_0_3 e_0_4=>z1e_sh e_0_0 e_0_1 e_0_2 e_0_3 e_0_4 (kk [tB] Kv)) nF vs w
def z1e_A (Kv:VW):A := (qr 2 (qs (qr 2 (qb (qr 2 (qc (qr 4 (qs (A.reg (qn 2 (RA.spl 13 (qn 6 (RA.spl 19 (qn 7 (RA.spl 26 (qn 10 (RA.spl 36 (qn 5 (RA.spl 41 (qn 6 RA.done) (qk 4 (qn 2 RA.done)))) (qk 3 (qn 2 (qk 4 (qn 2 RA.done)))))) (qk 8 (qn 2 (qk 3 (qn 2 (qk 4 (qn 2 RA.done)))))))) (qk 5 (qn 2 (qk 8 (qn 2 (qk 3 (qn 2 (qk 4 (qn 2 RA.done)))))))))) (qk 4 (qn 2 (qk 5 (qn 2 (qk 8 (qn 2 (qk 3 (qn 2 (qk 4 (qn 2 RA.done))))))))))))) ql)) (qr 2 (qc (qr 4 (qs (A.reg (qn 2 (RA.spl 53 (qn 5 (RA.spl 58 (qn 5 (RA.spl 63 (qn 6 (RA.spl 69 (qn 6 RA.done) (qk 4 (qn 2 RA.done)))) (qk 4 (qn 2 (qk 4 (qn 2 RA.done)))))) (qk 3 (qn 2 (qk 4 (qn 2 (qk 4 (qn 2 RA.done)))))))) (qk 3 (qn 2 (qk 3 (qn 2 (qk 4 (qn 2 (qk 4 (qn 2 RA.done))))))))))) ql)) (qs (qr 2 (qc ql (qr 2 (qc ql (qr 2 (qc ql (qr 2 (qc ql (qr 2 (qc ql (qe 2))))))))))) (qc (A.cut [1] (uR0 [tQ] (z1e_L0 Kv)) (qs (A.reg (qn 5 (RA.spl 86 (qn 5 (RA.spl 91 (qn 6 RA.done) (qk 4 (qn 2 RA.done)))) (qk 3 (qn 2 (qk 4 (qn 2 RA.done))))))) ql)) ql)))))))) (qr 1 ql)))
theorem z1e_ok:Sound Tryz.prog 114 z1e_S := okS (x := z1e_A) (fun Kv e_0_0 e_0_1 e_0_2 e_0_3 e_0_4=>z1e_sd e_0_0 e_0_1 e_0_2 e_0_3 e_0_4 (kk [tB] Kv)) progMixed (Γ := [(130, z0w_S), (131, z0r_S)]) ⟨.inl z0w_ok, .inl z0r_ok, trivial⟩ Tryz.call114 Tryz.func114 (fun Kv=>hStep (hCut0 (F := z1e_L0 Kv) (G := fun e_1=>z1e_k0d e_1 (kk [tB] Kv))) <| hEnd)
structure z14_sh (e_0_0:ByteArray) (e_0_1 e_0_2:Int) (e_0_3:ByteArray) (e_0_4:Sl) (K:Pw.T1) (w:World):Prop where
 out:Calls Tryz.prog 93 #[(Value.agg #[(Value.string e_0_0), (Value.int .i64 e_0_1), (Value.int .i64 e_0_2), (Value.string e_0_3), (Value.slice e_0_4.p e_0_4.l e_0_4.c)])] w fun e w'=>∃ r0:Bool, e=.returned (Value.bool r0)/\K r0 w'
noncomputable def z14_S:Pw.Spec := fun vs w Kv =>
 match vs with
 | [.agg ⟨[.string e_0_0, .int .i64 e_0_1, .int .i64 e_0_2, .string e_0_3, .slice e_0_4p e_0_4l e_0_4c]⟩]=>z14_sh e_0_0 e_0_1 e_0_2 e_0_3 ⟨e_0_4p, e_0_4l, e_0_4c⟩ (fun r0 w'=>Kv (Value.bool r0) w') w
 | _=>False
theorem z14_okr:Sound Tryz.prog 93 z14_S := ⟨Tryz.call93, fun vs w Kv h=>by
  unfold z14_S at h
  split at h
  · exact h.out.mono fun e w' he=>by
      obtain ⟨_, he, hk⟩ := he
      exact ⟨_, he, hk⟩
  · exact h.elim⟩
def z14_b0 (e_1:Addr) (ok_3:Bool) (k_4:Int) (N0:Addr->Bool->Int->World->Prop) (K:Pw.T1) (w:World):Prop :=
 ∃ x9:Sl, w.cell? (e_1.add 4)=some (Value.slice x9.p x9.l x9.c)/\cnd (decide (k_4 < (x9.l:Int)))
 (cnd ok_3
 (∃ x10:Sl, w.cell? (e_1.add 4)=some (Value.slice x10.p x10.l x10.c)/\nz x10.p fun a11=>(0 <= k_4/\k_4 < (x10.l:Nat))/\∃ x12:ByteArray, w.cell? (a11.add (k_4.toNat * 5))=some (Value.string x12)/\∃ x13:Int, w.cell? ((a11.add (k_4.toNat * 5)).add 1)=some (Value.int .i64 x13)/\∃ x14:Int, w.cell? ((a11.add (k_4.toNat * 5)).add 2)=some (Value.int .i64 x14)/\∃ x15:ByteArray, w.cell? ((a11.add (k_4.toNat * 5)).add 3)=some (Value.string x15)/\∃ x16:Sl, w.cell? ((a11.add (k_4.toNat * 5)).add 4)=some (Value.slice x16.p x16.l x16.c)/\z14_sh x12 x13 x14 x15 x16 (fun r18 w17=>inR .i64 (k_4 + (1:Int))/\N0 e_1 r18 (k_4 + (1:Int)) w17) w)
 (K ok_3 w))
 (K ok_3 w)
def z14_l0d (e_1:Addr) (ok_3:Bool) (k_4:Int) (K:Pw.T1) (w:World):Prop :=
 ∃ (I:Bool->Int->World->Prop) (μ:Bool->Int->World->Nat), I ok_3 k_4 w/\∀ (ok_31:Bool) (k_41:Int) (w1:World), I ok_31 k_41 w1 ->
 z14_b0 e_1 ok_31 k_41 (fun e_1' ok_3' k_4' w'=>((e_1'=e_1/\True)/\I ok_3' k_4' w')/\μ ok_3' k_4' w' < μ ok_31 k_41 w1) K w1
structure z14_l0 (e_1:Addr) (ok_3:Bool) (k_4:Int) (K:Pw.T1) (w:World):Prop where
 out:z14_l0d e_1 ok_3 k_4 K w
def z14_sd (e_0_0:ByteArray) (e_0_1 e_0_2:Int) (e_0_3:ByteArray) (e_0_4:Sl) (K:Pw.T1) (w:World):Prop :=
 let w1 := w.alloc (Obj.cells #[(Value.string e_0_0), (Value.int .i64 e_0_1), (Value.int .i64 e_0_2), (Value.string e_0_3), (Value.slice e_0_4.p e_0_4.l e_0_4.c)] 38)
 ∃ x2:ByteArray, w1.cell? (Addr.mk w.heap.size 0 none)=some (Value.string x2)/\∃ x3:Int, w1.cell? (Addr.mk w.heap.size 1 none)=some (Value.int .i64 x3)/\∃ x4:Int, w1.cell? (Addr.mk w.heap.size 2 none)=some (Value.int .i64 x4)/\∃ x5:ByteArray, w1.cell? (Addr.mk w.heap.size 3 none)=some (Value.string x5)/\∃ x6:Sl, w1.cell? (Addr.mk w.heap.size 4 none)=some (Value.slice x6.p x6.l x6.c)/\z1e_sh x2 x3 x4 x5 x6 (fun r8 w7=>z14_l0 (Addr.mk w.heap.size 0 none) r8 (0:Int) K w7) w1
def z14_P0 (Kv:VW) (ρ:Rho) (vs:List Value) (w:World):Prop :=
 match ρ, vs with
 | _, [.pointer (some e_1), .bool ok_3, .int .i64 k_4]=>z14_l0 e_1 ok_3 k_4 (fun r0 w'=>Kv (Value.bool r0) w') w
 | _, _=>False
noncomputable def z14_E:Pw.Env := [(93, z14_S), (114, z1e_S)]
noncomputable def z14_C:Code := (Tryz.f93.body).getD .skip
noncomputable def z14_A (Kv:VW):Pw.A :=
 (qr 2 (qr 3 (qs (qr 1 (qb (A.loop [1, 3, 4] (z14_P0 Kv) (qs (qs (A.reg (qn 6 (RA.spl 12 (qn 2 RA.done) (qk 1 (qn 1 RA.done))))) (qc ql ql)) (qs (qb (qe 7)) (qe 3)))))) (qr 2 ql))))
noncomputable def z14_O (Kv:VW):List Ob := (obs Tryz.prog z14_E 24 (z14_A Kv) z14_C (fun _=>retQ Tryz.prog Tryz.f93.results Kv))
theorem z14_e (Kv:VW) (e_0_0:ByteArray) (e_0_1 e_0_2:Int) (e_0_3:ByteArray) (e_0_4p:Option Addr) (e_0_4l e_0_4c:Nat) (w:World):z14_sd e_0_0 e_0_1 e_0_2 e_0_3 ⟨e_0_4p, e_0_4l, e_0_4c⟩ (fun r0 w'=>Kv (Value.bool r0) w') w=W Tryz.prog z14_E 24 (z14_A Kv) z14_C [] (retQ Tryz.prog Tryz.f93.results Kv) [] (startS [(Value.agg #[(Value.string e_0_0), (Value.int .i64 e_0_1), (Value.int .i64 e_0_2), (Value.string e_0_3), (Value.slice e_0_4p e_0_4l e_0_4c)])]) w := by kernel_rfl
theorem z14_e0 (Kv:VW) (N0:List Value->World->Prop) (ρ:Rho) (e_1:Addr) (ok_3:Bool) (k_4:Int) (w:World):z14_b0 e_1 ok_3 k_4 (fun e_1' ok_3' k_4' w'=>N0 [(Value.pointer (some e_1')), (Value.bool ok_3'), (Value.int .i64 k_4')] w') (fun r0 w'=>Kv (Value.bool r0) w') w=goalAt Tryz.prog z14_E 24 (z14_O Kv) 0 (N0 :: ρ) [(Value.pointer (some e_1)), (Value.bool ok_3), (Value.int .i64 k_4)] w := by kernel_rfl
theorem z14_q0 (Kv:VW) (ρ:Rho) (vs:List Value) (w:World):labAt (z14_O Kv) 0 ρ vs w=z14_P0 Kv ρ vs w := by kernel_rfl
def z14_I0 (e_10:Addr) (I:Bool->Int->World->Prop) (vs:List Value) (w:World):Prop :=
 match vs with
 | [.pointer (some e_1), .bool ok_3, .int .i64 k_4]=>(e_1=e_10/\True)/\I ok_3 k_4 w
 | _=>False
def z14_M0 (μ:Bool->Int->World->Nat) (vs:List Value) (w:World):Nat :=
 match vs with
 | [.pointer (some e_1), .bool ok_3, .int .i64 k_4]=>μ ok_3 k_4 w
 | _=>0
theorem z14_h0 (Kv:VW):holdsAt Tryz.prog z14_E 24 (z14_O Kv) 0 := holdsAt_loop (by kernel_rfl) (fun ρ vs w h=>by
  rw [z14_q0] at h
  unfold z14_P0 at h
  split at h
  · rename_i ρt e_1 ok_3 k_4
    obtain ⟨I, μ, h0, hr⟩ := h.out
    refine ⟨z14_I0 e_1 I, z14_M0 μ, ⟨⟨rfl, trivial⟩, h0⟩, fun vs w hI=>?_⟩
    unfold z14_I0 at hI
    split at hI
    · obtain ⟨⟨h0, _⟩, hI⟩ := hI
      cases h0
      rw [← z14_e0]
      exact hr _ _ _ hI
    · exact hI.elim
  · exact h.elim)
theorem z14_n (Kv:VW):obAt (z14_O Kv) 1=none := by kernel_rfl
theorem z14_h (Kv:VW):∀ k, holdsAt Tryz.prog z14_E 24 (z14_O Kv) k := fun k=>match k with
  | 0=>z14_h0 Kv
  | k + 1=>holdsAt_ge (z14_n Kv) (Nat.le_add_left _ _)
theorem z14_mk (e_0_0:ByteArray) (e_0_1 e_0_2:Int) (e_0_3:ByteArray) (e_0_4p:Option Addr) (e_0_4l e_0_4c:Nat) {K:Bool->World->Prop} {w:World} (h:z14_sd e_0_0 e_0_1 e_0_2 e_0_3 ⟨e_0_4p, e_0_4l, e_0_4c⟩ K w):z14_sh e_0_0 e_0_1 e_0_2 e_0_3 ⟨e_0_4p, e_0_4l, e_0_4c⟩ K w := by
  have e:(fun r0 w'=>(fun v w'=>∃ r0:Bool, v=(Value.bool r0)/\K r0 w') (Value.bool r0) w')=K := by
    funext r0 w'
    apply propext
    constructor
    · rintro ⟨r0', hv, hk⟩
      cases hv
      exact hk
    · intro hk
      exact ⟨_, rfl, hk⟩
  have h':z14_sd e_0_0 e_0_1 e_0_2 e_0_3 ⟨e_0_4p, e_0_4l, e_0_4c⟩ (fun r0 w'=>(fun v w'=>∃ r0:Bool, v=(Value.bool r0)/\K r0 w') (Value.bool r0) w') w := by rw [e]; exact h
  rw [z14_e (fun v w'=>∃ r0:Bool, v=(Value.bool r0)/\K r0 w')] at h'
  refine ⟨(calls_sound (Γ := z14_E) progMixed ⟨.inl z14_okr, .inl z1e_ok, trivial⟩ Tryz.func93 (code := z14_C) (by kernel_rfl) (z14_A (fun v w'=>∃ r0:Bool, v=(Value.bool r0)/\K r0 w')) (fun v w'=>∃ r0:Bool, v=(Value.bool r0)/\K r0 w') (holds_all (z14_h (fun v w'=>∃ r0:Bool, v=(Value.bool r0)/\K r0 w'))) (Nat.le_of_ble_eq_true (by kernel_rfl)) h').mono fun e w' he=>?_⟩
  obtain ⟨v, rfl, _, rfl, hk⟩ := he
  exact ⟨_, rfl, hk⟩
structure z12_sh (e_0_0:ByteArray) (e_0_1 e_0_2:Int) (e_0_3:ByteArray) (e_0_4:Sl) (K:Pw.T2) (w:World):Prop where
 out:Calls Tryz.prog 94 #[(Value.agg #[(Value.string e_0_0), (Value.int .i64 e_0_1), (Value.int .i64 e_0_2), (Value.string e_0_3), (Value.slice e_0_4.p e_0_4.l e_0_4.c)])] w fun e w'=>∃ r0:Int, e=.returned (Value.int .i64 r0)/\K r0 w'
noncomputable def z12_S:Pw.Spec := fun vs w Kv =>
 match vs with
 | [.agg ⟨[.string e_0_0, .int .i64 e_0_1, .int .i64 e_0_2, .string e_0_3, .slice e_0_4p e_0_4l e_0_4c]⟩]=>z12_sh e_0_0 e_0_1 e_0_2 e_0_3 ⟨e_0_4p, e_0_4l, e_0_4c⟩ (fun r0 w'=>Kv (Value.int .i64 r0) w') w
 | _=>False
theorem z12_okr:Sound Tryz.prog 94 z12_S := ⟨Tryz.call94, fun vs w Kv h=>by
  unfold z12_S at h
  split at h
  · exact h.out.mono fun e w' he=>by
      obtain ⟨_, he, hk⟩ := he
      exact ⟨_, he, hk⟩
  · exact h.elim⟩
def z12_b0 (e_1:Addr) (n_3 k_4:Int) (N0:Addr->Int->Int->World->Prop) (K:Pw.T2) (w:World):Prop :=
 ∃ x2:Sl, w.cell? (e_1.add 4)=some (Value.slice x2.p x2.l x2.c)/\cnd (decide (k_4 < (x2.l:Int)))
 (∃ x3:Sl, w.cell? (e_1.add 4)=some (Value.slice x3.p x3.l x3.c)/\nz x3.p fun a4=>(0 <= k_4/\k_4 < (x3.l:Nat))/\∃ x5:ByteArray, w.cell? (a4.add (k_4.toNat * 5))=some (Value.string x5)/\∃ x6:Int, w.cell? ((a4.add (k_4.toNat * 5)).add 1)=some (Value.int .i64 x6)/\∃ x7:Int, w.cell? ((a4.add (k_4.toNat * 5)).add 2)=some (Value.int .i64 x7)/\∃ x8:ByteArray, w.cell? ((a4.add (k_4.toNat * 5)).add 3)=some (Value.string x8)/\∃ x9:Sl, w.cell? ((a4.add (k_4.toNat * 5)).add 4)=some (Value.slice x9.p x9.l x9.c)/\z12_sh x5 x6 x7 x8 x9 (fun r11 w10=>inR .i64 (n_3 + r11)/\inR .i64 (k_4 + (1:Int))/\N0 e_1 (n_3 + r11) (k_4 + (1:Int)) w10) w)
 (K n_3 w)
def z12_l0d (e_1:Addr) (n_3 k_4:Int) (K:Pw.T2) (w:World):Prop :=
 ∃ (I:Int->Int->World->Prop) (μ:Int->Int->World->Nat), I n_3 k_4 w/\∀ (n_31 k_41:Int) (w1:World), I n_31 k_41 w1 ->
 z12_b0 e_1 n_31 k_41 (fun e_1' n_3' k_4' w'=>((e_1'=e_1/\True)/\I n_3' k_4' w')/\μ n_3' k_4' w' < μ n_31 k_41 w1) K w1
structure z12_l0 (e_1:Addr) (n_3 k_4:Int) (K:Pw.T2) (w:World):Prop where
 out:z12_l0d e_1 n_3 k_4 K w
def z12_sd (e_0_0:ByteArray) (e_0_1 e_0_2:Int) (e_0_3:ByteArray) (e_0_4:Sl) (K:Pw.T2) (w:World):Prop :=
 let w1 := w.alloc (Obj.cells #[(Value.string e_0_0), (Value.int .i64 e_0_1), (Value.int .i64 e_0_2), (Value.string e_0_3), (Value.slice e_0_4.p e_0_4.l e_0_4.c)] 38)
 z12_l0 (Addr.mk w.heap.size 0 none) (1:Int) (0:Int) K w1
def z12_P0 (Kv:VW) (ρ:Rho) (vs:List Value) (w:World):Prop :=
 match ρ, vs with
 | _, [.pointer (some e_1), .int .i64 n_3, .int .i64 k_4]=>z12_l0 e_1 n_3 k_4 (fun r0 w'=>Kv (Value.int .i64 r0) w') w
 | _, _=>False
noncomputable def z12_E:Pw.Env := [(94, z12_S)]
noncomputable def z12_C:Code := (Tryz.f94.body).getD .skip
noncomputable def z12_A (Kv:VW):Pw.A :=
 (qr 2 (qr 1 (qs (qr 1 (qb (A.loop [1, 3, 4] (z12_P0 Kv) (qs (qr 5 (qc ql ql)) (qs (qb (qe 9)) (qe 3)))))) (qr 2 ql))))
noncomputable def z12_O (Kv:VW):List Ob := (obs Tryz.prog z12_E 21 (z12_A Kv) z12_C (fun _=>retQ Tryz.prog Tryz.f94.results Kv))
theorem z12_e (Kv:VW) (e_0_0:ByteArray) (e_0_1 e_0_2:Int) (e_0_3:ByteArray) (e_0_4p:Option Addr) (e_0_4l e_0_4c:Nat) (w:World):z12_sd e_0_0 e_0_1 e_0_2 e_0_3 ⟨e_0_4p, e_0_4l, e_0_4c⟩ (fun r0 w'=>Kv (Value.int .i64 r0) w') w=W Tryz.prog z12_E 21 (z12_A Kv) z12_C [] (retQ Tryz.prog Tryz.f94.results Kv) [] (startS [(Value.agg #[(Value.string e_0_0), (Value.int .i64 e_0_1), (Value.int .i64 e_0_2), (Value.string e_0_3), (Value.slice e_0_4p e_0_4l e_0_4c)])]) w := by kernel_rfl
theorem z12_e0 (Kv:VW) (N0:List Value->World->Prop) (ρ:Rho) (e_1:Addr) (n_3 k_4:Int) (w:World):z12_b0 e_1 n_3 k_4 (fun e_1' n_3' k_4' w'=>N0 [(Value.pointer (some e_1')), (Value.int .i64 n_3'), (Value.int .i64 k_4')] w') (fun r0 w'=>Kv (Value.int .i64 r0) w') w=goalAt Tryz.prog z12_E 21 (z12_O Kv) 0 (N0 :: ρ) [(Value.pointer (some e_1)), (Value.int .i64 n_3), (Value.int .i64 k_4)] w := by kernel_rfl
theorem z12_q0 (Kv:VW) (ρ:Rho) (vs:List Value) (w:World):labAt (z12_O Kv) 0 ρ vs w=z12_P0 Kv ρ vs w := by kernel_rfl
def z12_I0 (e_10:Addr) (I:Int->Int->World->Prop) (vs:List Value) (w:World):Prop :=
 match vs with
 | [.pointer (some e_1), .int .i64 n_3, .int .i64 k_4]=>(e_1=e_10/\True)/\I n_3 k_4 w
 | _=>False
def z12_M0 (μ:Int->Int->World->Nat) (vs:List Value) (w:World):Nat :=
 match vs with
 | [.pointer (some e_1), .int .i64 n_3, .int .i64 k_4]=>μ n_3 k_4 w
 | _=>0
theorem z12_h0 (Kv:VW):holdsAt Tryz.prog z12_E 21 (z12_O Kv) 0 := holdsAt_loop (by kernel_rfl) (fun ρ vs w h=>by
  rw [z12_q0] at h
  unfold z12_P0 at h
  split at h
  · rename_i ρt e_1 n_3 k_4
    obtain ⟨I, μ, h0, hr⟩ := h.out
    refine ⟨z12_I0 e_1 I, z12_M0 μ, ⟨⟨rfl, trivial⟩, h0⟩, fun vs w hI=>?_⟩
    unfold z12_I0 at hI
    split at hI
    · obtain ⟨⟨h0, _⟩, hI⟩ := hI
      cases h0
      rw [← z12_e0]
      exact hr _ _ _ hI
    · exact hI.elim
  · exact h.elim)
theorem z12_n (Kv:VW):obAt (z12_O Kv) 1=none := by kernel_rfl
theorem z12_h (Kv:VW):∀ k, holdsAt Tryz.prog z12_E 21 (z12_O Kv) k := fun k=>match k with
  | 0=>z12_h0 Kv
  | k + 1=>holdsAt_ge (z12_n Kv) (Nat.le_add_left _ _)
theorem z12_mk (e_0_0:ByteArray) (e_0_1 e_0_2:Int) (e_0_3:ByteArray) (e_0_4p:Option Addr) (e_0_4l e_0_4c:Nat) {K:Int->World->Prop} {w:World} (h:z12_sd e_0_0 e_0_1 e_0_2 e_0_3 ⟨e_0_4p, e_0_4l, e_0_4c⟩ K w):z12_sh e_0_0 e_0_1 e_0_2 e_0_3 ⟨e_0_4p, e_0_4l, e_0_4c⟩ K w := by
  have e:(fun r0 w'=>(fun v w'=>∃ r0:Int, v=(Value.int .i64 r0)/\K r0 w') (Value.int .i64 r0) w')=K := by
    funext r0 w'
    apply propext
    constructor
    · rintro ⟨r0', hv, hk⟩
      cases hv
      exact hk
    · intro hk
      exact ⟨_, rfl, hk⟩
  have h':z12_sd e_0_0 e_0_1 e_0_2 e_0_3 ⟨e_0_4p, e_0_4l, e_0_4c⟩ (fun r0 w'=>(fun v w'=>∃ r0:Int, v=(Value.int .i64 r0)/\K r0 w') (Value.int .i64 r0) w') w := by rw [e]; exact h
  rw [z12_e (fun v w'=>∃ r0:Int, v=(Value.int .i64 r0)/\K r0 w')] at h'
  refine ⟨(calls_sound (Γ := z12_E) progMixed ⟨.inl z12_okr, trivial⟩ Tryz.func94 (code := z12_C) (by kernel_rfl) (z12_A (fun v w'=>∃ r0:Int, v=(Value.int .i64 r0)/\K r0 w')) (fun v w'=>∃ r0:Int, v=(Value.int .i64 r0)/\K r0 w') (holds_all (z12_h (fun v w'=>∃ r0:Int, v=(Value.int .i64 r0)/\K r0 w'))) (Nat.le_of_ble_eq_true (by kernel_rfl)) h').mono fun e w' he=>?_⟩
  obtain ⟨v, rfl, _, rfl, hk⟩ := he
  exact ⟨_, rfl, hk⟩
structure z11_sh (e_0_0:ByteArray) (e_0_1 e_0_2:Int) (e_0_3:ByteArray) (e_0_4:Sl) (K:Pw.T2) (w:World):Prop where
 out:Calls Tryz.prog 95 #[(Value.agg #[(Value.string e_0_0), (Value.int .i64 e_0_1), (Value.int .i64 e_0_2), (Value.string e_0_3), (Value.slice e_0_4.p e_0_4.l e_0_4.c)])] w fun e w'=>∃ r0:Int, e=.returned (Value.int .i64 r0)/\K r0 w'
noncomputable def z11_S:Pw.Spec := fun vs w Kv =>
 match vs with
 | [.agg ⟨[.string e_0_0, .int .i64 e_0_1, .int .i64 e_0_2, .string e_0_3, .slice e_0_4p e_0_4l e_0_4c]⟩]=>z11_sh e_0_0 e_0_1 e_0_2 e_0_3 ⟨e_0_4p, e_0_4l, e_0_4c⟩ (fun r0 w'=>Kv (Value.int .i64 r0) w') w
 | _=>False
theorem z11_okr:Sound Tryz.prog 95 z11_S := ⟨Tryz.call95, fun vs w Kv h=>by
  unfold z11_S at h
  split at h
  · exact h.out.mono fun e w' he=>by
      obtain ⟨_, he, hk⟩ := he
      exact ⟨_, he, hk⟩
  · exact h.elim⟩
def z11_b0 (e_1:Addr) (n_3 k_4:Int) (N0:Addr->Int->Int->World->Prop) (K:Pw.T2) (w:World):Prop :=
 ∃ x2:Sl, w.cell? (e_1.add 4)=some (Value.slice x2.p x2.l x2.c)/\cnd (decide (k_4 < (x2.l:Int)))
 (∃ x3:Sl, w.cell? (e_1.add 4)=some (Value.slice x3.p x3.l x3.c)/\nz x3.p fun a4=>(0 <= k_4/\k_4 < (x3.l:Nat))/\∃ x5:ByteArray, w.cell? (a4.add (k_4.toNat * 5))=some (Value.string x5)/\∃ x6:Int, w.cell? ((a4.add (k_4.toNat * 5)).add 1)=some (Value.int .i64 x6)/\∃ x7:Int, w.cell? ((a4.add (k_4.toNat * 5)).add 2)=some (Value.int .i64 x7)/\∃ x8:ByteArray, w.cell? ((a4.add (k_4.toNat * 5)).add 3)=some (Value.string x8)/\∃ x9:Sl, w.cell? ((a4.add (k_4.toNat * 5)).add 4)=some (Value.slice x9.p x9.l x9.c)/\z11_sh x5 x6 x7 x8 x9 (fun r11 w10=>inR .i64 (k_4 + (1:Int))/\N0 e_1 (max n_3 r11) (k_4 + (1:Int)) w10) w)
 (inR .i64 (n_3 + (1:Int))/\K (n_3 + (1:Int)) w)
def z11_l0d (e_1:Addr) (n_3 k_4:Int) (K:Pw.T2) (w:World):Prop :=
 ∃ (I:Int->Int->World->Prop) (μ:Int->Int->World->Nat), I n_3 k_4 w/\∀ (n_31 k_41:Int) (w1:World), I n_31 k_41 w1 ->
 z11_b0 e_1 n_31 k_41 (fun e_1' n_3' k_4' w'=>((e_1'=e_1/\True)/\I n_3' k_4' w')/\μ n_3' k_4' w' < μ n_31 k_41 w1) K w1
structure z11_l0 (e_1:Addr) (n_3 k_4:Int) (K:Pw.T2) (w:World):Prop where
 out:z11_l0d e_1 n_3 k_4 K w
def z11_sd (e_0_0:ByteArray) (e_0_1 e_0_2:Int) (e_0_3:ByteArray) (e_0_4:Sl) (K:Pw.T2) (w:World):Prop :=
 let w1 := w.alloc (Obj.cells #[(Value.string e_0_0), (Value.int .i64 e_0_1), (Value.int .i64 e_0_2), (Value.string e_0_3), (Value.slice e_0_4.p e_0_4.l e_0_4.c)] 38)
 z11_l0 (Addr.mk w.heap.size 0 none) (0:Int) (0:Int) K w1
def z11_P0 (Kv:VW) (ρ:Rho) (vs:List Value) (w:World):Prop :=
 match ρ, vs with
 | _, [.pointer (some e_1), .int .i64 n_3, .int .i64 k_4]=>z11_l0 e_1 n_3 k_4 (fun r0 w'=>Kv (Value.int .i64 r0) w') w
 | _, _=>False
noncomputable def z11_E:Pw.Env := [(95, z11_S)]
noncomputable def z11_C:Code := (Tryz.f95.body).getD .skip
noncomputable def z11_A (Kv:VW):Pw.A :=
 (qr 2 (qr 1 (qs (qr 1 (qb (A.loop [1, 3, 4] (z11_P0 Kv) (qs (qr 5 (qc ql ql)) (qs (qb (qe 9)) (qe 3)))))) (qr 3 ql))))
noncomputable def z11_O (Kv:VW):List Ob := (obs Tryz.prog z11_E 22 (z11_A Kv) z11_C (fun _=>retQ Tryz.prog Tryz.f95.results Kv))
theorem z11_e (Kv:VW) (e_0_0:ByteArray) (e_0_1 e_0_2:Int) (e_0_3:ByteArray) (e_0_4p:Option Addr) (e_0_4l e_0_4c:Nat) (w:World):z11_sd e_0_0 e_0_1 e_0_2 e_0_3 ⟨e_0_4p, e_0_4l, e_0_4c⟩ (fun r0 w'=>Kv (Value.int .i64 r0) w') w=W Tryz.prog z11_E 22 (z11_A Kv) z11_C [] (retQ Tryz.prog Tryz.f95.results Kv) [] (startS [(Value.agg #[(Value.string e_0_0), (Value.int .i64 e_0_1), (Value.int .i64 e_0_2), (Value.string e_0_3), (Value.slice e_0_4p e_0_4l e_0_4c)])]) w := by kernel_rfl
theorem z11_e0 (Kv:VW) (N0:List Value->World->Prop) (ρ:Rho) (e_1:Addr) (n_3 k_4:Int) (w:World):z11_b0 e_1 n_3 k_4 (fun e_1' n_3' k_4' w'=>N0 [(Value.pointer (some e_1')), (Value.int .i64 n_3'), (Value.int .i64 k_4')] w') (fun r0 w'=>Kv (Value.int .i64 r0) w') w=goalAt Tryz.prog z11_E 22 (z11_O Kv) 0 (N0 :: ρ) [(Value.pointer (some e_1)), (Value.int .i64 n_3), (Value.int .i64 k_4)] w := by kernel_rfl
theorem z11_q0 (Kv:VW) (ρ:Rho) (vs:List Value) (w:World):labAt (z11_O Kv) 0 ρ vs w=z11_P0 Kv ρ vs w := by kernel_rfl
def z11_I0 (e_10:Addr) (I:Int->Int->World->Prop) (vs:List Value) (w:World):Prop :=
 match vs with
 | [.pointer (some e_1), .int .i64 n_3, .int .i64 k_4]=>(e_1=e_10/\True)/\I n_3 k_4 w
 | _=>False
def z11_M0 (μ:Int->Int->World->Nat) (vs:List Value) (w:World):Nat :=
 match vs with
 | [.pointer (some e_1), .int .i64 n_3, .int .i64 k_4]=>μ n_3 k_4 w
 | _=>0
theorem z11_h0 (Kv:VW):holdsAt Tryz.prog z11_E 22 (z11_O Kv) 0 := holdsAt_loop (by kernel_rfl) (fun ρ vs w h=>by
  rw [z11_q0] at h
  unfold z11_P0 at h
  split at h
  · rename_i ρt e_1 n_3 k_4
    obtain ⟨I, μ, h0, hr⟩ := h.out
    refine ⟨z11_I0 e_1 I, z11_M0 μ, ⟨⟨rfl, trivial⟩, h0⟩, fun vs w hI=>?_⟩
    unfold z11_I0 at hI
    split at hI
    · obtain ⟨⟨h0, _⟩, hI⟩ := hI
      cases h0
      rw [← z11_e0]
      exact hr _ _ _ hI
    · exact hI.elim
  · exact h.elim)
theorem z11_n (Kv:VW):obAt (z11_O Kv) 1=none := by kernel_rfl
theorem z11_h (Kv:VW):∀ k, holdsAt Tryz.prog z11_E 22 (z11_O Kv) k := fun k=>match k with
  | 0=>z11_h0 Kv
  | k + 1=>holdsAt_ge (z11_n Kv) (Nat.le_add_left _ _)
theorem z11_mk (e_0_0:ByteArray) (e_0_1 e_0_2:Int) (e_0_3:ByteArray) (e_0_4p:Option Addr) (e_0_4l e_0_4c:Nat) {K:Int->World->Prop} {w:World} (h:z11_sd e_0_0 e_0_1 e_0_2 e_0_3 ⟨e_0_4p, e_0_4l, e_0_4c⟩ K w):z11_sh e_0_0 e_0_1 e_0_2 e_0_3 ⟨e_0_4p, e_0_4l, e_0_4c⟩ K w := by
  have e:(fun r0 w'=>(fun v w'=>∃ r0:Int, v=(Value.int .i64 r0)/\K r0 w') (Value.int .i64 r0) w')=K := by
    funext r0 w'
    apply propext
    constructor
    · rintro ⟨r0', hv, hk⟩
      cases hv
      exact hk
    · intro hk
      exact ⟨_, rfl, hk⟩
  have h':z11_sd e_0_0 e_0_1 e_0_2 e_0_3 ⟨e_0_4p, e_0_4l, e_0_4c⟩ (fun r0 w'=>(fun v w'=>∃ r0:Int, v=(Value.int .i64 r0)/\K r0 w') (Value.int .i64 r0) w') w := by rw [e]; exact h
  rw [z11_e (fun v w'=>∃ r0:Int, v=(Value.int .i64 r0)/\K r0 w')] at h'
  refine ⟨(calls_sound (Γ := z11_E) progMixed ⟨.inl z11_okr, trivial⟩ Tryz.func95 (code := z11_C) (by kernel_rfl) (z11_A (fun v w'=>∃ r0:Int, v=(Value.int .i64 r0)/\K r0 w')) (fun v w'=>∃ r0:Int, v=(Value.int .i64 r0)/\K r0 w') (holds_all (z11_h (fun v w'=>∃ r0:Int, v=(Value.int .i64 r0)/\K r0 w'))) (Nat.le_of_ble_eq_true (by kernel_rfl)) h').mono fun e w' he=>?_⟩
  obtain ⟨v, rfl, _, rfl, hk⟩ := he
  exact ⟨_, rfl, hk⟩
def z01_sd (e_0_0:ByteArray) (e_0_1 e_0_2:Int) (e_0_3:ByteArray) (e_0_4:Sl) (K:Pw.T1) (w:World):Prop :=
 let w1 := w.alloc (Obj.cells #[(Value.string e_0_0), (Value.int .i64 e_0_1), (Value.int .i64 e_0_2), (Value.string e_0_3), (Value.slice e_0_4.p e_0_4.l e_0_4.c)] 38)
 ∃ x2:ByteArray, w1.cell? (Addr.mk w.heap.size 0 none)=some (Value.string x2)/\∃ x3:Int, w1.cell? (Addr.mk w.heap.size 1 none)=some (Value.int .i64 x3)/\∃ x4:Int, w1.cell? (Addr.mk w.heap.size 2 none)=some (Value.int .i64 x4)/\∃ x5:ByteArray, w1.cell? (Addr.mk w.heap.size 3 none)=some (Value.string x5)/\∃ x6:Sl, w1.cell? (Addr.mk w.heap.size 4 none)=some (Value.slice x6.p x6.l x6.c)/\z14_sh x2 x3 x4 x5 x6 (fun r8 w7=>cnd r8
 (∃ x9:ByteArray, w7.cell? (Addr.mk w.heap.size 0 none)=some (Value.string x9)/\∃ x10:Int, w7.cell? (Addr.mk w.heap.size 1 none)=some (Value.int .i64 x10)/\∃ x11:Int, w7.cell? (Addr.mk w.heap.size 2 none)=some (Value.int .i64 x11)/\∃ x12:ByteArray, w7.cell? (Addr.mk w.heap.size 3 none)=some (Value.string x12)/\∃ x13:Sl, w7.cell? (Addr.mk w.heap.size 4 none)=some (Value.slice x13.p x13.l x13.c)/\z12_sh x9 x10 x11 x12 x13 (fun r15 w14=>cnd (decide (r15 <= (60:Int)))
 (∃ x16:ByteArray, w14.cell? (Addr.mk w.heap.size 0 none)=some (Value.string x16)/\∃ x17:Int, w14.cell? (Addr.mk w.heap.size 1 none)=some (Value.int .i64 x17)/\∃ x18:Int, w14.cell? (Addr.mk w.heap.size 2 none)=some (Value.int .i64 x18)/\∃ x19:ByteArray, w14.cell? (Addr.mk w.heap.size 3 none)=some (Value.string x19)/\∃ x20:Sl, w14.cell? (Addr.mk w.heap.size 4 none)=some (Value.slice x20.p x20.l x20.c)/\z11_sh x16 x17 x18 x19 x20 (fun r22 w21=>K (decide (r22 <= (12:Int))) w21) w14)
 (K false w14)) w7)
 (K false w7)) w1
structure z01_sh (e_0_0:ByteArray) (e_0_1 e_0_2:Int) (e_0_3:ByteArray) (e_0_4:Sl) (K:Pw.T1) (w:World):Prop where
 out:z01_sd e_0_0 e_0_1 e_0_2 e_0_3 e_0_4 K w
noncomputable def z01_S:Pw.Spec := fun vs w Kv=>un [.g 5, tS, tI, tI, tS, tL] (fun e_0_0 e_0_1 e_0_2 e_0_3 e_0_4=>z01_sh e_0_0 e_0_1 e_0_2 e_0_3 e_0_4 (kk [tB] Kv)) nF vs w
def z01_A (_:VW):A := (qr 2 (qr 3 (qs (A.reg (qn 2 (RA.spl 7 (qn 5 (RA.spl 12 (qn 5 RA.done) (qk 3 (qn 2 RA.done)))) (qk 3 (qn 2 (qk 3 (qn 2 RA.done))))))) ql)))
theorem z01_ok:Sound Tryz.prog 66 z01_S := okS (x := z01_A) (fun Kv e_0_0 e_0_1 e_0_2 e_0_3 e_0_4=>z01_sd e_0_0 e_0_1 e_0_2 e_0_3 e_0_4 (kk [tB] Kv)) progMixed (Γ := [(93, z14_S), (94, z12_S), (95, z11_S)]) ⟨.inl z14_okr, .inl z12_okr, .inl z11_okr, trivial⟩ Tryz.call66 Tryz.func66 (fun _=>hEnd)
def z1x_b0 (l_0:Sl) (s_1:ByteArray) (i_5:Int) (N0:Sl->ByteArray->Int->World->Prop) (K:Pw.T1) (w:World):Prop :=
 cnd (decide (i_5 < (l_0.l:Int)))
 (nz l_0.p fun a1=>(0 <= i_5/\i_5 < (l_0.l:Nat))/\∃ x2:ByteArray, w.cell? (a1.add (i_5.toNat * 1))=some (Value.string x2)/\cnd (decide (x2=s_1))
 (K true w)
 (inR .i64 (i_5 + (1:Int))/\N0 l_0 s_1 (i_5 + (1:Int)) w))
 (K false w)
def z1x_l0d (l_0:Sl) (s_1:ByteArray) (i_5:Int) (K:Pw.T1) (w:World):Prop :=
 ∃ (I:Int->World->Prop) (μ:Int->World->Nat), I i_5 w/\∀ (i_51:Int) (w1:World), I i_51 w1 ->
 z1x_b0 l_0 s_1 i_51 (fun l_0' s_1' i_5' w'=>((l_0'=l_0/\s_1'=s_1/\True)/\I i_5' w')/\μ i_5' w' < μ i_51 w1) K w1
structure z1x_l0 (l_0:Sl) (s_1:ByteArray) (i_5:Int) (K:Pw.T1) (w:World):Prop where
 out:z1x_l0d l_0 s_1 i_5 K w
def z1x_sd (l_0:Sl) (s_1:ByteArray) (K:Pw.T1) (w:World):Prop :=
 z1x_l0 l_0 s_1 (0:Int) K w
structure z1x_sh (l_0:Sl) (s_1:ByteArray) (K:Pw.T1) (w:World):Prop where
 out:z1x_sd l_0 s_1 K w
def z1x_L0 (Kv:VW):Cur [tL, tS, tI] WP := fun l_0 s_1 i_5=>z1x_l0 l_0 s_1 i_5 (kk [tB] Kv)
noncomputable def z1x_S:Pw.Spec := fun vs w Kv=>un [tL, tS] (fun l_0 s_1=>z1x_sh l_0 s_1 (kk [tB] Kv)) nF vs w
def z1x_A (Kv:VW):A := (qr 1 (qs (qr 1 (qb (A.loop [0, 1, 5] (uR0 [tL, tS, tI] (z1x_L0 Kv)) (qs (qr 4 (qc ql ql)) (qs (qb (qr 6 (qc (qr 1 ql) ql))) (qe 3)))))) (qr 1 ql)))
theorem z1x_ok:Sound Tryz.prog 96 z1x_S := okS (x := z1x_A) (fun Kv l_0 s_1=>z1x_sd l_0 s_1 (kk [tB] Kv)) progMixed (Γ := []) trivial Tryz.call96 Tryz.func96 (fun Kv=>hStep (hLoop0 (L := z1x_L0 Kv) (fun N0 l_0 s_1 i_5=>z1x_b0 l_0 s_1 i_5 N0 (kk [tB] Kv)) (fun ⟨a0, a1, _, _⟩ _ h=>let ⟨I, μ, h0, hr⟩ := h.out; ⟨fun b0 b1 b2 w=>(b0=a0/\b1=a1/\True)/\I b2 w, fun _ _ b2 w=>μ b2 w, ⟨⟨rfl, rfl, trivial⟩, h0⟩, fun ⟨_, _, _, _⟩ _ ⟨⟨e0, e1, _⟩, hI⟩=>by cases e0; cases e1; exact hr _ _ hI⟩)) <| hEnd)
structure z16_sh (e_0_0:ByteArray) (e_0_1 e_0_2:Int) (e_0_3:ByteArray) (e_0_4 l_1:Sl) (K:Pw.T0) (w:World):Prop where
 out:Calls Tryz.prog 67 #[(Value.agg #[(Value.string e_0_0), (Value.int .i64 e_0_1), (Value.int .i64 e_0_2), (Value.string e_0_3), (Value.slice e_0_4.p e_0_4.l e_0_4.c)]), (Value.slice l_1.p l_1.l l_1.c)] w fun e w'=>∃ r0:Sl, e=.returned (Value.slice r0.p r0.l r0.c)/\K r0 w'
noncomputable def z16_S:Pw.Spec := fun vs w Kv =>
 match vs with
 | [.agg ⟨[.string e_0_0, .int .i64 e_0_1, .int .i64 e_0_2, .string e_0_3, .slice e_0_4p e_0_4l e_0_4c]⟩, .slice l_1p l_1l l_1c]=>z16_sh e_0_0 e_0_1 e_0_2 e_0_3 ⟨e_0_4p, e_0_4l, e_0_4c⟩ ⟨l_1p, l_1l, l_1c⟩ (fun r0 w'=>Kv (Value.slice r0.p r0.l r0.c) w') w
 | _=>False
theorem z16_okr:Sound Tryz.prog 67 z16_S := ⟨Tryz.call67, fun vs w Kv h=>by
  unfold z16_S at h
  split at h
  · exact h.out.mono fun e w' he=>by
      obtain ⟨_, he, hk⟩ := he
      exact ⟨_, he, hk⟩
  · exact h.elim⟩
def z16_b1 (l_1:Sl) (e_2:Addr) (i_5:Int) (N1:Sl->Addr->Int->World->Prop) (K:Pw.T0) (w:World):Prop :=
 ∃ x23:Sl, w.cell? (e_2.add 4)=some (Value.slice x23.p x23.l x23.c)/\cnd (decide (i_5 < (x23.l:Int)))
 (∃ x24:Sl, w.cell? (e_2.add 4)=some (Value.slice x24.p x24.l x24.c)/\nz x24.p fun a25=>(0 <= i_5/\i_5 < (x24.l:Nat))/\∃ x26:ByteArray, w.cell? (a25.add (i_5.toNat * 5))=some (Value.string x26)/\∃ x27:Int, w.cell? ((a25.add (i_5.toNat * 5)).add 1)=some (Value.int .i64 x27)/\∃ x28:Int, w.cell? ((a25.add (i_5.toNat * 5)).add 2)=some (Value.int .i64 x28)/\∃ x29:ByteArray, w.cell? ((a25.add (i_5.toNat * 5)).add 3)=some (Value.string x29)/\∃ x30:Sl, w.cell? ((a25.add (i_5.toNat * 5)).add 4)=some (Value.slice x30.p x30.l x30.c)/\z16_sh x26 x27 x28 x29 x30 l_1 (fun r32 w31=>inR .i64 (i_5 + (1:Int))/\N1 r32 e_2 (i_5 + (1:Int)) w31) w)
 (K l_1 w)
def z16_l1d (l_1:Sl) (e_2:Addr) (i_5:Int) (K:Pw.T0) (w:World):Prop :=
 ∃ (I:Sl->Int->World->Prop) (μ:Sl->Int->World->Nat), I l_1 i_5 w/\∀ (l_11:Sl) (i_51:Int) (w1:World), I l_11 i_51 w1 ->
 z16_b1 l_11 e_2 i_51 (fun l_1' e_2' i_5' w'=>((e_2'=e_2/\True)/\I l_1' i_5' w')/\μ l_1' i_5' w' < μ l_11 i_51 w1) K w1
structure z16_l1 (l_1:Sl) (e_2:Addr) (i_5:Int) (K:Pw.T0) (w:World):Prop where
 out:z16_l1d l_1 e_2 i_5 K w
def z16_k0d (l_1:Sl) (e_2:Addr) (K:Pw.T0) (w:World):Prop :=
 z16_l1 l_1 e_2 (0:Int) K w
structure z16_k0 (l_1:Sl) (e_2:Addr) (K:Pw.T0) (w:World):Prop where
 out:z16_k0d l_1 e_2 K w
def z16_sd (e_0_0:ByteArray) (e_0_1 e_0_2:Int) (e_0_3:ByteArray) (e_0_4 l_1:Sl) (K:Pw.T0) (w:World):Prop :=
 let w1 := w.alloc (Obj.cells #[(Value.string e_0_0), (Value.int .i64 e_0_1), (Value.int .i64 e_0_2), (Value.string e_0_3), (Value.slice e_0_4.p e_0_4.l e_0_4.c)] 38)
 ∃ x2:ByteArray, w1.cell? (Addr.mk w.heap.size 0 none)=some (Value.string x2)/\cnd (decide (x2=(str [110, 97, 109, 101])))
 (∃ x3:ByteArray, w1.cell? (Addr.mk w.heap.size 3 none)=some (Value.string x3)/\z1x_sh l_1 x3 (fun r5 w4=>cnd (!r5)
 (let w6 := w4.drew
 ∃ S7:World->Prop, S7 w6/\∃ x8:ByteArray, (∀ w':World, S7 w'->w'.cell? (Addr.mk w.heap.size 3 none)=some (Value.string x8))/\(let w9 := w6.alloc (Obj.cells #[] 9)
 S7 w9/\(∀ u u':World, Ext u u'->S7 u->S7 u')/\((∀ u:World, ExtL u (u.alloc (Obj.cells #[(Value.string x8)] 9)))/\True)/\∀ w10:World, Ext w9 w10->apS 1 16 [(Value.string (str []))] 9 (Sl.mk (some (Addr.mk w6.heap.size 0 none)) 0 0) l_1 w10 fun s11 w12=>Ext w10 w12/\∀ w13:World, Ext w12 w13->∀ w14:World, Ext w9 w14->ninL w14.heap.size []->Ext (w14.alloc (Obj.cells #[(Value.string x8)] 9)) w13->apS 1 16 [(Value.string (str []))] 9 s11 (Sl.mk (some (Addr.mk w14.heap.size 0 none)) 1 1) w13 fun s15 w16=>S7 w16/\K s15 w16)
/\(let w17 := w6.alloc (Obj.cells #[(Value.string x8)] 9)
 S7 w17/\let w18 := w17.alloc (Obj.cells #[] 9)
 S7 w18/\apS 1 16 [(Value.string (str []))] 9 (Sl.mk (some (Addr.mk w17.heap.size 0 none)) 0 0) l_1 w18 fun s19 w20=>S7 w20/\apS 1 16 [(Value.string (str []))] 9 s19 (Sl.mk (some (Addr.mk w6.heap.size 0 none)) 1 1) w20 fun s21 w22=>S7 w22/\K s21 w22))
 (z16_k0 l_1 (Addr.mk w.heap.size 0 none) K w4)) w1)
 (z16_k0 l_1 (Addr.mk w.heap.size 0 none) K w1)
def z16_P0 (Kv:VW) (ρ:Rho) (vs:List Value) (w:World):Prop :=
 match ρ, vs with
 | _, [.slice l_1p l_1l l_1c, .pointer (some e_2)]=>z16_k0 ⟨l_1p, l_1l, l_1c⟩ e_2 (fun r0 w'=>Kv (Value.slice r0.p r0.l r0.c) w') w
 | _, _=>False
def z16_P1 (Kv:VW) (ρ:Rho) (vs:List Value) (w:World):Prop :=
 match ρ, vs with
 | _, [.slice l_1p l_1l l_1c, .pointer (some e_2), .int .i64 i_5]=>z16_l1 ⟨l_1p, l_1l, l_1c⟩ e_2 i_5 (fun r0 w'=>Kv (Value.slice r0.p r0.l r0.c) w') w
 | _, _=>False
noncomputable def z16_E:Pw.Env := [(67, z16_S), (96, z1x_S)]
noncomputable def z16_C:Code := (Tryz.f67.body).getD .skip
noncomputable def z16_A (Kv:VW):Pw.A :=
 (qr 2 (qs (qs (A.reg (qn 4 (RA.spl 9 (qn 6 RA.done) (qk 5 (qn 1 RA.done))))) (qc (qs (A.drw (dp [1, 3, 4] (DA.two 0 (DA.flo [5] [2] (DA.eff 6 (DA.pur 7 DA.done))) 5 (DA.eff 0 (DA.eff 2 (DA.eff 6 (DA.pur 7 DA.done))))))) ql) ql)) (A.cut [1, 2] (z16_P0 Kv) (qs (qr 1 (qb (A.loop [1, 2, 5] (z16_P1 Kv) (qs (qr 5 (qc ql ql)) (qs (qb (qe 8)) (qe 3)))))) (qr 2 ql)))))
noncomputable def z16_O (Kv:VW):List Ob := (obs Tryz.prog z16_E 38 (z16_A Kv) z16_C (fun _=>retQ Tryz.prog Tryz.f67.results Kv))
theorem z16_e (Kv:VW) (e_0_0:ByteArray) (e_0_1 e_0_2:Int) (e_0_3:ByteArray) (e_0_4p:Option Addr) (e_0_4l e_0_4c:Nat) (l_1p:Option Addr) (l_1l l_1c:Nat) (w:World):z16_sd e_0_0 e_0_1 e_0_2 e_0_3 ⟨e_0_4p, e_0_4l, e_0_4c⟩ ⟨l_1p, l_1l, l_1c⟩ (fun r0 w'=>Kv (Value.slice r0.p r0.l r0.c) w') w=W Tryz.prog z16_E 38 (z16_A Kv) z16_C [] (retQ Tryz.prog Tryz.f67.results Kv) [] (startS [(Value.agg #[(Value.string e_0_0), (Value.int .i64 e_0_1), (Value.int .i64 e_0_2), (Value.string e_0_3), (Value.slice e_0_4p e_0_4l e_0_4c)]), (Value.slice l_1p l_1l l_1c)]) w := by kernel_rfl
theorem z16_e0 (Kv:VW) (ρ:Rho) (l_1p:Option Addr) (l_1l l_1c:Nat) (e_2:Addr) (w:World):z16_k0d ⟨l_1p, l_1l, l_1c⟩ e_2 (fun r0 w'=>Kv (Value.slice r0.p r0.l r0.c) w') w=goalAt Tryz.prog z16_E 38 (z16_O Kv) 0 (ρ) [(Value.slice l_1p l_1l l_1c), (Value.pointer (some e_2))] w := by kernel_rfl
theorem z16_q0 (Kv:VW) (ρ:Rho) (vs:List Value) (w:World):labAt (z16_O Kv) 0 ρ vs w=z16_P0 Kv ρ vs w := by kernel_rfl
theorem z16_h0 (Kv:VW):holdsAt Tryz.prog z16_E 38 (z16_O Kv) 0 := holdsAt_cut (.inl (by kernel_rfl)) (fun ρ vs w h=>by
  rw [z16_q0] at h
  unfold z16_P0 at h
  split at h
  · rw [← z16_e0]; exact h.out
  · exact h.elim)
theorem z16_e1 (Kv:VW) (N1:List Value->World->Prop) (ρ:Rho) (l_1p:Option Addr) (l_1l l_1c:Nat) (e_2:Addr) (i_5:Int) (w:World):z16_b1 ⟨l_1p, l_1l, l_1c⟩ e_2 i_5 (fun l_1' e_2' i_5' w'=>N1 [(Value.slice l_1'.p l_1'.l l_1'.c), (Value.pointer (some e_2')), (Value.int .i64 i_5')] w') (fun r0 w'=>Kv (Value.slice r0.p r0.l r0.c) w') w=goalAt Tryz.prog z16_E 38 (z16_O Kv) 1 (N1 :: ρ) [(Value.slice l_1p l_1l l_1c), (Value.pointer (some e_2)), (Value.int .i64 i_5)] w := by kernel_rfl
theorem z16_q1 (Kv:VW) (ρ:Rho) (vs:List Value) (w:World):labAt (z16_O Kv) 1 ρ vs w=z16_P1 Kv ρ vs w := by kernel_rfl
def z16_I1 (e_20:Addr) (I:Sl->Int->World->Prop) (vs:List Value) (w:World):Prop :=
 match vs with
 | [.slice l_1p l_1l l_1c, .pointer (some e_2), .int .i64 i_5]=>(e_2=e_20/\True)/\I ⟨l_1p, l_1l, l_1c⟩ i_5 w
 | _=>False
def z16_M1 (μ:Sl->Int->World->Nat) (vs:List Value) (w:World):Nat :=
 match vs with
 | [.slice l_1p l_1l l_1c, .pointer (some e_2), .int .i64 i_5]=>μ ⟨l_1p, l_1l, l_1c⟩ i_5 w
 | _=>0
theorem z16_h1 (Kv:VW):holdsAt Tryz.prog z16_E 38 (z16_O Kv) 1 := holdsAt_loop (by kernel_rfl) (fun ρ vs w h=>by
  rw [z16_q1] at h
  unfold z16_P1 at h
  split at h
  · rename_i ρt l_1p l_1l l_1c e_2 i_5
    obtain ⟨I, μ, h0, hr⟩ := h.out
    refine ⟨z16_I1 e_2 I, z16_M1 μ, ⟨⟨rfl, trivial⟩, h0⟩, fun vs w hI=>?_⟩
    unfold z16_I1 at hI
    split at hI
    · obtain ⟨⟨h0, _⟩, hI⟩ := hI
      cases h0
      rw [← z16_e1]
      exact hr _ _ _ hI
    · exact hI.elim
  · exact h.elim)
theorem z16_n (Kv:VW):obAt (z16_O Kv) 2=none := by kernel_rfl
theorem z16_h (Kv:VW):∀ k, holdsAt Tryz.prog z16_E 38 (z16_O Kv) k := fun k=>match k with
  | 0=>z16_h0 Kv
  | 1=>z16_h1 Kv
  | k + 2=>holdsAt_ge (z16_n Kv) (Nat.le_add_left _ _)
theorem z16_mk (e_0_0:ByteArray) (e_0_1 e_0_2:Int) (e_0_3:ByteArray) (e_0_4p:Option Addr) (e_0_4l e_0_4c:Nat) (l_1p:Option Addr) (l_1l l_1c:Nat) {K:Sl->World->Prop} {w:World} (h:z16_sd e_0_0 e_0_1 e_0_2 e_0_3 ⟨e_0_4p, e_0_4l, e_0_4c⟩ ⟨l_1p, l_1l, l_1c⟩ K w):z16_sh e_0_0 e_0_1 e_0_2 e_0_3 ⟨e_0_4p, e_0_4l, e_0_4c⟩ ⟨l_1p, l_1l, l_1c⟩ K w := by
  have e:(fun r0 w'=>(fun v w'=>∃ r0:Sl, v=(Value.slice r0.p r0.l r0.c)/\K r0 w') (Value.slice r0.p r0.l r0.c) w')=K := by
    funext r0 w'
    apply propext
    constructor
    · rintro ⟨r0', hv, hk⟩
      rcases r0 with ⟨r0_1, r0_2, r0_3⟩; rcases r0' with ⟨r0_4, r0_5, r0_6⟩; cases hv
      exact hk
    · intro hk
      exact ⟨_, rfl, hk⟩
  have h':z16_sd e_0_0 e_0_1 e_0_2 e_0_3 ⟨e_0_4p, e_0_4l, e_0_4c⟩ ⟨l_1p, l_1l, l_1c⟩ (fun r0 w'=>(fun v w'=>∃ r0:Sl, v=(Value.slice r0.p r0.l r0.c)/\K r0 w') (Value.slice r0.p r0.l r0.c) w') w := by rw [e]; exact h
  rw [z16_e (fun v w'=>∃ r0:Sl, v=(Value.slice r0.p r0.l r0.c)/\K r0 w')] at h'
  refine ⟨(calls_sound (Γ := z16_E) progMixed ⟨.inl z16_okr, .inl z1x_ok, trivial⟩ Tryz.func67 (code := z16_C) (by kernel_rfl) (z16_A (fun v w'=>∃ r0:Sl, v=(Value.slice r0.p r0.l r0.c)/\K r0 w')) (fun v w'=>∃ r0:Sl, v=(Value.slice r0.p r0.l r0.c)/\K r0 w') (holds_all (z16_h (fun v w'=>∃ r0:Sl, v=(Value.slice r0.p r0.l r0.c)/\K r0 w'))) (Nat.le_of_ble_eq_true (by kernel_rfl)) h').mono fun e w' he=>?_⟩
  obtain ⟨v, rfl, _, rfl, hk⟩ := he
  exact ⟨_, rfl, hk⟩
def z15_sd (e_0_0:ByteArray) (e_0_1 e_0_2:Int) (e_0_3:ByteArray) (e_0_4:Sl) (K:Pw.T0) (w:World):Prop :=
 let w1 := w.alloc (Obj.cells #[(Value.string e_0_0), (Value.int .i64 e_0_1), (Value.int .i64 e_0_2), (Value.string e_0_3), (Value.slice e_0_4.p e_0_4.l e_0_4.c)] 38)
 ∃ x2:ByteArray, w1.cell? (Addr.mk w.heap.size 0 none)=some (Value.string x2)/\∃ x3:Int, w1.cell? (Addr.mk w.heap.size 1 none)=some (Value.int .i64 x3)/\∃ x4:Int, w1.cell? (Addr.mk w.heap.size 2 none)=some (Value.int .i64 x4)/\∃ x5:ByteArray, w1.cell? (Addr.mk w.heap.size 3 none)=some (Value.string x5)/\∃ x6:Sl, w1.cell? (Addr.mk w.heap.size 4 none)=some (Value.slice x6.p x6.l x6.c)/\z01_sh x2 x3 x4 x5 x6 (fun r8 w7=>cnd (!r8)
 (K (Sl.mk none 0 0) w7)
 (∃ x9:ByteArray, w7.cell? (Addr.mk w.heap.size 0 none)=some (Value.string x9)/\∃ x10:Int, w7.cell? (Addr.mk w.heap.size 1 none)=some (Value.int .i64 x10)/\∃ x11:Int, w7.cell? (Addr.mk w.heap.size 2 none)=some (Value.int .i64 x11)/\∃ x12:ByteArray, w7.cell? (Addr.mk w.heap.size 3 none)=some (Value.string x12)/\∃ x13:Sl, w7.cell? (Addr.mk w.heap.size 4 none)=some (Value.slice x13.p x13.l x13.c)/\z16_sh x9 x10 x11 x12 x13 (Sl.mk none 0 0) (fun r15 w14=>K r15 w14) w7)) w1
structure z15_sh (e_0_0:ByteArray) (e_0_1 e_0_2:Int) (e_0_3:ByteArray) (e_0_4:Sl) (K:Pw.T0) (w:World):Prop where
 out:z15_sd e_0_0 e_0_1 e_0_2 e_0_3 e_0_4 K w
noncomputable def z15_S:Pw.Spec := fun vs w Kv=>un [.g 5, tS, tI, tI, tS, tL] (fun e_0_0 e_0_1 e_0_2 e_0_3 e_0_4=>z15_sh e_0_0 e_0_1 e_0_2 e_0_3 e_0_4 (kk [tL] Kv)) nF vs w
def z15_A (_:VW):A := (qr 2 (qr 3 (qs (qr 2 (qc (qr 1 ql) ql)) (qr 3 ql))))
theorem z15_ok:Sound Tryz.prog 40 z15_S := okS (x := z15_A) (fun Kv e_0_0 e_0_1 e_0_2 e_0_3 e_0_4=>z15_sd e_0_0 e_0_1 e_0_2 e_0_3 e_0_4 (kk [tL] Kv)) progMixed (Γ := [(66, z01_S), (67, z16_S)]) ⟨.inl z01_ok, .inl z16_okr, trivial⟩ Tryz.call40 Tryz.func40 (fun _=>hEnd)
end Go.Proofs.YtfkmpbpkahcogaaGreatDoor
