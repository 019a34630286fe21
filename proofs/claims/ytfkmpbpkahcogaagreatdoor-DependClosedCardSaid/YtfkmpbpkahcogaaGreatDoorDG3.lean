/- The bodies' formulas, by program. -/
import Derived.Test.YtfkmpbpkahcogaaGreatDoorProg
import Derived.KernelRfl
import Derived.Test.YtfkmpbpkahcogaaGreatDoorPwY
import Derived.Test.YtfkmpbpkahcogaaGreatDoorDT
import Derived.Test.YtfkmpbpkahcogaaGreatDoorCG0
import Derived.Test.YtfkmpbpkahcogaaGreatDoorCG1
import Derived.Test.YtfkmpbpkahcogaaGreatDoorDG0
import Derived.Test.YtfkmpbpkahcogaaGreatDoorDG1
import Derived.Test.YtfkmpbpkahcogaaGreatDoorDG2
set_option maxRecDepth 20000
namespace Go.Proofs.YtfkmpbpkahcogaaGreatDoor
open Go Pw
def z1y_sd (n_0 m_1:Int) (K:Pw.T2) (w:World):Prop :=
 m_1 ≠ 0/\inR .i64 ((Int.tmod n_0 m_1) + m_1)/\m_1 ≠ 0/\K (Int.tmod ((Int.tmod n_0 m_1) + m_1) m_1) w
structure z1y_sh (n_0 m_1:Int) (K:Pw.T2) (w:World):Prop where
 out:z1y_sd n_0 m_1 K w
noncomputable def z1y_S:Pw.Spec := fun vs w Kv=>un [tI, tI] (fun n_0 m_1=>z1y_sh n_0 m_1 (kk [tI] Kv)) nF vs w
def z1y_A (_:VW):A := (qr 1 (qr 8 ql))
theorem z1y_ok:Sound Tryz.prog 28 z1y_S := okS (x := z1y_A) (fun Kv n_0 m_1=>z1y_sd n_0 m_1 (kk [tI] Kv)) progMixed (Γ := []) trivial Tryz.call28 Tryz.func28 (fun _=>hEnd)
def z17_sd (K:Pw.T0) (w:World):Prop :=
 let w1 := w.alloc (Obj.cells #[(Value.string (str [112, 114, 105, 99, 101])), (Value.string (str [108, 111, 119])), (Value.string (str [113, 117, 97, 108, 105, 116, 121])), (Value.string (str [100, 97, 121, 115]))] 9)
 K (Sl.mk (some (Addr.mk w.heap.size 0 none)) 4 4) w1
structure z17_sh (K:Pw.T0) (w:World):Prop where
 out:z17_sd K w
noncomputable def z17_S:Pw.Spec := fun vs w Kv=>un [] (z17_sh (kk [tL] Kv)) nF vs w
def z17_A (_:VW):A := (qr 1 (qr 2 ql))
theorem z17_ok:Sound Tryz.prog 56 z17_S := okS (x := z17_A) (fun Kv=>z17_sd (kk [tL] Kv)) progMixed (Γ := []) trivial Tryz.call56 Tryz.func56 (fun _=>hEnd)
def z1f_k1d (l_0:Sl) (t_2:Addr) (stack_3 ops_4:Sl) (k_5 rest_7:Int) (N0:Sl->Addr->Sl->Sl->Int->World->Prop) (K:Pw.T5) (w:World):Prop :=
 (13:Int) ≠ 0/\inR .i64 ((Int.tmod rest_7 (13:Int)) - (3:Int))/\(13:Int) ≠ 0/\inR .i64 (Int.tdiv rest_7 (13:Int))/\(4:Int) ≠ 0/\inR .i64 ((1:Int) + (Int.tmod (Int.tdiv rest_7 (13:Int)) (4:Int)))/\z1b_sh ((Int.tmod rest_7 (13:Int)) - (3:Int)) ((1:Int) + (Int.tmod (Int.tdiv rest_7 (13:Int)) (4:Int))) (fun r8_0 r8_1 r9 w7=>let w10 := w7.alloc (Obj.cells #[(Value.int .i64 0), (Value.int .i64 0)] 35)
 wrOk w10 (Addr.mk w7.heap.size 0 none)/\
 (let w11 := w10.setCell (Addr.mk w7.heap.size 0 none) (Value.int .i64 r8_0)
 wrOk w11 (Addr.mk w7.heap.size 1 none)/\
 (let w12 := w11.setCell (Addr.mk w7.heap.size 1 none) (Value.int .i64 r8_1)
 ∃ x13:Int, w12.cell? (Addr.mk w7.heap.size 0 none)=some (Value.int .i64 x13)/\∃ x14:Int, w12.cell? (Addr.mk w7.heap.size 1 none)=some (Value.int .i64 x14)/\let w15 := w12.alloc (Obj.cells #[(Value.string (str [110, 117, 109])), (Value.int .i64 x13), (Value.int .i64 x14), (Value.string (str [])), (Value.slice none 0 0)] 38)
 apS 5 72 [(Value.string (str [])), (Value.int .i64 0), (Value.int .i64 0), (Value.string (str [])), (Value.slice none 0 0)] 38 stack_3 (Sl.mk (some (Addr.mk w12.heap.size 0 none)) 1 1) w15 fun s16 w17=>inR .i64 (k_5 + (1:Int))/\N0 l_0 t_2 s16 ops_4 (k_5 + (1:Int)) w17))) w
structure z1f_k1 (l_0:Sl) (t_2:Addr) (stack_3 ops_4:Sl) (k_5 rest_7:Int) (N0:Sl->Addr->Sl->Sl->Int->World->Prop) (K:Pw.T5) (w:World):Prop where
 out:z1f_k1d l_0 t_2 stack_3 ops_4 k_5 rest_7 N0 K w
def z1f_k3d (l_0:Sl) (t_2:Addr) (stack_3 ops_4:Sl) (k_5 rest_7:Int) (N0:Sl->Addr->Sl->Sl->Int->World->Prop) (K:Pw.T5) (w:World):Prop :=
 z17_sh (fun r19 w18=>(4:Int) ≠ 0/\nz r19.p fun a20=>(0 <= (Int.tmod rest_7 (4:Int))/\(Int.tmod rest_7 (4:Int)) < (r19.l:Nat))/\∃ x21:ByteArray, w18.cell? (a20.add ((Int.tmod rest_7 (4:Int)).toNat * 1))=some (Value.string x21)/\let w22 := w18.alloc (Obj.cells #[(Value.string (str [110, 97, 109, 101])), (Value.int .i64 0), (Value.int .i64 0), (Value.string x21), (Value.slice none 0 0)] 38)
 apS 5 72 [(Value.string (str [])), (Value.int .i64 0), (Value.int .i64 0), (Value.string (str [])), (Value.slice none 0 0)] 38 stack_3 (Sl.mk (some (Addr.mk w18.heap.size 0 none)) 1 1) w22 fun s23 w24=>inR .i64 (k_5 + (1:Int))/\N0 l_0 t_2 s23 ops_4 (k_5 + (1:Int)) w24) w
structure z1f_k3 (l_0:Sl) (t_2:Addr) (stack_3 ops_4:Sl) (k_5 rest_7:Int) (N0:Sl->Addr->Sl->Sl->Int->World->Prop) (K:Pw.T5) (w:World):Prop where
 out:z1f_k3d l_0 t_2 stack_3 ops_4 k_5 rest_7 N0 K w
def z1f_k4d (l_0:Sl) (t_2:Addr) (stack_3 ops_4:Sl) (k_5 rest_7:Int) (N0:Sl->Addr->Sl->Sl->Int->World->Prop) (K:Pw.T5) (w:World):Prop :=
 cnd (decide ((stack_3.l:Int) > (1:Int)))
 (inR .i64 ((stack_3.l:Int) - (2:Int))/\nz stack_3.p fun a25=>(0 <= ((stack_3.l:Int) - (2:Int))/\((stack_3.l:Int) - (2:Int)) < (stack_3.l:Nat))/\∃ x26:ByteArray, w.cell? (a25.add (((stack_3.l:Int) - (2:Int)).toNat * 5))=some (Value.string x26)/\∃ x27:Int, w.cell? ((a25.add (((stack_3.l:Int) - (2:Int)).toNat * 5)).add 1)=some (Value.int .i64 x27)/\∃ x28:Int, w.cell? ((a25.add (((stack_3.l:Int) - (2:Int)).toNat * 5)).add 2)=some (Value.int .i64 x28)/\∃ x29:ByteArray, w.cell? ((a25.add (((stack_3.l:Int) - (2:Int)).toNat * 5)).add 3)=some (Value.string x29)/\∃ x30:Sl, w.cell? ((a25.add (((stack_3.l:Int) - (2:Int)).toNat * 5)).add 4)=some (Value.slice x30.p x30.l x30.c)/\let w31 := w.alloc (Obj.cells #[(Value.string (str [])), (Value.int .i64 0), (Value.int .i64 0), (Value.string (str [])), (Value.slice none 0 0)] 38)
 stN w31 (Addr.mk w.heap.size 0 none) [(Value.string x26), (Value.int .i64 x27), (Value.int .i64 x28), (Value.string x29), (Value.slice x30.p x30.l x30.c)] fun w32=>inR .i64 ((stack_3.l:Int) - (1:Int))/\nz stack_3.p fun a33=>(0 <= ((stack_3.l:Int) - (1:Int))/\((stack_3.l:Int) - (1:Int)) < (stack_3.l:Nat))/\∃ x34:ByteArray, w32.cell? (a33.add (((stack_3.l:Int) - (1:Int)).toNat * 5))=some (Value.string x34)/\∃ x35:Int, w32.cell? ((a33.add (((stack_3.l:Int) - (1:Int)).toNat * 5)).add 1)=some (Value.int .i64 x35)/\∃ x36:Int, w32.cell? ((a33.add (((stack_3.l:Int) - (1:Int)).toNat * 5)).add 2)=some (Value.int .i64 x36)/\∃ x37:ByteArray, w32.cell? ((a33.add (((stack_3.l:Int) - (1:Int)).toNat * 5)).add 3)=some (Value.string x37)/\∃ x38:Sl, w32.cell? ((a33.add (((stack_3.l:Int) - (1:Int)).toNat * 5)).add 4)=some (Value.slice x38.p x38.l x38.c)/\let w39 := w32.alloc (Obj.cells #[(Value.string (str [])), (Value.int .i64 0), (Value.int .i64 0), (Value.string (str [])), (Value.slice none 0 0)] 38)
 stN w39 (Addr.mk w32.heap.size 0 none) [(Value.string x34), (Value.int .i64 x35), (Value.int .i64 x36), (Value.string x37), (Value.slice x38.p x38.l x38.c)] fun w40=>let w41 := w40.drew
 ∃ S42:World->Prop, S42 w41/\inR .i64 ((stack_3.l:Int) - (2:Int))/\(0 <= (0:Int)/\(0:Int) <= ((stack_3.l:Int) - (2:Int))/\((stack_3.l:Int) - (2:Int)) <= (stack_3.c:Nat))/\(6:Int) ≠ 0/\nz ops_4.p fun a43=>(0 <= (Int.tmod rest_7 (6:Int))/\(Int.tmod rest_7 (6:Int)) < (ops_4.l:Nat))/\∃ x44:ByteArray, (∀ w':World, S42 w'->w'.cell? (a43.add ((Int.tmod rest_7 (6:Int)).toNat * 1))=some (Value.string x44))/\∃ x45:ByteArray, (∀ w':World, S42 w'->w'.cell? (Addr.mk w.heap.size 0 none)=some (Value.string x45))/\∃ x46:Int, (∀ w':World, S42 w'->w'.cell? (Addr.mk w.heap.size 1 none)=some (Value.int .i64 x46))/\∃ x47:Int, (∀ w':World, S42 w'->w'.cell? (Addr.mk w.heap.size 2 none)=some (Value.int .i64 x47))/\∃ x48:ByteArray, (∀ w':World, S42 w'->w'.cell? (Addr.mk w.heap.size 3 none)=some (Value.string x48))/\∃ x49:Sl, (∀ w':World, S42 w'->w'.cell? (Addr.mk w.heap.size 4 none)=some (Value.slice x49.p x49.l x49.c))/\∃ x50:ByteArray, (∀ w':World, S42 w'->w'.cell? (Addr.mk w32.heap.size 0 none)=some (Value.string x50))/\∃ x51:Int, (∀ w':World, S42 w'->w'.cell? (Addr.mk w32.heap.size 1 none)=some (Value.int .i64 x51))/\∃ x52:Int, (∀ w':World, S42 w'->w'.cell? (Addr.mk w32.heap.size 2 none)=some (Value.int .i64 x52))/\∃ x53:ByteArray, (∀ w':World, S42 w'->w'.cell? (Addr.mk w32.heap.size 3 none)=some (Value.string x53))/\∃ x54:Sl, (∀ w':World, S42 w'->w'.cell? (Addr.mk w32.heap.size 4 none)=some (Value.slice x54.p x54.l x54.c))/\let w55 := w41.alloc (Obj.cells #[(Value.string x45), (Value.int .i64 x46), (Value.int .i64 x47), (Value.string x48), (Value.slice x49.p x49.l x49.c), (Value.string x50), (Value.int .i64 x51), (Value.int .i64 x52), (Value.string x53), (Value.slice x54.p x54.l x54.c)] 38)
 S42 w55/\let w56 := w55.alloc (Obj.cells #[(Value.string x44), (Value.int .i64 0), (Value.int .i64 0), (Value.string (str [])), (Value.slice (some (Addr.mk w41.heap.size 0 none)) 2 2)] 38)
 S42 w56/\apS 5 72 [(Value.string (str [])), (Value.int .i64 0), (Value.int .i64 0), (Value.string (str [])), (Value.slice none 0 0)] 38 (Sl.mk (subP stack_3.p 0 stack_3.c 5) (((stack_3.l:Int) - (2:Int)).toNat - 0) (stack_3.c - 0)) (Sl.mk (some (Addr.mk w55.heap.size 0 none)) 1 1) w56 fun s57 w58=>S42 w58/\inR .i64 (k_5 + (1:Int))/\N0 l_0 t_2 s57 ops_4 (k_5 + (1:Int)) w58)
 (inR .i64 (k_5 + (1:Int))/\N0 l_0 t_2 stack_3 ops_4 (k_5 + (1:Int)) w)
structure z1f_k4 (l_0:Sl) (t_2:Addr) (stack_3 ops_4:Sl) (k_5 rest_7:Int) (N0:Sl->Addr->Sl->Sl->Int->World->Prop) (K:Pw.T5) (w:World):Prop where
 out:z1f_k4d l_0 t_2 stack_3 ops_4 k_5 rest_7 N0 K w
def z1f_k2d (l_0:Sl) (t_2:Addr) (stack_3 ops_4:Sl) (k_5 rest_7 t_33:Int) (N0:Sl->Addr->Sl->Sl->Int->World->Prop) (K:Pw.T5) (w:World):Prop :=
 cnd (t_33 == (2:Int))
 (cnd (t_33 == (2:Int))
 (z1f_k3 l_0 t_2 stack_3 ops_4 k_5 rest_7 N0 K w)
 (z1f_k4 l_0 t_2 stack_3 ops_4 k_5 rest_7 N0 K w))
 (cnd (t_33 == (3:Int))
 (cnd (t_33 == (3:Int))
 (z1f_k3 l_0 t_2 stack_3 ops_4 k_5 rest_7 N0 K w)
 (z1f_k4 l_0 t_2 stack_3 ops_4 k_5 rest_7 N0 K w))
 (cnd (t_33 == (4:Int))
 (z1f_k3 l_0 t_2 stack_3 ops_4 k_5 rest_7 N0 K w)
 (z1f_k4 l_0 t_2 stack_3 ops_4 k_5 rest_7 N0 K w)))
structure z1f_k2 (l_0:Sl) (t_2:Addr) (stack_3 ops_4:Sl) (k_5 rest_7 t_33:Int) (N0:Sl->Addr->Sl->Sl->Int->World->Prop) (K:Pw.T5) (w:World):Prop where
 out:z1f_k2d l_0 t_2 stack_3 ops_4 k_5 rest_7 t_33 N0 K w
def z1f_b6 (t_2:Addr) (stack_3:Sl) (e_12:Addr) (k_13:Int) (N6:Addr->Sl->Addr->Int->World->Prop) (K:Pw.T5) (w:World):Prop :=
 cnd (decide (k_13 < (stack_3.l:Int)))
 (let w73 := w.drew
 ∃ S74:World->Prop, S74 w73/\∃ x75:ByteArray, (∀ w':World, S74 w'->w'.cell? e_12=some (Value.string x75))/\∃ x76:Int, (∀ w':World, S74 w'->w'.cell? (e_12.add 1)=some (Value.int .i64 x76))/\∃ x77:Int, (∀ w':World, S74 w'->w'.cell? (e_12.add 2)=some (Value.int .i64 x77))/\∃ x78:ByteArray, (∀ w':World, S74 w'->w'.cell? (e_12.add 3)=some (Value.string x78))/\∃ x79:Sl, (∀ w':World, S74 w'->w'.cell? (e_12.add 4)=some (Value.slice x79.p x79.l x79.c))/\nz stack_3.p fun a80=>(0 <= k_13/\k_13 < (stack_3.l:Nat))/\∃ x81:ByteArray, (∀ w':World, S74 w'->w'.cell? (a80.add (k_13.toNat * 5))=some (Value.string x81))/\∃ x82:Int, (∀ w':World, S74 w'->w'.cell? ((a80.add (k_13.toNat * 5)).add 1)=some (Value.int .i64 x82))/\∃ x83:Int, (∀ w':World, S74 w'->w'.cell? ((a80.add (k_13.toNat * 5)).add 2)=some (Value.int .i64 x83))/\∃ x84:ByteArray, (∀ w':World, S74 w'->w'.cell? ((a80.add (k_13.toNat * 5)).add 3)=some (Value.string x84))/\∃ x85:Sl, (∀ w':World, S74 w'->w'.cell? ((a80.add (k_13.toNat * 5)).add 4)=some (Value.slice x85.p x85.l x85.c))/\let w86 := w73.alloc (Obj.cells #[(Value.string x75), (Value.int .i64 x76), (Value.int .i64 x77), (Value.string x78), (Value.slice x79.p x79.l x79.c), (Value.string x81), (Value.int .i64 x82), (Value.int .i64 x83), (Value.string x84), (Value.slice x85.p x85.l x85.c)] 38)
 stN w86 e_12 [(Value.string (str [43])), (Value.int .i64 0), (Value.int .i64 0), (Value.string (str [])), (Value.slice (some (Addr.mk w73.heap.size 0 none)) 2 2)] fun w87=>inR .i64 (k_13 + (1:Int))/\N6 t_2 stack_3 e_12 (k_13 + (1:Int)) w87)
 (∃ x88:ByteArray, w.cell? e_12=some (Value.string x88)/\∃ x89:Int, w.cell? (e_12.add 1)=some (Value.int .i64 x89)/\∃ x90:Int, w.cell? (e_12.add 2)=some (Value.int .i64 x90)/\∃ x91:ByteArray, w.cell? (e_12.add 3)=some (Value.string x91)/\∃ x92:Sl, w.cell? (e_12.add 4)=some (Value.slice x92.p x92.l x92.c)/\stN w t_2 [(Value.string x88), (Value.int .i64 x89), (Value.int .i64 x90), (Value.string x91), (Value.slice x92.p x92.l x92.c)] fun w93=>∃ x94:ByteArray, w93.cell? t_2=some (Value.string x94)/\∃ x95:Int, w93.cell? (t_2.add 1)=some (Value.int .i64 x95)/\∃ x96:Int, w93.cell? (t_2.add 2)=some (Value.int .i64 x96)/\∃ x97:ByteArray, w93.cell? (t_2.add 3)=some (Value.string x97)/\∃ x98:Sl, w93.cell? (t_2.add 4)=some (Value.slice x98.p x98.l x98.c)/\K x94 x95 x96 x97 x98 w93)
def z1f_l6d (t_2:Addr) (stack_3:Sl) (e_12:Addr) (k_13:Int) (K:Pw.T5) (w:World):Prop :=
 ∃ (I:Int->World->Prop) (μ:Int->World->Nat), I k_13 w/\∀ (k_131:Int) (w1:World), I k_131 w1 ->
 z1f_b6 t_2 stack_3 e_12 k_131 (fun t_2' stack_3' e_12' k_13' w'=>((t_2'=t_2/\stack_3'=stack_3/\e_12'=e_12/\True)/\I k_13' w')/\μ k_13' w' < μ k_131 w1) K w1
structure z1f_l6 (t_2:Addr) (stack_3:Sl) (e_12:Addr) (k_13:Int) (K:Pw.T5) (w:World):Prop where
 out:z1f_l6d t_2 stack_3 e_12 k_13 K w
def z1f_k5d (t_2:Addr) (stack_3:Sl) (K:Pw.T5) (w:World):Prop :=
 cnd ((stack_3.l:Int) == (0:Int))
 (stN w t_2 [(Value.string (str [110, 97, 109, 101])), (Value.int .i64 0), (Value.int .i64 0), (Value.string (str [112, 114, 105, 99, 101])), (Value.slice none 0 0)] fun w59=>∃ x60:ByteArray, w59.cell? t_2=some (Value.string x60)/\∃ x61:Int, w59.cell? (t_2.add 1)=some (Value.int .i64 x61)/\∃ x62:Int, w59.cell? (t_2.add 2)=some (Value.int .i64 x62)/\∃ x63:ByteArray, w59.cell? (t_2.add 3)=some (Value.string x63)/\∃ x64:Sl, w59.cell? (t_2.add 4)=some (Value.slice x64.p x64.l x64.c)/\K x60 x61 x62 x63 x64 w59)
 (nz stack_3.p fun a65=>(0 <= (0:Int)/\(0:Int) < (stack_3.l:Nat))/\∃ x66:ByteArray, w.cell? (a65.add ((0:Int).toNat * 5))=some (Value.string x66)/\∃ x67:Int, w.cell? ((a65.add ((0:Int).toNat * 5)).add 1)=some (Value.int .i64 x67)/\∃ x68:Int, w.cell? ((a65.add ((0:Int).toNat * 5)).add 2)=some (Value.int .i64 x68)/\∃ x69:ByteArray, w.cell? ((a65.add ((0:Int).toNat * 5)).add 3)=some (Value.string x69)/\∃ x70:Sl, w.cell? ((a65.add ((0:Int).toNat * 5)).add 4)=some (Value.slice x70.p x70.l x70.c)/\let w71 := w.alloc (Obj.cells #[(Value.string (str [])), (Value.int .i64 0), (Value.int .i64 0), (Value.string (str [])), (Value.slice none 0 0)] 38)
 stN w71 (Addr.mk w.heap.size 0 none) [(Value.string x66), (Value.int .i64 x67), (Value.int .i64 x68), (Value.string x69), (Value.slice x70.p x70.l x70.c)] fun w72=>z1f_l6 t_2 stack_3 (Addr.mk w.heap.size 0 none) (1:Int) K w72)
structure z1f_k5 (t_2:Addr) (stack_3:Sl) (K:Pw.T5) (w:World):Prop where
 out:z1f_k5d t_2 stack_3 K w
def z1f_b0 (l_0:Sl) (t_2:Addr) (stack_3 ops_4:Sl) (k_5:Int) (N0:Sl->Addr->Sl->Sl->Int->World->Prop) (K:Pw.T5) (w:World):Prop :=
 cnd (decide (k_5 < (l_0.l:Int)))
 (cnd (decide (k_5 < (80:Int)))
 (nz l_0.p fun a3=>(0 <= k_5/\k_5 < (l_0.l:Nat))/\∃ x4:Int, w.cell? (a3.add (k_5.toNat * 1))=some (Value.int .i64 x4)/\z1y_sh x4 (1000:Int) (fun r6 w5=>(10:Int) ≠ 0/\inR .i64 (Int.tdiv r6 (10:Int))/\(10:Int) ≠ 0/\cnd ((Int.tmod r6 (10:Int)) == (0:Int))
 (cnd ((Int.tmod r6 (10:Int)) == (0:Int))
 (z1f_k1 l_0 t_2 stack_3 ops_4 k_5 (Int.tdiv r6 (10:Int)) N0 K w5)
 (z1f_k2 l_0 t_2 stack_3 ops_4 k_5 (Int.tdiv r6 (10:Int)) (Int.tmod r6 (10:Int)) N0 K w5))
 (cnd ((Int.tmod r6 (10:Int)) == (1:Int))
 (z1f_k1 l_0 t_2 stack_3 ops_4 k_5 (Int.tdiv r6 (10:Int)) N0 K w5)
 (z1f_k2 l_0 t_2 stack_3 ops_4 k_5 (Int.tdiv r6 (10:Int)) (Int.tmod r6 (10:Int)) N0 K w5))) w)
 (z1f_k5 t_2 stack_3 K w))
 (z1f_k5 t_2 stack_3 K w)
def z1f_l0d (l_0:Sl) (t_2:Addr) (stack_3 ops_4:Sl) (k_5:Int) (K:Pw.T5) (w:World):Prop :=
 ∃ (I:Sl->Int->World->Prop) (μ:Sl->Int->World->Nat), I stack_3 k_5 w/\∀ (stack_31:Sl) (k_51:Int) (w1:World), I stack_31 k_51 w1 ->
 z1f_b0 l_0 t_2 stack_31 ops_4 k_51 (fun l_0' t_2' stack_3' ops_4' k_5' w'=>((l_0'=l_0/\t_2'=t_2/\ops_4'=ops_4/\True)/\I stack_3' k_5' w')/\μ stack_3' k_5' w' < μ stack_31 k_51 w1) K w1
structure z1f_l0 (l_0:Sl) (t_2:Addr) (stack_3 ops_4:Sl) (k_5:Int) (K:Pw.T5) (w:World):Prop where
 out:z1f_l0d l_0 t_2 stack_3 ops_4 k_5 K w
def z1f_sd (l_0:Sl) (K:Pw.T5) (w:World):Prop :=
 let w1 := w.alloc (Obj.cells #[(Value.string (str [])), (Value.int .i64 0), (Value.int .i64 0), (Value.string (str [])), (Value.slice none 0 0)] 38)
 let w2 := w1.alloc (Obj.cells #[(Value.string (str [43])), (Value.string (str [45])), (Value.string (str [42])), (Value.string (str [47])), (Value.string (str [109, 105, 110])), (Value.string (str [109, 97, 120]))] 9)
 z1f_l0 l_0 (Addr.mk w.heap.size 0 none) (Sl.mk none 0 0) (Sl.mk (some (Addr.mk w1.heap.size 0 none)) 6 6) (0:Int) K w2
structure z1f_sh (l_0:Sl) (K:Pw.T5) (w:World):Prop where
 out:z1f_sd l_0 K w
def z1f_L0 (Kv:VW):Cur [tL, tQ, tL, tL, tI] WP := fun l_0 t_2 stack_3 ops_4 k_5=>z1f_l0 l_0 t_2 stack_3 ops_4 k_5 (kk [.g 5, tS, tI, tI, tS, tL] Kv)
def z1f_L1 (Kv:VW):Cur [tL, tQ, tL, tL, tI] WP->Cur [tL, tQ, tL, tL, tI, tI] WP := fun N0 l_0 t_2 stack_3 ops_4 k_5 rest_7=>z1f_k1 l_0 t_2 stack_3 ops_4 k_5 rest_7 N0 (kk [.g 5, tS, tI, tI, tS, tL] Kv)
def z1f_L2 (Kv:VW):Cur [tL, tQ, tL, tL, tI] WP->Cur [tL, tQ, tL, tL, tI, tI, tI] WP := fun N0 l_0 t_2 stack_3 ops_4 k_5 rest_7 t_33=>z1f_k2 l_0 t_2 stack_3 ops_4 k_5 rest_7 t_33 N0 (kk [.g 5, tS, tI, tI, tS, tL] Kv)
def z1f_L3 (Kv:VW):Cur [tL, tQ, tL, tL, tI] WP->Cur [tL, tQ, tL, tL, tI, tI] WP := fun N0 l_0 t_2 stack_3 ops_4 k_5 rest_7=>z1f_k3 l_0 t_2 stack_3 ops_4 k_5 rest_7 N0 (kk [.g 5, tS, tI, tI, tS, tL] Kv)
def z1f_L4 (Kv:VW):Cur [tL, tQ, tL, tL, tI] WP->Cur [tL, tQ, tL, tL, tI, tI] WP := fun N0 l_0 t_2 stack_3 ops_4 k_5 rest_7=>z1f_k4 l_0 t_2 stack_3 ops_4 k_5 rest_7 N0 (kk [.g 5, tS, tI, tI, tS, tL] Kv)
def z1f_L5 (Kv:VW):Cur [tQ, tL] WP := fun t_2 stack_3=>z1f_k5 t_2 stack_3 (kk [.g 5, tS, tI, tI, tS, tL] Kv)
def z1f_L6 (Kv:VW):Cur [tQ, tL, tQ, tI] WP := fun t_2 stack_3 e_12 k_13=>z1f_l6 t_2 stack_3 e_12 k_13 (kk [.g 5, tS, tI, tI, tS, tL] Kv)
noncomputable def z1f_S:Pw.Spec := fun vs w Kv=>un [tL] (fun l_0=>z1f_sh l_0 (kk [.g 5, tS, tI, tI, tS, tL] Kv)) nF vs w
def z1f_A (Kv:VW):A := (qr 1 (qr 1 (qr 2 (qs (qr 1 (qb (A.loop [0, 2, 3, 4, 5] (uR0 [tL, tQ, tL, tL, tI] (z1f_L0 Kv)) (qs (qs (A.reg (qn 5 (RA.spl 19 (qn 3 RA.done) (qk 2 (qn 1 RA.done))))) (qc ql ql)) (qs (qb (qr 6 (qr 3 (qr 2 (qb (qs (qr 2 (qc ql (qe 2))) (qc (A.cut [0, 2, 3, 4, 5, 7] (uR1 [tL, tQ, tL, tL, tI] [tL, tQ, tL, tL, tI, tI] (z1f_L1 Kv)) (qr 14 (qe 6))) (A.cut [0, 2, 3, 4, 5, 7, 33] (uR1 [tL, tQ, tL, tL, tI] [tL, tQ, tL, tL, tI, tI, tI] (z1f_L2 Kv)) (qs (qr 2 (qc ql (qr 2 (qc ql (qe 2))))) (qc (A.cut [0, 2, 3, 4, 5, 7] (uR1 [tL, tQ, tL, tL, tI] [tL, tQ, tL, tL, tI, tI] (z1f_L3 Kv)) (qe 10)) (A.cut [0, 2, 3, 4, 5, 7] (uR1 [tL, tQ, tL, tL, tI] [tL, tQ, tL, tL, tI, tI] (z1f_L4 Kv)) (qr 3 (qc (qr 8 (qr 8 (A.drw (dp [0, 1, 2, 3, 4, 5, 6, 7, 8, 9, 10, 11] (DA.eff 12 (DA.pur 13 (DA.eff 14 (DA.eff 15 (DA.pur 16 DA.done))))))))) ql))))))))))))) (qe 3)))))) (A.cut [2, 3] (uR0 [tQ, tL] (z1f_L5 Kv)) (qs (qr 3 (qc (qr 2 ql) ql)) (qr 5 (qs (qr 1 (qb (A.loop [2, 3, 12, 13] (uR0 [tQ, tL, tQ, tI] (z1f_L6 Kv)) (qs (qr 4 (qc ql ql)) (qs (qb (A.drw (dp [0, 1, 2, 3, 4] (DA.eff 5 (DA.pur 6 (DA.eff 7 DA.done)))))) (qe 3)))))) (qr 2 ql)))))))))
theorem z1f_ok:Sound Tryz.prog 27 z1f_S := okS (x := z1f_A) (fun Kv l_0=>z1f_sd l_0 (kk [.g 5, tS, tI, tI, tS, tL] Kv)) progMixed (Γ := [(28, z1y_S), (55, z1b_S), (56, z17_S)]) ⟨.inl z1y_ok, .inl z1b_ok, .inl z17_ok, trivial⟩ Tryz.call27 Tryz.func27 (fun Kv=>hStep (hLoop0 (L := z1f_L0 Kv) (fun N0 l_0 t_2 stack_3 ops_4 k_5=>z1f_b0 l_0 t_2 stack_3 ops_4 k_5 N0 (kk [.g 5, tS, tI, tI, tS, tL] Kv)) (fun ⟨a0, a1, _, a3, _, _⟩ _ h=>let ⟨I, μ, h0, hr⟩ := h.out; ⟨fun b0 b1 b2 b3 b4 w=>(b0=a0/\b1=a1/\b3=a3/\True)/\I b2 b4 w, fun _ _ b2 _ b4 w=>μ b2 b4 w, ⟨⟨rfl, rfl, rfl, trivial⟩, h0⟩, fun ⟨_, _, _, _, _, _⟩ _ ⟨⟨e0, e1, e3, _⟩, hI⟩=>by cases e0; cases e1; cases e3; exact hr _ _ _ hI⟩)) <| hStep (hCut1 (F := z1f_L1 Kv) (G := fun N0 l_0 t_2 stack_3 ops_4 k_5 rest_7=>z1f_k1d l_0 t_2 stack_3 ops_4 k_5 rest_7 N0 (kk [.g 5, tS, tI, tI, tS, tL] Kv))) <| hStep (hCut1 (F := z1f_L2 Kv) (G := fun N0 l_0 t_2 stack_3 ops_4 k_5 rest_7 t_33=>z1f_k2d l_0 t_2 stack_3 ops_4 k_5 rest_7 t_33 N0 (kk [.g 5, tS, tI, tI, tS, tL] Kv))) <| hStep (hCut1 (F := z1f_L3 Kv) (G := fun N0 l_0 t_2 stack_3 ops_4 k_5 rest_7=>z1f_k3d l_0 t_2 stack_3 ops_4 k_5 rest_7 N0 (kk [.g 5, tS, tI, tI, tS, tL] Kv))) <| hStep (hCut1 (F := z1f_L4 Kv) (G := fun N0 l_0 t_2 stack_3 ops_4 k_5 rest_7=>z1f_k4d l_0 t_2 stack_3 ops_4 k_5 rest_7 N0 (kk [.g 5, tS, tI, tI, tS, tL] Kv))) <| hStep (hCut0 (F := z1f_L5 Kv) (G := fun t_2 stack_3=>z1f_k5d t_2 stack_3 (kk [.g 5, tS, tI, tI, tS, tL] Kv))) <| hStep (hLoop0 (L := z1f_L6 Kv) (fun N6 t_2 stack_3 e_12 k_13=>z1f_b6 t_2 stack_3 e_12 k_13 N6 (kk [.g 5, tS, tI, tI, tS, tL] Kv)) (fun ⟨a0, a1, a2, _, _⟩ _ h=>let ⟨I, μ, h0, hr⟩ := h.out; ⟨fun b0 b1 b2 b3 w=>(b0=a0/\b1=a1/\b2=a2/\True)/\I b3 w, fun _ _ _ b3 w=>μ b3 w, ⟨⟨rfl, rfl, rfl, trivial⟩, h0⟩, fun ⟨_, _, _, _, _⟩ _ ⟨⟨e0, e1, e2, _⟩, hI⟩=>by cases e0; cases e1; cases e2; exact hr _ _ hI⟩)) <| hEnd)
end Go.Proofs.YtfkmpbpkahcogaaGreatDoor
