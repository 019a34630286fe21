/- The bodies' formulas, by program. -/
import Derived.Test.YtipjnbbfnlfmjaaGreatDoorDG3
set_option maxRecDepth 20000
namespace Go.Proofs.YtipjnbbfnlfmjaaGreatDoor
open Go Pw
structure z0j_sh (p0:Int)(K:Pw.Y6)(w:World):Prop where
 out:Calls Tryz.prog 12 #[(vI p0)] w fun e w'=>∃ r0:ByteArray,e=.returned (vT r0)/\K r0 w'
def z0j_S:Pw.Spec:=fun vs w Kv =>
 match vs with
 | [.int .i64 p0]=>z0j_sh p0 (fun r0 w'=>Kv (vT r0) w') w
 | _=>False
theorem z0j_okr:q22 Tryz.prog 12 z0j_S:=⟨Tryz.call12,fun vs w Kv h=>by
  unfold z0j_S at h
  split at h
  · exact h.out.mono fun e w' he=>by
      obtain⟨_,he,hk⟩:=he
      exact⟨_,he,hk⟩
  · exact h.elim⟩
def z0j_k1d (p0:Int)(p3:ByteArray)(K:Pw.Y6)(w:World):Prop :=
 ((((str [45]).size+p3.size:Nat):Int)<=maxI)/\(10:Int)≠0/\inR .i64 ((48:Int)-(Int.tmod p0 10))/\inR .u8 ((48:Int)-(Int.tmod p0 10))/\let w5:=w.alloc (.cells #[(.int .u8 ((48:Int)-(Int.tmod p0 10)))] 5)
 btsS (Sl.mk (some (hA w 0)) 1 1) w5 fun s6=>(((((str [45])++p3).size+s6.size:Nat):Int)<=maxI)/\K (((str [45])++p3)++s6) w5
structure z0j_k1 (p0:Int)(p3:ByteArray)(K:Pw.Y6)(w:World):Prop where
 out:z0j_k1d p0 p3 K w
def z0j_k0d (p0:Int)(K:Pw.Y6)(w:World):Prop :=
 cnd (decide (p0<0))
 (cnd (decide (p0<=(-10)))
 ((10:Int)≠0/\inR .i64 (Int.tdiv p0 10)/\inR .i64 (-(Int.tdiv p0 10))/\z0j_sh (-(Int.tdiv p0 10)) (fun r4 w3=>z0j_k1 p0 r4 K w3) w)
 (z0j_k1 p0 (str []) K w))
 (let w7:=w.drew
 ∃ S8:World->Prop,S8 w7/\(10:Int)≠0/\inR .i64 (Int.tdiv p0 10)/\(10:Int)≠0/\inR .i64 ((48:Int)+(Int.tmod p0 10))/\inR .u8 ((48:Int)+(Int.tmod p0 10))/\(z0j_sh (Int.tdiv p0 10) (fun r10 w9=>S8 w9/\let w11:=w9.alloc (.cells #[(.int .u8 ((48:Int)+(Int.tmod p0 10)))] 5)
 btsS (Sl.mk (some (hA w9 0)) 1 1) w11 fun s12=>(((r10.size+s12.size:Nat):Int)<=maxI)/\K (r10++s12) w11) w7)
/\(let w13:=w7.alloc (.cells #[(.int .u8 ((48:Int)+(Int.tmod p0 10)))] 5)
 S8 w13/\(z0j_sh (Int.tdiv p0 10) (fun r15 w14=>S8 w14/\btsS (Sl.mk (some (hA w7 0)) 1 1) w14 fun s16=>(((r15.size+s16.size:Nat):Int)<=maxI)/\K (r15++s16) w14) w13)
/\(btsS (Sl.mk (some (hA w7 0)) 1 1) w13 fun s17=>S8 w13/\z0j_sh (Int.tdiv p0 10) (fun r19 w18=>(((r19.size+s17.size:Nat):Int)<=maxI)/\K (r19++s17) w18) w13)))
structure z0j_k0 (p0:Int)(K:Pw.Y6)(w:World):Prop where
 out:z0j_k0d p0 K w
def z0j_sd (p0:Int)(K:Pw.Y6)(w:World):Prop :=
 cnd (decide (p0>=0))
 (cnd (decide (p0<10))
 (inR .i64 ((48:Int)+p0)/\inR .u8 ((48:Int)+p0)/\let w1:=w.alloc (.cells #[(.int .u8 ((48:Int)+p0))] 5)
 btsS (Sl.mk (some (hA w 0)) 1 1) w1 fun s2=>K s2 w1)
 (z0j_k0 p0 K w))
 (z0j_k0 p0 K w)
def z0j_P0 (Kv:VW)(ρ:Rho)(vs:List Value)(w:World):Prop :=
 match ρ,vs with
 | _,[.int .i64 n_0]=>z0j_k0 n_0 (fun r0 w'=>Kv (Value.string r0) w') w
 | _,_=>False
def z0j_P1 (Kv:VW)(ρ:Rho)(vs:List Value)(w:World):Prop :=
 match ρ,vs with
 | _,[.int .i64 n_0,.string rest_3]=>z0j_k1 n_0 rest_3 (fun r0 w'=>Kv (Value.string r0) w') w
 | _,_=>False
noncomputable def z0j_E:Pw.Env:=[(12,z0j_S)]
noncomputable def z0j_C:Code:=(Tryz.f12.body).getD .skip
noncomputable def z0j_A (Kv:VW):Pw.A :=
 (qr 1 (qs (qs (A.reg (qn 3 (RA.spl 6 (qn 3 RA.done) (qk 2 (qn 1 RA.done))))) (qc (qr 6 ql) ql)) (A.cut [0] (z0j_P0 Kv) (qs (qr 2 (qc (qr 1 (qs (qr 2 (qc (qe 5) ql)) (A.cut [0,3] (z0j_P1 Kv) (qr 10 ql)))) ql)) (qs (A.drw (dp [0,1,3,4,5,6] (DA.two 2 (DA.eff 7 (DA.eff 8 (dp [9,10] DA.done))) 7 (DA.two 2 (DA.eff 8 (dp [9,10] DA.done)) 8 (DA.eff 2 (dp [9,10] DA.done)))))) ql)))))
noncomputable def z0j_O (Kv:VW):List Ob:=(obs Tryz.prog z0j_E 42 (z0j_A Kv) z0j_C (fun _=>retQ Tryz.prog Tryz.f12.results Kv))
theorem z0j_e (Kv:VW)(n_0:Int)(w:World):z0j_sd n_0 (fun r0 w'=>Kv (Value.string r0) w') w=W Tryz.prog z0j_E 42 (z0j_A Kv) z0j_C [] (retQ Tryz.prog Tryz.f12.results Kv) [] (q1d [(Value.int .i64 n_0)]) w:=by kernel_rfl
theorem z0j_e0 (Kv:VW)(ρ:Rho)(n_0:Int)(w:World):z0j_k0d n_0 (fun r0 w'=>Kv (Value.string r0) w') w=q1l Tryz.prog z0j_E 42 (z0j_O Kv) 0 (ρ) [(Value.int .i64 n_0)] w:=by kernel_rfl
theorem z0j_q0 (Kv:VW)(ρ:Rho)(vs:List Value)(w:World):q2s (z0j_O Kv) 0 ρ vs w=z0j_P0 Kv ρ vs w:=by kernel_rfl
theorem z0j_h0 (Kv:VW):q0e Tryz.prog z0j_E 42 (z0j_O Kv) 0:=q0q (.inl (by kernel_rfl)) (fun ρ vs w h=>by
  rw[z0j_q0] at h
  unfold z0j_P0 at h
  split at h
  · rw[← z0j_e0]; exact h.out
  · exact h.elim)
theorem z0j_e1 (Kv:VW)(ρ:Rho)(n_0:Int)(rest_3:ByteArray)(w:World):z0j_k1d n_0 rest_3 (fun r0 w'=>Kv (Value.string r0) w') w=q1l Tryz.prog z0j_E 42 (z0j_O Kv) 1 (ρ) [(Value.int .i64 n_0),(Value.string rest_3)] w:=by kernel_rfl
theorem z0j_q1 (Kv:VW)(ρ:Rho)(vs:List Value)(w:World):q2s (z0j_O Kv) 1 ρ vs w=z0j_P1 Kv ρ vs w:=by kernel_rfl
theorem z0j_h1 (Kv:VW):q0e Tryz.prog z0j_E 42 (z0j_O Kv) 1:=q0q (.inl (by kernel_rfl)) (fun ρ vs w h=>by
  rw[z0j_q1] at h
  unfold z0j_P1 at h
  split at h
  · rw[← z0j_e1]; exact h.out
  · exact h.elim)
theorem z0j_n (Kv:VW):obAt (z0j_O Kv) 2=none:=by kernel_rfl
theorem z0j_h (Kv:VW):∀ k,q0e Tryz.prog z0j_E 42 (z0j_O Kv) k:=fun k=>match k with
  | 0=>z0j_h0 Kv
  | 1=>z0j_h1 Kv
  | k+2=>q1a (z0j_n Kv) (Nat.le_add_left _ _)
theorem z0j_mk (n_0:Int){K:ByteArray->World->Prop}{w:World}(h:z0j_sd n_0 K w):z0j_sh n_0 K w:=by
  have e:(fun r0 w'=>(fun v w'=>∃ r0:ByteArray,v=(Value.string r0)/\K r0 w') (Value.string r0) w')=K:=by
    funext r0 w'
    apply propext
    constructor
    · rintro⟨r0',hv,hk⟩
      cases hv
      exact hk
    · intro hk
      exact⟨_,rfl,hk⟩
  have h':z0j_sd n_0 (fun r0 w'=>(fun v w'=>∃ r0:ByteArray,v=(Value.string r0)/\K r0 w') (Value.string r0) w') w:=by rw[e]; exact h
  rw[z0j_e (fun v w'=>∃ r0:ByteArray,v=(Value.string r0)/\K r0 w')] at h'
  refine⟨(q0z (Γ:=z0j_E) progMixed ⟨.inl z0j_okr,trivial⟩ Tryz.func12 (code:=z0j_C) (by kernel_rfl) (z0j_A (fun v w'=>∃ r0:ByteArray,v=(Value.string r0)/\K r0 w')) (fun v w'=>∃ r0:ByteArray,v=(Value.string r0)/\K r0 w') (q15 (z0j_h (fun v w'=>∃ r0:ByteArray,v=(Value.string r0)/\K r0 w'))) (Nat.le_of_ble_eq_true (by kernel_rfl)) h').mono fun e w' he=>?_⟩
  obtain⟨v,rfl,_,rfl,hk⟩:=he
  exact⟨_,rfl,hk⟩
structure z0z_sh (p0:Int)(K:Pw.Y6)(w:World):Prop where
 out:let w1:=w.alloc (.cells #[(vT (str [113,117,97,108,105,116,121])),(vT (str [100,97,121,115])),(vT (str [115,116,97,102,102])),(vT (str [112,114,105,99,101])),(vT (str [108,111,119]))] 9)
  z1b_sh p0 5 (fun r3 w2=>(0<=r3/\r3<(5:Nat))/\lT w2 ((hA w 0).add (r3.toNat*1)) fun x5=>K x5 w2) w1
def z0z_S:=sp [tI] [tS] z0z_sh
theorem z0z_ok:okP 15 z0z_S:=okR (x:=fun _=>qr 1 (qr 6 ql)) (Γ:=[(14,z1b_S)]) ⟨.inl z1b_ok,trivial⟩ Tryz.call15 Tryz.func15 (fun _=>hEnd)
def z07_k10d (p2 p3:Addr)(K:Pw.Y7)(w:World):Prop :=
 T43.ld w p3 fun x152=>stN w p2 (T43.cs x152) fun w153=>T43.ld w153 p2 fun x154=>K x154 w153
structure z07_k10 (p2 p3:Addr)(K:Pw.Y7)(w:World):Prop where
 out:z07_k10d p2 p3 K w
def z07_b9 (p1 p2 p3:Addr)(p10:Int)(N9:Pw.Y18)(K:Pw.Y7)(w:World):Prop :=
 lS w (p1.add 5) fun x135=>cnd (decide (p10<(x135.l:Int)))
 (cnd (decide (p10<3))
 (let w136:=w.drew
 ∃ S137:World->Prop,S137 w136/\mS S137 (p3.add 13) fun x138=>mS S137 (p1.add 5) fun x139=>nz x139.p fun a140=>(0<=p10/\p10<(x139.l:Nat))/\mS S137 (a140.add (p10.toNat*1)) fun x141=>mS S137 (p1.add 5) fun x142=>nz x142.p fun a143=>(0<=p10/\p10<(x142.l:Nat))/\mS S137 (a143.add (p10.toNat*1)) fun x144=>(0<=(0:Int)/\(0:Int)<=(min (x144.l:Int) 4)/\(min (x144.l:Int) 4)<=(x141.c:Nat))/\let w145:=w136.alloc (.cells #[] 3)
 S137 w145/\apS 1 8 [(vI 0)] 3 (Sl.mk (some (hA w136 0)) 0 0) (Sl.mk (subP x141.p 0 x141.c 1) ((min (x144.l:Int) 4).toNat-0) (x141.c-0)) w145 fun s146 w147=>S137 w147/\let w148:=w147.alloc (.cells #[(vS s146)] 25)
 S137 w148/\apS 1 24 [vN] 25 x138 (Sl.mk (some (hA w147 0)) 1 1) w148 fun s149 w150=>S137 w150/\wrOk w150 (p3.add 13)/\
 (let w151:=w150.setCell (p3.add 13) (vS s149)
 inR .i64 (p10+1)/\N9 p1 p2 p3 (p10+1) w151))
 (z07_k10 p2 p3 K w))
 (z07_k10 p2 p3 K w)
structure z07_l9 (p1 p2 p3:Addr)(p10:Int)(K:Pw.Y7)(w:World):Prop where
 out:∃ (I:Int->World->Prop) (μ:Int->World->Nat),I p10 w/\∀ (p101:Int) (w1:World),I p101 w1 ->
  z07_b9 p1 p2 p3 p101 (fun p1' p2' p3' p10' w'=>((p1'=p1/\p2'=p2/\p3'=p3/\True)/\I p10' w')/\μ p10' w'<μ p101 w1) K w1
def z07_k8d (p1 p2 p3:Addr)(K:Pw.Y7)(w:World):Prop :=
 z07_l9 p1 p2 p3 0 K w
structure z07_k8 (p1 p2 p3:Addr)(K:Pw.Y7)(w:World):Prop where
 out:z07_k8d p1 p2 p3 K w
def z07_b7 (p1 p2 p3:Addr)(p9:Int)(N7:Pw.Y18)(K:Pw.Y7)(w:World):Prop :=
 lS w (p1.add 4) fun x122=>cnd (decide (p9<(x122.l:Int)))
 (cnd (decide (p9<4))
 (let w123:=w.drew
 ∃ S124:World->Prop,S124 w123/\mS S124 (p3.add 11) fun x125=>mS S124 (p1.add 4) fun x126=>nz x126.p fun a127=>(0<=p9/\p9<(x126.l:Nat))/\mI S124 (a127.add (p9.toNat*1)) fun x128=>z0z_sh x128 (fun r130 w129=>S124 w129/\let w131:=w129.alloc (.cells #[(vT r130)] 9)
 S124 w131/\apS 1 16 [(vT (str []))] 9 x125 (Sl.mk (some (hA w129 0)) 1 1) w131 fun s132 w133=>S124 w133/\wrOk w133 (p3.add 11)/\
 (let w134:=w133.setCell (p3.add 11) (vS s132)
 inR .i64 (p9+1)/\N7 p1 p2 p3 (p9+1) w134)) w123)
 (z07_k8 p1 p2 p3 K w))
 (z07_k8 p1 p2 p3 K w)
structure z07_l7 (p1 p2 p3:Addr)(p9:Int)(K:Pw.Y7)(w:World):Prop where
 out:∃ (I:Int->World->Prop) (μ:Int->World->Nat),I p9 w/\∀ (p91:Int) (w1:World),I p91 w1 ->
  z07_b7 p1 p2 p3 p91 (fun p1' p2' p3' p9' w'=>((p1'=p1/\p2'=p2/\p3'=p3/\True)/\I p9' w')/\μ p9' w'<μ p91 w1) K w1
def z07_k6d (p1 p2 p3:Addr)(K:Pw.Y7)(w:World):Prop :=
 z07_l7 p1 p2 p3 0 K w
structure z07_k6 (p1 p2 p3:Addr)(K:Pw.Y7)(w:World):Prop where
 out:z07_k6d p1 p2 p3 K w
def z07_b5 (p1 p2 p3:Addr)(p7:Int)(N5:Pw.Y18)(K:Pw.Y7)(w:World):Prop :=
 lS w (p1.add 2) fun x74=>cnd (decide (p7<(x74.l:Int)))
 (cnd (decide (p7<4))
 (lS w (p1.add 2) fun x75=>nz x75.p fun a76=>(0<=p7/\p7<(x75.l:Nat))/\lI w (a76.add (p7.toNat*3)) fun x77=>∃ x78:Int,w.cell? ((a76.add (p7.toNat*3)).add 1)=some (vI x78)/\∃ x79:Int,w.cell? ((a76.add (p7.toNat*3)).add 2)=some (vI x79)/\let w80:=w.alloc (.cells #[(vI 0),(vI 0),(vI 0)] 46)
 stN w80 (hA w 0) [(vI x77),(vI x78),(vI x79)] fun w81=>let w82:=w81.drew
 ∃ S83:World->Prop,S83 w82/\mS S83 (p3.add 3) fun x84=>(0<=(0:Int)/\(0:Int)<(3:Nat))/\∃ x85:Int,(∀ w':World,S83 w'->w'.cell? ((hA w 0).add ((0:Int).toNat*1))=some (vI x85))/\(0<=(1:Int)/\(1:Int)<(3:Nat))/\∃ x86:Int,(∀ w':World,S83 w'->w'.cell? ((hA w 0).add ((1:Int).toNat*1))=some (vI x86))/\(0<=(2:Int)/\(2:Int)<(3:Nat))/\∃ x87:Int,(∀ w':World,S83 w'->w'.cell? ((hA w 0).add ((2:Int).toNat*1))=some (vI x87))/\(z0z_sh x85 (fun r89 w88=>S83 w88/\(let w90:=w88.alloc (.cells #[(vT (str [60,61])),(vT (str [62,61]))] 9)
 S83 w90/\z1b_sh x86 2 (fun r93 w92=>∃ S91:World->Prop,S91 w92/\(∀ u:World,S91 u->S83 u)/\(0<=r93/\r93<(2:Nat))/\∃ x95:ByteArray,(∀ w':World,S91 w'->w'.cell? ((hA w88 0).add (r93.toNat*1))=some (vT x95))/\let w96:=w92.alloc (.cells #[(vT r89),(vT x95),(vI x87)] 76)
 S91 w96/\apS 3 40 [(vT (str [])),(vT (str [])),(vI 0)] 76 x84 (Sl.mk (some (hA w92 0)) 1 1) w96 fun s97 w98=>S91 w98/\wrOk w98 (p3.add 3)/\
 (let w99:=w98.setCell (p3.add 3) (vS s97)
 inR .i64 (p7+1)/\N5 p1 p2 p3 (p7+1) w99)) w90)
/\(z1b_sh x86 2 (fun r101 w100=>S83 w100/\let w103:=w100.alloc (.cells #[(vT (str [60,61])),(vT (str [62,61]))] 9)
 ∃ S102:World->Prop,S102 w103/\(∀ u:World,S102 u->S83 u)/\(0<=r101/\r101<(2:Nat))/\∃ x105:ByteArray,(∀ w':World,S102 w'->w'.cell? ((hA w100 0).add (r101.toNat*1))=some (vT x105))/\let w106:=w103.alloc (.cells #[(vT r89),(vT x105),(vI x87)] 76)
 S102 w106/\apS 3 40 [(vT (str [])),(vT (str [])),(vI 0)] 76 x84 (Sl.mk (some (hA w103 0)) 1 1) w106 fun s107 w108=>S102 w108/\wrOk w108 (p3.add 3)/\
 (let w109:=w108.setCell (p3.add 3) (vS s107)
 inR .i64 (p7+1)/\N5 p1 p2 p3 (p7+1) w109)) w88)) w82)
/\(let w110:=w82.alloc (.cells #[(vT (str [60,61])),(vT (str [62,61]))] 9)
 S83 w110/\z0z_sh x85 (fun r112 w111=>S83 w111/\z1b_sh x86 2 (fun r115 w114=>∃ S113:World->Prop,S113 w114/\(∀ u:World,S113 u->S83 u)/\(0<=r115/\r115<(2:Nat))/\∃ x117:ByteArray,(∀ w':World,S113 w'->w'.cell? ((hA w82 0).add (r115.toNat*1))=some (vT x117))/\let w118:=w114.alloc (.cells #[(vT r112),(vT x117),(vI x87)] 76)
 S113 w118/\apS 3 40 [(vT (str [])),(vT (str [])),(vI 0)] 76 x84 (Sl.mk (some (hA w114 0)) 1 1) w118 fun s119 w120=>S113 w120/\wrOk w120 (p3.add 3)/\
 (let w121:=w120.setCell (p3.add 3) (vS s119)
 inR .i64 (p7+1)/\N5 p1 p2 p3 (p7+1) w121)) w111) w110))
 (z07_k6 p1 p2 p3 K w))
 (z07_k6 p1 p2 p3 K w)
structure z07_l5 (p1 p2 p3:Addr)(p7:Int)(K:Pw.Y7)(w:World):Prop where
 out:∃ (I:Int->World->Prop) (μ:Int->World->Nat),I p7 w/\∀ (p71:Int) (w1:World),I p71 w1 ->
  z07_b5 p1 p2 p3 p71 (fun p1' p2' p3' p7' w'=>((p1'=p1/\p2'=p2/\p3'=p3/\True)/\I p7' w')/\μ p7' w'<μ p71 w1) K w1
def z07_k4d (p1 p2 p3:Addr)(K:Pw.Y7)(w:World):Prop :=
 z07_l5 p1 p2 p3 0 K w
structure z07_k4 (p1 p2 p3:Addr)(K:Pw.Y7)(w:World):Prop where
 out:z07_k4d p1 p2 p3 K w
def z07_b3 (p1 p2 p3:Addr)(p5:Int)(N3:Pw.Y18)(K:Pw.Y7)(w:World):Prop :=
 lS w (p1.add 1) fun x49=>cnd (decide (p5<(x49.l:Int)))
 (cnd (decide (p5<5))
 (lS w (p1.add 1) fun x50=>nz x50.p fun a51=>(0<=p5/\p5<(x50.l:Nat))/\lI w (a51.add (p5.toNat*4)) fun x52=>∃ x53:Int,w.cell? ((a51.add (p5.toNat*4)).add 1)=some (vI x53)/\∃ x54:Int,w.cell? ((a51.add (p5.toNat*4)).add 2)=some (vI x54)/\∃ x55:Int,w.cell? ((a51.add (p5.toNat*4)).add 3)=some (vI x55)/\let w56:=w.alloc (.cells #[(vI 0),(vI 0),(vI 0),(vI 0)] 51)
 stN w56 (hA w 0) [(vI x52),(vI x53),(vI x54),(vI x55)] fun w57=>let w58:=w57.drew
 ∃ S59:World->Prop,S59 w58/\mS S59 (p3.add 2) fun x60=>(0<=(0:Int)/\(0:Int)<(4:Nat))/\∃ x61:Int,(∀ w':World,S59 w'->w'.cell? ((hA w 0).add ((0:Int).toNat*1))=some (vI x61))/\(0<=(1:Int)/\(1:Int)<(4:Nat))/\∃ x62:Int,(∀ w':World,S59 w'->w'.cell? ((hA w 0).add ((1:Int).toNat*1))=some (vI x62))/\(0<=(2:Int)/\(2:Int)<(4:Nat))/\∃ x63:Int,(∀ w':World,S59 w'->w'.cell? ((hA w 0).add ((2:Int).toNat*1))=some (vI x63))/\(0<=(3:Int)/\(3:Int)<(4:Nat))/\∃ x64:Int,(∀ w':World,S59 w'->w'.cell? ((hA w 0).add ((3:Int).toNat*1))=some (vI x64))/\(0<=(3:Int)/\(3:Int)<(4:Nat))/\∃ x65:Int,(∀ w':World,S59 w'->w'.cell? ((hA w 0).add ((3:Int).toNat*1))=some (vI x65))/\(2:Int)≠0/\z0z_sh x61 (fun r67 w66=>S59 w66/\z1b_sh x62 3 (fun r69 w68=>S59 w68/\let w70:=w68.alloc (.cells #[(vT r67),(vI r69),(vI x63),(vI x64),(.bool ((Int.tmod x65 2) != 0))] 56)
 S59 w70/\apS 5 48 [(vT (str [])),(vI 0),(vI 0),(vI 0),(.bool false)] 56 x60 (Sl.mk (some (hA w68 0)) 1 1) w70 fun s71 w72=>S59 w72/\wrOk w72 (p3.add 2)/\
 (let w73:=w72.setCell (p3.add 2) (vS s71)
 inR .i64 (p5+1)/\N3 p1 p2 p3 (p5+1) w73)) w66) w58)
 (z07_k4 p1 p2 p3 K w))
 (z07_k4 p1 p2 p3 K w)
structure z07_l3 (p1 p2 p3:Addr)(p5:Int)(K:Pw.Y7)(w:World):Prop where
 out:∃ (I:Int->World->Prop) (μ:Int->World->Nat),I p5 w/\∀ (p51:Int) (w1:World),I p51 w1 ->
  z07_b3 p1 p2 p3 p51 (fun p1' p2' p3' p5' w'=>((p1'=p1/\p2'=p2/\p3'=p3/\True)/\I p5' w')/\μ p5' w'<μ p51 w1) K w1
def z07_k2d (p1 p2 p3:Addr)(K:Pw.Y7)(w:World):Prop :=
 z07_l3 p1 p2 p3 0 K w
structure z07_k2 (p1 p2 p3:Addr)(K:Pw.Y7)(w:World):Prop where
 out:z07_k2d p1 p2 p3 K w
def z07_b1 (p1 p2 p3:Addr)(p4:Int)(N1:Pw.Y18)(K:Pw.Y7)(w:World):Prop :=
 lS w p1 fun x33=>cnd (decide (p4<(x33.l:Int)))
 (cnd (decide (p4<5))
 (let w34:=w.drew
 ∃ S35:World->Prop,S35 w34/\mS S35 (p3.add 1) fun x36=>mS S35 p1 fun x37=>nz x37.p fun a38=>(0<=p4/\p4<(x37.l:Nat))/\(0<=(0:Int)/\(0:Int)<(2:Nat))/\∃ x39:Int,(∀ w':World,S35 w'->w'.cell? ((a38.add (p4.toNat*2)).add ((0:Int).toNat*1))=some (vI x39))/\mS S35 p1 fun x40=>nz x40.p fun a41=>(0<=p4/\p4<(x40.l:Nat))/\(0<=(1:Int)/\(1:Int)<(2:Nat))/\∃ x42:Int,(∀ w':World,S35 w'->w'.cell? ((a41.add (p4.toNat*2)).add ((1:Int).toNat*1))=some (vI x42))/\z1b_sh x39 4 (fun r44 w43=>S35 w43/\let w45:=w43.alloc (.cells #[(vI r44),(vI x42)] 49)
 S35 w45/\apS 2 16 [(vI 0),(vI 0)] 49 x36 (Sl.mk (some (hA w43 0)) 1 1) w45 fun s46 w47=>S35 w47/\wrOk w47 (p3.add 1)/\
 (let w48:=w47.setCell (p3.add 1) (vS s46)
 inR .i64 (p4+1)/\N1 p1 p2 p3 (p4+1) w48)) w34)
 (z07_k2 p1 p2 p3 K w))
 (z07_k2 p1 p2 p3 K w)
structure z07_l1 (p1 p2 p3:Addr)(p4:Int)(K:Pw.Y7)(w:World):Prop where
 out:∃ (I:Int->World->Prop) (μ:Int->World->Nat),I p4 w/\∀ (p41:Int) (w1:World),I p41 w1 ->
  z07_b1 p1 p2 p3 p41 (fun p1' p2' p3' p4' w'=>((p1'=p1/\p2'=p2/\p3'=p3/\True)/\I p4' w')/\μ p4' w'<μ p41 w1) K w1
def z07_k0d (p1 p2 p3:Addr)(K:Pw.Y7)(w:World):Prop :=
 (0<=(4:Int)/\(4:Int)<(10:Nat))/\∃ x27:Int,w.cell? ((p1.add 6).add ((4:Int).toNat*1))=some (vI x27)/\(0<=(5:Int)/\(5:Int)<(10:Nat))/\∃ x28:Int,w.cell? ((p1.add 6).add ((5:Int).toNat*1))=some (vI x28)/\(0<=(6:Int)/\(6:Int)<(10:Nat))/\∃ x29:Int,w.cell? ((p1.add 6).add ((6:Int).toNat*1))=some (vI x29)/\(0<=(7:Int)/\(7:Int)<(10:Nat))/\∃ x30:Int,w.cell? ((p1.add 6).add ((7:Int).toNat*1))=some (vI x30)/\(0<=(8:Int)/\(8:Int)<(10:Nat))/\∃ x31:Int,w.cell? ((p1.add 6).add ((8:Int).toNat*1))=some (vI x31)/\stN w (p3.add 15) [(vI x27),(vI x28),(vI x29),(vI x30),(vI x31)] fun w32=>z07_l1 p1 p2 p3 0 K w32
structure z07_k0 (p1 p2 p3:Addr)(K:Pw.Y7)(w:World):Prop where
 out:z07_k0d p1 p2 p3 K w
def z07_sd (p0:T29)(K:Pw.Y7)(w:World):Prop :=
 let w1:=w.alloc (.cells (T29.cs p0).toArray 29)
 let w2:=w1.alloc (.cells (T43.cs (T43.mk (str []) (Sl.mk none 0 0) (Sl.mk none 0 0) (Sl.mk none 0 0) 0 0 (str []) 0 0 (str []) (Sl.mk none 0 0) (Sl.mk none 0 0) 0 (Sl.mk none 0 0) 0 0 0 0 0 0)).toArray 43)
 let w3:=w2.drew
 ∃ S4:World->Prop,S4 w3/\(0<=(9:Int)/\(9:Int)<(10:Nat))/\∃ x5:Int,(∀ w':World,S4 w'->w'.cell? ((hA w 6).add ((9:Int).toNat*1))=some (vI x5))/\(0<=(0:Int)/\(0:Int)<(10:Nat))/\∃ x6:Int,(∀ w':World,S4 w'->w'.cell? ((hA w 6).add ((0:Int).toNat*1))=some (vI x6))/\(0<=(1:Int)/\(1:Int)<(10:Nat))/\∃ x7:Int,(∀ w':World,S4 w'->w'.cell? ((hA w 6).add ((1:Int).toNat*1))=some (vI x7))/\(0<=(2:Int)/\(2:Int)<(10:Nat))/\∃ x8:Int,(∀ w':World,S4 w'->w'.cell? ((hA w 6).add ((2:Int).toNat*1))=some (vI x8))/\(0<=(3:Int)/\(3:Int)<(10:Nat))/\∃ x9:Int,(∀ w':World,S4 w'->w'.cell? ((hA w 6).add ((3:Int).toNat*1))=some (vI x9))/\mS S4 (hA w 3) fun x10=>(z0j_sh x5 (fun r12 w11=>S4 w11/\(z0x_sh x10 (fun r14_0 r14_1 r14_2 r14_3 r14_4 w13=>S4 w13/\let w15:=w13.alloc (.cells (T43.cs (T43.mk (str []) (Sl.mk none 0 0) (Sl.mk none 0 0) (Sl.mk none 0 0) 0 0 (str []) 0 0 (str []) (Sl.mk none 0 0) (Sl.mk none 0 0) 0 (Sl.mk none 0 0) 0 0 0 0 0 0)).toArray 43)
 S4 w15/\stN w15 (hA w13 0) (T43.cs (T43.mk r12 (Sl.mk none 0 0) (Sl.mk none 0 0) (Sl.mk none 0 0) x6 x7 r14_0 r14_1 r14_2 r14_3 r14_4 (Sl.mk none 0 0) x8 (Sl.mk none 0 0) x9 0 0 0 0 0)) fun w16=>z07_k0 (hA w 0) (hA w1 0) (hA w13 0) K w16) w11)
/\(let w17:=w11.alloc (.cells (T43.cs (T43.mk (str []) (Sl.mk none 0 0) (Sl.mk none 0 0) (Sl.mk none 0 0) 0 0 (str []) 0 0 (str []) (Sl.mk none 0 0) (Sl.mk none 0 0) 0 (Sl.mk none 0 0) 0 0 0 0 0 0)).toArray 43)
 S4 w17/\z0x_sh x10 (fun r19_0 r19_1 r19_2 r19_3 r19_4 w18=>S4 w18/\stN w18 (hA w11 0) (T43.cs (T43.mk r12 (Sl.mk none 0 0) (Sl.mk none 0 0) (Sl.mk none 0 0) x6 x7 r19_0 r19_1 r19_2 r19_3 r19_4 (Sl.mk none 0 0) x8 (Sl.mk none 0 0) x9 0 0 0 0 0)) fun w20=>z07_k0 (hA w 0) (hA w1 0) (hA w11 0) K w20) w17)) w3)
/\(let w21:=w3.alloc (.cells (T43.cs (T43.mk (str []) (Sl.mk none 0 0) (Sl.mk none 0 0) (Sl.mk none 0 0) 0 0 (str []) 0 0 (str []) (Sl.mk none 0 0) (Sl.mk none 0 0) 0 (Sl.mk none 0 0) 0 0 0 0 0 0)).toArray 43)
 S4 w21/\z0j_sh x5 (fun r23 w22=>S4 w22/\z0x_sh x10 (fun r25_0 r25_1 r25_2 r25_3 r25_4 w24=>S4 w24/\stN w24 (hA w3 0) (T43.cs (T43.mk r23 (Sl.mk none 0 0) (Sl.mk none 0 0) (Sl.mk none 0 0) x6 x7 r25_0 r25_1 r25_2 r25_3 r25_4 (Sl.mk none 0 0) x8 (Sl.mk none 0 0) x9 0 0 0 0 0)) fun w26=>z07_k0 (hA w 0) (hA w1 0) (hA w3 0) K w26) w22) w21)
structure z07_sh (p0:T29)(K:Pw.Y7)(w:World):Prop where
 out:z07_sd p0 K w
def z07_L0 (Kv:VW):Cur [tQ,tQ,tQ] WP:=fun p1 p2 p3=>z07_k0 p1 p2 p3 (kk43 Kv)
def z07_L1 (Kv:VW):Cur [tQ,tQ,tQ,tI] WP:=fun p1 p2 p3 p4=>z07_l1 p1 p2 p3 p4 (kk43 Kv)
def z07_L2 (Kv:VW):Cur [tQ,tQ,tQ] WP:=fun p1 p2 p3=>z07_k2 p1 p2 p3 (kk43 Kv)
def z07_L3 (Kv:VW):Cur [tQ,tQ,tQ,tI] WP:=fun p1 p2 p3 p5=>z07_l3 p1 p2 p3 p5 (kk43 Kv)
def z07_L4 (Kv:VW):Cur [tQ,tQ,tQ] WP:=fun p1 p2 p3=>z07_k4 p1 p2 p3 (kk43 Kv)
def z07_L5 (Kv:VW):Cur [tQ,tQ,tQ,tI] WP:=fun p1 p2 p3 p7=>z07_l5 p1 p2 p3 p7 (kk43 Kv)
def z07_L6 (Kv:VW):Cur [tQ,tQ,tQ] WP:=fun p1 p2 p3=>z07_k6 p1 p2 p3 (kk43 Kv)
def z07_L7 (Kv:VW):Cur [tQ,tQ,tQ,tI] WP:=fun p1 p2 p3 p9=>z07_l7 p1 p2 p3 p9 (kk43 Kv)
def z07_L8 (Kv:VW):Cur [tQ,tQ,tQ] WP:=fun p1 p2 p3=>z07_k8 p1 p2 p3 (kk43 Kv)
def z07_L9 (Kv:VW):Cur [tQ,tQ,tQ,tI] WP:=fun p1 p2 p3 p10=>z07_l9 p1 p2 p3 p10 (kk43 Kv)
def z07_L10 (Kv:VW):Cur [tQ,tQ] WP:=fun p2 p3=>z07_k10 p2 p3 (kk43 Kv)
def z07_S:Pw.Spec:=fun vs w Kv=>un (.g 16 :: tL :: tL :: tL :: tL :: tL :: tL :: tI :: tI :: tI :: tI :: tI :: tI :: tI :: tI :: tI :: tI :: []) (fun p0_0=>fun p0_1 p0_2 p0_3 p0_4 p0_5 p0_6 p0_7 p0_8 p0_9 p0_10 p0_11 p0_12 p0_13 p0_14 p0_15=>z07_sh ⟨p0_0,p0_1,p0_2,p0_3,p0_4,p0_5,p0_6,p0_7,p0_8,p0_9,p0_10,p0_11,p0_12,p0_13,p0_14,p0_15⟩ (kk43 Kv)) nF vs w
theorem z07_ok:q22 Tryz.prog 5 z07_S:=okS (x:=fun Kv=>qr 2 (qs (A.drw (dp [0,1,2,4,5,6,7,8,9,10,11,12,13,14,15,16,17] (DA.two 3 (DA.two 18 (DA.pur 19 (DA.eff 20 (DA.eff 21 DA.done))) 20 (DA.eff 18 (DA.pur 19 (DA.eff 21 DA.done)))) 20 (DA.eff 3 (DA.eff 18 (DA.pur 19 (DA.eff 21 DA.done))))))) (A.cut [1,2,3] (uR0 [tQ,tQ,tQ] (z07_L0 Kv)) (qr 18 (qs (qr 1 (qb (A.loop [1,2,3,4] (uR0 [tQ,tQ,tQ,tI] (z07_L1 Kv)) (qs (qs (A.reg (qn 6 (RA.spl 53 (qn 3 RA.done) (qk 2 (qn 1 RA.done))))) (qc ql ql)) (qs (qb (A.drw (dp [0,1,2,3,4,5,6,7,9,10,11,12,13,14] (DA.eff 8 (DA.pur 15 (DA.eff 16 (DA.eff 17 (DA.pur 18 (DA.eff 19 DA.done))))))))) (qe 3)))))) (A.cut [1,2,3] (uR0 [tQ,tQ,tQ] (z07_L2 Kv)) (qs (qr 1 (qb (A.loop [1,2,3,5] (uR0 [tQ,tQ,tQ,tI] (z07_L3 Kv)) (qs (qs (A.reg (qn 6 (RA.spl 83 (qn 3 RA.done) (qk 2 (qn 1 RA.done))))) (qc ql ql)) (qs (qb (qr 7 (A.drw (dp [0,1,2,3,5,6,8,9,10,11,12,13,14,15] (DA.eff 4 (DA.eff 7 (DA.pur 16 (DA.eff 17 (DA.eff 18 (DA.pur 19 (DA.eff 20 DA.done))))))))))) (qe 3)))))) (A.cut [1,2,3] (uR0 [tQ,tQ,tQ] (z07_L4 Kv)) (qs (qr 1 (qb (A.loop [1,2,3,7] (uR0 [tQ,tQ,tQ,tI] (z07_L5 Kv)) (qs (qs (A.reg (qn 6 (RA.spl 119 (qn 3 RA.done) (qk 2 (qn 1 RA.done))))) (qc ql ql)) (qs (qb (qr 7 (A.drw (dp [0,1,2,3,6,7,11,12] (DA.two 4 (DA.two 5 (DA.str 8 (dp [9,10,13] (DA.eff 14 (DA.eff 15 (DA.pur 16 (DA.eff 17 DA.done)))))) 8 (DA.str 5 (dp [9,10,13] (DA.eff 14 (DA.eff 15 (DA.pur 16 (DA.eff 17 DA.done))))))) 5 (DA.eff 4 (DA.str 8 (dp [9,10,13] (DA.eff 14 (DA.eff 15 (DA.pur 16 (DA.eff 17 DA.done)))))))))))) (qe 3)))))) (A.cut [1,2,3] (uR0 [tQ,tQ,tQ] (z07_L6 Kv)) (qs (qr 1 (qb (A.loop [1,2,3,9] (uR0 [tQ,tQ,tQ,tI] (z07_L7 Kv)) (qs (qs (A.reg (qn 6 (RA.spl 152 (qn 3 RA.done) (qk 2 (qn 1 RA.done))))) (qc ql ql)) (qs (qb (A.drw (dp [0,1,2,3,4,5,6] (DA.eff 7 (DA.eff 8 (DA.eff 9 (DA.pur 10 (DA.eff 11 DA.done)))))))) (qe 3)))))) (A.cut [1,2,3] (uR0 [tQ,tQ,tQ] (z07_L8 Kv)) (qs (qr 1 (qb (A.loop [1,2,3,10] (uR0 [tQ,tQ,tQ,tI] (z07_L9 Kv)) (qs (qs (A.reg (qn 6 (RA.spl 174 (qn 3 RA.done) (qk 2 (qn 1 RA.done))))) (qc ql ql)) (qs (qb (A.drw (dp [0,1,3,4,5,6,7,8,9,10,11,12,13,14,15] (DA.eff 2 (DA.eff 16 (DA.eff 17 (DA.eff 18 (DA.pur 19 (DA.eff 20 DA.done))))))))) (qe 3)))))) (A.cut [2,3] (uR0 [tQ,tQ] (z07_L10 Kv)) (qr 2 ql))))))))))))))) (fun Kv p0_0 p0_1 p0_2 p0_3 p0_4 p0_5 p0_6 p0_7 p0_8 p0_9 p0_10 p0_11 p0_12 p0_13 p0_14 p0_15=>z07_sd ⟨p0_0,p0_1,p0_2,p0_3,p0_4,p0_5,p0_6,p0_7,p0_8,p0_9,p0_10,p0_11,p0_12,p0_13,p0_14,p0_15⟩ (kk43 Kv)) progMixed (Γ:=[(12,z0j_S),(13,z0x_S),(14,z1b_S),(15,z0z_S)]) ⟨.inl z0j_okr,.inl z0x_ok,.inl z1b_ok,.inl z0z_ok,trivial⟩ Tryz.call5 Tryz.func5 (fun Kv=>q08 (qe5 (F:=z07_L0 Kv) (G:=fun p1 p2 p3=>z07_k0d p1 p2 p3 (kk43 Kv))) <| q08 (q0c (L:=z07_L1 Kv) (fun N1 p1 p2 p3 p4=>z07_b1 p1 p2 p3 p4 N1 (kk43 Kv)) (fun⟨a0,a1,a2,_,_⟩ _ h=>let ⟨I,μ,h0,hr⟩:=h.out; ⟨fun b0 b1 b2 b3 w=>(b0=a0/\b1=a1/\b2=a2/\True)/\I b3 w,fun _ _ _ b3 w=>μ b3 w,⟨⟨rfl,rfl,rfl,trivial⟩,h0⟩,fun⟨_,_,_,_,_⟩ _ ⟨⟨e0,e1,e2,_⟩,hI⟩=>by cases e0; cases e1; cases e2; exact hr _ _ hI⟩)) <| q08 (qe5 (F:=z07_L2 Kv) (G:=fun p1 p2 p3=>z07_k2d p1 p2 p3 (kk43 Kv))) <| q08 (q0c (L:=z07_L3 Kv) (fun N3 p1 p2 p3 p5=>z07_b3 p1 p2 p3 p5 N3 (kk43 Kv)) (fun⟨a0,a1,a2,_,_⟩ _ h=>let ⟨I,μ,h0,hr⟩:=h.out; ⟨fun b0 b1 b2 b3 w=>(b0=a0/\b1=a1/\b2=a2/\True)/\I b3 w,fun _ _ _ b3 w=>μ b3 w,⟨⟨rfl,rfl,rfl,trivial⟩,h0⟩,fun⟨_,_,_,_,_⟩ _ ⟨⟨e0,e1,e2,_⟩,hI⟩=>by cases e0; cases e1; cases e2; exact hr _ _ hI⟩)) <| q08 (qe5 (F:=z07_L4 Kv) (G:=fun p1 p2 p3=>z07_k4d p1 p2 p3 (kk43 Kv))) <| q08 (q0c (L:=z07_L5 Kv) (fun N5 p1 p2 p3 p7=>z07_b5 p1 p2 p3 p7 N5 (kk43 Kv)) (fun⟨a0,a1,a2,_,_⟩ _ h=>let ⟨I,μ,h0,hr⟩:=h.out; ⟨fun b0 b1 b2 b3 w=>(b0=a0/\b1=a1/\b2=a2/\True)/\I b3 w,fun _ _ _ b3 w=>μ b3 w,⟨⟨rfl,rfl,rfl,trivial⟩,h0⟩,fun⟨_,_,_,_,_⟩ _ ⟨⟨e0,e1,e2,_⟩,hI⟩=>by cases e0; cases e1; cases e2; exact hr _ _ hI⟩)) <| q08 (qe5 (F:=z07_L6 Kv) (G:=fun p1 p2 p3=>z07_k6d p1 p2 p3 (kk43 Kv))) <| q08 (q0c (L:=z07_L7 Kv) (fun N7 p1 p2 p3 p9=>z07_b7 p1 p2 p3 p9 N7 (kk43 Kv)) (fun⟨a0,a1,a2,_,_⟩ _ h=>let ⟨I,μ,h0,hr⟩:=h.out; ⟨fun b0 b1 b2 b3 w=>(b0=a0/\b1=a1/\b2=a2/\True)/\I b3 w,fun _ _ _ b3 w=>μ b3 w,⟨⟨rfl,rfl,rfl,trivial⟩,h0⟩,fun⟨_,_,_,_,_⟩ _ ⟨⟨e0,e1,e2,_⟩,hI⟩=>by cases e0; cases e1; cases e2; exact hr _ _ hI⟩)) <| q08 (qe5 (F:=z07_L8 Kv) (G:=fun p1 p2 p3=>z07_k8d p1 p2 p3 (kk43 Kv))) <| q08 (q0c (L:=z07_L9 Kv) (fun N9 p1 p2 p3 p10=>z07_b9 p1 p2 p3 p10 N9 (kk43 Kv)) (fun⟨a0,a1,a2,_,_⟩ _ h=>let ⟨I,μ,h0,hr⟩:=h.out; ⟨fun b0 b1 b2 b3 w=>(b0=a0/\b1=a1/\b2=a2/\True)/\I b3 w,fun _ _ _ b3 w=>μ b3 w,⟨⟨rfl,rfl,rfl,trivial⟩,h0⟩,fun⟨_,_,_,_,_⟩ _ ⟨⟨e0,e1,e2,_⟩,hI⟩=>by cases e0; cases e1; cases e2; exact hr _ _ hI⟩)) <| q08 (qe5 (F:=z07_L10 Kv) (G:=fun p2 p3=>z07_k10d p2 p3 (kk43 Kv))) <| hEnd)
def z0y_k0d (p2 p4:Addr)(K:Pw.Y7)(w:World):Prop :=
 T43.ld w p2 fun x149=>stN w p4 (T43.cs x149) fun w150=>T43.ld w150 p4 fun x151=>K x151 w150
structure z0y_k0 (p2 p4:Addr)(K:Pw.Y7)(w:World):Prop where
 out:z0y_k0d p2 p4 K w
def z0y_sd (p0:T43)(p1_0 p1_1 p1_2:Int)(K:Pw.Y7)(w:World):Prop :=
 let w1:=w.alloc (.cells (T43.cs p0).toArray 43)
 let w2:=w1.alloc (.cells #[(vI p1_0),(vI p1_1),(vI p1_2)] 46)
 let w3:=w2.alloc (.cells (T43.cs (T43.mk (str []) (Sl.mk none 0 0) (Sl.mk none 0 0) (Sl.mk none 0 0) 0 0 (str []) 0 0 (str []) (Sl.mk none 0 0) (Sl.mk none 0 0) 0 (Sl.mk none 0 0) 0 0 0 0 0 0)).toArray 43)
 (0<=(1:Int)/\(1:Int)<(3:Nat))/\∃ x4:Int,w3.cell? ((hA w1 0).add ((1:Int).toNat*1))=some (vI x4)/\z1b_sh x4 7 (fun r6 w5=>let w7:=w5.alloc (.cells #[] 49)
 lS w7 (hA w 1) fun x8=>apS 2 16 [(vI 0),(vI 0)] 49 (Sl.mk (some (hA w5 0)) 0 0) x8 w7 fun s9 w10=>wrOk w10 (hA w 1)/\
 (let w11:=w10.setCell (hA w 1) (vS s9)
 let w12:=w11.alloc (.cells #[] 56)
 lS w12 (hA w 2) fun x13=>apS 5 48 [(vT (str [])),(vI 0),(vI 0),(vI 0),(.bool false)] 56 (Sl.mk (some (hA w11 0)) 0 0) x13 w12 fun s14 w15=>wrOk w15 (hA w 2)/\
 (let w16:=w15.setCell (hA w 2) (vS s14)
 let w17:=w16.alloc (.cells #[] 76)
 lS w17 (hA w 3) fun x18=>apS 3 40 [(vT (str [])),(vT (str [])),(vI 0)] 76 (Sl.mk (some (hA w16 0)) 0 0) x18 w17 fun s19 w20=>wrOk w20 (hA w 3)/\
 (let w21:=w20.setCell (hA w 3) (vS s19)
 let w22:=w21.alloc (.cells #[] 9)
 lS w22 (hA w 11) fun x23=>apS 1 16 [(vT (str []))] 9 (Sl.mk (some (hA w21 0)) 0 0) x23 w22 fun s24 w25=>wrOk w25 (hA w 11)/\
 (let w26:=w25.setCell (hA w 11) (vS s24)
 (0<=(0:Int)/\(0:Int)<(3:Nat))/\∃ x27:Int,w26.cell? ((hA w1 0).add ((0:Int).toNat*1))=some (vI x27)/\z1b_sh x27 12 (fun r29 w28=>cnd (r29 == 0)
 (lS w28 (hA w 1) fun x30=>cnd (decide (r6<(x30.l:Int)))
 (let w31:=w28.drew
 ∃ S32:World->Prop,S32 w31/\mS S32 (hA w 1) fun x33=>mS S32 (hA w 1) fun x34=>nz x34.p fun a35=>(0<=r6/\r6<(x34.l:Nat))/\∃ x36:Int,(∀ w':World,S32 w'->w'.cell? ((a35.add (r6.toNat*2)).add 1)=some (vI x36))/\(0<=(2:Int)/\(2:Int)<(3:Nat))/\∃ x37:Int,(∀ w':World,S32 w'->w'.cell? ((hA w1 0).add ((2:Int).toNat*1))=some (vI x37))/\nz x33.p fun a38=>(0<=r6/\r6<(x33.l:Nat))/\wrOk w31 ((a38.add (r6.toNat*2)).add 1)/\
 (let w39:=w31.setCell ((a38.add (r6.toNat*2)).add 1) (vI (IntKind.wrap .i64 (x36+x37)))
 z0y_k0 (hA w 0) (hA w2 0) K w39))
 (z0y_k0 (hA w 0) (hA w2 0) K w28))
 (cnd (r29 == 1)
 (lS w28 (hA w 2) fun x40=>cnd (decide (r6<(x40.l:Int)))
 (let w41:=w28.drew
 ∃ S42:World->Prop,S42 w41/\mS S42 (hA w 2) fun x43=>mS S42 (hA w 2) fun x44=>nz x44.p fun a45=>(0<=r6/\r6<(x44.l:Nat))/\∃ x46:Int,(∀ w':World,S42 w'->w'.cell? ((a45.add (r6.toNat*5)).add 3)=some (vI x46))/\(0<=(2:Int)/\(2:Int)<(3:Nat))/\∃ x47:Int,(∀ w':World,S42 w'->w'.cell? ((hA w1 0).add ((2:Int).toNat*1))=some (vI x47))/\nz x43.p fun a48=>(0<=r6/\r6<(x43.l:Nat))/\wrOk w41 ((a48.add (r6.toNat*5)).add 3)/\
 (let w49:=w41.setCell ((a48.add (r6.toNat*5)).add 3) (vI (IntKind.wrap .i64 (x46+x47)))
 z0y_k0 (hA w 0) (hA w2 0) K w49))
 (z0y_k0 (hA w 0) (hA w2 0) K w28))
 (cnd (r29 == 2)
 (lS w28 (hA w 3) fun x50=>cnd (decide (r6<(x50.l:Int)))
 (let w51:=w28.drew
 ∃ S52:World->Prop,S52 w51/\mS S52 (hA w 3) fun x53=>mS S52 (hA w 3) fun x54=>nz x54.p fun a55=>(0<=r6/\r6<(x54.l:Nat))/\∃ x56:Int,(∀ w':World,S52 w'->w'.cell? ((a55.add (r6.toNat*3)).add 2)=some (vI x56))/\(0<=(2:Int)/\(2:Int)<(3:Nat))/\∃ x57:Int,(∀ w':World,S52 w'->w'.cell? ((hA w1 0).add ((2:Int).toNat*1))=some (vI x57))/\nz x53.p fun a58=>(0<=r6/\r6<(x53.l:Nat))/\wrOk w51 ((a58.add (r6.toNat*3)).add 2)/\
 (let w59:=w51.setCell ((a58.add (r6.toNat*3)).add 2) (vI (IntKind.wrap .i64 (x56+x57)))
 z0y_k0 (hA w 0) (hA w2 0) K w59))
 (z0y_k0 (hA w 0) (hA w2 0) K w28))
 (cnd (r29 == 3)
 (lI w28 (hA w 5) fun x60=>(0<=(2:Int)/\(2:Int)<(3:Nat))/\∃ x61:Int,w28.cell? ((hA w1 0).add ((2:Int).toNat*1))=some (vI x61)/\wrOk w28 (hA w 5)/\
 (let w62:=w28.setCell (hA w 5) (vI (IntKind.wrap .i64 (x60+x61)))
 z0y_k0 (hA w 0) (hA w2 0) K w62))
 (cnd (r29 == 4)
 (let w63:=w28.drew
 ∃ S64:World->Prop,S64 w63/\mT S64 (hA w 6) fun x65=>mI S64 (hA w 7) fun x66=>mI S64 (hA w 8) fun x67=>mT S64 (hA w 9) fun x68=>mS S64 (hA w 10) fun x69=>(0<=(2:Int)/\(2:Int)<(3:Nat))/\∃ x70:Int,(∀ w':World,S64 w'->w'.cell? ((hA w1 0).add ((2:Int).toNat*1))=some (vI x70))/\z0z_sh x70 (fun r72 w71=>S64 w71/\let w73:=w71.alloc (.cells #[(vT x65),(vI x66),(vI x67),(vT x68),(vS x69),(vT (str [110,97,109,101])),(vI 0),(vI 0),(vT r72),vN] 38)
 S64 w73/\stN w73 (hA w 6) [(vT (str [43])),(vI 0),(vI 0),(vT (str [])),(.slice (some (hA w71 0)) 2 2)] fun w74=>z0y_k0 (hA w 0) (hA w2 0) K w74) w63)
 (cnd (r29 == 5)
 (let w75:=w28.drew
 ∃ S76:World->Prop,S76 w75/\mS S76 (hA w 11) fun x77=>(0<=(2:Int)/\(2:Int)<(3:Nat))/\∃ x78:Int,(∀ w':World,S76 w'->w'.cell? ((hA w1 0).add ((2:Int).toNat*1))=some (vI x78))/\z0z_sh x78 (fun r80 w79=>S76 w79/\let w81:=w79.alloc (.cells #[(vT r80)] 9)
 S76 w81/\apS 1 16 [(vT (str []))] 9 x77 (Sl.mk (some (hA w79 0)) 1 1) w81 fun s82 w83=>S76 w83/\wrOk w83 (hA w 11)/\
 (let w84:=w83.setCell (hA w 11) (vS s82)
 z0y_k0 (hA w 0) (hA w2 0) K w84)) w75)
 (cnd (r29 == 6)
 (lI w28 (hA w 12) fun x85=>(0<=(2:Int)/\(2:Int)<(3:Nat))/\∃ x86:Int,w28.cell? ((hA w1 0).add ((2:Int).toNat*1))=some (vI x86)/\wrOk w28 (hA w 12)/\
 (let w87:=w28.setCell (hA w 12) (vI (IntKind.wrap .i64 (x85+x86)))
 z0y_k0 (hA w 0) (hA w2 0) K w87))
 (cnd (r29 == 7)
 (let w88:=w28.drew
 ∃ S89:World->Prop,S89 w88/\mS S89 (hA w 13) fun x90=>(0<=(2:Int)/\(2:Int)<(3:Nat))/\∃ x91:Int,(∀ w':World,S89 w'->w'.cell? ((hA w1 0).add ((2:Int).toNat*1))=some (vI x91))/\(let w92:=w88.alloc (.cells #[] 25)
 S89 w92/\(apS 1 24 [vN] 25 (Sl.mk (some (hA w88 0)) 0 0) x90 w92 fun s93 w94=>S89 w94/\let w95:=w94.alloc (.cells #[(vI r6),(vI x91)] 3)
 S89 w95/\let w96:=w95.alloc (.cells #[(.slice (some (hA w94 0)) 2 2)] 25)
 S89 w96/\apS 1 24 [vN] 25 s93 (Sl.mk (some (hA w95 0)) 1 1) w96 fun s97 w98=>S89 w98/\wrOk w98 (hA w 13)/\
 (let w99:=w98.setCell (hA w 13) (vS s97)
 z0y_k0 (hA w 0) (hA w2 0) K w99))
/\(let w100:=w92.alloc (.cells #[(vI r6),(vI x91)] 3)
 S89 w100/\(∀ u u':World,Ext u u'->S89 u->S89 u')/\((∀ u:World,ExtL u (u.alloc (.cells #[(.slice (some (hA w92 0)) 2 2)] 25)))/\True)/\∀ w101:World,Ext w100 w101->apS 1 24 [vN] 25 (Sl.mk (some (hA w88 0)) 0 0) x90 w101 fun s102 w103=>Ext w101 w103/\∀ w104:World,Ext w103 w104->∀ w105:World,Ext w100 w105->ninL w105.heap.size []->Ext (w105.alloc (.cells #[(.slice (some (hA w92 0)) 2 2)] 25)) w104->apS 1 24 [vN] 25 s102 (Sl.mk (some (hA w105 0)) 1 1) w104 fun s106 w107=>S89 w107/\wrOk w107 (hA w 13)/\
 (let w108:=w107.setCell (hA w 13) (vS s106)
 z0y_k0 (hA w 0) (hA w2 0) K w108)))
/\(let w109:=w88.alloc (.cells #[(vI r6),(vI x91)] 3)
 S89 w109/\(let w110:=w109.alloc (.cells #[] 25)
 S89 w110/\(∀ u u':World,Ext u u'->S89 u->S89 u')/\((∀ u:World,ExtL u (u.alloc (.cells #[(.slice (some (hA w88 0)) 2 2)] 25)))/\True)/\∀ w111:World,Ext w110 w111->apS 1 24 [vN] 25 (Sl.mk (some (hA w109 0)) 0 0) x90 w111 fun s112 w113=>Ext w111 w113/\∀ w114:World,Ext w113 w114->∀ w115:World,Ext w110 w115->ninL w115.heap.size []->Ext (w115.alloc (.cells #[(.slice (some (hA w88 0)) 2 2)] 25)) w114->apS 1 24 [vN] 25 s112 (Sl.mk (some (hA w115 0)) 1 1) w114 fun s116 w117=>S89 w117/\wrOk w117 (hA w 13)/\
 (let w118:=w117.setCell (hA w 13) (vS s116)
 z0y_k0 (hA w 0) (hA w2 0) K w118))
/\(let w119:=w109.alloc (.cells #[(.slice (some (hA w88 0)) 2 2)] 25)
 S89 w119/\let w120:=w119.alloc (.cells #[] 25)
 S89 w120/\apS 1 24 [vN] 25 (Sl.mk (some (hA w119 0)) 0 0) x90 w120 fun s121 w122=>S89 w122/\apS 1 24 [vN] 25 s121 (Sl.mk (some (hA w109 0)) 1 1) w122 fun s123 w124=>S89 w124/\wrOk w124 (hA w 13)/\
 (let w125:=w124.setCell (hA w 13) (vS s123)
 z0y_k0 (hA w 0) (hA w2 0) K w125))))
 (cnd (r29 == 8)
 (lI w28 (hA w 14) fun x126=>(0<=(2:Int)/\(2:Int)<(3:Nat))/\∃ x127:Int,w28.cell? ((hA w1 0).add ((2:Int).toNat*1))=some (vI x127)/\wrOk w28 (hA w 14)/\
 (let w128:=w28.setCell (hA w 14) (vI (IntKind.wrap .i64 (x126+x127)))
 z0y_k0 (hA w 0) (hA w2 0) K w128))
 (cnd (r29 == 9)
 (lI w28 (hA w 16) fun x129=>(0<=(2:Int)/\(2:Int)<(3:Nat))/\∃ x130:Int,w28.cell? ((hA w1 0).add ((2:Int).toNat*1))=some (vI x130)/\wrOk w28 (hA w 16)/\
 (let w131:=w28.setCell (hA w 16) (vI (IntKind.wrap .i64 (x129+x130)))
 z0y_k0 (hA w 0) (hA w2 0) K w131))
 (cnd (r29 == 10)
 (lS w28 (hA w 1) fun x132=>(0<=(2:Int)/\(2:Int)<(3:Nat))/\∃ x133:Int,w28.cell? ((hA w1 0).add ((2:Int).toNat*1))=some (vI x133)/\let w134:=w28.alloc (.cells #[(vI r6),(vI x133)] 49)
 apS 2 16 [(vI 0),(vI 0)] 49 x132 (Sl.mk (some (hA w28 0)) 1 1) w134 fun s135 w136=>wrOk w136 (hA w 1)/\
 (let w137:=w136.setCell (hA w 1) (vS s135)
 z0y_k0 (hA w 0) (hA w2 0) K w137))
 (cnd (r29 == 11)
 (lS w28 (hA w 2) fun x138=>cnd (decide (r6<(x138.l:Int)))
 (let w139:=w28.drew
 ∃ S140:World->Prop,S140 w139/\mS S140 (hA w 2) fun x141=>(0<=(0:Int)/\(0:Int)<=r6/\r6<=(x141.c:Nat))/\mS S140 (hA w 2) fun x142=>(0<=(IntKind.wrap .i64 (r6+1))/\(IntKind.wrap .i64 (r6+1))<=(x142.l:Nat))/\let w143:=w139.alloc (.cells #[] 56)
 S140 w143/\apS 5 48 [(vT (str [])),(vI 0),(vI 0),(vI 0),(.bool false)] 56 (Sl.mk (some (hA w139 0)) 0 0) (Sl.mk (subP x141.p 0 x141.c 5) (r6.toNat-0) (x141.c-0)) w143 fun s144 w145=>S140 w145/\apS 5 48 [(vT (str [])),(vI 0),(vI 0),(vI 0),(.bool false)] 56 s144 (Sl.mk (subP x142.p (IntKind.wrap .i64 (r6+1)).toNat x142.c 5) (x142.l-(IntKind.wrap .i64 (r6+1)).toNat) (x142.c-(IntKind.wrap .i64 (r6+1)).toNat)) w145 fun s146 w147=>S140 w147/\wrOk w147 (hA w 2)/\
 (let w148:=w147.setCell (hA w 2) (vS s146)
 z0y_k0 (hA w 0) (hA w2 0) K w148))
 (z0y_k0 (hA w 0) (hA w2 0) K w28))
 (z0y_k0 (hA w 0) (hA w2 0) K w28))))))))))))) w26))))) w3
structure z0y_sh (p0:T43)(p1_0 p1_1 p1_2:Int)(K:Pw.Y7)(w:World):Prop where
 out:z0y_sd p0 p1_0 p1_1 p1_2 K w
def z0y_L0 (Kv:VW):Cur [tQ,tQ] WP:=fun p2 p4=>z0y_k0 p2 p4 (kk43 Kv)
def z0y_S:Pw.Spec:=fun vs w Kv=>un (g43 [.g 3,tI,tI,tI]) (T43.c fun p0=>fun p1_0 p1_1 p1_2=>z0y_sh p0 p1_0 p1_1 p1_2 (kk43 Kv)) nF vs w
theorem z0y_ok:q22 Tryz.prog 6 z0y_S:=okS (x:=fun Kv=>qr 3 (qr 4 (qr 6 (qr 6 (qr 6 (qr 6 (qs (qr 3 (qb (qr 2 (qc (qr 5 (qc (A.drw (dp [0,1,2,3,4,5,6,7,8,9,10] (DA.prw 11 (dp [12,13] (DA.eff 14 DA.done))))) ql)) (qr 2 (qc (qr 5 (qc (A.drw (dp [0,1,2,3,4,5,6,7,8,9,10] (DA.prw 11 (dp [12,13] (DA.eff 14 DA.done))))) ql)) (qr 2 (qc (qr 5 (qc (A.drw (dp [0,1,2,3,4,5,6,7,8,9,10] (DA.prw 11 (dp [12,13] (DA.eff 14 DA.done))))) ql)) (qr 2 (qc (A.reg (qn 4 (RA.raw (qn 2 RA.done)))) (qr 2 (qc (A.drw (dp [0,1,2,3] (DA.eff 4 (DA.pur 5 (DA.eff 6 (dp [7,8] (DA.eff 9 DA.done))))))) (qr 2 (qc (A.drw (dp [0,1,2,3] (DA.eff 4 (DA.eff 5 (DA.eff 6 (DA.pur 7 (DA.eff 8 DA.done))))))) (qr 2 (qc (A.reg (qn 4 (RA.raw (qn 2 RA.done)))) (qr 2 (qc (A.drw (dp [1,2,4,5,6] (DA.two 0 (DA.two 3 (DA.eff 7 (DA.eff 8 (DA.eff 9 (DA.pur 10 (DA.eff 11 DA.done))))) 7 (DA.flo [8] [3] (DA.eff 9 (DA.pur 10 (DA.eff 11 DA.done))))) 7 (DA.two 0 (DA.flo [8] [3] (DA.eff 9 (DA.pur 10 (DA.eff 11 DA.done)))) 8 (DA.eff 0 (DA.eff 3 (DA.eff 9 (DA.pur 10 (DA.eff 11 DA.done))))))))) (qr 2 (qc (A.reg (qn 4 (RA.raw (qn 2 RA.done)))) (qr 2 (qc (A.reg (qn 5 (RA.raw (qn 3 RA.done)))) (qr 2 (qc (qe 10) (qr 2 (qc (qr 5 (qc (A.drw (dp [1,2,3,4,6,7,8] (DA.prw 9 (DA.pur 10 (DA.eff 0 (DA.eff 5 (DA.eff 11 (DA.pur 12 (DA.eff 13 DA.done))))))))) ql)) ql)))))))))))))))))))))))))) (A.cut [2,4] (uR0 [tQ,tQ] (z0y_L0 Kv)) (qr 2 ql))))))))) (fun Kv p0_0 p0_1 p0_2 p0_3 p0_4 p0_5 p0_6 p0_7 p0_8 p0_9 p0_10 p0_11 p0_12 p0_13 p0_14 p0_15 p0_16 p0_17 p0_18 p0_19 p1_0 p1_1 p1_2=>z0y_sd ⟨p0_0,p0_1,p0_2,p0_3,p0_4,p0_5,p0_6,p0_7,p0_8,p0_9,p0_10,p0_11,p0_12,p0_13,p0_14,p0_15,p0_16,p0_17,p0_18,p0_19⟩ p1_0 p1_1 p1_2 (kk43 Kv)) progMixed (Γ:=[(14,z1b_S),(15,z0z_S)]) ⟨.inl z1b_ok,.inl z0z_ok,trivial⟩ Tryz.call6 Tryz.func6 (fun Kv=>q08 (qe5 (F:=z0y_L0 Kv) (G:=fun p2 p4=>z0y_k0d p2 p4 (kk43 Kv))) <| hEnd)
