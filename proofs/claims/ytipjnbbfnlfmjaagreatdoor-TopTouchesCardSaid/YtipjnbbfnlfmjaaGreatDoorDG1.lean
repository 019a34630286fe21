/- The bodies' formulas, by program. -/
import Derived.Test.YtipjnbbfnlfmjaaGreatDoorDG0
set_option maxRecDepth 20000
namespace Go.Proofs.YtipjnbbfnlfmjaaGreatDoor
open Go Pw
structure z33_sh (p0:Int)(K:Pw.Y0)(w:World):Prop where
 out:cnd (decide ((97:Int)<=p0))
  (cnd (decide (p0<=122))
  (K true w)
  (cnd (decide ((65:Int)<=p0))
  (K (decide (p0<=90)) w)
  (K false w)))
  (cnd (decide ((65:Int)<=p0))
  (K (decide (p0<=90)) w)
  (K false w))
def z33_S:Pw.Spec:=fun vs w Kv=>un [.f (.i .u8)] (fun p0=>z33_sh p0 (kk [tB] Kv)) nF vs w
theorem z33_ok:okP 291 z33_S:=okR (x:=fun _=>qr 1 (qs (A.reg (qn 3 (RA.spl 5 (qn 4 (RA.spl 9 (qk 6 (qn 2 RA.done)) (qn 3 (RA.spl 12 (qn 5 RA.done) (qk 2 (qn 3 RA.done)))))) (qk 2 (qn 5 (RA.spl 12 (qn 5 RA.done) (qk 2 (qn 3 RA.done)))))))) ql)) (Γ:=[]) trivial Tryz.call291 Tryz.func291 (fun _=>hEnd)
def z44_b0 (p0:ByteArray)(p1:Int)(p2:Value)(N0:ByteArray->Int->Value->World->Prop)(K:Pw.Y1)(w:World):Prop :=
 cnd (decide (p1<(p0.size:Int)))
 ((0<=p1/\p1<(p0.size:Nat))/\q14 Tryz.prog p2 [(.int .u8 ((p0.data.toList.getD p1.toNat 0).toNat:Int))] w fun u1 w2=>∃ x3:Bool,u1=(.bool x3)/\cnd x3
 (inR .i64 (p1+1)/\N0 p0 (p1+1) p2 w2)
 (K p1 w2))
 (K p1 w)
structure z44_l0 (p0:ByteArray)(p1:Int)(p2:Value)(K:Pw.Y1)(w:World):Prop where
 out:∃ (I:Int->World->Prop) (μ:Int->World->Nat),I p1 w/\∀ (p11:Int) (w1:World),I p11 w1 ->
  z44_b0 p0 p11 p2 (fun p0' p1' p2' w'=>((p0'=p0/\p2'=p2/\True)/\I p1' w')/\μ p1' w'<μ p11 w1) K w1
structure z44_sh (p0:ByteArray)(p1:Int)(p2:Value)(K:Pw.Y1)(w:World):Prop where
 out:z44_l0 p0 p1 p2 K w
def z44_L0 (Kv:VW):Cur [tS,tI,tV] WP:=fun p0 p1 p2=>z44_l0 p0 p1 p2 (kk [tI] Kv)
def z44_S:=sp [tS,tI,tV] [tI] z44_sh
theorem z44_ok:okP 292 z44_S:=okR (x:=fun Kv=>qr 1 (qs (qb (A.loop [0,1,2] (uR0 [tS,tI,tV] (z44_L0 Kv)) (qs (qs (A.reg (qn 5 (RA.spl 11 (qn 4 (RA.dyn (Value.bool false) (qn 1 RA.done))) (qk 5 (qn 1 RA.done))))) (qc ql ql)) (qb (qe 3))))) (qr 2 ql))) (Γ:=[]) trivial Tryz.call292 Tryz.func292 (fun Kv=>q08 (q0c (L:=z44_L0 Kv) (fun N0 p0 p1 p2=>z44_b0 p0 p1 p2 N0 (kk [tI] Kv)) (fun⟨a0,_,a2,_⟩ _ h=>let ⟨I,μ,h0,hr⟩:=h.out; ⟨fun b0 b1 b2 w=>(b0=a0/\b2=a2/\True)/\I b1 w,fun _ b1 _ w=>μ b1 w,⟨⟨rfl,rfl,trivial⟩,h0⟩,fun⟨_,_,_,_⟩ _ ⟨⟨e0,e2,_⟩,hI⟩=>by cases e0; cases e2; exact hr _ _ hI⟩)) <| hEnd)
structure z3l_sh (p0:Int)(K:Pw.Y0)(w:World):Prop where
 out:cnd (decide ((48:Int)<=p0))
  (K (decide (p0<=57)) w)
  (K false w)
def z3l_S:Pw.Spec:=fun vs w Kv=>un [.f (.i .u8)] (fun p0=>z3l_sh p0 (kk [tB] Kv)) nF vs w
theorem z3l_ok:okP 298 z3l_S:=okR (x:=fun _=>qr 1 (qs (A.reg (qn 3 (RA.spl 5 (qn 4 RA.done) (qk 2 (qn 2 RA.done))))) ql)) (Γ:=[]) trivial Tryz.call298 Tryz.func298 (fun _=>hEnd)
structure z31_sh (p0:Int)(K:Pw.Y0)(w:World):Prop where
 out:z33_sh p0 (fun r2 w1=>cnd r2
  (K true w1)
  (z3l_sh p0 (fun r4 w3=>cnd r4
  (K true w3)
  (K (p0 == 95) w3)) w1)) w
def z31_S:Pw.Spec:=fun vs w Kv=>un [.f (.i .u8)] (fun p0=>z31_sh p0 (kk [tB] Kv)) nF vs w
theorem z31_ok:okP 293 z31_S:=okR (x:=fun _=>qr 1 (qs (A.reg (qn 3 (RA.spl 5 (qk 2 (qn 2 (qk 2 (qn 2 RA.done)))) (qn 4 (RA.spl 9 (qk 2 (qn 2 RA.done)) (qn 4 RA.done)))))) ql)) (Γ:=[(291,z33_S),(298,z3l_S)]) ⟨.inl z33_ok,.inl z3l_ok,trivial⟩ Tryz.call293 Tryz.func293 (fun _=>hEnd)
structure z32_sh (p0:ByteArray)(K:Pw.Y0)(w:World):Prop where
 out:cnd (!decide (p0=(str [])))
  (cnd (decide ((p0.size:Int)<=30))
  ((0<=(0:Int)/\(0:Int)<(p0.size:Nat))/\z33_sh ((p0.data.toList.getD (0:Int).toNat 0).toNat:Int) (fun r2 w1=>cnd r2
  (z44_sh p0 0 (Value.func (.func 293) #[] #[]) (fun r4 w3=>K (r4 == (p0.size:Int)) w3) w1)
  (K false w1)) w)
  (K false w))
  (K false w)
def z32_S:=sp [tS] [tB] z32_sh
theorem z32_ok:okP 231 z32_S:=okR (x:=fun _=>qr 1 (qs (A.reg (qn 3 (RA.spl 5 (qn 5 (RA.spl 10 (qn 5 (RA.spl 15 (qn 7 RA.done) (qk 5 (qn 2 RA.done)))) (qk 3 (qn 2 (qk 5 (qn 2 RA.done)))))) (qk 3 (qn 2 (qk 3 (qn 2 (qk 5 (qn 2 RA.done))))))))) ql)) (Γ:=[(291,z33_S),(292,z44_S)]) ⟨.inl z33_ok,.inl z44_ok,trivial⟩ Tryz.call231 Tryz.func231 (fun _=>hEnd)
structure z16_sh (p0_0:ByteArray)(p0_1 p0_2:Int)(p0_3:ByteArray)(p0_4:Sl)(p1:Int)(p2:Option Addr)(K:Pw.Y0)(w:World):Prop where
 out:Calls Tryz.prog 249 #[(Value.agg #[(vT p0_0),(vI p0_1),(vI p0_2),(vT p0_3),(vS p0_4)]),(vI p1),(.pointer p2)] w fun e w'=>∃ r0:Bool,e=.returned (.bool r0)/\K r0 w'
def z16_S:Pw.Spec:=fun vs w Kv =>
 match vs with
 | [.agg ⟨[.string p0_0,.int .i64 p0_1,.int .i64 p0_2,.string p0_3,.slice e_0_4p e_0_4l e_0_4c]⟩,.int .i64 p1,.pointer p2]=>z16_sh p0_0 p0_1 p0_2 p0_3 ⟨e_0_4p,e_0_4l,e_0_4c⟩ p1 p2 (fun r0 w'=>Kv (.bool r0) w') w
 | _=>False
theorem z16_okr:q22 Tryz.prog 249 z16_S:=⟨Tryz.call249,fun vs w Kv h=>by
  unfold z16_S at h
  split at h
  · exact h.out.mono fun e w' he=>by
      obtain⟨_,he,hk⟩:=he
      exact⟨_,he,hk⟩
  · exact h.elim⟩
def z16_k0d (p1:Int)(p2:Option Addr)(p3:Addr)(K:Pw.Y0)(w:World):Prop :=
 lS w (p3.add 4) fun x27=>cnd ((x27.l:Int) == 2)
 (lI w (p3.add 1) fun x28=>lI w (p3.add 2) fun x29=>cnd (x28 == 0 && (x29 == 0 && true))
 (lT w (p3.add 3) fun x30=>cnd (decide (x30=(str [])))
 (lS w (p3.add 4) fun x31=>nz x31.p fun a32=>(0<=(0:Int)/\(0:Int)<(x31.l:Nat))/\∃ x33:ByteArray,w.cell? (a32.add ((0:Int).toNat*5))=some (vT x33)/\∃ x34:Int,w.cell? ((a32.add ((0:Int).toNat*5)).add 1)=some (vI x34)/\∃ x35:Int,w.cell? ((a32.add ((0:Int).toNat*5)).add 2)=some (vI x35)/\∃ x36:ByteArray,w.cell? ((a32.add ((0:Int).toNat*5)).add 3)=some (vT x36)/\∃ x37:Sl,w.cell? ((a32.add ((0:Int).toNat*5)).add 4)=some (vS x37)/\inR .i64 (p1-1)/\z16_sh x33 x34 x35 x36 x37 (p1-1) p2 (fun r39 w38=>cnd r39
 (lS w38 (p3.add 4) fun x40=>nz x40.p fun a41=>(0<=(1:Int)/\(1:Int)<(x40.l:Nat))/\∃ x42:ByteArray,w38.cell? (a41.add ((1:Int).toNat*5))=some (vT x42)/\∃ x43:Int,w38.cell? ((a41.add ((1:Int).toNat*5)).add 1)=some (vI x43)/\∃ x44:Int,w38.cell? ((a41.add ((1:Int).toNat*5)).add 2)=some (vI x44)/\∃ x45:ByteArray,w38.cell? ((a41.add ((1:Int).toNat*5)).add 3)=some (vT x45)/\∃ x46:Sl,w38.cell? ((a41.add ((1:Int).toNat*5)).add 4)=some (vS x46)/\inR .i64 (p1-1)/\z16_sh x42 x43 x44 x45 x46 (p1-1) p2 (fun r48 w47=>K r48 w47) w38)
 (K false w38)) w)
 (K false w))
 (K false w))
 (K false w)
structure z16_k0 (p1:Int)(p2:Option Addr)(p3:Addr)(K:Pw.Y0)(w:World):Prop where
 out:z16_k0d p1 p2 p3 K w
def z16_sd (p0_0:ByteArray)(p0_1 p0_2:Int)(p0_3:ByteArray)(p0_4:Sl)(p1:Int)(p2:Option Addr)(K:Pw.Y0)(w:World):Prop :=
 let w1:=w.alloc (.cells #[(vT p0_0),(vI p0_1),(vI p0_2),(vT p0_3),(vS p0_4)] 38)
 nz p2 fun a2=>lI w1 a2 fun x3=>inR .i64 (x3+1)/\nz p2 fun a4=>wrOk w1 a4/\
 (let w5:=w1.setCell a4 (vI (x3+1))
 cnd (p1 == 0)
 (K false w5)
 (nz p2 fun a6=>lI w5 a6 fun x7=>cnd (decide (x7>60))
 (K false w5)
 (lT w5 (hA w 0) fun x8=>cnd (decide (x8=(str [110,117,109])))
 (lI w5 (hA w 1) fun x9=>lI w5 (hA w 2) fun x10=>z2t_sh x9 x10 (fun r12 w11=>cnd r12
 (lI w11 (hA w 1) fun x13=>cnd (decide (x13>=0))
 (lI w11 (hA w 2) fun x14=>x14≠0/\cnd ((Int.tmod 1000000 x14) == 0)
 (lI w11 (hA w 1) fun x15=>lI w11 (hA w 2) fun x16=>inR .i64 ((1000000000:Int)*x16)/\cnd (decide (x15<=((1000000000:Int)*x16)))
 (lT w11 (hA w 3) fun x17=>cnd (decide (x17=(str [])))
 (lS w11 (hA w 4) fun x18=>K ((x18.l:Int) == 0) w11)
 (K false w11))
 (K false w11))
 (K false w11))
 (K false w11))
 (K false w11)) w5)
 (cnd (decide (x8=(str [110,97,109,101])))
 (lT w5 (hA w 3) fun x19=>z32_sh x19 (fun r21 w20=>cnd r21
 (lT w20 (hA w 3) fun x22=>cnd (!decide (x22=(str [109,105,110])))
 (lT w20 (hA w 3) fun x23=>cnd (!decide (x23=(str [109,97,120])))
 (lI w20 (hA w 1) fun x24=>lI w20 (hA w 2) fun x25=>cnd (x24 == 0 && (x25 == 0 && true))
 (lS w20 (hA w 4) fun x26=>K ((x26.l:Int) == 0) w20)
 (K false w20))
 (K false w20))
 (K false w20))
 (K false w20)) w5)
 (cnd (decide (x8=(str [43])))
 (cnd (decide (x8=(str [43])))
 (z16_k0 p1 p2 (hA w 0) K w5)
 (K false w5))
 (cnd (decide (x8=(str [45])))
 (cnd (decide (x8=(str [45])))
 (z16_k0 p1 p2 (hA w 0) K w5)
 (K false w5))
 (cnd (decide (x8=(str [42])))
 (cnd (decide (x8=(str [42])))
 (z16_k0 p1 p2 (hA w 0) K w5)
 (K false w5))
 (cnd (decide (x8=(str [47])))
 (cnd (decide (x8=(str [47])))
 (z16_k0 p1 p2 (hA w 0) K w5)
 (K false w5))
 (cnd (decide (x8=(str [109,105,110])))
 (cnd (decide (x8=(str [109,105,110])))
 (z16_k0 p1 p2 (hA w 0) K w5)
 (K false w5))
 (cnd (decide (x8=(str [109,97,120])))
 (z16_k0 p1 p2 (hA w 0) K w5)
 (K false w5)))))))))))
def z16_P0 (Kv:VW)(ρ:Rho)(vs:List Value)(w:World):Prop :=
 match ρ,vs with
 | _,[.int .i64 deep_1,.pointer parts_2,.pointer (some e_3)]=>z16_k0 deep_1 parts_2 e_3 (fun r0 w'=>Kv (Value.bool r0) w') w
 | _,_=>False
noncomputable def z16_E:Pw.Env:=[(215,z2t_S),(231,z32_S),(249,z16_S)]
noncomputable def z16_C:Code:=(Tryz.f249.body).getD .skip
noncomputable def z16_A (Kv:VW):Pw.A :=
 (qr 2 (qr 6 (qs (qs (A.reg (qn 3 (RA.spl 14 (qk 4 (qn 1 RA.done)) (qn 5 RA.done)))) (qc (qr 1 ql) ql)) (qs (qr 2 (qb (qr 2 (qc (qs (A.reg (qn 4 (RA.spl 27 (qn 6 (RA.spl 33 (qn 7 (RA.spl 40 (qn 10 (RA.spl 50 (qn 5 (RA.spl 55 (qn 6 RA.done) (qk 4 (qn 2 RA.done)))) (qk 3 (qn 2 (qk 4 (qn 2 RA.done)))))) (qk 8 (qn 2 (qk 3 (qn 2 (qk 4 (qn 2 RA.done)))))))) (qk 5 (qn 2 (qk 8 (qn 2 (qk 3 (qn 2 (qk 4 (qn 2 RA.done)))))))))) (qk 4 (qn 2 (qk 5 (qn 2 (qk 8 (qn 2 (qk 3 (qn 2 (qk 4 (qn 2 RA.done))))))))))))) ql) (qr 2 (qc (qs (A.reg (qn 4 (RA.spl 66 (qn 5 (RA.spl 71 (qn 5 (RA.spl 76 (qn 6 (RA.spl 82 (qn 6 RA.done) (qk 4 (qn 2 RA.done)))) (qk 4 (qn 2 (qk 4 (qn 2 RA.done)))))) (qk 3 (qn 2 (qk 4 (qn 2 (qk 4 (qn 2 RA.done)))))))) (qk 3 (qn 2 (qk 3 (qn 2 (qk 4 (qn 2 (qk 4 (qn 2 RA.done))))))))))) ql) (qs (qr 2 (qc ql (qr 2 (qc ql (qr 2 (qc ql (qr 2 (qc ql (qr 2 (qc ql (qe 2))))))))))) (qc (A.cut [1,2,3] (z16_P0 Kv) (qs (A.reg (qn 5 (RA.spl 99 (qn 6 (RA.spl 105 (qn 5 (RA.spl 110 (qn 10 (RA.spl 120 (qn 10 RA.done) (qk 8 (qn 2 RA.done)))) (qk 8 (qn 2 (qk 8 (qn 2 RA.done)))))) (qk 3 (qn 2 (qk 8 (qn 2 (qk 8 (qn 2 RA.done)))))))) (qk 4 (qn 2 (qk 3 (qn 2 (qk 8 (qn 2 (qk 8 (qn 2 RA.done))))))))))) ql)) ql)))))))) (qr 1 ql)))))
noncomputable def z16_O (Kv:VW):List Ob:=(obs Tryz.prog z16_E 130 (z16_A Kv) z16_C (fun _=>retQ Tryz.prog Tryz.f249.results Kv))
theorem z16_e (Kv:VW)(e_0_0:ByteArray)(e_0_1 e_0_2:Int)(e_0_3:ByteArray)(e_0_4p:Option Addr)(e_0_4l e_0_4c:Nat)(deep_1:Int)(parts_2:Option Addr)(w:World):z16_sd e_0_0 e_0_1 e_0_2 e_0_3 ⟨e_0_4p,e_0_4l,e_0_4c⟩ deep_1 parts_2 (fun r0 w'=>Kv (Value.bool r0) w') w=W Tryz.prog z16_E 130 (z16_A Kv) z16_C [] (retQ Tryz.prog Tryz.f249.results Kv) [] (q1d [(Value.agg #[(Value.string e_0_0),(Value.int .i64 e_0_1),(Value.int .i64 e_0_2),(Value.string e_0_3),(Value.slice e_0_4p e_0_4l e_0_4c)]),(Value.int .i64 deep_1),(Value.pointer parts_2)]) w:=by kernel_rfl
theorem z16_e0 (Kv:VW)(ρ:Rho)(deep_1:Int)(parts_2:Option Addr)(e_3:Addr)(w:World):z16_k0d deep_1 parts_2 e_3 (fun r0 w'=>Kv (Value.bool r0) w') w=q1l Tryz.prog z16_E 130 (z16_O Kv) 0 (ρ) [(Value.int .i64 deep_1),(Value.pointer parts_2),(Value.pointer (some e_3))] w:=by kernel_rfl
theorem z16_q0 (Kv:VW)(ρ:Rho)(vs:List Value)(w:World):q2s (z16_O Kv) 0 ρ vs w=z16_P0 Kv ρ vs w:=by kernel_rfl
theorem z16_h0 (Kv:VW):q0e Tryz.prog z16_E 130 (z16_O Kv) 0:=q0q (.inl (by kernel_rfl)) (fun ρ vs w h=>by
  rw[z16_q0] at h
  unfold z16_P0 at h
  split at h
  · rw[← z16_e0]; exact h.out
  · exact h.elim)
theorem z16_n (Kv:VW):obAt (z16_O Kv) 1=none:=by kernel_rfl
theorem z16_h (Kv:VW):∀ k,q0e Tryz.prog z16_E 130 (z16_O Kv) k:=fun k=>match k with
  | 0=>z16_h0 Kv
  | k+1=>q1a (z16_n Kv) (Nat.le_add_left _ _)
theorem z16_mk (e_0_0:ByteArray)(e_0_1 e_0_2:Int)(e_0_3:ByteArray)(e_0_4p:Option Addr)(e_0_4l e_0_4c:Nat)(deep_1:Int)(parts_2:Option Addr){K:Bool->World->Prop}{w:World}(h:z16_sd e_0_0 e_0_1 e_0_2 e_0_3 ⟨e_0_4p,e_0_4l,e_0_4c⟩ deep_1 parts_2 K w):z16_sh e_0_0 e_0_1 e_0_2 e_0_3 ⟨e_0_4p,e_0_4l,e_0_4c⟩ deep_1 parts_2 K w:=by
  have e:(fun r0 w'=>(fun v w'=>∃ r0:Bool,v=(Value.bool r0)/\K r0 w') (Value.bool r0) w')=K:=by
    funext r0 w'
    apply propext
    constructor
    · rintro⟨r0',hv,hk⟩
      cases hv
      exact hk
    · intro hk
      exact⟨_,rfl,hk⟩
  have h':z16_sd e_0_0 e_0_1 e_0_2 e_0_3 ⟨e_0_4p,e_0_4l,e_0_4c⟩ deep_1 parts_2 (fun r0 w'=>(fun v w'=>∃ r0:Bool,v=(Value.bool r0)/\K r0 w') (Value.bool r0) w') w:=by rw[e]; exact h
  rw[z16_e (fun v w'=>∃ r0:Bool,v=(Value.bool r0)/\K r0 w')] at h'
  refine⟨(q0z (Γ:=z16_E) progMixed ⟨.inl z2t_ok,.inl z32_ok,.inl z16_okr,trivial⟩ Tryz.func249 (code:=z16_C) (by kernel_rfl) (z16_A (fun v w'=>∃ r0:Bool,v=(Value.bool r0)/\K r0 w')) (fun v w'=>∃ r0:Bool,v=(Value.bool r0)/\K r0 w') (q15 (z16_h (fun v w'=>∃ r0:Bool,v=(Value.bool r0)/\K r0 w'))) (Nat.le_of_ble_eq_true (by kernel_rfl)) h').mono fun e w' he=>?_⟩
  obtain⟨v,rfl,_,rfl,hk⟩:=he
  exact⟨_,rfl,hk⟩
structure z3m_k0 (p3:ByteArray)(K:Pw.Y1)(w:World):Prop where
 out:cnd (decide (p3=(str [42])))
  (cnd (decide (p3=(str [42])))
  (K 1 w)
  (K 2 w))
  (cnd (decide (p3=(str [47])))
  (K 1 w)
  (K 2 w))
structure z3m_sh (p0:ByteArray)(K:Pw.Y1)(w:World):Prop where
 out:cnd (decide (p0=(str [43])))
  (cnd (decide (p0=(str [43])))
  (K 0 w)
  (z3m_k0 p0 K w))
  (cnd (decide (p0=(str [45])))
  (K 0 w)
  (z3m_k0 p0 K w))
def z3m_L0 (Kv:VW):Cur [tS] WP:=fun p3=>z3m_k0 p3 (kk [tI] Kv)
def z3m_S:=sp [tS] [tI] z3m_sh
theorem z3m_ok:okP 306 z3m_S:=okR (x:=fun Kv=>qr 1 (qs (qr 1 (qb (qs (qr 2 (qc ql (qe 2))) (qc (qr 1 ql) (A.cut [3] (uR0 [tS] (z3m_L0 Kv)) (qs (qr 2 (qc ql (qe 2))) (qc (qr 1 ql) ql))))))) (qr 1 ql))) (Γ:=[]) trivial Tryz.call306 Tryz.func306 (fun Kv=>q08 (hK0 (F:=z3m_L0 Kv)) <| hEnd)
structure z2f_sh (p0_0 p0_1:Int)(K:Pw.Y6)(w:World):Prop where
 out:let w1:=w.alloc (.cells #[(vI p0_0),(vI p0_1)] 35)
  let w2:=w1.drew
  lI w2 (hA w 0) fun x3=>lI w2 (hA w 1) fun x4=>x4≠0/\lI w2 (hA w 1) fun x5=>x5≠0/\inR .i64 (Int.tdiv 1000000 x5)/\inR .i64 ((Int.tmod x3 x4)*(Int.tdiv 1000000 x5))/\cnd (((Int.tmod x3 x4)*(Int.tdiv 1000000 x5)) == 0)
  (lI w2 (hA w 0) fun x6=>lI w2 (hA w 1) fun x7=>x7≠0/\inR .i64 (Int.tdiv x6 x7)/\z2e_sh (Int.tdiv x6 x7) (fun r9 w8=>K r9 w8) w2)
  (lI w2 (hA w 0) fun x10=>lI w2 (hA w 1) fun x11=>x11≠0/\inR .i64 (Int.tdiv x10 x11)/\z2e_sh (Int.tdiv x10 x11) (fun r13 w12=>(((r13.size+(str [46]).size:Nat):Int)<=maxI)/\inR .i64 ((1000000:Int)+((Int.tmod x3 x4)*(Int.tdiv 1000000 x5)))/\z2e_sh ((1000000:Int)+((Int.tmod x3 x4)*(Int.tdiv 1000000 x5))) (fun r15 w14=>(0<=(1:Int)/\(1:Int)<=(r15.size:Nat))/\z14_sh (r15.extract 1 r15.size) (str [48]) (fun r17 w16=>((((r13++(str [46])).size+r17.size:Nat):Int)<=maxI)/\K ((r13++(str [46]))++r17) w16) w14) w12) w2)
def z2f_S:=sp [.g 2,tI,tI] [tS] z2f_sh
theorem z2f_ok:okP 307 z2f_S:=okR (x:=fun _=>qr 2 (qs (A.drp (dp [0,1,2,3,4,5,6,7,8,9] DA.done)) (qs (qr 2 (qc (qr 7 ql) ql)) (qr 14 ql)))) (Γ:=[(44,z2e_S),(331,z14_S)]) ⟨.inl z2e_ok,.inl z14_ok,trivial⟩ Tryz.call307 Tryz.func307 (fun _=>hEnd)
structure z40_sh (p0_0:ByteArray)(p0_1 p0_2:Int)(p0_3:ByteArray)(p0_4:Sl)(p1:Int)(K:Pw.Y6)(w:World):Prop where
 out:Calls Tryz.prog 250 #[(Value.agg #[(vT p0_0),(vI p0_1),(vI p0_2),(vT p0_3),(vS p0_4)]),(vI p1)] w fun e w'=>∃ r0:ByteArray,e=.returned (vT r0)/\K r0 w'
def z40_S:Pw.Spec:=fun vs w Kv =>
 match vs with
 | [.agg ⟨[.string p0_0,.int .i64 p0_1,.int .i64 p0_2,.string p0_3,.slice e_0_4p e_0_4l e_0_4c]⟩,.int .i64 p1]=>z40_sh p0_0 p0_1 p0_2 p0_3 ⟨e_0_4p,e_0_4l,e_0_4c⟩ p1 (fun r0 w'=>Kv (vT r0) w') w
 | _=>False
theorem z40_okr:q22 Tryz.prog 250 z40_S:=⟨Tryz.call250,fun vs w Kv h=>by
  unfold z40_S at h
  split at h
  · exact h.out.mono fun e w' he=>by
      obtain⟨_,he,hk⟩:=he
      exact⟨_,he,hk⟩
  · exact h.elim⟩
def z40_k2d (p1 p5:Int)(p6:ByteArray)(K:Pw.Y6)(w:World):Prop :=
 cnd (decide (p5<p1))
 (((((str [40]).size+p6.size:Nat):Int)<=maxI)/\(((((str [40])++p6).size+(str [41]).size:Nat):Int)<=maxI)/\K (((str [40])++p6)++(str [41])) w)
 (K p6 w)
structure z40_k2 (p1 p5:Int)(p6:ByteArray)(K:Pw.Y6)(w:World):Prop where
 out:z40_k2d p1 p5 p6 K w
def z40_k0d (p1:Int)(p2:Addr)(p5:Int)(K:Pw.Y6)(w:World):Prop :=
 let w11:=w.drew
 ∃ S12:World->Prop,S12 w11/\mT S12 p2 fun x13=>(((x13.size+(str [40]).size:Nat):Int)<=maxI)/\mS S12 (p2.add 4) fun x14=>nz x14.p fun a15=>(0<=(0:Int)/\(0:Int)<(x14.l:Nat))/\∃ x16:ByteArray,(∀ w':World,S12 w'->w'.cell? (a15.add ((0:Int).toNat*5))=some (vT x16))/\∃ x17:Int,(∀ w':World,S12 w'->w'.cell? ((a15.add ((0:Int).toNat*5)).add 1)=some (vI x17))/\∃ x18:Int,(∀ w':World,S12 w'->w'.cell? ((a15.add ((0:Int).toNat*5)).add 2)=some (vI x18))/\∃ x19:ByteArray,(∀ w':World,S12 w'->w'.cell? ((a15.add ((0:Int).toNat*5)).add 3)=some (vT x19))/\∃ x20:Sl,(∀ w':World,S12 w'->w'.cell? ((a15.add ((0:Int).toNat*5)).add 4)=some (vS x20))/\mS S12 (p2.add 4) fun x21=>nz x21.p fun a22=>(0<=(1:Int)/\(1:Int)<(x21.l:Nat))/\∃ x23:ByteArray,(∀ w':World,S12 w'->w'.cell? (a22.add ((1:Int).toNat*5))=some (vT x23))/\∃ x24:Int,(∀ w':World,S12 w'->w'.cell? ((a22.add ((1:Int).toNat*5)).add 1)=some (vI x24))/\∃ x25:Int,(∀ w':World,S12 w'->w'.cell? ((a22.add ((1:Int).toNat*5)).add 2)=some (vI x25))/\∃ x26:ByteArray,(∀ w':World,S12 w'->w'.cell? ((a22.add ((1:Int).toNat*5)).add 3)=some (vT x26))/\∃ x27:Sl,(∀ w':World,S12 w'->w'.cell? ((a22.add ((1:Int).toNat*5)).add 4)=some (vS x27))/\z40_sh x16 x17 x18 x19 x20 0 (fun r29 w28=>S12 w28/\((((x13++(str [40])).size+r29.size:Nat):Int)<=maxI)/\(((((x13++(str [40]))++r29).size+(str [44,32]).size:Nat):Int)<=maxI)/\z40_sh x23 x24 x25 x26 x27 0 (fun r31 w30=>S12 w30/\((((((x13++(str [40]))++r29)++(str [44,32])).size+r31.size:Nat):Int)<=maxI)/\(((((((x13++(str [40]))++r29)++(str [44,32]))++r31).size+(str [41]).size:Nat):Int)<=maxI)/\z40_k2 p1 p5 (((((x13++(str [40]))++r29)++(str [44,32]))++r31)++(str [41])) K w30) w28) w11
structure z40_k0 (p1:Int)(p2:Addr)(p5:Int)(K:Pw.Y6)(w:World):Prop where
 out:z40_k0d p1 p2 p5 K w
def z40_k1d (p1:Int)(p2:Addr)(p5:Int)(K:Pw.Y6)(w:World):Prop :=
 let w32:=w.drew
 ∃ S33:World->Prop,S33 w32/\mS S33 (p2.add 4) fun x34=>nz x34.p fun a35=>(0<=(0:Int)/\(0:Int)<(x34.l:Nat))/\∃ x36:ByteArray,(∀ w':World,S33 w'->w'.cell? (a35.add ((0:Int).toNat*5))=some (vT x36))/\∃ x37:Int,(∀ w':World,S33 w'->w'.cell? ((a35.add ((0:Int).toNat*5)).add 1)=some (vI x37))/\∃ x38:Int,(∀ w':World,S33 w'->w'.cell? ((a35.add ((0:Int).toNat*5)).add 2)=some (vI x38))/\∃ x39:ByteArray,(∀ w':World,S33 w'->w'.cell? ((a35.add ((0:Int).toNat*5)).add 3)=some (vT x39))/\∃ x40:Sl,(∀ w':World,S33 w'->w'.cell? ((a35.add ((0:Int).toNat*5)).add 4)=some (vS x40))/\mT S33 p2 fun x41=>mS S33 (p2.add 4) fun x42=>nz x42.p fun a43=>(0<=(1:Int)/\(1:Int)<(x42.l:Nat))/\∃ x44:ByteArray,(∀ w':World,S33 w'->w'.cell? (a43.add ((1:Int).toNat*5))=some (vT x44))/\∃ x45:Int,(∀ w':World,S33 w'->w'.cell? ((a43.add ((1:Int).toNat*5)).add 1)=some (vI x45))/\∃ x46:Int,(∀ w':World,S33 w'->w'.cell? ((a43.add ((1:Int).toNat*5)).add 2)=some (vI x46))/\∃ x47:ByteArray,(∀ w':World,S33 w'->w'.cell? ((a43.add ((1:Int).toNat*5)).add 3)=some (vT x47))/\∃ x48:Sl,(∀ w':World,S33 w'->w'.cell? ((a43.add ((1:Int).toNat*5)).add 4)=some (vS x48))/\inR .i64 (p5+1)/\z40_sh x36 x37 x38 x39 x40 p5 (fun r50 w49=>S33 w49/\(((r50.size+(str [32]).size:Nat):Int)<=maxI)/\((((r50++(str [32])).size+x41.size:Nat):Int)<=maxI)/\(((((r50++(str [32]))++x41).size+(str [32]).size:Nat):Int)<=maxI)/\z40_sh x44 x45 x46 x47 x48 (p5+1) (fun r52 w51=>S33 w51/\((((((r50++(str [32]))++x41)++(str [32])).size+r52.size:Nat):Int)<=maxI)/\z40_k2 p1 p5 ((((r50++(str [32]))++x41)++(str [32]))++r52) K w51) w49) w32
structure z40_k1 (p1:Int)(p2:Addr)(p5:Int)(K:Pw.Y6)(w:World):Prop where
 out:z40_k1d p1 p2 p5 K w
def z40_sd (p0_0:ByteArray)(p0_1 p0_2:Int)(p0_3:ByteArray)(p0_4:Sl)(p1:Int)(K:Pw.Y6)(w:World):Prop :=
 let w1:=w.alloc (.cells #[(vT p0_0),(vI p0_1),(vI p0_2),(vT p0_3),(vS p0_4)] 38)
 lT w1 (hA w 0) fun x2=>z3m_sh x2 (fun r4 w3=>lT w3 (hA w 0) fun x5=>cnd (decide (x5=(str [110,117,109])))
 (lI w3 (hA w 1) fun x6=>lI w3 (hA w 2) fun x7=>z2f_sh x6 x7 (fun r9 w8=>z40_k2 p1 r4 r9 K w8) w3)
 (cnd (decide (x5=(str [110,97,109,101])))
 (lT w3 (hA w 3) fun x10=>z40_k2 p1 r4 x10 K w3)
 (cnd (decide (x5=(str [109,105,110])))
 (cnd (decide (x5=(str [109,105,110])))
 (z40_k0 p1 (hA w 0) r4 K w3)
 (z40_k1 p1 (hA w 0) r4 K w3))
 (cnd (decide (x5=(str [109,97,120])))
 (z40_k0 p1 (hA w 0) r4 K w3)
 (z40_k1 p1 (hA w 0) r4 K w3))))) w1
def z40_P0 (Kv:VW)(ρ:Rho)(vs:List Value)(w:World):Prop :=
 match ρ,vs with
 | _,[.int .i64 least_1,.pointer (some e_2),.int .i64 own_5]=>z40_k0 least_1 e_2 own_5 (fun r0 w'=>Kv (Value.string r0) w') w
 | _,_=>False
def z40_P1 (Kv:VW)(ρ:Rho)(vs:List Value)(w:World):Prop :=
 match ρ,vs with
 | _,[.int .i64 least_1,.pointer (some e_2),.int .i64 own_5]=>z40_k1 least_1 e_2 own_5 (fun r0 w'=>Kv (Value.string r0) w') w
 | _,_=>False
def z40_P2 (Kv:VW)(ρ:Rho)(vs:List Value)(w:World):Prop :=
 match ρ,vs with
 | _,[.int .i64 least_1,.int .i64 own_5,.string out_6]=>z40_k2 least_1 own_5 out_6 (fun r0 w'=>Kv (Value.string r0) w') w
 | _,_=>False
noncomputable def z40_E:Pw.Env:=[(250,z40_S),(306,z3m_S),(307,z2f_S)]
noncomputable def z40_C:Code:=(Tryz.f250.body).getD .skip
noncomputable def z40_A (Kv:VW):Pw.A :=
 (qr 2 (qr 4 (qr 1 (qs (qr 2 (qb (qr 2 (qc (qe 4) (qr 2 (qc (qe 3) (qs (qr 2 (qc ql (qe 2))) (qc (A.cut [1,2,5] (z40_P0 Kv) (A.drw (dp [0,1,2,3,4,5,6,10,11,12,13] (DA.eff 7 (dp [8,9] (DA.eff 14 (dp [15,16,17] DA.done))))))) (A.cut [1,2,5] (z40_P1 Kv) (A.drw (dp [0,1,2,3,4,7,8,11,12,13,14,15,16] (DA.eff 5 (dp [6,9,10] (DA.eff 17 (dp [18,19] DA.done))))))))))))))) (A.cut [1,5,6] (z40_P2 Kv) (qs (qr 3 (qc (qr 4 ql) ql)) (qr 2 ql)))))))
noncomputable def z40_O (Kv:VW):List Ob:=(obs Tryz.prog z40_E 67 (z40_A Kv) z40_C (fun _=>retQ Tryz.prog Tryz.f250.results Kv))
theorem z40_e (Kv:VW)(e_0_0:ByteArray)(e_0_1 e_0_2:Int)(e_0_3:ByteArray)(e_0_4p:Option Addr)(e_0_4l e_0_4c:Nat)(least_1:Int)(w:World):z40_sd e_0_0 e_0_1 e_0_2 e_0_3 ⟨e_0_4p,e_0_4l,e_0_4c⟩ least_1 (fun r0 w'=>Kv (Value.string r0) w') w=W Tryz.prog z40_E 67 (z40_A Kv) z40_C [] (retQ Tryz.prog Tryz.f250.results Kv) [] (q1d [(Value.agg #[(Value.string e_0_0),(Value.int .i64 e_0_1),(Value.int .i64 e_0_2),(Value.string e_0_3),(Value.slice e_0_4p e_0_4l e_0_4c)]),(Value.int .i64 least_1)]) w:=by kernel_rfl
theorem z40_e0 (Kv:VW)(ρ:Rho)(least_1:Int)(e_2:Addr)(own_5:Int)(w:World):z40_k0d least_1 e_2 own_5 (fun r0 w'=>Kv (Value.string r0) w') w=q1l Tryz.prog z40_E 67 (z40_O Kv) 0 (ρ) [(Value.int .i64 least_1),(Value.pointer (some e_2)),(Value.int .i64 own_5)] w:=by kernel_rfl
theorem z40_q0 (Kv:VW)(ρ:Rho)(vs:List Value)(w:World):q2s (z40_O Kv) 0 ρ vs w=z40_P0 Kv ρ vs w:=by kernel_rfl
theorem z40_h0 (Kv:VW):q0e Tryz.prog z40_E 67 (z40_O Kv) 0:=q0q (.inl (by kernel_rfl)) (fun ρ vs w h=>by
  rw[z40_q0] at h
  unfold z40_P0 at h
  split at h
  · rw[← z40_e0]; exact h.out
  · exact h.elim)
theorem z40_e1 (Kv:VW)(ρ:Rho)(least_1:Int)(e_2:Addr)(own_5:Int)(w:World):z40_k1d least_1 e_2 own_5 (fun r0 w'=>Kv (Value.string r0) w') w=q1l Tryz.prog z40_E 67 (z40_O Kv) 1 (ρ) [(Value.int .i64 least_1),(Value.pointer (some e_2)),(Value.int .i64 own_5)] w:=by kernel_rfl
theorem z40_q1 (Kv:VW)(ρ:Rho)(vs:List Value)(w:World):q2s (z40_O Kv) 1 ρ vs w=z40_P1 Kv ρ vs w:=by kernel_rfl
theorem z40_h1 (Kv:VW):q0e Tryz.prog z40_E 67 (z40_O Kv) 1:=q0q (.inl (by kernel_rfl)) (fun ρ vs w h=>by
  rw[z40_q1] at h
  unfold z40_P1 at h
  split at h
  · rw[← z40_e1]; exact h.out
  · exact h.elim)
theorem z40_e2 (Kv:VW)(ρ:Rho)(least_1 own_5:Int)(out_6:ByteArray)(w:World):z40_k2d least_1 own_5 out_6 (fun r0 w'=>Kv (Value.string r0) w') w=q1l Tryz.prog z40_E 67 (z40_O Kv) 2 (ρ) [(Value.int .i64 least_1),(Value.int .i64 own_5),(Value.string out_6)] w:=by kernel_rfl
theorem z40_q2 (Kv:VW)(ρ:Rho)(vs:List Value)(w:World):q2s (z40_O Kv) 2 ρ vs w=z40_P2 Kv ρ vs w:=by kernel_rfl
theorem z40_h2 (Kv:VW):q0e Tryz.prog z40_E 67 (z40_O Kv) 2:=q0q (.inl (by kernel_rfl)) (fun ρ vs w h=>by
  rw[z40_q2] at h
  unfold z40_P2 at h
  split at h
  · rw[← z40_e2]; exact h.out
  · exact h.elim)
theorem z40_n (Kv:VW):obAt (z40_O Kv) 3=none:=by kernel_rfl
theorem z40_h (Kv:VW):∀ k,q0e Tryz.prog z40_E 67 (z40_O Kv) k:=fun k=>match k with
  | 0=>z40_h0 Kv
  | 1=>z40_h1 Kv
  | 2=>z40_h2 Kv
  | k+3=>q1a (z40_n Kv) (Nat.le_add_left _ _)
theorem z40_mk (e_0_0:ByteArray)(e_0_1 e_0_2:Int)(e_0_3:ByteArray)(e_0_4p:Option Addr)(e_0_4l e_0_4c:Nat)(least_1:Int){K:ByteArray->World->Prop}{w:World}(h:z40_sd e_0_0 e_0_1 e_0_2 e_0_3 ⟨e_0_4p,e_0_4l,e_0_4c⟩ least_1 K w):z40_sh e_0_0 e_0_1 e_0_2 e_0_3 ⟨e_0_4p,e_0_4l,e_0_4c⟩ least_1 K w:=by
  have e:(fun r0 w'=>(fun v w'=>∃ r0:ByteArray,v=(Value.string r0)/\K r0 w') (Value.string r0) w')=K:=by
    funext r0 w'
    apply propext
    constructor
    · rintro⟨r0',hv,hk⟩
      cases hv
      exact hk
    · intro hk
      exact⟨_,rfl,hk⟩
  have h':z40_sd e_0_0 e_0_1 e_0_2 e_0_3 ⟨e_0_4p,e_0_4l,e_0_4c⟩ least_1 (fun r0 w'=>(fun v w'=>∃ r0:ByteArray,v=(Value.string r0)/\K r0 w') (Value.string r0) w') w:=by rw[e]; exact h
  rw[z40_e (fun v w'=>∃ r0:ByteArray,v=(Value.string r0)/\K r0 w')] at h'
  refine⟨(q0z (Γ:=z40_E) progMixed ⟨.inl z40_okr,.inl z3m_ok,.inl z2f_ok,trivial⟩ Tryz.func250 (code:=z40_C) (by kernel_rfl) (z40_A (fun v w'=>∃ r0:ByteArray,v=(Value.string r0)/\K r0 w')) (fun v w'=>∃ r0:ByteArray,v=(Value.string r0)/\K r0 w') (q15 (z40_h (fun v w'=>∃ r0:ByteArray,v=(Value.string r0)/\K r0 w'))) (Nat.le_of_ble_eq_true (by kernel_rfl)) h').mono fun e w' he=>?_⟩
  obtain⟨v,rfl,_,rfl,hk⟩:=he
  exact⟨_,rfl,hk⟩
structure z15_sh (p0_0:ByteArray)(p0_1 p0_2:Int)(p0_3:ByteArray)(p0_4:Sl)(K:Pw.Y6)(w:World):Prop where
 out:let w1:=w.alloc (.cells #[(vT p0_0),(vI p0_1),(vI p0_2),(vT p0_3),(vS p0_4)] 38)
  let w2:=w1.alloc (.cells #[(vI 0)] 3)
  wrOk w2 (hA w1 0)/\
  (let w3:=w2.setCell (hA w1 0) (vI 0)
  lX w3 (hA w 0) fun x4 x5 x6 x7 x8=>z16_sh x4 x5 x6 x7 x8 12 (some (hA w1 0)) (fun r10 w9=>cnd (!r10)
  (K (str []) w9)
  (lX w9 (hA w 0) fun x11 x12 x13 x14 x15=>z40_sh x11 x12 x13 x14 x15 0 (fun r17 w16=>K r17 w16) w9)) w3)
def z15_S:=sp [.g 5,tS,tI,tI,tS,tL] [tS] z15_sh
theorem z15_ok:okP 184 z15_S:=okR (x:=fun _=>qr 2 (qr 2 (qs (qr 3 (qc (qr 1 ql) ql)) (qr 3 ql)))) (Γ:=[(249,z16_S),(250,z40_S)]) ⟨.inl z16_okr,.inl z40_okr,trivial⟩ Tryz.call184 Tryz.func184 (fun _=>hEnd)
structure z36_sh (p0_0:ByteArray)(p0_1 p0_2:Int)(p0_3:ByteArray)(p0_4:Sl)(K:Pw.Y0)(w:World):Prop where
 out:let w1:=w.alloc (.cells #[(vT p0_0),(vI p0_1),(vI p0_2),(vT p0_3),(vS p0_4)] 38)
  lX w1 (hA w 0) fun x2 x3 x4 x5 x6=>z15_sh x2 x3 x4 x5 x6 (fun r8 w7=>K (!decide (r8=(str []))) w7) w1
def z36_S:=sp [.g 5,tS,tI,tI,tS,tL] [tB] z36_sh
theorem z36_ok:okP 190 z36_S:=okR (x:=fun _=>qr 2 (qr 4 ql)) (Γ:=[(184,z15_S)]) ⟨.inl z15_ok,trivial⟩ Tryz.call190 Tryz.func190 (fun _=>hEnd)
def z1n_b0 (p1 p2 p3:Addr)(p8:Sl)(p9 p10:Int)(N0:Pw.Y17)(K:Pw.Y0)(w:World):Prop :=
 cnd (decide (p10<p9))
 (nz p8.p fun a3=>(0<=p10/\p10<(p8.l:Nat))/\lT w (a3.add (p10.toNat*5)) fun x4=>∃ x5:Int,w.cell? ((a3.add (p10.toNat*5)).add 1)=some (vI x5)/\∃ x6:Int,w.cell? ((a3.add (p10.toNat*5)).add 2)=some (vI x6)/\∃ x7:ByteArray,w.cell? ((a3.add (p10.toNat*5)).add 3)=some (vT x7)/\∃ x8:Sl,w.cell? ((a3.add (p10.toNat*5)).add 4)=some (vS x8)/\let w9:=w.alloc (.cells #[(vT (str [])),(vI 0),(vI 0),(vT (str [])),vN] 38)
 stN w9 (hA w 0) [(vT x4),(vI x5),(vI x6),(vT x7),(vS x8)] fun w10=>∃ x11:Value,w10.cell? p1=some x11/\lX w10 (hA w 0) fun x12 x13 x14 x15 x16=>q14 Tryz.prog x11 [(Value.agg #[(vT x12),(vI x13),(vI x14),(vT x15),(vS x16)])] w10 fun u17 w18=>∃ x19:Bool,u17=(.bool x19)/\cnd (!x19)
 (K false w18)
 (inR .i64 (p10+1)/\N0 p1 p2 p3 p8 p9 (p10+1) w18))
 (∃ x20:Value,w.cell? p2=some x20/\lX w p3 fun x21 x22 x23 x24 x25=>q14 Tryz.prog x20 [(Value.agg #[(vT x21),(vI x22),(vI x23),(vT x24),(vS x25)])] w fun u26 w27=>∃ x28:Bool,u26=(.bool x28)/\K x28 w27)
structure z1n_l0 (p1 p2 p3:Addr)(p8:Sl)(p9 p10:Int)(K:Pw.Y0)(w:World):Prop where
 out:∃ (I:Int->World->Prop) (μ:Int->World->Nat),I p10 w/\∀ (p101:Int) (w1:World),I p101 w1 ->
  z1n_b0 p1 p2 p3 p8 p9 p101 (fun p1' p2' p3' p8' p9' p10' w'=>((p1'=p1/\p2'=p2/\p3'=p3/\p8'=p8/\p9'=p9/\True)/\I p10' w')/\μ p10' w'<μ p101 w1) K w1
structure z1n_sh (p0_0:ByteArray)(p0_1 p0_2:Int)(p0_3:ByteArray)(p0_4:Sl)(p1 p2:Addr)(K:Pw.Y0)(w:World):Prop where
 out:let w1:=w.alloc (.cells #[(vT p0_0),(vI p0_1),(vI p0_2),(vT p0_3),(vS p0_4)] 38)
  lS w1 (hA w 4) fun x2=>z1n_l0 p1 p2 (hA w 0) x2 (x2.l:Int) 0 K w1
def z1n_L0 (Kv:VW):Cur [tQ,tQ,tQ,tL,tI,tI] WP:=fun p1 p2 p3 p8 p9 p10=>z1n_l0 p1 p2 p3 p8 p9 p10 (kk [tB] Kv)
def z1n_S:=sp [.g 5,tS,tI,tI,tS,tL,tQ,tQ] [tB] z1n_sh
theorem z1n_ok:okP 274 z1n_S:=okR (x:=fun Kv=>qr 2 (qs (qr 4 (qb (A.loop [1,2,3,8,9,10] (uR0 [tQ,tQ,tQ,tL,tI,tI] (z1n_L0 Kv)) (qr 1 (qs (qc ql ql) (qs (qb (qr 4 (qs (A.reg (qn 2 (RA.dyn (Value.bool false) (qn 1 RA.done)))) (qc (qr 1 ql) ql)))) (qe 2))))))) (qs (A.reg (qn 2 (RA.dyn (Value.bool false) (qn 1 RA.done)))) ql))) (Γ:=[]) trivial Tryz.call274 Tryz.func274 (fun Kv=>q08 (q0c (L:=z1n_L0 Kv) (fun N0 p1 p2 p3 p8 p9 p10=>z1n_b0 p1 p2 p3 p8 p9 p10 N0 (kk [tB] Kv)) (fun⟨a0,a1,a2,a3,a4,_,_⟩ _ h=>let ⟨I,μ,h0,hr⟩:=h.out; ⟨fun b0 b1 b2 b3 b4 b5 w=>(b0=a0/\b1=a1/\b2=a2/\b3=a3/\b4=a4/\True)/\I b5 w,fun _ _ _ _ _ b5 w=>μ b5 w,⟨⟨rfl,rfl,rfl,rfl,rfl,trivial⟩,h0⟩,fun⟨_,_,_,_,_,_,_⟩ _ ⟨⟨e0,e1,e2,e3,e4,_⟩,hI⟩=>by cases e0; cases e1; cases e2; cases e3; cases e4; exact hr _ _ hI⟩)) <| hEnd)
structure z24_sh (p0:Value)(p1:Addr)(K:Pw.Y15)(w:World):Prop where
 out:let w1:=w.alloc (.cells (Value.cells p0) 232)
  let w2:=w1.alloc (.cells #[Value.nilFunc] 232)
  wrOk w2 (hA w1 0)/\
  (let w3:=w2.setCell (hA w1 0) (Value.func (.func 274) #[] #[(.pointer (some (hA w1 0))),(.pointer (some (hA w 0)))])
  ∃ x4:Value,w3.cell? (hA w1 0)=some x4/\lX w3 p1 fun x5 x6 x7 x8 x9=>q14 Tryz.prog x4 [(Value.agg #[(vT x5),(vI x6),(vI x7),(vT x8),(vS x9)])] w3 fun u10 w11=>∃ x12:Bool,u10=(.bool x12)/\K w11)
def z24_S:=sp [tV,tQ] [.u 0] z24_sh
theorem z24_ok:okP 273 z24_S:=okR (x:=fun _=>qr 1 (qr 1 (qr 2 (A.reg (qn 2 (RA.dyn (Value.bool false) RA.done)))))) (Γ:=[]) trivial Tryz.call273 Tryz.func273 (fun _=>hEnd)
structure z35_sh (p0_0:ByteArray)(p0_1 p0_2:Int)(p0_3:ByteArray)(p0_4:Sl)(K:Pw.Y24)(w:World):Prop where
 out:let w1:=w.alloc (.cells #[(vT p0_0),(vI p0_1),(vI p0_2),(vT p0_3),(vS p0_4)] 38)
  K (Value.func (.func 273) #[] #[(.pointer (some (hA w 0)))]) w1
def z35_S:=sp [.g 5,tS,tI,tI,tS,tL] [tV] z35_sh
theorem z35_ok:okP 202 z35_S:=okR (x:=fun _=>qr 2 (qr 2 ql)) (Γ:=[]) trivial Tryz.call202 Tryz.func202 (fun _=>hEnd)
noncomputable def z34_C:Code:=(Tryz.f119.body).getD .skip
noncomputable def z34_rc0:Code:=rfAt z34_C 0
noncomputable def z34_as0:Code:=rfAs z34_rc0
noncomputable def z34_bd0:Code:=rfBd z34_rc0
def z34_ps0:Array Tmp:=#[10]
def z34_f0d (t_2:Sl)(out_3:Addr)(t_9:Value)(K:Pw.Y5)(w:World):Prop :=
 rfF Tryz.prog 27 [(2,(Value.slice t_2.p t_2.l t_2.c)),(3,(Value.pointer (some out_3))),(9,t_9)] t_9 z34_ps0 z34_as0 z34_bd0 w (fun w'=>∃ x31:Sl,w'.cell? out_3=some (Value.slice x31.p x31.l x31.c)/\w'.heap[w.heap.size]?=some (Obj.deferred (some []))/\(let w32:=w'.putObj w.heap.size (Obj.deferred none)
 K x31 w32)) (fun w'=>w'.heap[w.heap.size]?=some (Obj.deferred (some []))/\(let w17:=w'.putObj w.heap.size (Obj.deferred none)
 K t_2 w17))
structure z34_f0 (p2:Sl)(p3:Addr)(p9:Value)(K:Pw.Y5)(w:World):Prop where
 out:z34_f0d p2 p3 p9 K w
def z34_r0d (t_2:Sl)(out_3:Addr)(t_9:Value)(t_10_0:ByteArray)(t_10_1 t_10_2:Int)(t_10_3:ByteArray)(t_10_4:Sl)(M:World->(World->Prop)->Prop)(Nn0 Nr0:World->Prop)(K:Pw.Y5)(w:World):Prop :=
 let w18:=w.alloc (Obj.cells #[(Value.string (str [])),(Value.int .i64 0),(Value.int .i64 0),(Value.string (str [])),(Value.slice none 0 0)] 38)
 stN w18 (Addr.mk w.heap.size 0 none) [(Value.string t_10_0),(Value.int .i64 t_10_1),(Value.int .i64 t_10_2),(Value.string t_10_3),(Value.slice t_10_4.p t_10_4.l t_10_4.c)] fun w19=>M w19 (fun w0=>∃ x20:ByteArray,w0.cell? (Addr.mk w.heap.size 0 none)=some (Value.string x20)/\cnd (decide (x20=(str [110,97,109,101])))
 (∃ x21:Sl,w0.cell? out_3=some (Value.slice x21.p x21.l x21.c)/\∃ x22:ByteArray,w0.cell? (Addr.mk w.heap.size 3 none)=some (Value.string x22)/\z1l_sh x21 x22 (fun r24 w23=>cnd (!r24)
 (∃ x25:Sl,w23.cell? out_3=some (Value.slice x25.p x25.l x25.c)/\∃ x26:ByteArray,w23.cell? (Addr.mk w.heap.size 3 none)=some (Value.string x26)/\let w27:=w23.alloc (Obj.cells #[(Value.string x26)] 9)
 apS 1 16 [(Value.string (str []))] 9 x25 (Sl.mk (some (Addr.mk w23.heap.size 0 none)) 1 1) w27 fun s28 w29=>wrOk w29 out_3/\
 (let w30:=w29.setCell out_3 (Value.slice s28.p s28.l s28.c)
 Nn0 w30))
 (Nn0 w23)) w0)
 (Nn0 w0))
structure z34_r0 (p2:Sl)(p3:Addr)(p9:Value)(p10_0:ByteArray)(p10_1 p10_2:Int)(p10_3:ByteArray)(p10_4:Sl)(M:World->(World->Prop)->Prop)(Nn0 Nr0:World->Prop)(K:Pw.Y5)(w:World):Prop where
 out:z34_r0d p2 p3 p9 p10_0 p10_1 p10_2 p10_3 p10_4 M Nn0 Nr0 K w
def z34_sd (p0_0:ByteArray)(p0_1 p0_2:Int)(p0_3:ByteArray)(p0_4:Sl)(K:Pw.Y5)(w:World):Prop :=
 let w1:=w.alloc (.cells #[(vT p0_0),(vI p0_1),(vI p0_2),(vT p0_3),(vS p0_4)] 38)
 lX w1 (hA w 0) fun x2 x3 x4 x5 x6=>z36_sh x2 x3 x4 x5 x6 (fun r8 w7=>cnd (!r8)
 (K (Sl.mk none 0 0) w7)
 (let w9:=w7.alloc (.cells #[vN] 39)
 lX w9 (hA w 0) fun x10 x11 x12 x13 x14=>z35_sh x10 x11 x12 x13 x14 (fun r16 w15=>z34_f0 (Sl.mk none 0 0) (hA w7 0) r16 K w15) w9)) w1
structure z34_sh (p0_0:ByteArray)(p0_1 p0_2:Int)(p0_3:ByteArray)(p0_4:Sl)(K:Pw.Y5)(w:World):Prop where
 out:z34_sd p0_0 p0_1 p0_2 p0_3 p0_4 K w
def z34_P0 (Kv:VW)(ρ:Rho)(vs:List Value)(w:World):Prop :=
 match ρ,vs with
 | _,[.slice t_2p t_2l t_2c,.pointer (some out_3),t_9]=>z34_f0 ⟨t_2p,t_2l,t_2c⟩ out_3 t_9 (fun r0 w'=>Kv (Value.slice r0.p r0.l r0.c) w') w
 | _,_=>False
def z34_S:Pw.Spec:=fun vs w Kv =>
 match vs with
 | [.agg ⟨[.string p0_0,.int .i64 p0_1,.int .i64 p0_2,.string p0_3,.slice e_0_4p e_0_4l e_0_4c]⟩]=>z34_sh p0_0 p0_1 p0_2 p0_3 ⟨e_0_4p,e_0_4l,e_0_4c⟩ (fun r0 w'=>Kv (vS r0) w') w
 | _=>False
noncomputable def z34_E:Pw.Env:=[(73,z1l_S),(190,z36_S),(202,z35_S)]
noncomputable def z34_A (Kv:VW):Pw.A :=
 (qr 2 (qs (qr 3 (qc (qr 1 ql) ql)) (qr 1 (qs (qr 2 (qb (A.rf [2,3,9] (z34_P0 Kv) (qb (qs (A.reg (qn 4 (RA.spl 14 (qn 6 RA.done) (qk 5 (qn 1 RA.done))))) (qc (qe 6) ql)))))) (qr 2 ql)))))
noncomputable def z34_O (Kv:VW):List Ob:=(obs Tryz.prog z34_E 27 (z34_A Kv) z34_C (fun _=>retQ Tryz.prog Tryz.f119.results Kv))
theorem z34_e (Kv:VW)(e_0_0:ByteArray)(e_0_1 e_0_2:Int)(e_0_3:ByteArray)(e_0_4p:Option Addr)(e_0_4l e_0_4c:Nat)(w:World):z34_sd e_0_0 e_0_1 e_0_2 e_0_3 ⟨e_0_4p,e_0_4l,e_0_4c⟩ (fun r0 w'=>Kv (Value.slice r0.p r0.l r0.c) w') w=W Tryz.prog z34_E 27 (z34_A Kv) z34_C [] (retQ Tryz.prog Tryz.f119.results Kv) [] (q1d [(Value.agg #[(Value.string e_0_0),(Value.int .i64 e_0_1),(Value.int .i64 e_0_2),(Value.string e_0_3),(Value.slice e_0_4p e_0_4l e_0_4c)])]) w:=by kernel_rfl
theorem z34_e0 (Kv:VW)(ρ:Rho)(t_2p:Option Addr)(t_2l t_2c:Nat)(out_3:Addr)(t_9:Value)(w:World):z34_f0d ⟨t_2p,t_2l,t_2c⟩ out_3 t_9 (fun r0 w'=>Kv (Value.slice r0.p r0.l r0.c) w') w=q1l Tryz.prog z34_E 27 (z34_O Kv) 0 (ρ) [(Value.slice t_2p t_2l t_2c),(Value.pointer (some out_3)),t_9] w:=by kernel_rfl
theorem z34_q0 (Kv:VW)(ρ:Rho)(vs:List Value)(w:World):q2s (z34_O Kv) 0 ρ vs w=z34_P0 Kv ρ vs w:=by kernel_rfl
theorem z34_h0 (Kv:VW):q0e Tryz.prog z34_E 27 (z34_O Kv) 0:=q0q (.inr (by kernel_rfl)) (fun ρ vs w h=>by
  rw[z34_q0] at h
  unfold z34_P0 at h
  split at h
  · rw[← z34_e0]; exact h.out
  · exact h.elim)
theorem z34_n (Kv:VW):obAt (z34_O Kv) 1=none:=by kernel_rfl
theorem z34_h (Kv:VW):∀ k,q0e Tryz.prog z34_E 27 (z34_O Kv) k:=fun k=>match k with
  | 0=>z34_h0 Kv
  | k+1=>q1a (z34_n Kv) (Nat.le_add_left _ _)
theorem z34_ok:q22 Tryz.prog 119 z34_S:=⟨Tryz.call119,fun vs w Kv h=>by
  unfold z34_S at h
  split at h
  · have h:=h.out
    rw[z34_e] at h
    exact q0z (Γ:=z34_E) progMixed ⟨.inl z1l_ok,.inl z36_ok,.inl z35_ok,trivial⟩ Tryz.func119 (code:=z34_C) (by kernel_rfl) (z34_A Kv) Kv (q15 (z34_h Kv)) (Nat.le_of_ble_eq_true (by kernel_rfl)) h
  · exact h.elim⟩
theorem z34_er0 (Kv:VW)(t_2p:Option Addr)(t_2l t_2c:Nat)(out_3:Addr)(t_9:Value)(t_10_0:ByteArray)(t_10_1 t_10_2:Int)(t_10_3:ByteArray)(t_10_4p:Option Addr)(t_10_4l t_10_4c:Nat)(M:World->(World->Prop)->Prop)(N R:World->Prop)(w:World):z34_r0d ⟨t_2p,t_2l,t_2c⟩ out_3 t_9 t_10_0 t_10_1 t_10_2 t_10_3 ⟨t_10_4p,t_10_4l,t_10_4c⟩ M N R (fun r0 w'=>Kv (Value.slice r0.p r0.l r0.c) w') w=rdW Tryz.prog z34_E 27 (qe 2) ((qb (qs (A.reg (qn 4 (RA.spl 14 (qn 6 RA.done) (qk 5 (qn 1 RA.done))))) (qc (qe 6) ql)))) z34_ps0 z34_as0 z34_bd0 [(2,(Value.slice t_2p t_2l t_2c)),(3,(Value.pointer (some out_3))),(9,t_9)] [(Value.agg #[(Value.string t_10_0),(Value.int .i64 t_10_1),(Value.int .i64 t_10_2),(Value.string t_10_3),(Value.slice t_10_4p t_10_4l t_10_4c)])] M N R w:=by kernel_rfl
theorem z34_y0 (Kv:VW)(t_2p:Option Addr)(t_2l t_2c:Nat)(out_3:Addr)(t_9:Value)(t_10_0:ByteArray)(t_10_1 t_10_2:Int)(t_10_3:ByteArray)(t_10_4p:Option Addr)(t_10_4l t_10_4c:Nat){fn d l:Nat}{tmps:Array Value}{K':VW}{w:World}(hag:agrT 27 [(2,(Value.slice t_2p t_2l t_2c)),(3,(Value.pointer (some out_3))),(9,t_9)] tmps)(hl:w.heap[l]?=some (lrec fn tmps z34_ps0 z34_as0 z34_bd0 d .ready none))
    (h:z34_r0 ⟨t_2p,t_2l,t_2c⟩ out_3 t_9 t_10_0 t_10_1 t_10_2 t_10_3 ⟨t_10_4p,t_10_4l,t_10_4c⟩ (rMid l fn tmps z34_ps0 z34_as0 z34_bd0 d) (rN l fn tmps z34_ps0 z34_as0 z34_bd0 d K') (rR l fn tmps z34_ps0 z34_as0 z34_bd0 d K') (fun r0 w'=>Kv (Value.slice r0.p r0.l r0.c) w') w):Yl Tryz.prog l #[(Value.agg #[(Value.string t_10_0),(Value.int .i64 t_10_1),(Value.int .i64 t_10_2),(Value.string t_10_3),(Value.slice t_10_4p t_10_4l t_10_4c)])] w K' :=
  qdv (xa:=(qe 2)) (xb:=(qb (qs (A.reg (qn 4 (RA.spl 14 (qn 6 RA.done) (qk 5 (qn 1 RA.done))))) (qc (qe 6) ql)))) (Γ:=z34_E) progMixed ⟨.inl z1l_ok,.inl z36_ok,.inl z35_ok,trivial⟩ (fun _=>rfl) (fun o ho=>by cases ho) rfl rfl rfl hag hl rfl (by rw[← z34_er0 Kv]; exact h.out)
