/- The bodies' formulas, by program. -/
import Derived.Test.YtipjnbbfnlfmjaaGreatDoorTE2
set_option maxRecDepth 20000
namespace Go.Proofs.YtipjnbbfnlfmjaaGreatDoor
open Go Pw
structure z3e_sh (Pn:List PanicEntry->World->Prop)(p0_0:ByteArray)(p0_1 p0_2:Int)(p0_3:ByteArray)(p0_4 p1:Sl)(K:Pw.Y3)(w:World):Prop where
 out:Calls Tryz.prog 88 #[(Value.agg #[(vT p0_0),(vI p0_1),(vI p0_2),(vT p0_3),(vS p0_4)]),(vS p1)] w fun e w'=>(∃ r0_0:Int,∃ r0_1:Int,e=.returned (Value.agg #[(vI r0_0),(vI r0_1)])/\K r0_0 r0_1 w')\/∃ c,e=.panicked c/\Pn c w'
def z3e_S (Pn:List PanicEntry->World->Prop):Pw.Spec:=fun vs w Kv =>
 match vs with
 | [.agg ⟨[.string p0_0,.int .i64 p0_1,.int .i64 p0_2,.string p0_3,.slice e_0_4p e_0_4l e_0_4c]⟩,.slice values_1p values_1l values_1c]=>(z3e_sh Pn) p0_0 p0_1 p0_2 p0_3 ⟨e_0_4p,e_0_4l,e_0_4c⟩ ⟨values_1p,values_1l,values_1c⟩ (fun r0_0 r0_1 w'=>Kv (Value.agg #[(vI r0_0),(vI r0_1)]) w') w
 | _=>False
theorem z3e_okr (Pn:List PanicEntry->World->Prop):qc3 Tryz.prog Pn 88 (z3e_S Pn):=⟨Tryz.call88,fun vs w Kv h=>by
  unfold z3e_S at h
  split at h
  · exact h.out.mono fun e w' he=>by
      rcases he with⟨_,_,he,hk⟩ | he
      · exact .inl ⟨_,he,hk⟩
      · exact .inr he
  · exact h.elim⟩
def z3e_k0d (Pn:List PanicEntry->World->Prop)(p4 p9:Addr)(p10:Int)(K:Pw.Y3)(w:World):Prop :=
 cnd (p10 != 0)
 (Pn [{ v:=(.iface 159 (Value.agg #[(vI p10)])),recovered:=false }] w)
 (lI w p9 fun x74=>lI w (p9.add 1) fun x75=>wrOk w p4/\
 (let w76:=w.setCell p4 (vI x74)
 wrOk w76 (p4.add 1)/\
 (let w77:=w76.setCell (p4.add 1) (vI x75)
 lI w77 p4 fun x78=>lI w77 (p4.add 1) fun x79=>K x78 x79 w77)))
structure z3e_k0 (Pn:List PanicEntry->World->Prop)(p4 p9:Addr)(p10:Int)(K:Pw.Y3)(w:World):Prop where
 out:(z3e_k0d Pn) p4 p9 p10 K w
def z3e_sd (Pn:List PanicEntry->World->Prop)(p0_0:ByteArray)(p0_1 p0_2:Int)(p0_3:ByteArray)(p0_4 p1:Sl)(K:Pw.Y3)(w:World):Prop :=
 let w1:=w.alloc (.cells #[(vT p0_0),(vI p0_1),(vI p0_2),(vT p0_3),(vS p0_4)] 38)
 let w2:=w1.alloc (.cells #[(vI 0),(vI 0)] 35)
 lT w2 (hA w 0) fun x3=>cnd (decide (x3=(str [110,117,109])))
 (lI w2 (hA w 1) fun x4=>lI w2 (hA w 2) fun x5=>wrOk w2 (hA w1 0)/\
 (let w6:=w2.setCell (hA w1 0) (vI x4)
 wrOk w6 (hA w1 1)/\
 (let w7:=w6.setCell (hA w1 1) (vI x5)
 lI w7 (hA w1 0) fun x8=>lI w7 (hA w1 1) fun x9=>K x8 x9 w7)))
 (cnd (decide (x3=(str [110,97,109,101])))
 (z05_sh p1 (Value.func (.func 144) #[] #[(.pointer (some (hA w 0)))]) (fun r11 w10=>cnd (decide (r11<0))
 (Pn [{ v:=(.iface 159 (Value.agg #[(vI 13)])),recovered:=false }] w10)
 (nz p1.p fun a12=>(0<=r11/\r11<(p1.l:Nat))/\∃ x13:Int,w10.cell? ((a12.add (r11.toNat*2)).add 1)=some (vI x13)/\z42_sh x13 (fun r15_0 r15_1 w14=>wrOk w14 (hA w1 0)/\
 (let w16:=w14.setCell (hA w1 0) (vI r15_0)
 wrOk w16 (hA w1 1)/\
 (let w17:=w16.setCell (hA w1 1) (vI r15_1)
 lI w17 (hA w1 0) fun x18=>lI w17 (hA w1 1) fun x19=>K x18 x19 w17))) w10)) w2)
 (lT w2 (hA w 0) fun x20=>z3p_sh x20 (fun r22_0 r22_1 r23 w21=>let w24:=w21.alloc (.cells #[(vT (str [])),Value.nilFunc] 237)
 wrOk w24 (hA w21 0)/\
 (let w25:=w24.setCell (hA w21 0) (vT r22_0)
 okk r22_1 (wrOk w25 (hA w21 1)/\
 (let w26:=w25.setCell (hA w21 1) r22_1
 lS w26 (hA w 4) fun x27=>nz x27.p fun a28=>(0<=(0:Int)/\(0:Int)<(x27.l:Nat))/\∃ x29:ByteArray,w26.cell? (a28.add ((0:Int).toNat*5))=some (vT x29)/\∃ x30:Int,w26.cell? ((a28.add ((0:Int).toNat*5)).add 1)=some (vI x30)/\∃ x31:Int,w26.cell? ((a28.add ((0:Int).toNat*5)).add 2)=some (vI x31)/\∃ x32:ByteArray,w26.cell? ((a28.add ((0:Int).toNat*5)).add 3)=some (vT x32)/\∃ x33:Sl,w26.cell? ((a28.add ((0:Int).toNat*5)).add 4)=some (vS x33)/\(z3e_sh Pn) x29 x30 x31 x32 x33 p1 (fun r35_0 r35_1 w34=>let w36:=w34.alloc (.cells #[(vI 0),(vI 0)] 35)
 wrOk w36 (hA w34 0)/\
 (let w37:=w36.setCell (hA w34 0) (vI r35_0)
 wrOk w37 (hA w34 1)/\
 (let w38:=w37.setCell (hA w34 1) (vI r35_1)
 let w39:=w38.drew
 ∃ S40:World->Prop,S40 w39/\mT S40 (hA w21 0) fun x41=>∃ x42:Value,(∀ w':World,S40 w'->w'.cell? (hA w21 1)=some x42)/\mI S40 (hA w34 0) fun x43=>mI S40 (hA w34 1) fun x44=>mS S40 (hA w 4) fun x45=>nz x45.p fun a46=>(0<=(1:Int)/\(1:Int)<(x45.l:Nat))/\∃ x47:ByteArray,(∀ w':World,S40 w'->w'.cell? (a46.add ((1:Int).toNat*5))=some (vT x47))/\∃ x48:Int,(∀ w':World,S40 w'->w'.cell? ((a46.add ((1:Int).toNat*5)).add 1)=some (vI x48))/\∃ x49:Int,(∀ w':World,S40 w'->w'.cell? ((a46.add ((1:Int).toNat*5)).add 2)=some (vI x49))/\∃ x50:ByteArray,(∀ w':World,S40 w'->w'.cell? ((a46.add ((1:Int).toNat*5)).add 3)=some (vT x50))/\∃ x51:Sl,(∀ w':World,S40 w'->w'.cell? ((a46.add ((1:Int).toNat*5)).add 4)=some (vS x51))/\((z3e_sh Pn) x47 x48 x49 x50 x51 p1 (fun r53_0 r53_1 w52=>S40 w52/\(z0i_sh x41 x42 x43 x44 r53_0 r53_1 (fun r55_0 r55_1 r56 w54=>S40 w54/\let w57:=w54.alloc (.cells #[(vI 0),(vI 0)] 35)
 S40 w57/\wrOk w57 (hA w54 0)/\
 (let w58:=w57.setCell (hA w54 0) (vI r55_0)
 wrOk w58 (hA w54 1)/\
 (let w59:=w58.setCell (hA w54 1) (vI r55_1)
 (z3e_k0 Pn) (hA w1 0) (hA w54 0) r56 K w59))) w52)
/\(let w60:=w52.alloc (.cells #[(vI 0),(vI 0)] 35)
 S40 w60/\z0i_sh x41 x42 x43 x44 r53_0 r53_1 (fun r62_0 r62_1 r63 w61=>S40 w61/\wrOk w61 (hA w52 0)/\
 (let w64:=w61.setCell (hA w52 0) (vI r62_0)
 wrOk w64 (hA w52 1)/\
 (let w65:=w64.setCell (hA w52 1) (vI r62_1)
 (z3e_k0 Pn) (hA w1 0) (hA w52 0) r63 K w65))) w60)) w39)
/\(let w66:=w39.alloc (.cells #[(vI 0),(vI 0)] 35)
 S40 w66/\(z3e_sh Pn) x47 x48 x49 x50 x51 p1 (fun r68_0 r68_1 w67=>S40 w67/\z0i_sh x41 x42 x43 x44 r68_0 r68_1 (fun r70_0 r70_1 r71 w69=>S40 w69/\wrOk w69 (hA w39 0)/\
 (let w72:=w69.setCell (hA w39 0) (vI r70_0)
 wrOk w72 (hA w39 1)/\
 (let w73:=w72.setCell (hA w39 1) (vI r70_1)
 (z3e_k0 Pn) (hA w1 0) (hA w39 0) r71 K w73))) w67) w66)))) w26)))) w2))
def z3e_P0 (Pn:List PanicEntry->World->Prop)(Kv:VW)(ρ:Rho)(vs:List Value)(w:World):Prop :=
 match ρ,vs with
 | _,[.pointer (some t_4),.pointer (some x_9),.int .i64 f_10]=>(z3e_k0 Pn) t_4 x_9 f_10 (fun r0_0 r0_1 w'=>Kv (Value.agg #[(Value.int .i64 r0_0),(Value.int .i64 r0_1)]) w') w
 | _,_=>False
noncomputable def z3e_E (Pn:List PanicEntry->World->Prop):Pw.Env:=(88,(z3e_S Pn)) :: (pk,panS Pn) :: ([(143,z05_S),(145,z42_S),(146,z3p_S),(147,z0i_S)]:Pw.Env)
noncomputable def z3e_C (Pn:List PanicEntry->World->Prop):Code:=(Tryz.f88.body).getD .skip
noncomputable def z3e_A (Pn:List PanicEntry->World->Prop)(Kv:VW):Pw.A :=
 (A.seq (A.reg (RA.run (RA.run RA.done)))
 (A.seq (A.seq (A.reg (RA.run (RA.run RA.done)))
 (A.blk (A.seq (A.reg (RA.run (RA.run RA.done)))
 (A.cond (A.seq (A.reg (RA.run (RA.run (RA.run RA.done))))
 A.leaf)
 (A.seq (A.reg (RA.run (RA.run RA.done)))
 (A.cond (A.seq (A.reg (RA.run (RA.run (RA.run (RA.run RA.done)))))
 (A.seq (A.seq (A.reg (RA.run (RA.run RA.done)))
 (A.cond (A.reg (RA.run (RA.run (RA.run RA.done))))
 A.leaf))
 (A.seq (A.reg (RA.run (RA.run (RA.run (RA.run (RA.run (RA.run (RA.run RA.done))))))))
 A.leaf)))
 A.leaf))))))
 (A.seq (A.reg (RA.run (RA.run (RA.run (RA.run (RA.run (RA.run (RA.run (RA.run (RA.run RA.done))))))))))
 (A.seq (A.reg (RA.run (RA.run (RA.run (RA.run (RA.run (RA.run (RA.run (RA.run RA.done)))))))))
 (A.seq (A.drw (DA.pur 0 (DA.pur 1 (DA.pur 2 (DA.pur 3 (DA.pur 4 (DA.pur 5 (DA.pur 6 (DA.two 7 (DA.two 8 (DA.pur 9 (DA.pur 10 (DA.pur 11 (DA.eff 12 (DA.eff 13 (DA.pur 14 DA.done)))))) 12 (DA.eff 8 (DA.pur 9 (DA.pur 10 (DA.pur 11 (DA.eff 13 (DA.pur 14 DA.done))))))) 12 (DA.eff 7 (DA.eff 8 (DA.pur 9 (DA.pur 10 (DA.pur 11 (DA.eff 13 (DA.pur 14 DA.done))))))))))))))))
 (A.cut [4,9,10] ((z3e_P0 Pn) Kv) (A.seq (A.seq (A.reg (RA.run (RA.run RA.done)))
 (A.cond (A.reg (RA.run (RA.run (RA.run (RA.run RA.done)))))
 A.leaf))
 (A.seq (A.reg (RA.run (RA.run RA.done)))
 A.leaf))))))))
noncomputable def z3e_O (Pn:List PanicEntry->World->Prop)(Kv:VW):List Ob:=(obs Tryz.prog (z3e_E Pn) 62 ((z3e_A Pn) Kv) (z3e_C Pn) (fun _=>retQ Tryz.prog Tryz.f88.results Kv))
theorem z3e_e (Pn:List PanicEntry->World->Prop)(Kv:VW)(e_0_0:ByteArray)(e_0_1 e_0_2:Int)(e_0_3:ByteArray)(e_0_4p:Option Addr)(e_0_4l e_0_4c:Nat)(values_1p:Option Addr)(values_1l values_1c:Nat)(w:World):(z3e_sd Pn) e_0_0 e_0_1 e_0_2 e_0_3 ⟨e_0_4p,e_0_4l,e_0_4c⟩ ⟨values_1p,values_1l,values_1c⟩ (fun r0_0 r0_1 w'=>Kv (Value.agg #[(Value.int .i64 r0_0),(Value.int .i64 r0_1)]) w') w=W Tryz.prog (z3e_E Pn) 62 ((z3e_A Pn) Kv) (z3e_C Pn) [] (retQ Tryz.prog Tryz.f88.results Kv) [] (q1d [(Value.agg #[(Value.string e_0_0),(Value.int .i64 e_0_1),(Value.int .i64 e_0_2),(Value.string e_0_3),(Value.slice e_0_4p e_0_4l e_0_4c)]),(Value.slice values_1p values_1l values_1c)]) w:=by kernel_rfl
theorem z3e_e0 (Pn:List PanicEntry->World->Prop)(Kv:VW)(ρ:Rho)(t_4 x_9:Addr)(f_10:Int)(w:World):(z3e_k0d Pn) t_4 x_9 f_10 (fun r0_0 r0_1 w'=>Kv (Value.agg #[(Value.int .i64 r0_0),(Value.int .i64 r0_1)]) w') w=q1l Tryz.prog (z3e_E Pn) 62 ((z3e_O Pn) Kv) 0 (ρ) [(Value.pointer (some t_4)),(Value.pointer (some x_9)),(Value.int .i64 f_10)] w:=by kernel_rfl
theorem z3e_q0 (Pn:List PanicEntry->World->Prop)(Kv:VW)(ρ:Rho)(vs:List Value)(w:World):q2s ((z3e_O Pn) Kv) 0 ρ vs w=(z3e_P0 Pn) Kv ρ vs w:=by kernel_rfl
theorem z3e_h0 (Pn:List PanicEntry->World->Prop)(Kv:VW):q0e Tryz.prog (z3e_E Pn) 62 ((z3e_O Pn) Kv) 0:=q0q (.inl (by kernel_rfl)) (fun ρ vs w h=>by
  rw[(z3e_q0 Pn)] at h
  unfold z3e_P0 at h
  split at h
  · rw[← (z3e_e0 Pn)]; exact h.out
  · exact h.elim)
theorem z3e_n (Pn:List PanicEntry->World->Prop)(Kv:VW):obAt ((z3e_O Pn) Kv) 1=none:=by kernel_rfl
theorem z3e_h (Pn:List PanicEntry->World->Prop)(Kv:VW):∀ k,q0e Tryz.prog (z3e_E Pn) 62 ((z3e_O Pn) Kv) k:=fun k=>match k with
  | 0=>(z3e_h0 Pn) Kv
  | k+1=>q1a ((z3e_n Pn) Kv) (Nat.le_add_left _ _)
theorem z3e_mk (Pn:List PanicEntry->World->Prop)(e_0_0:ByteArray)(e_0_1 e_0_2:Int)(e_0_3:ByteArray)(e_0_4p:Option Addr)(e_0_4l e_0_4c:Nat)(values_1p:Option Addr)(values_1l values_1c:Nat){K:Int->Int->World->Prop}{w:World}(h:(z3e_sd Pn) e_0_0 e_0_1 e_0_2 e_0_3 ⟨e_0_4p,e_0_4l,e_0_4c⟩ ⟨values_1p,values_1l,values_1c⟩ K w):(z3e_sh Pn) e_0_0 e_0_1 e_0_2 e_0_3 ⟨e_0_4p,e_0_4l,e_0_4c⟩ ⟨values_1p,values_1l,values_1c⟩ K w:=by
  have e:(fun r0_0 r0_1 w'=>(fun v w'=>∃ r0_0:Int,∃ r0_1:Int,v=(Value.agg #[(Value.int .i64 r0_0),(Value.int .i64 r0_1)])/\K r0_0 r0_1 w') (Value.agg #[(Value.int .i64 r0_0),(Value.int .i64 r0_1)]) w')=K:=by
    funext r0_0 r0_1 w'
    apply propext
    constructor
    · rintro⟨r0_0',r0_1',hv,hk⟩
      cases hv
      exact hk
    · intro hk
      exact⟨_,_,rfl,hk⟩
  have h':(z3e_sd Pn) e_0_0 e_0_1 e_0_2 e_0_3 ⟨e_0_4p,e_0_4l,e_0_4c⟩ ⟨values_1p,values_1l,values_1c⟩ (fun r0_0 r0_1 w'=>(fun v w'=>∃ r0_0:Int,∃ r0_1:Int,v=(Value.agg #[(Value.int .i64 r0_0),(Value.int .i64 r0_1)])/\K r0_0 r0_1 w') (Value.agg #[(Value.int .i64 r0_0),(Value.int .i64 r0_1)]) w') w:=by rw[e]; exact h
  rw[(z3e_e Pn) (fun v w'=>∃ r0_0:Int,∃ r0_1:Int,v=(Value.agg #[(Value.int .i64 r0_0),(Value.int .i64 r0_1)])/\K r0_0 r0_1 w')] at h'
  refine⟨(qc9 (Γ:=(z3e_E Pn)) progMixed (.mk2 (hf:=rfl) ⟨.inl z05_ok,.inl z42_ok,.inl z3p_ok,.inl z0i_ok,trivial⟩ rfl (z3e_okr Pn)) Tryz.func88 (code:=(z3e_C Pn)) (by kernel_rfl) ((z3e_A Pn) (fun v w'=>∃ r0_0:Int,∃ r0_1:Int,v=(Value.agg #[(Value.int .i64 r0_0),(Value.int .i64 r0_1)])/\K r0_0 r0_1 w')) rfl (fun v w'=>∃ r0_0:Int,∃ r0_1:Int,v=(Value.agg #[(Value.int .i64 r0_0),(Value.int .i64 r0_1)])/\K r0_0 r0_1 w') (q15 ((z3e_h Pn) (fun v w'=>∃ r0_0:Int,∃ r0_1:Int,v=(Value.agg #[(Value.int .i64 r0_0),(Value.int .i64 r0_1)])/\K r0_0 r0_1 w'))) (Nat.le_of_ble_eq_true (by kernel_rfl)) h').mono fun e w' he=>?_⟩
  rcases he with⟨v,rfl,_,_,rfl,hk⟩ | he
  · exact .inl ⟨_,_,rfl,hk⟩
  · exact .inr he
