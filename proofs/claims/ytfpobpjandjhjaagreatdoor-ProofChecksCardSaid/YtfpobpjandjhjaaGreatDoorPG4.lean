/- The bodies' formulas, by program. -/
import Derived.Test.YtfpobpjandjhjaaGreatDoorPG3
set_option maxRecDepth 20000
namespace Go.Proofs.YtfpobpjandjhjaaGreatDoor
open Go Pw
structure z0v_sh (K:Pw.T5)(w:World):Prop where
 out:let w1:=w.alloc (.cells #[vN,vN,vN,(vI 0),(vI 0)] 28)
  let w2:=w1.alloc (.cells #[(vI 1)] 3)
  let w3:=w2.alloc (.cells #[(vI 1),(vI 5),(vI 7),(vI 3),(vI 1),(vI 6),(vI 9),(vI 4)] 57)
  stN w3 (hA w 0) [(.slice (some (hA w1 0)) 1 1),(.slice (some (hA w2 0)) 2 2),vN,(vI 0),(vI 8)] fun w4=>lS w4 (hA w 0) fun x5=>lS w4 (hA w 1) fun x6=>lS w4 (hA w 2) fun x7=>lI w4 (hA w 3) fun x8=>lI w4 (hA w 4) fun x9=>K x5 x6 x7 x8 x9 w4
noncomputable def z0v_S:=sp [] [.g 5,tL,tL,tL,tI,tI] z0v_sh
theorem z0v_ok:okP 21 z0v_S:=okR (x:=fun _=>qr 1 (qr 6 ql)) (Γ:=[]) trivial Tryz.call21 Tryz.func21 (fun _=>hEnd)
structure z15_k0 (p1:Addr)(p3:Int)(p4:Bool)(p5:Int)(p6:Bool)(p8 p9 p10:Addr)(K:Pw.T0)(w:World):Prop where
 out:wrOk w (p9.add 1)/\
  (let w131:=w.setCell (p9.add 1) (vI 4)
  wrOk w131 (p9.add 2)/\
  (let w132:=w131.setCell (p9.add 2) (vI 4)
  lS w132 (p10.add 3) fun x133=>(0<=(0:Int)/\(0:Int)<=3/\(3:Int)<=(x133.c:Nat))/\wrOk w132 (p10.add 3)/\
  (let w134:=w132.setCell (p10.add 3) (.slice (subP x133.p 0 x133.c 4) (3-0) (x133.c-0))
  let w135:=w134.alloc (.cells #[(vI 0)] 3)
  let w136:=w135.alloc (.cells #[(vI 0),(vI 1),(vI 2),vN] 55)
  z3f_sh (Sl.mk (some (hA w134 0)) 1 1) 3 3 (Sl.mk (some (hA w135 0)) 1 1) (fun r138 w137=>cnd p4
  (cnd p6
  (cnd (p3 == 27)
  (cnd (p5 == 26)
  (lP w137 p1 fun x139 x140 x141 x142 x143=>lS w137 p8 fun x144=>lI w137 (p8.add 1) fun x145=>lI w137 (p8.add 2) fun x146=>lS w137 (p8.add 3) fun x147=>z3s_sh x139 x140 x141 x142 x143 x144 x145 x146 x147 (fun r149 w148=>cnd (r149 == 0)
  (lP w148 p1 fun x150 x151 x152 x153 x154=>lS w148 p9 fun x155=>lI w148 (p9.add 1) fun x156=>lI w148 (p9.add 2) fun x157=>lS w148 (p9.add 3) fun x158=>z3s_sh x150 x151 x152 x153 x154 x155 x156 x157 x158 (fun r160 w159=>cnd (r160 == 41)
  (lP w159 p1 fun x161 x162 x163 x164 x165=>lS w159 p10 fun x166=>lI w159 (p10.add 1) fun x167=>lI w159 (p10.add 2) fun x168=>lS w159 (p10.add 3) fun x169=>z3s_sh x161 x162 x163 x164 x165 x166 x167 x168 x169 (fun r171 w170=>cnd (r171 == 41)
  (K (decide (r138=(str [116,97,107,101,32,48,10,112,111,105,110,116,115,32,51,32,51,10,110,111,100,101,32,48,32,49,47,50,10]))) w170)
  (K false w170)) w159)
  (K false w159)) w148)
  (K false w148)) w137)
  (K false w137))
  (K false w137))
  (K false w137))
  (K false w137)) w136)))
def z15_sd (K:Pw.T0)(w:World):Prop :=
 z0v_sh (fun r2_0 r2_1 r2_2 r2_3 r2_4 w1=>let w3:=w1.alloc (.cells #[vN,vN,vN,(vI 0),(vI 0)] 28)
 stN w3 (hA w1 0) [(vS r2_0),(vS r2_1),(vS r2_2),(vI r2_3),(vI r2_4)] fun w4=>let w5:=w4.alloc (.cells #[(vI 0),(vI 0)] 31)
 wrOk w5 (hA w4 0)/\
 (let w6:=w5.setCell (hA w4 0) (vI 0)
 wrOk w6 (hA w4 1)/\
 (let w7:=w6.setCell (hA w4 1) (vI 1)
 lS w7 (hA w1 0) fun x8=>lS w7 (hA w1 1) fun x9=>lS w7 (hA w1 2) fun x10=>lI w7 (hA w1 3) fun x11=>lI w7 (hA w1 4) fun x12=>lI w7 (hA w4 0) fun x13=>lI w7 (hA w4 1) fun x14=>z3r_sh x8 x9 x10 x11 x12 (Sl.mk none 0 0) x13 x14 (fun r16 r17 w15=>lS w15 (hA w1 0) fun x18=>lS w15 (hA w1 1) fun x19=>lS w15 (hA w1 2) fun x20=>lI w15 (hA w1 3) fun x21=>lI w15 (hA w1 4) fun x22=>z3r_sh x18 x19 x20 x21 x22 (Sl.mk none 0 0) 1 1 (fun r24 r25 w23=>lI w23 (hA w4 0) fun x26=>∃ x27:Int,w23.cell? (hA w4 1)=some (vI x27)/\let w28:=w23.alloc (.cells #[(vI 0),(vI 0),(vI 0),vN] 55)
 stN w28 (hA w23 0) [(vI 0),(vI x26),(vI x27),vN] fun w29=>let w30:=w29.alloc (.cells #[(vI 0)] 3)
 let w31:=w30.alloc (.cells #[(vI 1),(vI 2),(vI 3)] 3)
 lI w31 (hA w23 0) fun x32=>lI w31 (hA w23 1) fun x33=>lI w31 (hA w23 2) fun x34=>lS w31 (hA w23 3) fun x35=>lI w31 (hA w23 0) fun x36=>lI w31 (hA w23 1) fun x37=>lI w31 (hA w23 2) fun x38=>lS w31 (hA w23 3) fun x39=>lI w31 (hA w23 0) fun x40=>lI w31 (hA w23 1) fun x41=>lI w31 (hA w23 2) fun x42=>∃ x43:Sl,w31.cell? (hA w23 3)=some (vS x43)/\let w44:=w31.alloc (.cells #[(vI 0),(vI 0),(vI 0),(.slice (some (hA w30 0)) 3 3),(vI x32),(vI x33),(vI x34),(vS x35),(vI x36),(vI x37),(vI x38),(vS x39),(vI x40),(vI x41),(vI x42),(vS x43)] 55)
 let w45:=w44.alloc (.cells #[vN,(vI 0),(vI 0),vN] 45)
 stN w45 (hA w44 0) [(.slice (some (hA w29 0)) 1 1),(vI 3),(vI 3),(.slice (some (hA w31 0)) 4 4)] fun w46=>let w47:=w46.drew
 ∃ S48:World->Prop,S48 w47/\mS S48 (hA w44 0) fun x49=>mI S48 (hA w44 1) fun x50=>mI S48 (hA w44 2) fun x51=>mS S48 (hA w44 3) fun x52=>mS S48 (hA w44 0) fun x53=>mI S48 (hA w44 1) fun x54=>mI S48 (hA w44 2) fun x55=>mS S48 (hA w44 3) fun x56=>(z28_sh x49 x50 x51 x52 (fun r58_0 r58_1 r58_2 r58_3 w57=>S48 w57/\(z28_sh x53 x54 x55 x56 (fun r60_0 r60_1 r60_2 r60_3 w59=>S48 w59/\(let w61:=w59.alloc (.cells #[vN,(vI 0),(vI 0),vN] 45)
 S48 w61/\let w62:=w61.alloc (.cells #[vN,(vI 0),(vI 0),vN] 45)
 S48 w62/\stN w62 (hA w59 0) [(vS r58_0),(vI r58_1),(vI r58_2),(vS r58_3)] fun w63=>S48 w63/\stN w63 (hA w61 0) [(vS r60_0),(vI r60_1),(vI r60_2),(vS r60_3)] fun w64=>z15_k0 (hA w1 0) r16 r17 r24 r25 (hA w44 0) (hA w59 0) (hA w61 0) K w64)
/\(let w65:=w59.alloc (.cells #[vN,(vI 0),(vI 0),vN] 45)
 S48 w65/\let w66:=w65.alloc (.cells #[vN,(vI 0),(vI 0),vN] 45)
 S48 w66/\stN w66 (hA w65 0) [(vS r58_0),(vI r58_1),(vI r58_2),(vS r58_3)] fun w67=>S48 w67/\stN w67 (hA w59 0) [(vS r60_0),(vI r60_1),(vI r60_2),(vS r60_3)] fun w68=>z15_k0 (hA w1 0) r16 r17 r24 r25 (hA w44 0) (hA w65 0) (hA w59 0) K w68)) w57)
/\(let w69:=w57.alloc (.cells #[vN,(vI 0),(vI 0),vN] 45)
 S48 w69/\(z28_sh x53 x54 x55 x56 (fun r71_0 r71_1 r71_2 r71_3 w70=>S48 w70/\let w72:=w70.alloc (.cells #[vN,(vI 0),(vI 0),vN] 45)
 S48 w72/\stN w72 (hA w57 0) [(vS r58_0),(vI r58_1),(vI r58_2),(vS r58_3)] fun w73=>S48 w73/\stN w73 (hA w70 0) [(vS r71_0),(vI r71_1),(vI r71_2),(vS r71_3)] fun w74=>z15_k0 (hA w1 0) r16 r17 r24 r25 (hA w44 0) (hA w57 0) (hA w70 0) K w74) w69)
/\(let w75:=w69.alloc (.cells #[vN,(vI 0),(vI 0),vN] 45)
 S48 w75/\z28_sh x53 x54 x55 x56 (fun r77_0 r77_1 r77_2 r77_3 w76=>S48 w76/\stN w76 (hA w57 0) [(vS r58_0),(vI r58_1),(vI r58_2),(vS r58_3)] fun w78=>S48 w78/\stN w78 (hA w69 0) [(vS r77_0),(vI r77_1),(vI r77_2),(vS r77_3)] fun w79=>z15_k0 (hA w1 0) r16 r17 r24 r25 (hA w44 0) (hA w57 0) (hA w69 0) K w79) w75))
/\(let w80:=w57.alloc (.cells #[vN,(vI 0),(vI 0),vN] 45)
 S48 w80/\(z28_sh x53 x54 x55 x56 (fun r82_0 r82_1 r82_2 r82_3 w81=>S48 w81/\let w83:=w81.alloc (.cells #[vN,(vI 0),(vI 0),vN] 45)
 S48 w83/\stN w83 (hA w81 0) [(vS r58_0),(vI r58_1),(vI r58_2),(vS r58_3)] fun w84=>S48 w84/\stN w84 (hA w57 0) [(vS r82_0),(vI r82_1),(vI r82_2),(vS r82_3)] fun w85=>z15_k0 (hA w1 0) r16 r17 r24 r25 (hA w44 0) (hA w81 0) (hA w57 0) K w85) w80)
/\(let w86:=w80.alloc (.cells #[vN,(vI 0),(vI 0),vN] 45)
 S48 w86/\z28_sh x53 x54 x55 x56 (fun r88_0 r88_1 r88_2 r88_3 w87=>S48 w87/\stN w87 (hA w80 0) [(vS r58_0),(vI r58_1),(vI r58_2),(vS r58_3)] fun w89=>S48 w89/\stN w89 (hA w57 0) [(vS r88_0),(vI r88_1),(vI r88_2),(vS r88_3)] fun w90=>z15_k0 (hA w1 0) r16 r17 r24 r25 (hA w44 0) (hA w80 0) (hA w57 0) K w90) w86))) w47)
/\(let w91:=w47.alloc (.cells #[vN,(vI 0),(vI 0),vN] 45)
 S48 w91/\(z28_sh x49 x50 x51 x52 (fun r93_0 r93_1 r93_2 r93_3 w92=>S48 w92/\(z28_sh x53 x54 x55 x56 (fun r95_0 r95_1 r95_2 r95_3 w94=>S48 w94/\let w96:=w94.alloc (.cells #[vN,(vI 0),(vI 0),vN] 45)
 S48 w96/\stN w96 (hA w47 0) [(vS r93_0),(vI r93_1),(vI r93_2),(vS r93_3)] fun w97=>S48 w97/\stN w97 (hA w94 0) [(vS r95_0),(vI r95_1),(vI r95_2),(vS r95_3)] fun w98=>z15_k0 (hA w1 0) r16 r17 r24 r25 (hA w44 0) (hA w47 0) (hA w94 0) K w98) w92)
/\(let w99:=w92.alloc (.cells #[vN,(vI 0),(vI 0),vN] 45)
 S48 w99/\z28_sh x53 x54 x55 x56 (fun r101_0 r101_1 r101_2 r101_3 w100=>S48 w100/\stN w100 (hA w47 0) [(vS r93_0),(vI r93_1),(vI r93_2),(vS r93_3)] fun w102=>S48 w102/\stN w102 (hA w92 0) [(vS r101_0),(vI r101_1),(vI r101_2),(vS r101_3)] fun w103=>z15_k0 (hA w1 0) r16 r17 r24 r25 (hA w44 0) (hA w47 0) (hA w92 0) K w103) w99)) w91)
/\(let w104:=w91.alloc (.cells #[vN,(vI 0),(vI 0),vN] 45)
 S48 w104/\z28_sh x49 x50 x51 x52 (fun r106_0 r106_1 r106_2 r106_3 w105=>S48 w105/\z28_sh x53 x54 x55 x56 (fun r108_0 r108_1 r108_2 r108_3 w107=>S48 w107/\stN w107 (hA w47 0) [(vS r106_0),(vI r106_1),(vI r106_2),(vS r106_3)] fun w109=>S48 w109/\stN w109 (hA w91 0) [(vS r108_0),(vI r108_1),(vI r108_2),(vS r108_3)] fun w110=>z15_k0 (hA w1 0) r16 r17 r24 r25 (hA w44 0) (hA w47 0) (hA w91 0) K w110) w105) w104))
/\(let w111:=w47.alloc (.cells #[vN,(vI 0),(vI 0),vN] 45)
 S48 w111/\(z28_sh x49 x50 x51 x52 (fun r113_0 r113_1 r113_2 r113_3 w112=>S48 w112/\(z28_sh x53 x54 x55 x56 (fun r115_0 r115_1 r115_2 r115_3 w114=>S48 w114/\let w116:=w114.alloc (.cells #[vN,(vI 0),(vI 0),vN] 45)
 S48 w116/\stN w116 (hA w114 0) [(vS r113_0),(vI r113_1),(vI r113_2),(vS r113_3)] fun w117=>S48 w117/\stN w117 (hA w47 0) [(vS r115_0),(vI r115_1),(vI r115_2),(vS r115_3)] fun w118=>z15_k0 (hA w1 0) r16 r17 r24 r25 (hA w44 0) (hA w114 0) (hA w47 0) K w118) w112)
/\(let w119:=w112.alloc (.cells #[vN,(vI 0),(vI 0),vN] 45)
 S48 w119/\z28_sh x53 x54 x55 x56 (fun r121_0 r121_1 r121_2 r121_3 w120=>S48 w120/\stN w120 (hA w112 0) [(vS r113_0),(vI r113_1),(vI r113_2),(vS r113_3)] fun w122=>S48 w122/\stN w122 (hA w47 0) [(vS r121_0),(vI r121_1),(vI r121_2),(vS r121_3)] fun w123=>z15_k0 (hA w1 0) r16 r17 r24 r25 (hA w44 0) (hA w112 0) (hA w47 0) K w123) w119)) w111)
/\(let w124:=w111.alloc (.cells #[vN,(vI 0),(vI 0),vN] 45)
 S48 w124/\z28_sh x49 x50 x51 x52 (fun r126_0 r126_1 r126_2 r126_3 w125=>S48 w125/\z28_sh x53 x54 x55 x56 (fun r128_0 r128_1 r128_2 r128_3 w127=>S48 w127/\stN w127 (hA w111 0) [(vS r126_0),(vI r126_1),(vI r126_2),(vS r126_3)] fun w129=>S48 w129/\stN w129 (hA w47 0) [(vS r128_0),(vI r128_1),(vI r128_2),(vS r128_3)] fun w130=>z15_k0 (hA w1 0) r16 r17 r24 r25 (hA w44 0) (hA w111 0) (hA w47 0) K w130) w125) w124))) w15) w7))) w
structure z15_sh (K:Pw.T0)(w:World):Prop where
 out:z15_sd K w
def z15_L0 (Kv:VW):Cur [tQ,tI,tB,tI,tB,tQ,tQ,tQ] WP:=fun p1 p3 p4 p5 p6 p8 p9 p10=>z15_k0 p1 p3 p4 p5 p6 p8 p9 p10 (kk [tB] Kv)
noncomputable def z15_S:=sp [] [tB] z15_sh
theorem z15_ok:q3e Tryz.prog 10 z15_S:=okS (x:=fun Kv=>qr 1 (qr 3 (qr 3 (qr 8 (qr 8 (qr 4 (qr 10 (qs (A.drw (dp [0,2] (DA.thr 1 (DA.thr 3 (DA.two 4 (DA.eff 5 (DA.eff 6 (DA.eff 7 DA.done))) 5 (DA.eff 4 (DA.eff 6 (DA.eff 7 DA.done)))) 4 (DA.two 3 (DA.eff 5 (DA.eff 6 (DA.eff 7 DA.done))) 5 (DA.eff 3 (DA.eff 6 (DA.eff 7 DA.done)))) 5 (DA.two 3 (DA.eff 4 (DA.eff 6 (DA.eff 7 DA.done))) 4 (DA.eff 3 (DA.eff 6 (DA.eff 7 DA.done))))) 4 (DA.two 1 (DA.two 3 (DA.eff 5 (DA.eff 6 (DA.eff 7 DA.done))) 5 (DA.eff 3 (DA.eff 6 (DA.eff 7 DA.done)))) 5 (DA.eff 1 (DA.eff 3 (DA.eff 6 (DA.eff 7 DA.done))))) 5 (DA.two 1 (DA.two 3 (DA.eff 4 (DA.eff 6 (DA.eff 7 DA.done))) 4 (DA.eff 3 (DA.eff 6 (DA.eff 7 DA.done)))) 4 (DA.eff 1 (DA.eff 3 (DA.eff 6 (DA.eff 7 DA.done)))))))) (A.cut [1,3,4,5,6,8,9,10] (uR0 [tQ,tI,tB,tI,tB,tQ,tQ,tQ] (z15_L0 Kv)) (qr 4 (qr 5 (qr 7 (qs (A.reg (qn 2 (RA.spl 53 (qn 3 (RA.spl 56 (qn 4 (RA.spl 60 (qn 4 (RA.spl 64 (qn 6 (RA.spl 70 (qn 6 (RA.spl 76 (qn 6 (RA.spl 82 (qn 4 RA.done) (qk 2 (qn 2 RA.done)))) (qk 4 (qn 2 (qk 2 (qn 2 RA.done)))))) (qk 4 (qn 2 (qk 4 (qn 2 (qk 2 (qn 2 RA.done)))))))) (qk 4 (qn 2 (qk 4 (qn 2 (qk 4 (qn 2 (qk 2 (qn 2 RA.done)))))))))) (qk 2 (qn 2 (qk 4 (qn 2 (qk 4 (qn 2 (qk 4 (qn 2 (qk 2 (qn 2 RA.done)))))))))))) (qk 2 (qn 2 (qk 2 (qn 2 (qk 4 (qn 2 (qk 4 (qn 2 (qk 4 (qn 2 (qk 2 (qn 2 RA.done)))))))))))))) (qk 1 (qn 2 (qk 2 (qn 2 (qk 2 (qn 2 (qk 4 (qn 2 (qk 4 (qn 2 (qk 4 (qn 2 (qk 2 (qn 2 RA.done))))))))))))))))) ql))))))))))))) (fun Kv=>z15_sd (kk [tB] Kv)) progMixed (Γ:=[(14,z3r_S),(18,z3s_S),(21,z0v_S),(27,z3f_S),(33,z28_S)]) ⟨.inl z3r_ok,.inl z3s_ok,.inl z0v_ok,.inl z3f_ok,.inl z28_ok,trivial⟩ Tryz.call10 Tryz.func10 (fun Kv=>q07 (hK0 (F:=z15_L0 Kv)) <| hEnd)
def z07_b1 (p5:Addr)(p7:Bool)(p9 p11 p13:Addr)(p33:Sl)(p34 p35:Int)(p45:Sl)(p46 p47:Int)(N1:Addr->Bool->Addr->Addr->Addr->Sl->Int->Int->Sl->Int->Int->World->Prop)(N0:Pw.T20)(K:Pw.T0)(w:World):Prop :=
 cnd (decide (p47<p46))
 (nz p45.p fun a78=>(0<=p47/\p47<(p45.l:Nat))/\lS w (a78.add (p47.toNat*4)) fun x79=>∃ x80:Int,w.cell? ((a78.add (p47.toNat*4)).add 1)=some (vI x80)/\∃ x81:Int,w.cell? ((a78.add (p47.toNat*4)).add 2)=some (vI x81)/\∃ x82:Sl,w.cell? ((a78.add (p47.toNat*4)).add 3)=some (vS x82)/\let w83:=w.alloc (.cells #[vN,(vI 0),(vI 0),vN] 45)
 stN w83 (hA w 0) [(vS x79),(vI x80),(vI x81),(vS x82)] fun w84=>lP w84 p13 fun x85 x86 x87 x88 x89=>lS w84 (hA w 0) fun x90=>lI w84 (hA w 1) fun x91=>lI w84 (hA w 2) fun x92=>lS w84 (hA w 3) fun x93=>z3s_sh x85 x86 x87 x88 x89 x90 x91 x92 x93 (fun r95 w94=>lP w94 p13 fun x96 x97 x98 x99 x100=>lS w94 (hA w 0) fun x101=>lI w94 (hA w 1) fun x102=>lI w94 (hA w 2) fun x103=>lS w94 (hA w 3) fun x104=>z1u_sh x96 x97 x98 x99 x100 x101 x102 x103 x104 (fun r106 w105=>cnd (r95 != r106)
 (K false w105)
 (let w107:=w105.drew
 ∃ S108:World->Prop,S108 w107/\cnd (r95 == 0)
 (mP S108 p13 fun x109 x110 x111 x112 x113=>z0l_sh x109 x110 x111 x112 x113 (fun r115 w114=>S108 w114/\cnd (decide (r115<3000))
 (mS S108 (hA w 0) fun x116=>mP S108 p13 fun x117 x118 x119 x120 x121=>z20_sh x117 x118 x119 x120 x121 (fun r123 w122=>S108 w122/\z21_sh x116 r123 (fun r125 w124=>S108 w124/\cnd (!r125)
 (K false w124)
 (inR .i64 (p47+1)/\N1 p5 p7 p9 p11 p13 p33 p34 p35 p45 p46 (p47+1) w124)) w122) w114)
 (inR .i64 (p47+1)/\N1 p5 p7 p9 p11 p13 p33 p34 p35 p45 p46 (p47+1) w114)) w107)
 (inR .i64 (p47+1)/\N1 p5 p7 p9 p11 p13 p33 p34 p35 p45 p46 (p47+1) w107))) w94) w84)
 (inR .i64 (p35+1)/\N0 p5 p7 p9 p11 p33 p34 (p35+1) w)
structure z07_l1 (p5:Addr)(p7:Bool)(p9 p11 p13:Addr)(p33:Sl)(p34 p35:Int)(p45:Sl)(p46 p47:Int)(N0:Pw.T20)(K:Pw.T0)(w:World):Prop where
 out:∃ (I:Int->World->Prop) (μ:Int->World->Nat),I p47 w/\∀ (p471:Int) (w1:World),I p471 w1 ->
  z07_b1 p5 p7 p9 p11 p13 p33 p34 p35 p45 p46 p471 (fun p5' p7' p9' p11' p13' p33' p34' p35' p45' p46' p47' w'=>((p5'=p5/\p7'=p7/\p9'=p9/\p11'=p11/\p13'=p13/\p33'=p33/\p34'=p34/\p35'=p35/\p45'=p45/\p46'=p46/\True)/\I p47' w')/\μ p47' w'<μ p471 w1) N0 K w1
def z07_b0 (p5:Addr)(p7:Bool)(p9 p11:Addr)(p33:Sl)(p34 p35:Int)(N0:Pw.T20)(K:Pw.T0)(w:World):Prop :=
 cnd (decide (p35<p34))
 (nz p33.p fun a49=>(0<=p35/\p35<(p33.l:Nat))/\lS w (a49.add (p35.toNat*5)) fun x50=>∃ x51:Sl,w.cell? ((a49.add (p35.toNat*5)).add 1)=some (vS x51)/\∃ x52:Sl,w.cell? ((a49.add (p35.toNat*5)).add 2)=some (vS x52)/\∃ x53:Int,w.cell? ((a49.add (p35.toNat*5)).add 3)=some (vI x53)/\∃ x54:Int,w.cell? ((a49.add (p35.toNat*5)).add 4)=some (vI x54)/\let w55:=w.alloc (.cells #[vN,vN,vN,(vI 0),(vI 0)] 28)
 stN w55 (hA w 0) [(vS x50),(vS x51),(vS x52),(vI x53),(vI x54)] fun w56=>let w57:=w56.drew
 ∃ S58:World->Prop,S58 w57/\mS S58 p9 fun x59=>mI S58 (p9.add 1) fun x60=>mI S58 (p9.add 2) fun x61=>mS S58 (p9.add 3) fun x62=>mS S58 p11 fun x63=>mI S58 (p11.add 1) fun x64=>mI S58 (p11.add 2) fun x65=>mS S58 (p11.add 3) fun x66=>mS S58 p11 fun x67=>mI S58 (p11.add 1) fun x68=>mI S58 (p11.add 2) fun x69=>mS S58 (p11.add 3) fun x70=>(0<=(1:Int)/\(1:Int)<(2:Nat))/\∃ x71:Int,(∀ w':World,S58 w'->w'.cell? (p5.add ((1:Int).toNat*4))=some (vI x71))/\∃ x72:Int,(∀ w':World,S58 w'->w'.cell? ((p5.add ((1:Int).toNat*4)).add 1)=some (vI x72))/\∃ x73:Int,(∀ w':World,S58 w'->w'.cell? ((p5.add ((1:Int).toNat*4)).add 2)=some (vI x73))/\∃ x74:Int,(∀ w':World,S58 w'->w'.cell? ((p5.add ((1:Int).toNat*4)).add 3)=some (vI x74))/\z27_sh x67 x68 x69 x70 x71 x72 x73 x74 (fun r76_0 r76_1 r76_2 r76_3 w75=>S58 w75/\let w77:=w75.alloc (.cells #[(vS x59),(vI x60),(vI x61),(vS x62),(vS x63),(vI x64),(vI x65),(vS x66),(vS r76_0),(vI r76_1),(vI r76_2),(vS r76_3)] 45)
 S58 w77/\z07_l1 p5 p7 p9 p11 (hA w 0) p33 p34 p35 (Sl.mk (some (hA w75 0)) 3 3) 3 0 N0 K w77) w57)
 (K p7 w)
structure z07_l0 (p5:Addr)(p7:Bool)(p9 p11:Addr)(p33:Sl)(p34 p35:Int)(K:Pw.T0)(w:World):Prop where
 out:∃ (I:Int->World->Prop) (μ:Int->World->Nat),I p35 w/\∀ (p351:Int) (w1:World),I p351 w1 ->
  z07_b0 p5 p7 p9 p11 p33 p34 p351 (fun p5' p7' p9' p11' p33' p34' p35' w'=>((p5'=p5/\p7'=p7/\p9'=p9/\p11'=p11/\p33'=p33/\p34'=p34/\True)/\I p35' w')/\μ p35' w'<μ p351 w1) K w1
structure z07_sh (p0:Sl)(p1_0 p1_1:Int)(p1_2 p2_0:Int)(p2_1 p2_2:Int)(p2_3 p2_4:Int)(p2_5 p2_6 p2_7:Int)(K:Pw.T0)(w:World):Prop where
 out:let w1:=w.alloc (.cells #[(vI p1_0),(vI p1_1),(vI p1_2)] 34)
  let w2:=w1.alloc (.cells #[(vI p2_0),(vI p2_1),(vI p2_2),(vI p2_3),(vI p2_4),(vI p2_5),(vI p2_6),(vI p2_7)] 64)
  z15_sh (fun r4 w3=>z22_sh p0 (fun r6_0 r6_1 r6_2 r6_3 r6_4 w5=>let w7:=w5.alloc (.cells #[vN,vN,vN,(vI 0),(vI 0)] 28)
  stN w7 (hA w5 0) [(vS r6_0),(vS r6_1),(vS r6_2),(vI r6_3),(vI r6_4)] fun w8=>lS w8 (hA w5 0) fun x9=>lS w8 (hA w5 1) fun x10=>lS w8 (hA w5 2) fun x11=>lI w8 (hA w5 3) fun x12=>lI w8 (hA w5 4) fun x13=>z35_sh x9 x10 x11 x12 x13 1048576 (fun r15_0 r15_1 r15_2 r15_3 r16 w14=>let w17:=w14.alloc (.cells #[vN,(vI 0),(vI 0),vN] 45)
  stN w17 (hA w14 0) [(vS r15_0),(vI r15_1),(vI r15_2),(vS r15_3)] fun w18=>lS w18 (hA w14 0) fun x19=>lI w18 (hA w14 1) fun x20=>lI w18 (hA w14 2) fun x21=>lS w18 (hA w14 3) fun x22=>(0<=(0:Int)/\(0:Int)<(2:Nat))/\∃ x23:Int,w18.cell? ((hA w1 0).add ((0:Int).toNat*4))=some (vI x23)/\∃ x24:Int,w18.cell? (((hA w1 0).add ((0:Int).toNat*4)).add 1)=some (vI x24)/\∃ x25:Int,w18.cell? (((hA w1 0).add ((0:Int).toNat*4)).add 2)=some (vI x25)/\∃ x26:Int,w18.cell? (((hA w1 0).add ((0:Int).toNat*4)).add 3)=some (vI x26)/\z27_sh x19 x20 x21 x22 x23 x24 x25 x26 (fun r28_0 r28_1 r28_2 r28_3 w27=>let w29:=w27.alloc (.cells #[vN,(vI 0),(vI 0),vN] 45)
  stN w29 (hA w27 0) [(vS r28_0),(vI r28_1),(vI r28_2),(vS r28_3)] fun w30=>let w31:=w30.drew
  ∃ S32:World->Prop,S32 w31/\mS S32 (hA w5 0) fun x33=>mS S32 (hA w5 1) fun x34=>mS S32 (hA w5 2) fun x35=>mI S32 (hA w5 3) fun x36=>mI S32 (hA w5 4) fun x37=>mS S32 (hA w5 0) fun x38=>mS S32 (hA w5 1) fun x39=>mS S32 (hA w5 2) fun x40=>mI S32 (hA w5 3) fun x41=>mI S32 (hA w5 4) fun x42=>mI S32 (hA w 0) fun x43=>mI S32 (hA w 1) fun x44=>mI S32 (hA w 2) fun x45=>z0z_sh x38 x39 x40 x41 x42 x43 x44 x45 (fun r47_0 r47_1 r47_2 r47_3 r47_4 w46=>S32 w46/\let w48:=w46.alloc (.cells #[(vS x33),(vS x34),(vS x35),(vI x36),(vI x37),(vS r47_0),(vS r47_1),(vS r47_2),(vI r47_3),(vI r47_4)] 28)
  S32 w48/\z07_l0 (hA w1 0) r4 (hA w14 0) (hA w27 0) (Sl.mk (some (hA w46 0)) 2 2) 2 0 K w48) w31) w18) w8) w3) w2
def z07_L0 (Kv:VW):Cur [tQ,tB,tQ,tQ,tL,tI,tI] WP:=fun p5 p7 p9 p11 p33 p34 p35=>z07_l0 p5 p7 p9 p11 p33 p34 p35 (kk [tB] Kv)
def z07_L1 (Kv:VW):Cur [tQ,tB,tQ,tQ,tL,tI,tI] WP->Cur [tQ,tB,tQ,tQ,tQ,tL,tI,tI,tL,tI,tI] WP:=fun N0 p5 p7 p9 p11 p13 p33 p34 p35 p45 p46 p47=>z07_l1 p5 p7 p9 p11 p13 p33 p34 p35 p45 p46 p47 N0 (kk [tB] Kv)
noncomputable def z07_S:=sp [tL,.g 3,tI,tI,tI,.g 8,tI,tI,tI,tI,tI,tI,tI,tI] [tB] z07_sh
theorem z07_ok:okP 7 z07_S:=okR (x:=fun Kv=>qr 3 (qr 2 (qr 4 (qr 8 (qr 6 (qs (qs (A.drw (dp [0,1,2,6] (DA.eff 3 (DA.eff 4 (DA.pur 5 DA.done))))) (qb (A.loop [5,7,9,11,33,34,35] (uR0 [tQ,tB,tQ,tQ,tL,tI,tI] (z07_L0 Kv)) (qr 1 (qs (qc ql ql) (qs (qb (qr 4 (qs (A.drw (dp [0,1,2,3,4,8] (DA.eff 5 (DA.eff 6 (DA.pur 7 DA.done))))) (qb (A.loop [5,7,9,11,13,33,34,35,45,46,47] (uR1 [tQ,tB,tQ,tQ,tL,tI,tI] [tQ,tB,tQ,tQ,tQ,tL,tI,tI,tL,tI,tI] (z07_L1 Kv)) (qr 1 (qs (qc ql ql) (qs (qb (qr 4 (qr 4 (qs (qr 5 (qc (qr 1 ql) ql)) (qs (A.drw (dp [0,1,2] (DA.spl 61 (DA.pur 3 (DA.eff 4 (dp [5,6,7] (DA.spl 66 (dp [8,9,10] (DA.eff 11 (DA.eff 12 (dp [13,14] DA.done)))) (DA.skp 8 (DA.skp 9 (DA.skp 10 (DA.skp 11 (DA.skp 12 (DA.skp 13 (DA.pur 14 DA.done))))))))))) (DA.skp 3 (DA.skp 4 (DA.skp 5 (dp [6,7] (DA.skp 8 (DA.skp 9 (DA.skp 10 (DA.skp 11 (DA.skp 12 (DA.skp 13 (DA.pur 14 DA.done)))))))))))))) (qc (qr 1 ql) ql)))))) (qe 2))))))))) (qe 2))))))) (qr 2 ql))))))) (Γ:=[(10,z15_S),(11,z22_S),(13,z0z_S),(18,z3s_S),(19,z1u_S),(20,z0l_S),(23,z20_S),(24,z21_S),(25,z35_S),(26,z27_S)]) ⟨.inl z15_ok,.inl z22_ok,.inl z0z_ok,.inl z3s_ok,.inl z1u_ok,.inl z0l_ok,.inl z20_ok,.inl z21_ok,.inl z35_ok,.inl z27_ok,trivial⟩ Tryz.call7 Tryz.func7 (fun Kv=>q07 (q0a (L:=z07_L0 Kv) (fun N0 p5 p7 p9 p11 p33 p34 p35=>z07_b0 p5 p7 p9 p11 p33 p34 p35 N0 (kk [tB] Kv)) (fun⟨a0,a1,a2,a3,a4,a5,_,_⟩ _ h=>let ⟨I,μ,h0,hr⟩:=h.out; ⟨fun b0 b1 b2 b3 b4 b5 b6 w=>(b0=a0/\b1=a1/\b2=a2/\b3=a3/\b4=a4/\b5=a5/\True)/\I b6 w,fun _ _ _ _ _ _ b6 w=>μ b6 w,⟨⟨rfl,rfl,rfl,rfl,rfl,rfl,trivial⟩,h0⟩,fun⟨_,_,_,_,_,_,_,_⟩ _ ⟨⟨e0,e1,e2,e3,e4,e5,_⟩,hI⟩=>by cases e0; cases e1; cases e2; cases e3; cases e4; cases e5; exact hr _ _ hI⟩)) <| q07 (q3q (L:=z07_L1 Kv) (fun N0 N1 p5 p7 p9 p11 p13 p33 p34 p35 p45 p46 p47=>z07_b1 p5 p7 p9 p11 p13 p33 p34 p35 p45 p46 p47 N1 N0 (kk [tB] Kv)) (fun _ ⟨a0,a1,a2,a3,a4,a5,a6,a7,a8,a9,_,_⟩ _ h=>let ⟨I,μ,h0,hr⟩:=h.out; ⟨fun b0 b1 b2 b3 b4 b5 b6 b7 b8 b9 b10 w=>(b0=a0/\b1=a1/\b2=a2/\b3=a3/\b4=a4/\b5=a5/\b6=a6/\b7=a7/\b8=a8/\b9=a9/\True)/\I b10 w,fun _ _ _ _ _ _ _ _ _ _ b10 w=>μ b10 w,⟨⟨rfl,rfl,rfl,rfl,rfl,rfl,rfl,rfl,rfl,rfl,trivial⟩,h0⟩,fun⟨_,_,_,_,_,_,_,_,_,_,_,_⟩ _ ⟨⟨e0,e1,e2,e3,e4,e5,e6,e7,e8,e9,_⟩,hI⟩=>by cases e0; cases e1; cases e2; cases e3; cases e4; cases e5; cases e6; cases e7; cases e8; cases e9; exact hr _ _ hI⟩)) <| hEnd)
end Go.Proofs.YtfpobpjandjhjaaGreatDoor
