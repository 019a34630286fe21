/- The bodies' formulas, by program. -/
import Derived.Test.YtmfkimnmklnppaaGreatDoorGQB
import Derived.SliceStrings
set_option maxRecDepth 20000
namespace Go.Proofs.YtmfkimnmklnppaaGreatDoor
open Go Pw Tryz
attribute [local irreducible] cnd nz stN stQ Lt inR wrOk apS T43.ld T43.lds World.cell? World.drew World.setCell World.alloc Addr.add str LE.le LT.lt okk neZ nzm nif Mp Ms Ml mkS stbS btsS usS cpS cpT clS apZ apT Ext ExtL ninL q0y Instr.index Instr.lookup Instr.mapUpdate Sem.run rfF World.putObj
noncomputable def z26_F:FD prog:=⟨f4,[kn z44_ok,kn z4v_ok],aN 0x22c048db3b8181011a011f082c05014c3cb5ebb3014c26cbbb3b2919111,[],[tB],[[tQ]]⟩
structure z26_k0(a:Addr)(K:Pw.Y0)(w):Prop where out:fq (gV z26_F 0 [] [] K a w)
structure z26_sh(K:Pw.Y0)(w):Prop where out:fq (fV z26_F [v0 0 z26_k0] K w)
theorem z26_ok:okP z26_F 4 z26_sh:=okN (fun K=>[c0 0 z26_k0 K]) call4 func4 fun _=>q03 hC0<|hEnd
noncomputable def z07_F:FD prog:=⟨f22,[kn z30_ok],aN 0x2b21b10ba98765432101b37281011f09876543210a382211,[tP,tI],[tI],[]⟩
structure z07_sh(a:Option Addr)(b:Int)(K:Pw.Y1)(w):Prop where out:fq (fV z07_F [] K a b w)
theorem z07_ok:okP z07_F 22 z07_sh:=okN (fun _=>[]) call22 func22 fun _=>hEnd
noncomputable def z32_F:FD prog:=⟨f23,[kn z21_ok],aN 0xe9111,[tI,tI],[.g 5,tS,tI,tI,tS,tL],[]⟩
structure z32_sh(a b:Int)(K:ByteArray->Int->Int->ByteArray->Sl->World->Prop)(w):Prop where out:fq (fV z32_F [] K a b w)
theorem z32_ok:okP z32_F 23 z32_sh:=okN (fun _=>[]) call23 func23 fun _=>hEnd
noncomputable def z3d_F:FD prog:=⟨f24,[],aN 0x61e,[tS,.g 5,tS,tI,tI,tS,tL,.g 5,tS,tI,tI,tS,tL],[.g 5,tS,tI,tI,tS,tL],[]⟩
structure z3d_sh(a b:ByteArray)(c d:Int)(e:ByteArray)(f:Sl)(g:ByteArray)(i j:Int)(k:ByteArray)(l:Sl)(K:ByteArray->Int->Int->ByteArray->Sl->World->Prop)(w):Prop where out:fq (fV z3d_F [] K a b c d e f g i j k l w)
theorem z3d_ok:okP z3d_F 24 z3d_sh:=okN (fun _=>[]) call24 func24 fun _=>hEnd
noncomputable def z24_F:FD prog:=⟨f7,[kn z07_ok,kn z32_ok,kn z3d_ok],aN 0xd610918763351432105372091876335143210537209187633514321053726154323a45f013c0457fb3b23506b15b24b73b72b8733471b20b06b15b24b73b72b1b230b787234a606b15b24b73b72b1b230b78723674aa953210737f013c043ffb4b8141b0ba9854329a65653d232b1b0ba985432aa03b11b7877623572217303b11b787762337503b11b7877623573a221a2b03b11b78776235722172b03b11b7877623572b03b11b7872b03b11b72b03b12b71ba8a76235a221a303b11b787762337503b11b7877623573a2b03b11b7877623372b03b11b7872b03b11b72b03b12b71ba8a76233a503b11b7877623572b03b11b7872b03b11b72b03b12b71ba8a76235a3b221b0ba94053727121b0ba9854329a06b14b3b232b10b2a162515b06b14b3b232b10b2a15b06b14b3b232b15b06b5b2e4b3b232b50b2a562551b987432109372e42ce21a985432794112eed00b1a298634e221175404372513504b13b22b1b2e0ba239187654321093742ce20654325941124107165234132104372a14111,[tL],[tR],[[tQ,tQ,tQ,tI,tI],[tQ,tQ,tQ,tI,tL,tI,tI],[tQ,tQ,tQ,tI,tL,tI,tI,tI,tQ],[tQ,tQ,tQ,tI,tL,tI,tI,tI,tQ,tQ],[tQ,tQ,tQ,tI,tL,tI,tI,tI,tQ],[tQ,tQ,tQ]]⟩
structure z24_k4(a b c:Addr)(d:Int)(e:Sl)(f g i:Int)(j:Addr)(N1:Addr->Addr->Addr->Int->Sl->Int->Int->World->Prop)(K:Pw.Y9)(w):Prop where out:fq (gV z24_F 4 [] [nN 1 N1] K a b c d e f g i j w)
structure z24_k3(a b c:Addr)(d:Int)(e:Sl)(f g i:Int)(j k:Addr)(N1:Addr->Addr->Addr->Int->Sl->Int->Int->World->Prop)(K:Pw.Y9)(w):Prop where out:fq (gV z24_F 3 [v1 4 z24_k4 N1] [nN 1 N1] K a b c d e f g i j k w)
structure z24_k2(a b c:Addr)(d:Int)(e:Sl)(f g i:Int)(j:Addr)(N1:Addr->Addr->Addr->Int->Sl->Int->Int->World->Prop)(K:Pw.Y9)(w):Prop where out:fq (gV z24_F 2 [v1 3 z24_k3 N1] [nN 1 N1] K a b c d e f g i j w)
structure z24_k5(a b c:Addr)(K:Pw.Y9)(w):Prop where out:fq (gV z24_F 5 [] [] K a b c w)
def z24_b1(a b c:Addr)(d:Int)(e:Sl)(f g:Int)(N1:Addr->Addr->Addr->Int->Sl->Int->Int->World->Prop)(K:Pw.Y9)(w:World):Prop:=fq (gV z24_F 1 [v1 2 z24_k2 N1,v0 5 z24_k5] [nN 1 N1] K a b c d e f g w)
structure z24_l1(a b c:Addr)(d:Int)(e:Sl)(f g:Int)(K:Pw.Y9)(w):Prop where out:fl (lp0 [tQ,tQ,tQ,tI,tL,tI,tI] [1,1,1,1,1,1,0] z24_b1 K a b c d e f g w)
def z24_b0(a b c:Addr)(d e:Int)(N0:Addr->Addr->Addr->Int->Int->World->Prop)(K:Pw.Y9)(w:World):Prop:=fq (gV z24_F 0 [v0 1 z24_l1] [nN 0 N0] K a b c d e w)
structure z24_l0(a b c:Addr)(d e:Int)(K:Pw.Y9)(w):Prop where out:fl (lp0 [tQ,tQ,tQ,tI,tI] [1,1,1,1,0] z24_b0 K a b c d e w)
structure z24_sh(a:Sl)(K:Pw.Y9)(w):Prop where out:fq (fV z24_F [v0 0 z24_l0] K a w)
set_option maxHeartbeats 4000000 in
theorem z24_ok:okP z24_F 7 z24_sh:=okN (fun K=>[c0 0 z24_l0 K,c0 1 z24_l1 K,c1 1 2 z24_k2 K,c1 1 3 z24_k3 K,c1 1 4 z24_k4 K,c0 5 z24_k5 K]) call7 func7 fun _=>q03 (hL0 [1,1,1,1,0] z24_b0)<|q03 (hL0 [1,1,1,1,1,1,0] z24_b1)<|q03 hC1<|q03 hC1<|q03 hC1<|q03 hC0<|hEnd
noncomputable def z3c_F:FD prog:=⟨f25,[kn z30_ok],aN 0xd352b52a9876327a00b2a19876543210a37f412117142c512187632594112076324a07b15b4b233b16b07b6b2e5b4b233b52b1b0ba98765432103b372d,[tR,tI,tL],[.g 5,tI,tI,tI,tI,tL],[[tL,tQ,tQ,tQ],[tL,tQ,tQ,tQ,tI],[tL,tQ,tQ,tQ,tI,tQ,tI]]⟩
structure z3c_k2(a:Sl)(b c d:Addr)(e:Int)(f:Addr)(g:Int)(N1:Sl->Addr->Addr->Addr->Int->World->Prop)(K:Pw.Y13)(w):Prop where out:fq (gV z3c_F 2 [] [nN 1 N1] K a b c d e f g w)
def z3c_b1(a:Sl)(b c d:Addr)(e:Int)(N1:Sl->Addr->Addr->Addr->Int->World->Prop)(K:Pw.Y13)(w:World):Prop:=fq (gV z3c_F 1 [v1 2 z3c_k2 N1] [nN 1 N1] K a b c d e w)
structure z3c_l1(a:Sl)(b c d:Addr)(e:Int)(K:Pw.Y13)(w):Prop where out:fl (lp0 [tL,tQ,tQ,tQ,tI] [1,1,1,1,0] z3c_b1 K a b c d e w)
structure z3c_k0(a:Sl)(b c d:Addr)(K:Pw.Y13)(w):Prop where out:fq (gV z3c_F 0 [v0 1 z3c_l1] [] K a b c d w)
structure z3c_sh(a:T43)(b:Int)(c:Sl)(K:Pw.Y13)(w):Prop where out:fq (fV z3c_F [v0 0 z3c_k0] K a b c w)
theorem z3c_ok:okP z3c_F 25 z3c_sh:=okN (fun K=>[c0 0 z3c_k0 K,c0 1 z3c_l1 K,c1 1 2 z3c_k2 K]) call25 func25 fun _=>q03 hC0<|q03 (hL0 [1,1,1,1,0] z3c_b1)<|q03 hC1<|hEnd
noncomputable def z0t_F:FD prog:=⟨f8,[kn z3c_ok],aN 0xd355551511765215a00b92ea00ba2e95876543210937242c013c042bb6b20652149411211d,[tR,tL],[tL],[[tL,tQ,tL,tI],[tL,tQ,tL,tI,tQ]]⟩
structure z0t_k1(a:Sl)(b:Addr)(c:Sl)(d:Int)(e:Addr)(N0:Sl->Addr->Sl->Int->World->Prop)(K:Pw.Y4)(w):Prop where out:fq (gV z0t_F 1 [] [nN 0 N0] K a b c d e w)
def z0t_b0(a:Sl)(b:Addr)(c:Sl)(d:Int)(N0:Sl->Addr->Sl->Int->World->Prop)(K:Pw.Y4)(w:World):Prop:=fq (gV z0t_F 0 [v1 1 z0t_k1 N0] [nN 0 N0] K a b c d w)
structure z0t_l0(a:Sl)(b:Addr)(c:Sl)(d:Int)(K:Pw.Y4)(w):Prop where out:fl (lp0 [tL,tQ,tL,tI] [1,1,0,0] z0t_b0 K a b c d w)
structure z0t_sh(a:T43)(b:Sl)(K:Pw.Y4)(w):Prop where out:fq (fV z0t_F [v0 0 z0t_l0] K a b w)
theorem z0t_ok:okP z0t_F 8 z0t_sh:=okN (fun K=>[c0 0 z0t_l0 K,c1 0 1 z0t_k1 K]) call8 func8 fun _=>q03 (hL0 [1,1,0,0] z0t_b0)<|q03 hC1<|hEnd
noncomputable def z25_F:FD prog:=⟨f10,[],aN 0xd2565f013c044bb4b4142c21108763494e21111,[tL],[tL],[[tL,tL,tI,tI]]⟩
def z25_b0(a b:Sl)(c d:Int)(N0:Sl->Sl->Int->Int->World->Prop)(K:Pw.Y4)(w:World):Prop:=fq (gV z25_F 0 [] [nN 0 N0] K a b c d w)
structure z25_l0(a b:Sl)(c d:Int)(K:Pw.Y4)(w):Prop where out:fl (lp0 [tL,tL,tI,tI] [0,1,1,0] z25_b0 K a b c d w)
structure z25_sh(a:Sl)(K:Pw.Y4)(w):Prop where out:fq (fV z25_F [v0 0 z25_l0] K a w)
theorem z25_ok:okP z25_F 10 z25_sh:=okN (fun K=>[c0 0 z25_l0 K]) call10 func10 fun _=>q03 (hL0 [0,1,1,0] z25_b0)<|hEnd
noncomputable def z1p_F:FD prog:=⟨f12,[],aN 0xd2555fee42c2110a9851594e21111,[tL,tI],[tL],[[tI,tL,tL,tI,tI]]⟩
def z1p_b0(a:Int)(b c:Sl)(d e:Int)(N0:Int->Sl->Sl->Int->Int->World->Prop)(K:Pw.Y4)(w:World):Prop:=fq (gV z1p_F 0 [] [nN 0 N0] K a b c d e w)
structure z1p_l0(a:Int)(b c:Sl)(d e:Int)(K:Pw.Y4)(w):Prop where out:fl (lp0 [tI,tL,tL,tI,tI] [1,0,1,1,0] z1p_b0 K a b c d e w)
structure z1p_sh(a:Sl)(b:Int)(K:Pw.Y4)(w):Prop where out:fq (fV z1p_F [v0 0 z1p_l0] K a b w)
theorem z1p_ok:okP z1p_F 12 z1p_sh:=okN (fun K=>[c0 0 z1p_l0 K]) call12 func12 fun _=>q03 (hL0 [1,0,1,1,0] z1p_b0)<|hEnd
noncomputable def z3e_F:FD prog:=⟨f11,[],aN 0x1125011f08765432109382d42c21102b1b10494e2011f51211,[tL,tL],[tB],[[tL,tL,tI,tI]]⟩
def z3e_b0(a b:Sl)(c d:Int)(N0:Sl->Sl->Int->Int->World->Prop)(K:Pw.Y0)(w:World):Prop:=fq (gV z3e_F 0 [] [nN 0 N0] K a b c d w)
structure z3e_l0(a b:Sl)(c d:Int)(K:Pw.Y0)(w):Prop where out:fl (lp0 [tL,tL,tI,tI] [1,1,1,0] z3e_b0 K a b c d w)
structure z3e_sh(a b:Sl)(K:Pw.Y0)(w):Prop where out:fq (fV z3e_F [v0 0 z3e_l0] K a b w)
theorem z3e_ok:okP z3e_F 11 z3e_sh:=okN (fun K=>[c0 0 z3e_l0 K]) call11 func11 fun _=>q03 (hL0 [1,1,1,0] z3e_b0)<|hEnd
noncomputable def z13_F:FD prog:=⟨f3,[kn z26_ok,kn z44_ok,kn z1j_ok,kn z24_ok,kn z0t_ok,kn z6j_ok,kn z25_ok,kn z3e_ok,kn z1p_ok,kn z5d_ok,kn z72_ok],aN 0x24c22c22c024c22c024c0677fb473fb46ffb2ba13fbebdbab876a01b20b19873361a01b20ba2e98733655432106372716125554142c21124af49f48fab6b0b87894e2e011f03b2b231b0b43ea9876537303b22b1b0b4a9876530b439f82103372201b0ba985371654321073720a29403e87653217372610dfe225011f81d42c21110df0cf4b2b0b872894e2e011f06015c02fb3b201b0ba9853716543210737225a5d42c21108d7d0b872694e241011f05014cdcb3b21b1d11,[tL,tL,.f (.i .u8)],[tB],[[.f (.i .u8),tB,tQ,tL,tI,tI],[.f (.i .u8),tB,tQ,tL,tL,tL,tI,tI],[tB,tQ,tL,tI,tI,tL,tI,tI],[tB,tQ,tI,tQ,tQ,tI]]⟩
structure z13_k3(a:Bool)(b:Addr)(c:Int)(d e:Addr)(f:Int)(K:Pw.Y0)(w):Prop where out:fq (gV z13_F 3 [] [] K a b c d e f w)
def z13_b2(a:Bool)(b:Addr)(c:Sl)(d e:Int)(f:Sl)(g i:Int)(N2:Bool->Addr->Sl->Int->Int->Sl->Int->Int->World->Prop)(K:Pw.Y0)(w:World):Prop:=fq (gV z13_F 2 [v0 3 z13_k3] [nN 2 N2] K a b c d e f g i w)
structure z13_l2(a:Bool)(b:Addr)(c:Sl)(d e:Int)(f:Sl)(g i:Int)(K:Pw.Y0)(w):Prop where out:fl (lp0 [tB,tQ,tL,tI,tI,tL,tI,tI] [1,1,1,1,0,1,1,0] z13_b2 K a b c d e f g i w)
def z13_b1(a:Int)(b:Bool)(c:Addr)(d e f:Sl)(g i:Int)(N1:Int->Bool->Addr->Sl->Sl->Sl->Int->Int->World->Prop)(K:Pw.Y0)(w:World):Prop:=fq (gV z13_F 1 [v0 2 z13_l2] [nN 1 N1] K a b c d e f g i w)
structure z13_l1(a:Int)(b:Bool)(c:Addr)(d e f:Sl)(g i:Int)(K:Pw.Y0)(w):Prop where out:fl (lp0 [.f (.i .u8),tB,tQ,tL,tL,tL,tI,tI] [1,1,1,1,1,1,1,0] z13_b1 K a b c d e f g i w)
def z13_b0(a:Int)(b:Bool)(c:Addr)(d:Sl)(e f:Int)(N0:Int->Bool->Addr->Sl->Int->Int->World->Prop)(K:Pw.Y0)(w:World):Prop:=fq (gV z13_F 0 [v0 1 z13_l1] [nN 0 N0] K a b c d e f w)
structure z13_l0(a:Int)(b:Bool)(c:Addr)(d:Sl)(e f:Int)(K:Pw.Y0)(w):Prop where out:fl (lp0 [.f (.i .u8),tB,tQ,tL,tI,tI] [1,1,1,1,1,0] z13_b0 K a b c d e f w)
structure z13_sh(a b:Sl)(c:Int)(K:Pw.Y0)(w):Prop where out:fq (fV z13_F [v0 0 z13_l0] K a b c w)
def z13_S:Pw.Spec:=sp z13_F z13_sh
theorem z13_ok:okP z13_F 3 z13_sh:=okN (fun K=>[c0 0 z13_l0 K,c0 1 z13_l1 K,c0 2 z13_l2 K,c0 3 z13_k3 K]) call3 func3 fun _=>q03 (hL0 [1,1,1,1,1,0] z13_b0)<|q03 (hL0 [1,1,1,1,1,1,1,0] z13_b1)<|q03 (hL0 [1,1,1,1,0,1,1,0] z13_b2)<|q03 hC0<|hEnd
structure z12_sh(a:ByteArray)(b c:Int)(d:ByteArray)(e:Sl)(K:Pw.Y2)(w:World):Prop where out:clF prog 108 [.g 5,tS,tI,tI,tS,tL] [tS] K a b c d e w
theorem z12_okr:q1v prog 108 (sr [.g 5,tS,tI,tI,tS,tL] [tS] z12_sh):=okR call108
noncomputable def z12_F:FD prog:=⟨f108,[kn z12_okr,kn z0p_ok,kn z0s_ok,kn z31_ok,kn z0g_ok],aN 0xab9b238b17b6b235b140ab9b238b17b6b5b33ce84b3b230ab9b238b17b26b5b4b3b44ae82ba964351423140ab9b238b17b6b235b140ab9b238b17b6b5b33ce84b3b230ab9b238b17b26b5b4b3b44ae82ba9643514323fd81b0b872107372eeee6161111a006b5b4b333b19823712b1b0ba65432100b372011af2503d20e3d0413d4d2d,[.g 5,tS,tI,tI,tS,tL],[tS],[[tQ],[tQ]]⟩
structure z12_k0(a:Addr)(K:Pw.Y2)(w):Prop where out:fq (gV z12_F 0 [] [] K a w)
structure z12_k1(a:Addr)(K:Pw.Y2)(w):Prop where out:fq (gV z12_F 1 [] [] K a w)
def z12_sd(a:ByteArray)(b c:Int)(d:ByteArray)(e:Sl)(K:Pw.Y2)(w:World):Prop:=fq (fV z12_F [v0 0 z12_k0,v0 1 z12_k1] K a b c d e w)
theorem z12_mk{a:ByteArray}{b c:Int}{d:ByteArray}{e:Sl}{K:ByteArray->World->Prop}{w:World}(h:z12_sd a b c d e K w):z12_sh a b c d e K w:=⟨mkY z12_F z12_sd (fun K=>[c0 0 z12_k0 K,c0 1 z12_k1 K]) func108 (fun _=>q03 hC0<|q03 hC0<|hEnd) (a,b,c,d,e,()) h⟩
