/- The bodies' formulas, by program. -/
import Derived.Test.YtmfkimnmklnppaaGreatDoorGQA
set_option maxRecDepth 20000
namespace Go.Proofs.YtmfkimnmklnppaaGreatDoor
open Go Pw Tryz
attribute [local irreducible] cnd nz stN stQ Lt inR wrOk apS T43.ld T43.lds World.cell? World.drew World.setCell World.alloc Addr.add str LE.le LT.lt okk neZ nzm nif Mp Ms Ml mkS stbS btsS usS cpS cpT clS apZ apT Ext ExtL ninL q0y Instr.index Instr.lookup Instr.mapUpdate Sem.run rfF World.putObj
noncomputable def z55_F:FD prog:=⟨f134,[],aN 0x1111,[tP],[tB],[]⟩
structure z55_sh(a:Option Addr)(K:Pw.Y0)(w):Prop where out:fq (fV z55_F [] K a w)
theorem z55_ok:okP z55_F 134 z55_sh:=okN (fun _=>[]) call134 func134 fun _=>hEnd
noncomputable def z6p_F:FD prog:=⟨f81,[],aN 0x5c11111,[],[tM],[]⟩
structure z6p_sh(K:Option Nat->World->Prop)(w):Prop where out:fq (fV z6p_F [] K w)
theorem z6p_ok:okP z6p_F 81 z6p_sh:=okN (fun _=>[]) call81 func81 fun _=>hEnd
noncomputable def z39_F:FD prog:=⟨f135,[kn z2o_ok,kn z2n_ok,kn z2p_ok,kn z5x_ok],aN 0xb1a98337165432107370982e72615432106372,[tP],[.u 0],[]⟩
structure z39_sh(a:Option Addr)(K:Pw.Y5)(w):Prop where out:fq (fV z39_F [] K a w)
theorem z39_ok:okP z39_F 135 z39_sh:=okN (fun _=>[]) call135 func135 fun _=>hEnd
noncomputable def z2i_F:FD prog:=⟨f210,[],aN 0x51d,[.g 2,tI,tI,tQ],[tB],[]⟩
structure z2i_sh(a b:Int)(c:Addr)(K:Pw.Y0)(w):Prop where out:fq (fV z2i_F [] K a b c w)
theorem z2i_ok:okP z2i_F 210 z2i_sh:=okN (fun _=>[]) call210 func210 fun _=>hEnd
noncomputable def z3m_F:FD prog:=⟨f209,[kn z05_ok],aN 0xb1d,[tI,tQ],[tB],[]⟩
structure z3m_sh(a:Int)(b:Addr)(K:Pw.Y0)(w):Prop where out:fq (fV z3m_F [] K a b w)
theorem z3m_ok:okP z3m_F 209 z3m_sh:=okN (fun _=>[]) call209 func209 fun _=>hEnd
noncomputable def z38_F:FD prog:=⟨f208,[kn z2o_ok,kn z2n_ok,kn z2p_ok,kn z4d_ok,kn z60_ok],aV [(Value.bool false)] 0xd4106105943210537208203a023c053cb5b710542e321043726111,[tP,tI,tV],[tI],[[tP,tV,tI]]⟩
structure z38_k0(a:Option Addr)(b:Value)(c:Int)(K:Pw.Y1)(w):Prop where out:fq (gV z38_F 0 [] [] K a b c w)
structure z38_sh(a:Option Addr)(b:Int)(c:Value)(K:Pw.Y1)(w):Prop where out:fq (fV z38_F [v0 0 z38_k0] K a b c w)
theorem z38_ok:okP z38_F 208 z38_sh:=okN (fun K=>[c0 0 z38_k0 K]) call208 func208 fun _=>q03 hC0<|hEnd
noncomputable def z4f_F:FD prog:=⟨f211,[kn z3i_ok,kn z2o_ok,kn z2n_ok,kn z2p_ok],aN 0x610a92e82716543210737211,[tP,tL],[tS],[]⟩
structure z4f_sh(a:Option Addr)(b:Sl)(K:Pw.Y2)(w):Prop where out:fq (fV z4f_F [] K a b w)
theorem z4f_ok:okP z4f_F 211 z4f_sh:=okN (fun _=>[]) call211 func211 fun _=>hEnd
noncomputable def z2j_F:FD prog:=⟨f271,[],aN 0x1111,[tI],[tB],[]⟩
structure z2j_sh(a:Int)(K:Pw.Y0)(w):Prop where out:fq (fV z2j_F [] K a w)
theorem z2j_ok:okP z2j_F 271 z2j_sh:=okN (fun _=>[]) call271 func271 fun _=>hEnd
noncomputable def z3n_F:FD prog:=⟨f212,[kn z38_ok],aN 0xe11,[tP],[tI],[]⟩
structure z3n_sh(a:Option Addr)(K:Pw.Y1)(w):Prop where out:fq (fV z3n_F [] K a w)
theorem z3n_ok:okP z3n_F 212 z3n_sh:=okN (fun _=>[]) call212 func212 fun _=>hEnd
noncomputable def z4e_F:FD prog:=⟨f136,[kn z38_ok,kn z4f_ok,kn z3n_ok],aN 0x8b17b6b235b4b2e3b22b11b0ba98765432102b37e4111,[tP],[.u 0],[]⟩
structure z4e_sh(a:Option Addr)(K:Pw.Y5)(w):Prop where out:fq (fV z4e_F [] K a w)
theorem z4e_ok:okP z4e_F 136 z4e_sh:=okN (fun _=>[]) call136 func136 fun _=>hEnd
noncomputable def z56_F:FD prog:=⟨f137,[],aN 0x7111,[tP],[tB],[]⟩
structure z56_sh(a:Option Addr)(K:Pw.Y0)(w):Prop where out:fq (fV z56_F [] K a w)
theorem z56_ok:okP z56_F 137 z56_sh:=okN (fun _=>[]) call137 func137 fun _=>hEnd
noncomputable def z40_F:FD prog:=⟨f213,[kn z2o_ok,kn z2n_ok,kn z5y_ok],aN 0x610982e7261543210637211,[tP],[tS],[]⟩
structure z40_sh(a:Option Addr)(K:Pw.Y2)(w):Prop where out:fq (fV z40_F [] K a w)
theorem z40_ok:okP z40_F 213 z40_sh:=okN (fun _=>[]) call213 func213 fun _=>hEnd
noncomputable def z0m_F:FD prog:=⟨f214,[],aN 0x61d,[.g 5,tS,tI,tI,tI,tB,tQ],[tB],[]⟩
structure z0m_sh(a:ByteArray)(b c d:Int)(e:Bool)(f:Addr)(K:Pw.Y0)(w):Prop where out:fq (fV z0m_F [] K a b c d e f w)
theorem z0m_ok:okP z0m_F 214 z0m_sh:=okN (fun _=>[]) call214 func214 fun _=>hEnd
noncomputable def z1c_F:FD prog:=⟨f138,[kn z00_ok,kn z2o_ok,kn z2n_ok,kn z2p_ok,kn z4f_ok,kn z3n_ok,kn z40_ok],aN 0x5b14b3b232b1b2e0ba98765432101b371202a2541f612810202a25f4124102b11b20b1a98765432100b37251,[tP],[.u 0],[[tP,tQ],[tP,tQ]]⟩
structure z1c_k1(a:Option Addr)(b:Addr)(K:Pw.Y5)(w):Prop where out:fq (gV z1c_F 1 [] [] K a b w)
structure z1c_k0(a:Option Addr)(b:Addr)(K:Pw.Y5)(w):Prop where out:fq (gV z1c_F 0 [v0 1 z1c_k1] [] K a b w)
structure z1c_sh(a:Option Addr)(K:Pw.Y5)(w):Prop where out:fq (fV z1c_F [v0 0 z1c_k0] K a w)
theorem z1c_ok:okP z1c_F 138 z1c_sh:=okN (fun K=>[c0 0 z1c_k0 K,c0 1 z1c_k1 K]) call138 func138 fun _=>q03 hC0<|q03 hC0<|hEnd
noncomputable def z57_F:FD prog:=⟨f139,[],aN 0x7111,[tP],[tB],[]⟩
structure z57_sh(a:Option Addr)(K:Pw.Y0)(w):Prop where out:fq (fV z57_F [] K a w)
theorem z57_ok:okP z57_F 139 z57_sh:=okN (fun _=>[]) call139 func139 fun _=>hEnd
noncomputable def z2k_F:FD prog:=⟨f140,[kn z2p_ok,kn z4f_ok,kn z3n_ok,kn z40_ok],aN 0x5b14b3b232b1b2e0ba98765432101b3741514151,[tP],[.u 0],[]⟩
structure z2k_sh(a:Option Addr)(K:Pw.Y5)(w):Prop where out:fq (fV z2k_F [] K a w)
theorem z2k_ok:okP z2k_F 140 z2k_sh:=okN (fun _=>[]) call140 func140 fun _=>hEnd
noncomputable def z58_F:FD prog:=⟨f141,[],aN 0x7111,[tP],[tB],[]⟩
structure z58_sh(a:Option Addr)(K:Pw.Y0)(w):Prop where out:fq (fV z58_F [] K a w)
theorem z58_ok:okP z58_F 141 z58_sh:=okN (fun _=>[]) call141 func141 fun _=>hEnd
noncomputable def z3o_F:FD prog:=⟨f142,[kn z3n_ok],aN 0x6b15b4b233b12b1b230b92ea876543210a37,[tP],[.u 0],[]⟩
structure z3o_sh(a:Option Addr)(K:Pw.Y5)(w):Prop where out:fq (fV z3o_F [] K a w)
theorem z3o_ok:okP z3o_F 142 z3o_sh:=okN (fun _=>[]) call142 func142 fun _=>hEnd
noncomputable def z2h_F:FD prog:=⟨f143,[kn z7a_ok,kn z1w_ok],aN 0x1b505b14b3b232b1b2e0ba98765432101b372,[tP],[.u 0],[]⟩
structure z2h_sh(a:Option Addr)(K:Pw.Y5)(w):Prop where out:fq (fV z2h_F [] K a w)
theorem z2h_ok:okP z2h_F 143 z2h_sh:=okN (fun _=>[]) call143 func143 fun _=>hEnd
noncomputable def z4g_F:FD prog:=⟨f144,[kn z3i_ok,kn z2o_ok,kn z2n_ok,kn z2p_ok,kn z5y_ok],aN 0x9b18b7b236b5b2e4b23b12b1b0ba98765432103b3701b10ba98765432101b37202b11b20b1a98765432100b3722202a0918271620918276243c85432106372614101ac07016c1bbaeb200194,[tP],[.u 0],[[tP],[tP],[tP,tS]]⟩
structure z4g_k2(a:Option Addr)(b:ByteArray)(N0:Option Addr->World->Prop)(K:Pw.Y5)(w):Prop where out:fq (gV z4g_F 2 [] [nN 0 N0] K a b w)
structure z4g_k1(a:Option Addr)(N0:Option Addr->World->Prop)(K:Pw.Y5)(w):Prop where out:fq (gV z4g_F 1 [v1 2 z4g_k2 N0] [nN 0 N0] K a w)
def z4g_b0(a:Option Addr)(N0:Option Addr->World->Prop)(K:Pw.Y5)(w:World):Prop:=fq (gV z4g_F 0 [v1 1 z4g_k1 N0] [nN 0 N0] K a w)
structure z4g_l0(a:Option Addr)(K:Pw.Y5)(w):Prop where out:fl (lp0 [tP] [1] z4g_b0 K a w)
structure z4g_sh(a:Option Addr)(K:Pw.Y5)(w):Prop where out:fq (fV z4g_F [v0 0 z4g_l0] K a w)
theorem z4g_ok:okP z4g_F 144 z4g_sh:=okN (fun K=>[c0 0 z4g_l0 K,c1 0 1 z4g_k1 K,c1 0 2 z4g_k2 K]) call144 func144 fun _=>q03 (hL0 [1] z4g_b0)<|q03 hC1<|q03 hC1<|hEnd
noncomputable def z3z_F:FD prog:=⟨f145,[kn z3n_ok],aN 0x8176235143210537,[tP],[.u 0],[]⟩
structure z3z_sh(a:Option Addr)(K:Pw.Y5)(w):Prop where out:fq (fV z3z_F [] K a w)
theorem z3z_ok:okP z3z_F 145 z3z_sh:=okN (fun _=>[]) call145 func145 fun _=>hEnd
noncomputable def z2g_F:FD prog:=⟨f218,[kn z19_ok],aN 0x5111,[tI,tQ],[tB],[]⟩
structure z2g_sh(a:Int)(b:Addr)(K:Pw.Y0)(w):Prop where out:fq (fV z2g_F [] K a b w)
theorem z2g_ok:okP z2g_F 218 z2g_sh:=okN (fun _=>[]) call218 func218 fun _=>hEnd
noncomputable def z3l_F:FD prog:=⟨f146,[kn z2o_ok,kn z38_ok],aN 0x5b14b3b232b1b2e0ba98765432101b375545fe2416141202ac07016c8b4b2020294211,[tP],[.u 0],[[tP,tQ],[tP,tQ]]⟩
structure z3l_k1(a:Option Addr)(b:Addr)(N0:Option Addr->Addr->World->Prop)(K:Pw.Y5)(w):Prop where out:fq (gV z3l_F 1 [] [nN 0 N0] K a b w)
def z3l_b0(a:Option Addr)(b:Addr)(N0:Option Addr->Addr->World->Prop)(K:Pw.Y5)(w:World):Prop:=fq (gV z3l_F 0 [v1 1 z3l_k1 N0] [nN 0 N0] K a b w)
structure z3l_l0(a:Option Addr)(b:Addr)(K:Pw.Y5)(w):Prop where out:fl (lp0 [tP,tQ] [1,1] z3l_b0 K a b w)
structure z3l_sh(a:Option Addr)(K:Pw.Y5)(w):Prop where out:fq (fV z3l_F [v0 0 z3l_l0] K a w)
theorem z3l_ok:okP z3l_F 146 z3l_sh:=okN (fun K=>[c0 0 z3l_l0 K,c1 0 1 z3l_k1 K]) call146 func146 fun _=>q03 (hL0 [1,1] z3l_b0)<|q03 hC1<|hEnd
noncomputable def z59_F:FD prog:=⟨f147,[],aN 0x7111,[tP],[tB],[]⟩
structure z59_sh(a:Option Addr)(K:Pw.Y0)(w):Prop where out:fq (fV z59_F [] K a w)
theorem z59_ok:okP z59_F 147 z59_sh:=okN (fun _=>[]) call147 func147 fun _=>hEnd
noncomputable def z37_F:FD prog:=⟨f148,[kn z3n_ok],aN 0x8176235143210537,[tP],[.u 0],[]⟩
structure z37_sh(a:Option Addr)(K:Pw.Y5)(w):Prop where out:fq (fV z37_F [] K a w)
theorem z37_ok:okP z37_F 148 z37_sh:=okN (fun _=>[]) call148 func148 fun _=>hEnd
noncomputable def z3p_F:FD prog:=⟨f149,[kn z3n_ok],aN 0x2555e42c21101c0cfb049405b24b16b3b2b1b0ba98765432105b37271,[tP],[.u 0],[[tP,tL,tI,tI]]⟩
def z3p_b0(a:Option Addr)(b:Sl)(c d:Int)(N0:Option Addr->Sl->Int->Int->World->Prop)(K:Pw.Y5)(w:World):Prop:=fq (gV z3p_F 0 [] [nN 0 N0] K a b c d w)
structure z3p_l0(a:Option Addr)(b:Sl)(c d:Int)(K:Pw.Y5)(w):Prop where out:fl (lp0 [tP,tL,tI,tI] [1,1,1,0] z3p_b0 K a b c d w)
structure z3p_sh(a:Option Addr)(K:Pw.Y5)(w):Prop where out:fq (fV z3p_F [v0 0 z3p_l0] K a w)
theorem z3p_ok:okP z3p_F 149 z3p_sh:=okN (fun K=>[c0 0 z3p_l0 K]) call149 func149 fun _=>q03 (hL0 [1,1,1,0] z3p_b0)<|hEnd
noncomputable def z0f_F:FD prog:=⟨f272,[kn z1b_ok],aN 0x5111,[tP],[.g 6,tS,tI,tI,tS,tL,tI],[]⟩
structure z0f_sh(a:Option Addr)(K:Pw.Y8)(w):Prop where out:fq (fV z0f_F [] K a w)
theorem z0f_ok:okP z0f_F 272 z0f_sh:=okN (fun _=>[]) call272 func272 fun _=>hEnd
structure z5v_sh(a0:Value)(K:Pw.Y3)(w:World):Prop where
 out:Calls Tryz.prog 36 #[a0] w fun e w'=>∃r0_0:Int,∃r0_1:Int,e=.returned (Value.agg #[(Value.int .i64 r0_0),(Value.int .i64 r0_1)])/\K r0_0 r0_1 w'
noncomputable def z5v_S:Pw.Spec:=fun vs w Kv =>
 match vs with
 | [a0]=>z5v_sh a0 (fun r0_0 r0_1 w'=>Kv (Value.agg #[(Value.int .i64 r0_0),(Value.int .i64 r0_1)]) w') w
 | _=>False
theorem z5v_ok:q1v Tryz.prog 36 z5v_S:=⟨Tryz.call36,fun vs w Kv h=>by
  unfold z5v_S at h
  split at h
  · exact h.out.mono fun e w' he=>by
      obtain⟨_,_,he,hk⟩:=he
      exact⟨_,he,hk⟩
  · exact h.elim⟩
structure z04_sh(a0:Option Addr)(a1:ByteArray)(K:Int->Value->World->Prop)(w:World):Prop where
 out:Calls Tryz.prog 153 #[(Value.pointer a0),(Value.string a1)] w fun e w'=>∃r0:Int,∃r1:Value,e=.returned (Value.tuple #[(Value.int .i64 r0),r1])/\K r0 r1 w'
noncomputable def z04_S:Pw.Spec:=fun vs w Kv =>
 match vs with
 | [.pointer a0,.string a1]=>z04_sh a0 a1 (fun r0 r1 w'=>Kv (Value.tuple #[(Value.int .i64 r0),r1]) w') w
 | _=>False
theorem z04_ok:q1v Tryz.prog 153 z04_S:=⟨Tryz.call153,fun vs w Kv h=>by
  unfold z04_S at h
  split at h
  · exact h.out.mono fun e w' he=>by
      obtain⟨_,_,he,hk⟩:=he
      exact⟨_,he,hk⟩
  · exact h.elim⟩
structure z0e_sh(a0:Option Addr)(K:Pw.Y2)(w:World):Prop where
 out:Calls Tryz.prog 157 #[(Value.pointer a0)] w fun e w'=>∃r0:ByteArray,e=.returned (Value.string r0)/\K r0 w'
noncomputable def z0e_S:Pw.Spec:=fun vs w Kv =>
 match vs with
 | [.pointer a0]=>z0e_sh a0 (fun r0 w'=>Kv (Value.string r0) w') w
 | _=>False
theorem z0e_ok:q1v Tryz.prog 157 z0e_S:=⟨Tryz.call157,fun vs w Kv h=>by
  unfold z0e_S at h
  split at h
  · exact h.out.mono fun e w' he=>by
      obtain⟨_,he,hk⟩:=he
      exact⟨_,he,hk⟩
  · exact h.elim⟩
noncomputable def z6r_F:FD prog:=⟨f38,[kn z6p_ok,kn z4c_ok,kn z61_ok,kn z2o_ok,kn z2n_ok,kn z2p_ok],aV [(Value.bool false),(Value.tuple #[])] 0xd2555f41e42c21132df2cf2bf4320794e2256529b8b7b8654320aa09187236154321063701d3b1b1a141410716205943210537219b8b7b0ba986543202ba02b11b0b23a19873302b11b20ba98754cd86543210737251a1fe61271e42c21109b8b7b65432099441211dd1111,[tS],[tR],[[tS,tQ,tQ,tN,tM,tI,tL,tI,tI],[tS,tQ,tQ,tN,tM,tI,tS,tQ,tQ,tQ,tL,tI,tI],[tS,tQ,tQ,tN,tM,tI,tS,tL,tI,tI],[tS,tQ,tQ,tN,tL,tI,tI]]⟩
structure z6r_k2(a:ByteArray)(b c:Addr)(d:Nat)(e:Option Nat)(f:Int)(g:ByteArray)(i:Sl)(j k:Int)(N0:ByteArray->Addr->Addr->Nat->Option Nat->Int->Sl->Int->Int->World->Prop)(K:Pw.Y9)(w):Prop where out:fq (gV z6r_F 2 [] [nN 0 N0] K a b c d e f g i j k w)
structure z6r_k1(a:ByteArray)(b c:Addr)(d:Nat)(e:Option Nat)(f:Int)(g:ByteArray)(i j k:Addr)(l:Sl)(m n:Int)(N0:ByteArray->Addr->Addr->Nat->Option Nat->Int->Sl->Int->Int->World->Prop)(K:Pw.Y9)(w):Prop where out:fq (gV z6r_F 1 [v1 2 z6r_k2 N0] [nN 0 N0] K a b c d e f g i j k l m n w)
def z6r_b3(a:ByteArray)(b c:Addr)(d:Nat)(e:Sl)(f g:Int)(N3:ByteArray->Addr->Addr->Nat->Sl->Int->Int->World->Prop)(K:Pw.Y9)(w:World):Prop:=fq (gV z6r_F 3 [] [nN 3 N3] K a b c d e f g w)
structure z6r_l3(a:ByteArray)(b c:Addr)(d:Nat)(e:Sl)(f g:Int)(K:Pw.Y9)(w):Prop where out:fl (lp0 [tS,tQ,tQ,tN,tL,tI,tI] [1,1,1,1,1,1,0] z6r_b3 K a b c d e f g w)
def z6r_b0(a:ByteArray)(b c:Addr)(d:Nat)(e:Option Nat)(f:Int)(g:Sl)(i j:Int)(N0:ByteArray->Addr->Addr->Nat->Option Nat->Int->Sl->Int->Int->World->Prop)(K:Pw.Y9)(w:World):Prop:=fq (gV z6r_F 0 [v1 1 z6r_k1 N0,v1 2 z6r_k2 N0,v0 3 z6r_l3] [nN 0 N0] K a b c d e f g i j w)
structure z6r_l0(a:ByteArray)(b c:Addr)(d:Nat)(e:Option Nat)(f:Int)(g:Sl)(i j:Int)(K:Pw.Y9)(w):Prop where out:fl (lp0 [tS,tQ,tQ,tN,tM,tI,tL,tI,tI] [1,1,1,1,1,0,1,1,0] z6r_b0 K a b c d e f g i j w)
structure z6r_sh(a:ByteArray)(K:Pw.Y9)(w):Prop where out:fq (fV z6r_F [v0 0 z6r_l0] K a w)
theorem z6r_ok:okP z6r_F 38 z6r_sh:=okN (fun K=>[c0 0 z6r_l0 K,c1 0 1 z6r_k1 K,c1 0 2 z6r_k2 K,c0 3 z6r_l3 K]) call38 func38 fun _=>q03 (hL0 [1,1,1,1,1,0,1,1,0] z6r_b0)<|q03 hC1<|q03 hC1<|q03 (hL0 [1,1,1,1,1,1,0] z6r_b3)<|hEnd
noncomputable def z52_F:FD prog:=⟨f37,[kn z6r_ok],aN 0x35,[tQ,tQ],[.u 0],[]⟩
structure z52_sh(a b:Addr)(K:Pw.Y5)(w):Prop where out:fq (fV z52_F [] K a b w)
theorem z52_ok:okP z52_F 37 z52_sh:=okN (fun _=>[]) call37 func37 fun _=>hEnd
noncomputable def z6l_F:FD prog:=⟨f16,[kn z5v_ok],aN 0x4100762351432105372fe41211041fe241,[tS],[.u 3,tR,tI,tI],[]⟩
structure z6l_sh(a:ByteArray)(K:T43->Int->Int->World->Prop)(w):Prop where out:fq (fV z6l_F [] K a w)
theorem z6l_ok:okP z6l_F 16 z6l_sh:=okN (fun _=>[]) call16 func16 fun _=>hEnd
noncomputable def z54_F:FD prog:=⟨f152,[kn z04_ok,kn z51_ok],aN 0x45,[tL,tQ],[.u 0],[]⟩
structure z54_sh(a:Sl)(b:Addr)(K:Pw.Y5)(w):Prop where out:fq (fV z54_F [] K a b w)
theorem z54_ok:okP z54_F 152 z54_sh:=okN (fun _=>[]) call152 func152 fun _=>hEnd
noncomputable def z6o_F:FD prog:=⟨f87,[kn z54_ok,kn z50_ok,kn z2f_ok,kn z0e_ok],aN 0xd0bbab9b5b1b847e8b7b6b4b3b2b0ba976532105b372417125352575e42c211843f42f41f3cf3bf3af4b54310b94e2de42c21173cf3bf3af5431794412654314a75fe2554314a65f412610a9844e76532107372250a983e765432108374142c211404f03f02f5431794412253534d3d2da54318a45fd224d3d2da954319a07b26b82e5231407b26b82e524135215b07b26b82e5231407b26b82e5241355b07b26b82e52315b07b26b82e5b07b26b5b2e855235407b26b82e52415b07b26b82e5b07b26b5b2e85524536251b07b26b82e5231407b26b82e5241355b07b26b82e52315b07b26b82e5b07b26b5b2e855235407b26b82e52415b07b26b82e5b07b26b5b2e855245361b07b26b82e52315b07b26b82e5b07b26b5b2e8552351b07b26b82e5b07b26b5b2e851b07b26b5b1b3e855235407b26b82e52415b07b26b82e5b07b26b5b2e8552451b07b26b82e5b07b26b5b2e851b07b26b5b1b3e85524536254b3b2b0ba97610a3724142c21114d3d2d5431794412250a9844e76532107374142c21101c0cfb54317944125111d11d,[tR],[tS],[[tQ,tQ,.c 152 0 1,tQ,.c 155 0 0,tL,tI,tI],[tQ,tQ,.c 152 0 1,tQ,.c 155 0 0,tL,tI,tI],[tQ,tQ,.c 152 0 1,tQ,.c 155 0 0,tQ,tL,tL,tI,tI],[tQ,tQ,.c 152 0 1,tQ,.c 155 0 0,tL,tL,tI,tI],[tQ,tQ,.c 152 0 1,tQ,.c 155 0 0,tL,tI,tI],[tQ,tQ,.c 152 0 1,tQ,.c 155 0 0],[tQ,tQ,.c 152 0 1,tQ,.c 155 0 0],[tQ,tQ,.c 152 0 1,tQ,.c 155 0 0,tL,tI,tI],[tQ,tQ,.c 152 0 1,tQ,.c 155 0 0,tL,tL,tI,tI,tL,tI,tI]]⟩
structure z6o_k3(a b c:Addr)(d e:Sl)(f g:Int)(N1:Addr->Addr->Addr->Sl->Int->Int->World->Prop)(K:Pw.Y2)(w):Prop where out:fq (gV z6o_F 3 [] [nN 1 N1] K a b c d e f g w)
structure z6o_k2(a b c d:Addr)(e f:Sl)(g i:Int)(N1:Addr->Addr->Addr->Sl->Int->Int->World->Prop)(K:Pw.Y2)(w):Prop where out:fq (gV z6o_F 2 [v1 3 z6o_k3 N1] [nN 1 N1] K a b c d e f g i w)
def z6o_b8(a b c:Addr)(d e:Sl)(f g:Int)(i:Sl)(j k:Int)(N8:Addr->Addr->Addr->Sl->Sl->Int->Int->Sl->Int->Int->World->Prop)(N7:Addr->Addr->Addr->Sl->Int->Int->World->Prop)(K:Pw.Y2)(w:World):Prop:=fq (gV z6o_F 8 [] [nN 8 N8,nN 7 N7] K a b c d e f g i j k w)
structure z6o_l8(a b c:Addr)(d e:Sl)(f g:Int)(i:Sl)(j k:Int)(N7:Addr->Addr->Addr->Sl->Int->Int->World->Prop)(K:Pw.Y2)(w):Prop where out:fl (lp1 [tQ,tQ,.c 152 0 1,tQ,.c 155 0 0,tL,tL,tI,tI,tL,tI,tI] [1,1,1,0,1,1,1,1,1,0] z6o_b8 N7 K a b c d e f g i j k w)
def z6o_b7(a b c:Addr)(d:Sl)(e f:Int)(N7:Addr->Addr->Addr->Sl->Int->Int->World->Prop)(K:Pw.Y2)(w:World):Prop:=fq (gV z6o_F 7 [v1 8 z6o_l8 N7] [nN 7 N7] K a b c d e f w)
structure z6o_l7(a b c:Addr)(d:Sl)(e f:Int)(K:Pw.Y2)(w):Prop where out:fl (lp0 [tQ,tQ,.c 152 0 1,tQ,.c 155 0 0,tL,tI,tI] [1,1,1,1,1,0] z6o_b7 K a b c d e f w)
structure z6o_k6(a b c:Addr)(K:Pw.Y2)(w):Prop where out:fq (gV z6o_F 6 [v0 7 z6o_l7] [] K a b c w)
structure z6o_k5(a b c:Addr)(K:Pw.Y2)(w):Prop where out:fq (gV z6o_F 5 [v0 6 z6o_k6] [] K a b c w)
def z6o_b4(a b c:Addr)(d:Sl)(e f:Int)(N4:Addr->Addr->Addr->Sl->Int->Int->World->Prop)(K:Pw.Y2)(w:World):Prop:=fq (gV z6o_F 4 [v0 5 z6o_k5] [nN 4 N4] K a b c d e f w)
structure z6o_l4(a b c:Addr)(d:Sl)(e f:Int)(K:Pw.Y2)(w):Prop where out:fl (lp0 [tQ,tQ,.c 152 0 1,tQ,.c 155 0 0,tL,tI,tI] [1,1,1,1,1,0] z6o_b4 K a b c d e f w)
def z6o_b1(a b c:Addr)(d:Sl)(e f:Int)(N1:Addr->Addr->Addr->Sl->Int->Int->World->Prop)(K:Pw.Y2)(w:World):Prop:=fq (gV z6o_F 1 [v1 2 z6o_k2 N1,v0 4 z6o_l4] [nN 1 N1] K a b c d e f w)
structure z6o_l1(a b c:Addr)(d:Sl)(e f:Int)(K:Pw.Y2)(w):Prop where out:fl (lp0 [tQ,tQ,.c 152 0 1,tQ,.c 155 0 0,tL,tI,tI] [1,1,1,1,1,0] z6o_b1 K a b c d e f w)
def z6o_b0(a b c:Addr)(d:Sl)(e f:Int)(N0:Addr->Addr->Addr->Sl->Int->Int->World->Prop)(K:Pw.Y2)(w:World):Prop:=fq (gV z6o_F 0 [v0 1 z6o_l1] [nN 0 N0] K a b c d e f w)
structure z6o_l0(a b c:Addr)(d:Sl)(e f:Int)(K:Pw.Y2)(w):Prop where out:fl (lp0 [tQ,tQ,.c 152 0 1,tQ,.c 155 0 0,tL,tI,tI] [1,1,1,1,1,0] z6o_b0 K a b c d e f w)
structure z6o_sh(a:T43)(K:Pw.Y2)(w):Prop where out:fq (fV z6o_F [v0 0 z6o_l0] K a w)
set_option maxHeartbeats 4000000 in
theorem z6o_ok:okP z6o_F 87 z6o_sh:=okN (fun K=>[c0 0 z6o_l0 K,c0 1 z6o_l1 K,c1 1 2 z6o_k2 K,c1 1 3 z6o_k3 K,c0 4 z6o_l4 K,c0 5 z6o_k5 K,c0 6 z6o_k6 K,c0 7 z6o_l7 K,c1 7 8 z6o_l8 K]) call87 func87 fun _=>q03 (hL0 [1,1,1,1,1,0] z6o_b0)<|q03 (hL0 [1,1,1,1,1,0] z6o_b1)<|q03 hC1<|q03 hC1<|q03 (hL0 [1,1,1,1,1,0] z6o_b4)<|q03 hC0<|q03 hC0<|q03 (hL0 [1,1,1,1,1,0] z6o_b7)<|q03 (hL1 [1,1,1,0,1,1,1,1,1,0] z6o_b8)<|hEnd
structure z1v_sh(a:ByteArray)(b c:Int)(d:ByteArray)(e:Sl)(f:ByteArray)(g i:Int)(j:ByteArray)(k:Sl)(K:Pw.Y0)(w:World):Prop where out:clF prog 164 [.g 5,tS,tI,tI,tS,tL,.g 5,tS,tI,tI,tS,tL] [tB] K a b c d e f g i j k w
theorem z1v_okr:q1v prog 164 (sr [.g 5,tS,tI,tI,tS,tL,.g 5,tS,tI,tI,tS,tL] [tB] z1v_sh):=okR call164
noncomputable def z1v_F:FD prog:=⟨f164,[kn z0a_ok],aN 0x25c25c25c025c25c025c07dbb76bb7ab6be,[.g 5,tS,tI,tI,tS,tL,.g 5,tS,tI,tI,tS,tL],[tB],[]⟩
def z1v_sd(a:ByteArray)(b c:Int)(d:ByteArray)(e:Sl)(f:ByteArray)(g i:Int)(j:ByteArray)(k:Sl)(K:Pw.Y0)(w:World):Prop:=fq (fV z1v_F [] K a b c d e f g i j k w)
theorem z1v_mk{a:ByteArray}{b c:Int}{d:ByteArray}{e:Sl}{f:ByteArray}{g i:Int}{j:ByteArray}{k:Sl}{K:Bool->World->Prop}{w:World}(h:z1v_sd a b c d e f g i j k K w):z1v_sh a b c d e f g i j k K w:=⟨mkY z1v_F z1v_sd (fun _=>[]) func164 (fun _=>hEnd) (a,b,c,d,e,f,g,i,j,k,()) h⟩
noncomputable def z6k_F:FD prog:=⟨f88,[kn z1a_ok,kn z08_ok,kn z0c_ok,kn z4x_ok,kn z33_ok,kn z1v_okr],aN 0x25c25c25c25c25c25c25c25c25c25c25c025c25c25c25c25c25c25c25c25c25c025c25c25c25c25c25c25c25c25c025c25c25c25c25c25c25c25c025c25c25c25c25c25c25c025c25c25c25c25c25c025c25c25c25c25c025c25c25c25c025c25c25c025c25c025c0705fb7eeb77eb70eb79db72db7bcb74cb7dbb76bb7ab6be,[tR,tR],[tB],[]⟩
structure z6k_sh(a b:T43)(K:Pw.Y0)(w):Prop where out:fq (fV z6k_F [] K a b w)
theorem z6k_ok:okP z6k_F 88 z6k_sh:=okN (fun _=>[]) call88 func88 fun _=>hEnd
noncomputable def z6m_F:FD prog:=⟨f39,[kn z6l_ok,kn z6o_ok,kn z6k_ok],aN 0xd011f05014c6bb3ba12ed,[tR],[tS],[]⟩
structure z6m_sh(a:T43)(K:Pw.Y2)(w):Prop where out:fq (fV z6m_F [] K a w)
theorem z6m_ok:okP z6m_F 39 z6m_sh:=okN (fun _=>[]) call39 func39 fun _=>hEnd
noncomputable def z4h_F:FD prog:=⟨f41,[],aN 0x61d,[.g 2,tI,tI,tQ],[tB],[]⟩
structure z4h_sh(a b:Int)(c:Addr)(K:Pw.Y0)(w):Prop where out:fq (fV z4h_F [] K a b c w)
theorem z4h_ok:okP z4h_F 41 z4h_sh:=okN (fun _=>[]) call41 func41 fun _=>hEnd
noncomputable def z3a_F:FD prog:=⟨f90,[],aN 0x61d,[.g 5,tS,tI,tI,tI,tB,tQ],[tB],[]⟩
structure z3a_sh(a:ByteArray)(b c d:Int)(e:Bool)(f:Addr)(K:Pw.Y0)(w):Prop where out:fq (fV z3a_F [] K a b c d e f w)
theorem z3a_ok:okP z3a_F 90 z3a_sh:=okN (fun _=>[]) call90 func90 fun _=>hEnd
noncomputable def z42_F:FD prog:=⟨f42,[kn z02_ok],aN 0x11011f810113e4251e,[tR,.g 3,tS,tS,tI],[tI],[]⟩
structure z42_sh(a:T43)(b c:ByteArray)(d:Int)(K:Pw.Y1)(w):Prop where out:fq (fV z42_F [] K a b c d w)
theorem z42_ok:okP z42_F 42 z42_sh:=okN (fun _=>[]) call42 func42 fun _=>hEnd
noncomputable def z41_F:FD prog:=⟨f93,[],aN 0x51d,[.g 5,tS,tI,tI,tI,tB,tQ],[tB],[]⟩
structure z41_sh(a:ByteArray)(b c d:Int)(e:Bool)(f:Addr)(K:Pw.Y0)(w):Prop where out:fq (fV z41_F [] K a b c d e f w)
theorem z41_ok:okP z41_F 93 z41_sh:=okN (fun _=>[]) call93 func93 fun _=>hEnd
noncomputable def z5a_F:FD prog:=⟨f44,[kn z02_ok],aN 0x3b2b1b0ba98765432104b3820efd2510065432107382021af03012cab3b251,[tR,tS],[.u 3,tI,tI,tB],[[tQ]]⟩
structure z5a_k0(a:Addr)(K:Pw.Y6)(w):Prop where out:fq (gV z5a_F 0 [] [] K a w)
structure z5a_sh(a:T43)(b:ByteArray)(K:Pw.Y6)(w):Prop where out:fq (fV z5a_F [v0 0 z5a_k0] K a b w)
theorem z5a_ok:okP z5a_F 44 z5a_sh:=okN (fun K=>[c0 0 z5a_k0 K]) call44 func44 fun _=>q03 hC0<|hEnd
noncomputable def z43_F:FD prog:=⟨f230,[kn z5a_ok],aN 0xe0e031af04013cfbb4b20efd0b120efe2e,[.g 5,tS,tI,tI,tS,tL,tQ],[.u 2,.g 2,tI,tB,tI],[[tQ]]⟩
structure z43_k0(a:Addr)(K:Pw.Y14)(w):Prop where out:fq (gV z43_F 0 [] [] K a w)
structure z43_sh(a:ByteArray)(b c:Int)(d:ByteArray)(e:Sl)(f:Addr)(K:Pw.Y14)(w):Prop where out:fq (fV z43_F [v0 0 z43_k0] K a b c d e f w)
theorem z43_ok:okP z43_F 230 z43_sh:=okN (fun K=>[c0 0 z43_k0 K]) call230 func230 fun _=>q03 hC0<|hEnd
noncomputable def z0v_as0:Code:=rfAs (rfAt (qdd Tryz.f229) 0)
noncomputable def z0v_bd0:Code:=rfBd (rfAt (qdd Tryz.f229) 0)
def z0v_ps0:Array Tmp:=#[16]
noncomputable def z0v_F:FD prog:=⟨f229,[kn z65_ok],fun l=>qr 5 (qr 1 (qs (qr 2 (qb (A.rf [4,5,6,7,8,15] (l 0) (qb (qr 1 (qr 1 (qs (qr 3 (qr 4 (qc (A.reg (qn 2 (RA.dyn (Value.tuple #[(Value.agg #[(Value.int .i64 0),(Value.bool false)]),(Value.int .i64 0)]) (qn 5 RA.done)))) (qs (A.drw (dp [0,1,2,3,4,5,6,7,8,9,10,11,12] (DA.dyn 13 (Value.tuple #[(Value.agg #[(Value.int .i64 0),(Value.bool false)]),(Value.int .i64 0)]) (dp [14,15,16] (DA.eff 17 (DA.pur 18 DA.done)))))) (qe 5))))) (A.cut [6,7,8,10,11] (l 1) (qs (qr 2 (qc (qr 1 (qr 4 ql)) ql)) (qe 5)))))))))) (qr 5 ql))),[.g 5,tS,tI,tI,tS,tL,tV,tV],[.u 2,.g 2,tI,tB,tI],[[tQ,tQ,tQ,tQ,tQ,tV],[tQ,tQ,tQ,tQ,tI]]⟩
structure z0v_f0(a b:Addr)(c d e:Addr)(f:Value)(K:Pw.Y14)(w):Prop where out:fq (gF z0v_F 61 0 z0v_ps0 z0v_as0 z0v_bd0 [] K a b c d e f w)
structure z0v_k1(a b:Addr)(c d:Addr)(e:Int)(f:World->Prop)(g:World->Prop)(K:Pw.Y14)(w):Prop where out:fq (gV z0v_F 1 [] [nN 99 f,nN 99 g] K a b c d e w)
structure z0v_r0(a b:Addr)(c d e:Addr)(f:Value)(g:ByteArray)(i j:Int)(k:ByteArray)(l:Sl)(M:World->(World->Prop)->Prop)(Nn0:World->Prop)(Nr0:World->Prop)(K:Pw.Y14)(w):Prop where out:fq (gR z0v_F 0 [.g 5,tS,tI,tI,tS,tL] z0v_ps0 z0v_as0 z0v_bd0 (qe 2) [v2 1 z0v_k1 Nn0 Nr0] M Nn0 Nr0 K a b c d e f g i j k l w)
structure z0v_sh(a:ByteArray)(b c:Int)(d:ByteArray)(e:Sl)(f g:Value)(K:Pw.Y14)(w):Prop where out:fq (fV z0v_F [v0 0 z0v_f0] K a b c d e f g w)
noncomputable def z0v_L:VW->List (LbC z0v_F):=fun K=>[c0 0 z0v_f0 K,c2 99 99 1 z0v_k1 K]
set_option maxHeartbeats 4000000 in
theorem z0v_ho(K:VW):∀k,0<=k->q12 Tryz.prog z0v_F.env z0v_F.f.ntmps (obF Tryz.prog z0v_F.env z0v_F.f (z0v_F.a (lbT (z0v_L K))) K) k:=q03 hF0<|q03 hC2<|hEnd
set_option maxHeartbeats 4000000 in
theorem z0v_ok:okP z0v_F 229 z0v_sh:=okN z0v_L call229 func229 z0v_ho
set_option maxHeartbeats 4000000 in
theorem z0v_y0{leaf_4:Addr}{node_5:Addr}{t_6:Addr}{t_7:Addr}{stack_8:Addr}{t_15:Value}{t_16_0:ByteArray}{t_16_1:Int}{t_16_2:Int}{t_16_3:ByteArray}{t_16_4p:Option Addr}{t_16_4l t_16_4c:Nat}{fn d l:Nat}{tmps:Array Value}{K':VW}{w:World}(hag:agrT 61 [(4,(Value.pointer (some leaf_4))),(5,(Value.pointer (some node_5))),(6,(Value.pointer (some t_6))),(7,(Value.pointer (some t_7))),(8,(Value.pointer (some stack_8))),(15,t_15)] tmps)(hl:w.heap[l]?=some (lrec fn tmps z0v_ps0 z0v_as0 z0v_bd0 d .ready none))(h:z0v_r0 leaf_4 node_5 t_6 t_7 stack_8 t_15 t_16_0 t_16_1 t_16_2 t_16_3 ⟨t_16_4p,t_16_4l,t_16_4c⟩ (rMid l fn tmps z0v_ps0 z0v_as0 z0v_bd0 d) (rN l fn tmps z0v_ps0 z0v_as0 z0v_bd0 d K') (rR l fn tmps z0v_ps0 z0v_as0 z0v_bd0 d K') (kk z0v_F.rs fun _ _=>True) w):Yl Tryz.prog l #[(Value.agg #[(Value.string t_16_0),(Value.int .i64 t_16_1),(Value.int .i64 t_16_2),(Value.string t_16_3),(Value.slice t_16_4p t_16_4l t_16_4c)])] w K':=yN z0v_F 1 (qe 2) (z0v_L fun _ _=>True) (Kv:=fun _ _=>True) (args:=[(Value.agg #[(Value.string t_16_0),(Value.int .i64 t_16_1),(Value.int .i64 t_16_2),(Value.string t_16_3),(Value.slice t_16_4p t_16_4l t_16_4c)])]) (z0v_ho _) hag hl (cast (by kernel_rfl) h.out)
noncomputable def z4l_F:FD prog:=⟨f231,[],aN 0xe0511642af07025c5db3b0513e0813e065404a0e3023c22c023c05dbb49bb3b0813e4241,[tS,.g 2,tI,tB,.g 2,tI,tB],[.u 2,.g 2,tI,tB,tI],[[tS,tQ,tQ,tQ],[tQ,tQ]]⟩
structure z4l_k1(a b:Addr)(K:Pw.Y14)(w):Prop where out:fq (gV z4l_F 1 [] [] K a b w)
structure z4l_k0(a:ByteArray)(b c d:Addr)(K:Pw.Y14)(w):Prop where out:fq (gV z4l_F 0 [v0 1 z4l_k1] [] K a b c d w)
structure z4l_sh(a:ByteArray)(b:Int)(c:Bool)(d:Int)(e:Bool)(K:Pw.Y14)(w):Prop where out:fq (fV z4l_F [v0 0 z4l_k0] K a b c d e w)
theorem z4l_ok:okP z4l_F 231 z4l_sh:=okN (fun K=>[c0 0 z4l_k0 K,c0 1 z4l_k1 K]) call231 func231 fun _=>q03 hC0<|q03 hC0<|hEnd
noncomputable def z5b_F:FD prog:=⟨f166,[kn z0v_ok],aN 0x7141,[tR,.g 5,tS,tI,tI,tS,tL],[.u 2,.g 2,tI,tB,tI],[]⟩
structure z5b_sh(a:T43)(b:ByteArray)(c d:Int)(e:ByteArray)(f:Sl)(K:Pw.Y14)(w):Prop where out:fq (fV z5b_F [] K a b c d e f w)
theorem z5b_ok:okP z5b_F 166 z5b_sh:=okN (fun _=>[]) call166 func166 fun _=>hEnd
noncomputable def z6s_F:FD prog:=⟨f91,[kn z50_ok,kn z66_ok,kn z5b_ok],aN 0x610df410e305023c9bb3b42910dfe241,[tR,.g 5,tS,tI,tI,tS,tL],[.u 2,tS,tI],[]⟩
structure z6s_sh(a:T43)(b:ByteArray)(c d:Int)(e:ByteArray)(f:Sl)(K:Pw.Y11)(w):Prop where out:fq (fV z6s_F [] K a b c d e f w)
theorem z6s_ok:okP z6s_F 91 z6s_sh:=okN (fun _=>[]) call91 func91 fun _=>hEnd
noncomputable def z2q_F:FD prog:=⟨f232,[],aN 0xbb1e,[.g 4,tI,tI,tI,tI,.g 4,tI,tI,tI,tI],[tL],[]⟩
structure z2q_sh(a b c d e f g i:Int)(K:Pw.Y4)(w):Prop where out:fq (fV z2q_F [] K a b c d e f g i w)
theorem z2q_ok:okP z2q_F 232 z2q_sh:=okN (fun _=>[]) call232 func232 fun _=>hEnd
noncomputable def z3y_F:FD prog:=⟨f234,[],aV [(Value.int .i64 0)] 0xd3555f072069543210637242c4120654105941125125fe211,[tL,tV],[.g 2,tI,tI],[[tL,tV,tQ,tQ,tI]]⟩
def z3y_b0(a:Sl)(b:Value)(c d:Addr)(e:Int)(N0:Sl->Value->Addr->Addr->Int->World->Prop)(K:Pw.Y3)(w:World):Prop:=fq (gV z3y_F 0 [] [nN 0 N0] K a b c d e w)
structure z3y_l0(a:Sl)(b:Value)(c d:Addr)(e:Int)(K:Pw.Y3)(w):Prop where out:fl (lp0 [tL,tV,tQ,tQ,tI] [1,1,1,1,0] z3y_b0 K a b c d e w)
structure z3y_sh(a:Sl)(b:Value)(K:Pw.Y3)(w):Prop where out:fq (fV z3y_F [v0 0 z3y_l0] K a b w)
theorem z3y_ok:okP z3y_F 234 z3y_sh:=okN (fun K=>[c0 0 z3y_l0 K]) call234 func234 fun _=>q03 (hL0 [1,1,1,1,0] z3y_b0)<|hEnd
noncomputable def z3x_F:FD prog:=⟨f236,[],aV [(Value.int .i64 0)] 0xd3555f072069543210637242c4120654105941125125fe211,[tL,tV],[.g 2,tI,tI],[[tL,tV,tQ,tQ,tI]]⟩
def z3x_b0(a:Sl)(b:Value)(c d:Addr)(e:Int)(N0:Sl->Value->Addr->Addr->Int->World->Prop)(K:Pw.Y3)(w:World):Prop:=fq (gV z3x_F 0 [] [nN 0 N0] K a b c d e w)
structure z3x_l0(a:Sl)(b:Value)(c d:Addr)(e:Int)(K:Pw.Y3)(w):Prop where out:fl (lp0 [tL,tV,tQ,tQ,tI] [1,1,1,1,0] z3x_b0 K a b c d e w)
structure z3x_sh(a:Sl)(b:Value)(K:Pw.Y3)(w):Prop where out:fq (fV z3x_F [v0 0 z3x_l0] K a b w)
theorem z3x_ok:okP z3x_F 236 z3x_sh:=okN (fun K=>[c0 0 z3x_l0 K]) call236 func236 fun _=>q03 (hL0 [1,1,1,1,0] z3x_b0)<|hEnd
noncomputable def z6v_F:FD prog:=⟨f284,[kn z3y_ok,kn z3x_ok],aN 0x6111,[tL],[.g 4,tI,tI,tI,tI],[]⟩
structure z6v_sh(a:Sl)(K:Int->Int->Int->Int->World->Prop)(w):Prop where out:fq (fV z6v_F [] K a w)
theorem z6v_ok:okP z6v_F 284 z6v_sh:=okN (fun _=>[]) call284 func284 fun _=>hEnd
noncomputable def z6t_F:FD prog:=⟨f238,[kn z6v_ok],aV [(Value.tuple #[(Value.agg #[(Value.int .i64 0),(Value.int .i64 0)]),(Value.bool false)])] 0x4125550efd2060d5b4142c21102b1b0b640694e211d,[tV,tL],[.u 2,.g 4,tI,tI,tI,tI,tI],[[tV,tQ,tL,tL,tI,tI]]⟩
def z6t_b0(a:Value)(b:Addr)(c d:Sl)(e f:Int)(N0:Value->Addr->Sl->Sl->Int->Int->World->Prop)(K:Pw.Y7)(w:World):Prop:=fq (gV z6t_F 0 [] [nN 0 N0] K a b c d e f w)
structure z6t_l0(a:Value)(b:Addr)(c d:Sl)(e f:Int)(K:Pw.Y7)(w):Prop where out:fl (lp0 [tV,tQ,tL,tL,tI,tI] [1,1,0,1,1,0] z6t_b0 K a b c d e f w)
structure z6t_sh(a:Value)(b:Sl)(K:Pw.Y7)(w):Prop where out:fq (fV z6t_F [v0 0 z6t_l0] K a b w)
theorem z6t_ok:okP z6t_F 238 z6t_sh:=okN (fun K=>[c0 0 z6t_l0 K]) call238 func238 fun _=>q03 (hL0 [1,1,0,1,1,0] z6t_b0)<|hEnd
noncomputable def z2t_F:FD prog:=⟨f237,[kn z6t_ok],aN 0x5b141,[.g 4,tI,tI,tI,tI,.g 4,tI,tI,tI,tI],[.u 2,.g 4,tI,tI,tI,tI,tI],[]⟩
structure z2t_sh(a b c d e f g i:Int)(K:Pw.Y7)(w):Prop where out:fq (fV z2t_F [] K a b c d e f g i w)
theorem z2t_ok:okP z2t_F 237 z2t_sh:=okN (fun _=>[]) call237 func237 fun _=>hEnd
noncomputable def z2u_F:FD prog:=⟨f239,[kn z6t_ok],aN 0x5b141,[.g 4,tI,tI,tI,tI,.g 4,tI,tI,tI,tI],[.u 2,.g 4,tI,tI,tI,tI,tI],[]⟩
structure z2u_sh(a b c d e f g i:Int)(K:Pw.Y7)(w):Prop where out:fq (fV z2u_F [] K a b c d e f g i w)
theorem z2u_ok:okP z2u_F 239 z2u_sh:=okN (fun _=>[]) call239 func239 fun _=>hEnd
noncomputable def z2v_F:FD prog:=⟨f240,[kn z6t_ok],aV [(Value.slice none 0 0)] 0x50d3b41,[.g 4,tI,tI,tI,tI,.g 4,tI,tI,tI,tI,tQ],[.u 2,.g 4,tI,tI,tI,tI,tI],[]⟩
structure z2v_sh(a b c d e f g i:Int)(j:Addr)(K:Pw.Y7)(w):Prop where out:fq (fV z2v_F [] K a b c d e f g i j w)
theorem z2v_ok:okP z2v_F 240 z2v_sh:=okN (fun _=>[]) call240 func240 fun _=>hEnd
noncomputable def z2w_F:FD prog:=⟨f241,[kn z6t_ok],aV [(Value.slice none 0 0)] 0x50d3b054324a0ef014c050bb5b241,[.g 4,tI,tI,tI,tI,.g 4,tI,tI,tI,tI,tQ],[.u 2,.g 4,tI,tI,tI,tI,tI],[[tQ,tQ,tQ,tQ]]⟩
structure z2w_k0(a b c d:Addr)(K:Pw.Y7)(w):Prop where out:fq (gV z2w_F 0 [] [] K a b c d w)
structure z2w_sh(a b c d e f g i:Int)(j:Addr)(K:Pw.Y7)(w):Prop where out:fq (fV z2w_F [v0 0 z2w_k0] K a b c d e f g i j w)
theorem z2w_ok:okP z2w_F 241 z2w_sh:=okN (fun K=>[c0 0 z2w_k0 K]) call241 func241 fun _=>q03 hC0<|hEnd
noncomputable def z3q_F:FD prog:=⟨f167,[],aN 0x2b1ddd11,[],[tM],[]⟩
structure z3q_sh(K:Option Nat->World->Prop)(w):Prop where out:fq (fV z3q_F [] K w)
theorem z3q_ok:okP z3q_F 167 z3q_sh:=okN (fun _=>[]) call167 func167 fun _=>hEnd
noncomputable def z4j_F:FD prog:=⟨f169,[kn z5a_ok,kn z7e_ok],aN 0x710ef410e3e420b1071fe2e,[.g 5,tS,tI,tI,tS,tL,tQ],[.u 2,.g 4,tI,tI,tI,tI,tI],[]⟩
structure z4j_sh(a:ByteArray)(b c:Int)(d:ByteArray)(e:Sl)(f:Addr)(K:Pw.Y7)(w):Prop where out:fq (fV z4j_F [] K a b c d e f w)
theorem z4j_ok:okP z4j_F 169 z4j_sh:=okN (fun _=>[]) call169 func169 fun _=>hEnd
noncomputable def z4k_F:FD prog:=⟨f170,[],aV [Value.nilFunc,(Value.tuple #[(Value.agg #[(Value.int .i64 0),(Value.int .i64 0),(Value.int .i64 0),(Value.int .i64 0)]),(Value.int .i64 0)])] 0x41d20d2b41,[tS,.g 4,tI,tI,tI,tI,.g 4,tI,tI,tI,tI,tQ],[.u 2,.g 4,tI,tI,tI,tI,tI],[]⟩
structure z4k_sh(a:ByteArray)(b c d e f g i j:Int)(k:Addr)(K:Pw.Y7)(w):Prop where out:fq (fV z4k_F [] K a b c d e f g i j k w)
theorem z4k_ok:okP z4k_F 170 z4k_sh:=okN (fun _=>[]) call170 func170 fun _=>hEnd
noncomputable def z6u_as0:Code:=rfAs (rfAt (qdd Tryz.f168) 0)
noncomputable def z6u_bd0:Code:=rfBd (rfAt (qdd Tryz.f168) 0)
def z6u_ps0:Array Tmp:=#[16]
noncomputable def z6u_F:FD prog:=⟨f168,[kn z65_ok],fun l=>qr 5 (qr 1 (qs (qr 2 (qb (A.rf [4,5,6,7,8,15] (l 0) (qb (qr 1 (qr 1 (qs (qr 3 (qr 4 (qc (A.reg (qn 2 (RA.dyn (Value.tuple #[(Value.agg #[(Value.int .i64 0),(Value.int .i64 0),(Value.int .i64 0),(Value.int .i64 0)]),(Value.int .i64 0)]) (qn 5 RA.done)))) (qs (A.drw (dp [0,1,2,3,4,5,6,7,8,9,10,11,12] (DA.dyn 13 (Value.tuple #[(Value.agg #[(Value.int .i64 0),(Value.int .i64 0),(Value.int .i64 0),(Value.int .i64 0)]),(Value.int .i64 0)]) (dp [14,15,16] (DA.eff 17 (DA.pur 18 DA.done)))))) (qe 5))))) (A.cut [6,7,8,10,11] (l 1) (qs (qr 2 (qc (qr 1 (qr 4 ql)) ql)) (qe 5)))))))))) (qr 5 ql))),[.g 5,tS,tI,tI,tS,tL,tV,tV],[.u 2,.g 4,tI,tI,tI,tI,tI],[[tQ,tQ,tQ,tQ,tQ,tV],[tQ,tQ,tQ,tQ,tI]]⟩
structure z6u_f0(a b:Addr)(c d e:Addr)(f:Value)(K:Pw.Y7)(w):Prop where out:fq (gF z6u_F 61 0 z6u_ps0 z6u_as0 z6u_bd0 [] K a b c d e f w)
structure z6u_k1(a b:Addr)(c d:Addr)(e:Int)(f:World->Prop)(g:World->Prop)(K:Pw.Y7)(w):Prop where out:fq (gV z6u_F 1 [] [nN 99 f,nN 99 g] K a b c d e w)
structure z6u_r0(a b:Addr)(c d e:Addr)(f:Value)(g:ByteArray)(i j:Int)(k:ByteArray)(l:Sl)(M:World->(World->Prop)->Prop)(Nn0:World->Prop)(Nr0:World->Prop)(K:Pw.Y7)(w):Prop where out:fq (gR z6u_F 0 [.g 5,tS,tI,tI,tS,tL] z6u_ps0 z6u_as0 z6u_bd0 (qe 2) [v2 1 z6u_k1 Nn0 Nr0] M Nn0 Nr0 K a b c d e f g i j k l w)
structure z6u_sh(a:ByteArray)(b c:Int)(d:ByteArray)(e:Sl)(f g:Value)(K:Pw.Y7)(w):Prop where out:fq (fV z6u_F [v0 0 z6u_f0] K a b c d e f g w)
noncomputable def z6u_L:VW->List (LbC z6u_F):=fun K=>[c0 0 z6u_f0 K,c2 99 99 1 z6u_k1 K]
set_option maxHeartbeats 4000000 in
theorem z6u_ho(K:VW):∀k,0<=k->q12 Tryz.prog z6u_F.env z6u_F.f.ntmps (obF Tryz.prog z6u_F.env z6u_F.f (z6u_F.a (lbT (z6u_L K))) K) k:=q03 hF0<|q03 hC2<|hEnd
set_option maxHeartbeats 4000000 in
theorem z6u_ok:okP z6u_F 168 z6u_sh:=okN z6u_L call168 func168 z6u_ho
set_option maxHeartbeats 4000000 in
theorem z6u_y0{leaf_4:Addr}{node_5:Addr}{t_6:Addr}{t_7:Addr}{stack_8:Addr}{t_15:Value}{t_16_0:ByteArray}{t_16_1:Int}{t_16_2:Int}{t_16_3:ByteArray}{t_16_4p:Option Addr}{t_16_4l t_16_4c:Nat}{fn d l:Nat}{tmps:Array Value}{K':VW}{w:World}(hag:agrT 61 [(4,(Value.pointer (some leaf_4))),(5,(Value.pointer (some node_5))),(6,(Value.pointer (some t_6))),(7,(Value.pointer (some t_7))),(8,(Value.pointer (some stack_8))),(15,t_15)] tmps)(hl:w.heap[l]?=some (lrec fn tmps z6u_ps0 z6u_as0 z6u_bd0 d .ready none))(h:z6u_r0 leaf_4 node_5 t_6 t_7 stack_8 t_15 t_16_0 t_16_1 t_16_2 t_16_3 ⟨t_16_4p,t_16_4l,t_16_4c⟩ (rMid l fn tmps z6u_ps0 z6u_as0 z6u_bd0 d) (rN l fn tmps z6u_ps0 z6u_as0 z6u_bd0 d K') (rR l fn tmps z6u_ps0 z6u_as0 z6u_bd0 d K') (kk z6u_F.rs fun _ _=>True) w):Yl Tryz.prog l #[(Value.agg #[(Value.string t_16_0),(Value.int .i64 t_16_1),(Value.int .i64 t_16_2),(Value.string t_16_3),(Value.slice t_16_4p t_16_4l t_16_4c)])] w K':=yN z6u_F 1 (qe 2) (z6u_L fun _ _=>True) (Kv:=fun _ _=>True) (args:=[(Value.agg #[(Value.string t_16_0),(Value.int .i64 t_16_1),(Value.int .i64 t_16_2),(Value.string t_16_3),(Value.slice t_16_4p t_16_4l t_16_4c)])]) (z6u_ho _) hag hl (cast (by kernel_rfl) h.out)
noncomputable def z64_F:FD prog:=⟨f92,[kn z66_ok,kn z3q_ok,kn z6u_ok],aN 0x72652e432105372a1e0042322e102372fe251,[tR,.g 5,tS,tI,tI,tS,tL],[.u 3,.g 2,tI,tI,.g 2,tI,tI,tI],[]⟩
structure z64_sh(a:T43)(b:ByteArray)(c d:Int)(e:ByteArray)(f:Sl)(K:Pw.Y7)(w):Prop where out:fq (fV z64_F [] K a b c d e f w)
theorem z64_ok:okP z64_F 92 z64_sh:=okN (fun _=>[]) call92 func92 fun _=>hEnd
noncomputable def z4m_F:FD prog:=⟨f43,[kn z6s_ok,kn z64_ok],aN 0xd95fd20412a15f012c033bb3b291d,[tR],[tI],[[tQ,tI]]⟩
structure z4m_k0(a:Addr)(b:Int)(K:Pw.Y1)(w):Prop where out:fq (gV z4m_F 0 [] [] K a b w)
structure z4m_sh(a:T43)(K:Pw.Y1)(w):Prop where out:fq (fV z4m_F [v0 0 z4m_k0] K a w)
theorem z4m_ok:okP z4m_F 43 z4m_sh:=okN (fun K=>[c0 0 z4m_k0 K]) call43 func43 fun _=>q03 hC0<|hEnd
noncomputable def z5t_F:FD prog:=⟨f94,[],aN 0xda5fd81225fd211,[tL,tI],[tL],[]⟩
structure z5t_sh(a:Sl)(b:Int)(K:Pw.Y4)(w):Prop where out:fq (fV z5t_F [] K a b w)
theorem z5t_ok:okP z5t_F 94 z5t_sh:=okN (fun _=>[]) call94 func94 fun _=>hEnd
noncomputable def z4b_F:FD prog:=⟨f45,[kn z5t_ok],aN 0xd2545e42c21110cfbeb6494e2e2525fd51e42c21100ba930594e21111,[tL],[tL],[[tL,tI,tL,tI,tI],[tL,tL,tI,tI]]⟩
def z4b_b1(a b:Sl)(c d:Int)(N1:Sl->Sl->Int->Int->World->Prop)(K:Pw.Y4)(w:World):Prop:=fq (gV z4b_F 1 [] [nN 1 N1] K a b c d w)
structure z4b_l1(a b:Sl)(c d:Int)(K:Pw.Y4)(w):Prop where out:fl (lp0 [tL,tL,tI,tI] [0,1,1,0] z4b_b1 K a b c d w)
def z4b_b0(a:Sl)(b:Int)(c:Sl)(d e:Int)(N0:Sl->Int->Sl->Int->Int->World->Prop)(K:Pw.Y4)(w:World):Prop:=fq (gV z4b_F 0 [v0 1 z4b_l1] [nN 0 N0] K a b c d e w)
structure z4b_l0(a:Sl)(b:Int)(c:Sl)(d e:Int)(K:Pw.Y4)(w):Prop where out:fl (lp0 [tL,tI,tL,tI,tI] [1,0,1,1,0] z4b_b0 K a b c d e w)
structure z4b_sh(a:Sl)(K:Pw.Y4)(w):Prop where out:fq (fV z4b_F [v0 0 z4b_l0] K a w)
theorem z4b_ok:okP z4b_F 45 z4b_sh:=okN (fun K=>[c0 0 z4b_l0 K,c0 1 z4b_l1 K]) call45 func45 fun _=>q03 (hL0 [1,0,1,1,0] z4b_b0)<|q03 (hL0 [0,1,1,0] z4b_b1)<|hEnd
noncomputable def z4i_F:FD prog:=⟨f46,[],aN 0x51d,[.g 2,tI,tI,tQ],[tB],[]⟩
structure z4i_sh(a b:Int)(c:Addr)(K:Pw.Y0)(w):Prop where out:fq (fV z4i_F [] K a b c w)
theorem z4i_ok:okP z4i_F 46 z4i_sh:=okN (fun _=>[]) call46 func46 fun _=>hEnd
noncomputable def z3j_F:FD prog:=⟨f47,[kn z7d_ok],aN 0x1135011f091876543210937242cd203029441211,[tL],[tB],[[tL,tI]]⟩
def z3j_b0(a:Sl)(b:Int)(N0:Sl->Int->World->Prop)(K:Pw.Y0)(w:World):Prop:=fq (gV z3j_F 0 [] [nN 0 N0] K a b w)
structure z3j_l0(a:Sl)(b:Int)(K:Pw.Y0)(w):Prop where out:fl (lp0 [tL,tI] [1,0] z3j_b0 K a b w)
structure z3j_sh(a:Sl)(K:Pw.Y0)(w):Prop where out:fq (fV z3j_F [v0 0 z3j_l0] K a w)
theorem z3j_ok:okP z3j_F 47 z3j_sh:=okN (fun K=>[c0 0 z3j_l0 K]) call47 func47 fun _=>q03 (hL0 [1,0] z3j_b0)<|hEnd
noncomputable def z62_F:FD prog:=⟨f17,[kn z6m_ok,kn z05_ok,kn z42_ok,kn z4m_ok,kn z5a_ok,kn z4b_ok,kn z3j_ok],aN 0xd0df4b12250df514142c21130df0cf0bf1494512250df03012c04fb3ba1e42c21127e6e5e14944120efde2250efd414142c21114d3d2d14944120df4120df51225041f514142c2110cbbbab14944120dfe2e,[tR],[.u 2,tS,tI],[[tQ,tL,tI,tI],[tQ,tL,tI,tI],[tQ,tL,tI,tI],[tQ,tL,tI,tI]]⟩
def z62_b3(a:Addr)(b:Sl)(c d:Int)(N3:Addr->Sl->Int->Int->World->Prop)(K:Pw.Y11)(w:World):Prop:=fq (gV z62_F 3 [] [nN 3 N3] K a b c d w)
structure z62_l3(a:Addr)(b:Sl)(c d:Int)(K:Pw.Y11)(w):Prop where out:fl (lp0 [tQ,tL,tI,tI] [1,1,1,0] z62_b3 K a b c d w)
def z62_b2(a:Addr)(b:Sl)(c d:Int)(N2:Addr->Sl->Int->Int->World->Prop)(K:Pw.Y11)(w:World):Prop:=fq (gV z62_F 2 [v0 3 z62_l3] [nN 2 N2] K a b c d w)
structure z62_l2(a:Addr)(b:Sl)(c d:Int)(K:Pw.Y11)(w):Prop where out:fl (lp0 [tQ,tL,tI,tI] [1,1,1,0] z62_b2 K a b c d w)
def z62_b1(a:Addr)(b:Sl)(c d:Int)(N1:Addr->Sl->Int->Int->World->Prop)(K:Pw.Y11)(w:World):Prop:=fq (gV z62_F 1 [v0 2 z62_l2] [nN 1 N1] K a b c d w)
structure z62_l1(a:Addr)(b:Sl)(c d:Int)(K:Pw.Y11)(w):Prop where out:fl (lp0 [tQ,tL,tI,tI] [1,1,1,0] z62_b1 K a b c d w)
def z62_b0(a:Addr)(b:Sl)(c d:Int)(N0:Addr->Sl->Int->Int->World->Prop)(K:Pw.Y11)(w:World):Prop:=fq (gV z62_F 0 [v0 1 z62_l1] [nN 0 N0] K a b c d w)
structure z62_l0(a:Addr)(b:Sl)(c d:Int)(K:Pw.Y11)(w):Prop where out:fl (lp0 [tQ,tL,tI,tI] [1,1,1,0] z62_b0 K a b c d w)
structure z62_sh(a:T43)(K:Pw.Y11)(w):Prop where out:fq (fV z62_F [v0 0 z62_l0] K a w)
theorem z62_ok:okP z62_F 17 z62_sh:=okN (fun K=>[c0 0 z62_l0 K,c0 1 z62_l1 K,c0 2 z62_l2 K,c0 3 z62_l3 K]) call17 func17 fun _=>q03 (hL0 [1,1,1,0] z62_b0)<|q03 (hL0 [1,1,1,0] z62_b1)<|q03 (hL0 [1,1,1,0] z62_b2)<|q03 (hL0 [1,1,1,0] z62_b3)<|hEnd
noncomputable def z3w_F:FD prog:=⟨f248,[],aN 0xd35c09876543210a38242c4120302941120dfe211,[tL],[tL],[[tL,tI]]⟩
def z3w_b0(a:Sl)(b:Int)(N0:Sl->Int->World->Prop)(K:Pw.Y4)(w:World):Prop:=fq (gV z3w_F 0 [] [nN 0 N0] K a b w)
structure z3w_l0(a:Sl)(b:Int)(K:Pw.Y4)(w):Prop where out:fl (lp0 [tL,tI] [1,0] z3w_b0 K a b w)
structure z3w_sh(a:Sl)(K:Pw.Y4)(w):Prop where out:fq (fV z3w_F [v0 0 z3w_l0] K a w)
theorem z3w_ok:okP z3w_F 248 z3w_sh:=okN (fun K=>[c0 0 z3w_l0 K]) call248 func248 fun _=>q03 (hL0 [1,0] z3w_b0)<|hEnd
noncomputable def z4w_F:FD prog:=⟨f247,[],aN 0x41011fd211,[tL],[tL],[]⟩
structure z4w_sh(a:Sl)(K:Pw.Y4)(w):Prop where out:fq (fV z4w_F [] K a w)
theorem z4w_ok:okP z4w_F 247 z4w_sh:=okN (fun _=>[]) call247 func247 fun _=>hEnd
noncomputable def z44_F:FD prog:=⟨f5,[kn z6l_ok,kn z62_ok],aV [(Value.agg #[(Value.int .i64 0),(Value.slice none 0 0)])] 0x4125041fd0413d4010d3be42c21109c8c7c741694e2051fd712061fd2a1e,[tS,tI],[.u 3,tR,tI,tI],[[tI,tQ,tQ,tL,tI,tI]]⟩
def z44_b0(a:Int)(b c:Addr)(d:Sl)(e f:Int)(N0:Int->Addr->Addr->Sl->Int->Int->World->Prop)(K:T43->Int->Int->World->Prop)(w:World):Prop:=fq (gV z44_F 0 [] [nN 0 N0] K a b c d e f w)
structure z44_l0(a:Int)(b c:Addr)(d:Sl)(e f:Int)(K:T43->Int->Int->World->Prop)(w):Prop where out:fl (lp0 [tI,tQ,tQ,tL,tI,tI] [1,1,1,1,1,0] z44_b0 K a b c d e f w)
structure z44_sh(a:ByteArray)(b:Int)(K:T43->Int->Int->World->Prop)(w):Prop where out:fq (fV z44_F [v0 0 z44_l0] K a b w)
theorem z44_ok:okP z44_F 5 z44_sh:=okN (fun K=>[c0 0 z44_l0 K]) call5 func5 fun _=>q03 (hL0 [1,1,1,1,1,0] z44_b0)<|hEnd
noncomputable def z5j_F:FD prog:=⟨f96,[kn z62_ok],aN 0x7171e,[tR],[.u 2,tP,tB],[]⟩
structure z5j_sh(a:T43)(K:Option Addr->Bool->World->Prop)(w):Prop where out:fq (fV z5j_F [] K a w)
theorem z5j_ok:okP z5j_F 96 z5j_sh:=okN (fun _=>[]) call96 func96 fun _=>hEnd
noncomputable def z2a_F:FD prog:=⟨f53,[],aN 0xd25954142c2110dbcbbb349471201b20b1a98765432100b37211,[tP],[tL],[[tL,tL,tI,tI]]⟩
def z2a_b0(a b:Sl)(c d:Int)(N0:Sl->Sl->Int->Int->World->Prop)(K:Pw.Y4)(w:World):Prop:=fq (gV z2a_F 0 [] [nN 0 N0] K a b c d w)
structure z2a_l0(a b:Sl)(c d:Int)(K:Pw.Y4)(w):Prop where out:fl (lp0 [tL,tL,tI,tI] [0,1,1,0] z2a_b0 K a b c d w)
structure z2a_sh(a:Option Addr)(K:Pw.Y4)(w):Prop where out:fq (fV z2a_F [v0 0 z2a_l0] K a w)
theorem z2a_ok:okP z2a_F 53 z2a_sh:=okN (fun K=>[c0 0 z2a_l0 K]) call53 func53 fun _=>q03 (hL0 [0,1,1,0] z2a_b0)<|hEnd
noncomputable def z17_F:FD prog:=⟨f51,[kn z3i_ok,kn z63_ok],aN 0x8111,[tP],[tB],[]⟩
structure z17_sh(a:Option Addr)(K:Pw.Y0)(w):Prop where out:fq (fV z17_F [] K a w)
theorem z17_ok:okP z17_F 51 z17_sh:=okN (fun _=>[]) call51 func51 fun _=>hEnd
noncomputable def z29_F:FD prog:=⟨f171,[kn z17_ok,kn z2a_ok],aN 0x1125011fd91011f6124142c21118b7b6b3494e20432a75fd2e1111,[tP],[tB],[[tI,tL],[tI,tL,tI,tI]]⟩
def z29_b1(a:Int)(b:Sl)(c d:Int)(N1:Int->Sl->Int->Int->World->Prop)(K:Pw.Y0)(w:World):Prop:=fq (gV z29_F 1 [] [nN 1 N1] K a b c d w)
structure z29_l1(a:Int)(b:Sl)(c d:Int)(K:Pw.Y0)(w):Prop where out:fl (lp0 [tI,tL,tI,tI] [0,1,1,0] z29_b1 K a b c d w)
structure z29_k0(a:Int)(b:Sl)(K:Pw.Y0)(w):Prop where out:fq (gV z29_F 0 [v0 1 z29_l1] [] K a b w)
structure z29_sh(a:Option Addr)(K:Pw.Y0)(w):Prop where out:fq (fV z29_F [v0 0 z29_k0] K a w)
theorem z29_ok:okP z29_F 171 z29_sh:=okN (fun K=>[c0 0 z29_k0 K,c0 1 z29_l1 K]) call171 func171 fun _=>q03 hC0<|q03 (hL0 [0,1,1,0] z29_b1)<|hEnd
noncomputable def z28_F:FD prog:=⟨f246,[],aN 0xd2502b11b20ba2e9876543210a376142c2110fbebdb54169471202b1b2e0ba98765432101b37211,[tP,tL],[.g 5,tI,tI,tI,tI,tL],[[tL,tQ,tQ,tL,tI,tI]]⟩
def z28_b0(a:Sl)(b c:Addr)(d:Sl)(e f:Int)(N0:Sl->Addr->Addr->Sl->Int->Int->World->Prop)(K:Pw.Y13)(w:World):Prop:=fq (gV z28_F 0 [] [nN 0 N0] K a b c d e f w)
structure z28_l0(a:Sl)(b c:Addr)(d:Sl)(e f:Int)(K:Pw.Y13)(w):Prop where out:fl (lp0 [tL,tQ,tQ,tL,tI,tI] [1,1,1,1,1,0] z28_b0 K a b c d e f w)
structure z28_sh(a:Option Addr)(b:Sl)(K:Pw.Y13)(w):Prop where out:fq (fV z28_F [v0 0 z28_l0] K a b w)
theorem z28_ok:okP z28_F 246 z28_sh:=okN (fun K=>[c0 0 z28_l0 K]) call246 func246 fun _=>q03 (hL0 [1,1,1,1,1,0] z28_b0)<|hEnd
noncomputable def z2c_F:FD prog:=⟨f173,[kn z3w_ok],aN 0xd355542c4120652394e21102b1fd2d,[.g 2,tI,tI,tB],[tL],[[tQ,tL,tI]]⟩
def z2c_b0(a:Addr)(b:Sl)(c:Int)(N0:Addr->Sl->Int->World->Prop)(K:Pw.Y4)(w:World):Prop:=fq (gV z2c_F 0 [] [nN 0 N0] K a b c w)
structure z2c_l0(a:Addr)(b:Sl)(c:Int)(K:Pw.Y4)(w):Prop where out:fl (lp0 [tQ,tL,tI] [1,0,0] z2c_b0 K a b c w)
structure z2c_sh(a b:Int)(c:Bool)(K:Pw.Y4)(w):Prop where out:fq (fV z2c_F [v0 0 z2c_l0] K a b c w)
theorem z2c_ok:okP z2c_F 173 z2c_sh:=okN (fun K=>[c0 0 z2c_l0 K]) call173 func173 fun _=>q03 (hL0 [1,0,0] z2c_b0)<|hEnd
noncomputable def z0b_F:FD prog:=⟨f245,[kn z2c_ok,kn z28_ok,kn z4w_ok],aV [(Value.bool false)] 0x1125011f072069522e4072069542e253103372e42c21101c0cfb50594072618543210737220052049312103372f51211,[tL,tQ,tQ,tQ,tQ,tQ],[tB],[[tL,tQ,tL,tI,tI]]⟩
def z0b_b0(a:Sl)(b:Addr)(c:Sl)(d e:Int)(N0:Sl->Addr->Sl->Int->Int->World->Prop)(K:Pw.Y0)(w:World):Prop:=fq (gV z0b_F 0 [] [nN 0 N0] K a b c d e w)
structure z0b_l0(a:Sl)(b:Addr)(c:Sl)(d e:Int)(K:Pw.Y0)(w):Prop where out:fl (lp0 [tL,tQ,tL,tI,tI] [1,1,1,1,0] z0b_b0 K a b c d e w)
structure z0b_sh(a:Sl)(b c d e f:Addr)(K:Pw.Y0)(w):Prop where out:fq (fV z0b_F [v0 0 z0b_l0] K a b c d e f w)
theorem z0b_ok:okP z0b_F 245 z0b_sh:=okN (fun K=>[c0 0 z0b_l0 K]) call245 func245 fun _=>q03 (hL0 [1,1,1,1,0] z0b_b0)<|hEnd
noncomputable def z0h_F:FD prog:=⟨f244,[],aV [(Value.bool false)] 0xd16d1111,[tV,tQ,tQ,tQ],[.u 0],[]⟩
structure z0h_sh(a:Value)(b c d:Addr)(K:Pw.Y5)(w):Prop where out:fq (fV z0h_F [] K a b c d w)
theorem z0h_ok:okP z0h_F 244 z0h_sh:=okN (fun _=>[]) call244 func244 fun _=>hEnd
noncomputable def z16_F:FD prog:=⟨f172,[kn z2a_ok],aN 0xd41e,[tP,tB],[tV],[]⟩
structure z16_sh(a:Option Addr)(b:Bool)(K:Value->World->Prop)(w):Prop where out:fq (fV z16_F [] K a b w)
theorem z16_ok:okP z16_F 172 z16_sh:=okN (fun _=>[]) call172 func172 fun _=>hEnd
noncomputable def z1s_F:FD prog:=⟨f329,[kn z5d_ok],aN 0xd2862a061543210637f515110ba87606a01b20b19873361a01b20ba2e98733655432106372fd2098764207a00b2a18763351900b2a92e876335543210537261d,[tP,.g 5,tI,tI,tI,tI,tL,tI],[.g 3,tI,tI,tB],[[tP,tI,tQ,tQ,tQ,tQ,tB],[tP,tQ,tQ,tQ,tQ,tI],[tQ,tQ]]⟩
structure z1s_k2(a b:Addr)(K:Pw.Y6)(w):Prop where out:fq (gV z1s_F 2 [] [] K a b w)
structure z1s_k1(a:Option Addr)(b c d e:Addr)(f:Int)(K:Pw.Y6)(w):Prop where out:fq (gV z1s_F 1 [v0 2 z1s_k2] [] K a b c d e f w)
structure z1s_k0(a:Option Addr)(b:Int)(c d e f:Addr)(g:Bool)(K:Pw.Y6)(w):Prop where out:fq (gV z1s_F 0 [v0 1 z1s_k1,v0 2 z1s_k2] [] K a b c d e f g w)
structure z1s_sh(a:Option Addr)(b c d e:Int)(f:Sl)(g:Int)(K:Pw.Y6)(w):Prop where out:fq (fV z1s_F [v0 0 z1s_k0] K a b c d e f g w)
theorem z1s_ok:okP z1s_F 329 z1s_sh:=okN (fun K=>[c0 0 z1s_k0 K,c0 1 z1s_k1 K,c0 2 z1s_k2 K]) call329 func329 fun _=>q03 hC0<|q03 hC0<|q03 hC0<|hEnd
noncomputable def z14_F:FD prog:=⟨f308,[kn z72_ok,kn z1s_ok],aN 0x1ba23982401ba98430c80b72347653210637200ba2a00ba734e800ba73e800ba83e7535900ba734e900ba73e900ba93e7535800ba73e800ba83e75900ba73e900ba93e75800ba83e900ba93e857636654210637241,[tP,.g 5,tI,tI,tI,tI,tL,.g 5,tI,tI,tI,tI,tL,tI],[.u 2,tI,tB],[[tQ,tQ]]⟩
structure z14_k0(a b:Addr)(K:Pw.Y15)(w):Prop where out:fq (gV z14_F 0 [] [] K a b w)
structure z14_sh(a:Option Addr)(b c d e:Int)(f:Sl)(g i j k:Int)(l:Sl)(m:Int)(K:Pw.Y15)(w):Prop where out:fq (fV z14_F [v0 0 z14_k0] K a b c d e f g i j k l m w)
theorem z14_ok:okP z14_F 308 z14_sh:=okN (fun K=>[c0 0 z14_k0 K]) call308 func308 fun _=>q03 hC0<|hEnd
noncomputable def z1u_F:FD prog:=⟨f286,[kn z14_ok],aN 0x23c21c21c023c21c023c053db30db3dcb4b02b1b0ba9538176543210837202b1b0ba9538176543210837211,[tP,tL,tI,tI],[tB],[]⟩
structure z1u_sh(a:Option Addr)(b:Sl)(c d:Int)(K:Pw.Y0)(w):Prop where out:fq (fV z1u_F [] K a b c d w)
theorem z1u_ok:okP z1u_F 286 z1u_sh:=okN (fun _=>[]) call286 func286 fun _=>hEnd
noncomputable def z1r_F:FD prog:=⟨f249,[],aN 0x8111,[tP],[.g 3,tV,tV,tV],[]⟩
structure z1r_sh(a:Option Addr)(K:Value->Value->Value->World->Prop)(w):Prop where out:fq (fV z1r_F [] K a w)
theorem z1r_ok:okP z1r_F 249 z1r_sh:=okN (fun _=>[]) call249 func249 fun _=>hEnd
noncomputable def z27_F:FD prog:=⟨f250,[kn z28_ok],aN 0x4125654142c21105b4b3b540694712e11,[tP,tI],[.g 5,tI,tI,tI,tI,tL],[[tP,tQ,tL,tL,tI,tI]]⟩
def z27_b0(a:Option Addr)(b:Addr)(c d:Sl)(e f:Int)(N0:Option Addr->Addr->Sl->Sl->Int->Int->World->Prop)(K:Pw.Y13)(w:World):Prop:=fq (gV z27_F 0 [] [nN 0 N0] K a b c d e f w)
structure z27_l0(a:Option Addr)(b:Addr)(c d:Sl)(e f:Int)(K:Pw.Y13)(w):Prop where out:fl (lp0 [tP,tQ,tL,tL,tI,tI] [1,1,0,1,1,0] z27_b0 K a b c d e f w)
structure z27_sh(a:Option Addr)(b:Int)(K:Pw.Y13)(w):Prop where out:fq (fV z27_F [v0 0 z27_l0] K a b w)
theorem z27_ok:okP z27_F 250 z27_sh:=okN (fun K=>[c0 0 z27_l0 K]) call250 func250 fun _=>q03 (hL0 [1,1,0,1,1,0] z27_b0)<|hEnd
noncomputable def z15_F:FD prog:=⟨f174,[kn z1r_ok,kn z27_ok],aV [Value.nilFunc,(Value.bool false)] 0xd2555250e75f013c0400fb3b249b5b2b105a7539b8b5b2b106af04013c3eb3b2c011d4b241e42c21124d3d2d6c5c4c5b3b2b1b87103b94e216c5c4c6b5b3b2b1b87101ba25fd2ece2e42c21106c5c4c3b2b1b8710a94e21161010d4b41,[tP,tI,.g 5,tI,tI,tI,tI,tL,.g 5,tI,tI,tI,tI,tL,tL],[.u 2,tL,tB],[[tP,tI,tQ,tQ,tV,tI,tL,tL,tI,tI],[tP,tI,tQ,tQ,tV,tI,tL,tI,tL,tL,tI,tI],[tP,tI,tQ,tQ,tV,tI,tL,tI,tL,tI,tI,tL,tI,tI],[tP,tI,tI,tI,tI,tL],[tP,tI,tI,tI,tL]]⟩
structure z15_k4(a:Option Addr)(b c d:Int)(e:Sl)(N2:Option Addr->Int->Addr->Addr->Value->Int->Sl->Int->Sl->Int->Int->Sl->Int->Int->World->Prop)(N0:Option Addr->Int->Addr->Addr->Value->Int->Sl->Sl->Int->Int->World->Prop)(K:Sl->Bool->World->Prop)(w):Prop where out:fq (gV z15_F 4 [] [nN 2 N2,nN 0 N0] K a b c d e w)
structure z15_k3(a:Option Addr)(b c d e:Int)(f:Sl)(N2:Option Addr->Int->Addr->Addr->Value->Int->Sl->Int->Sl->Int->Int->Sl->Int->Int->World->Prop)(N0:Option Addr->Int->Addr->Addr->Value->Int->Sl->Sl->Int->Int->World->Prop)(K:Sl->Bool->World->Prop)(w):Prop where out:fq (gV z15_F 3 [v2 4 z15_k4 N2 N0] [nN 2 N2,nN 0 N0] K a b c d e f w)
def z15_b2(a:Option Addr)(b:Int)(c d:Addr)(e:Value)(f:Int)(g:Sl)(i:Int)(j:Sl)(k l:Int)(m:Sl)(n o:Int)(N2:Option Addr->Int->Addr->Addr->Value->Int->Sl->Int->Sl->Int->Int->Sl->Int->Int->World->Prop)(N0:Option Addr->Int->Addr->Addr->Value->Int->Sl->Sl->Int->Int->World->Prop)(K:Sl->Bool->World->Prop)(w:World):Prop:=fq (gV z15_F 2 [v2 3 z15_k3 N2 N0,v2 4 z15_k4 N2 N0] [nN 2 N2,nN 0 N0] K a b c d e f g i j k l m n o w)
structure z15_l2(a:Option Addr)(b:Int)(c d:Addr)(e:Value)(f:Int)(g:Sl)(i:Int)(j:Sl)(k l:Int)(m:Sl)(n o:Int)(N0:Option Addr->Int->Addr->Addr->Value->Int->Sl->Sl->Int->Int->World->Prop)(K:Sl->Bool->World->Prop)(w):Prop where out:fl (lp1 [tP,tI,tQ,tQ,tV,tI,tL,tI,tL,tI,tI,tL,tI,tI] [1,1,1,1,1,1,1,1,1,1,1,1,1,0] z15_b2 N0 K a b c d e f g i j k l m n o w)
structure z15_k1(a:Option Addr)(b:Int)(c d:Addr)(e:Value)(f:Int)(g:Sl)(i:Int)(j k:Sl)(l m:Int)(N0:Option Addr->Int->Addr->Addr->Value->Int->Sl->Sl->Int->Int->World->Prop)(K:Sl->Bool->World->Prop)(w):Prop where out:fq (gV z15_F 1 [v1 2 z15_l2 N0] [nN 0 N0] K a b c d e f g i j k l m w)
def z15_b0(a:Option Addr)(b:Int)(c d:Addr)(e:Value)(f:Int)(g i:Sl)(j k:Int)(N0:Option Addr->Int->Addr->Addr->Value->Int->Sl->Sl->Int->Int->World->Prop)(K:Sl->Bool->World->Prop)(w:World):Prop:=fq (gV z15_F 0 [v1 1 z15_k1 N0] [nN 0 N0] K a b c d e f g i j k w)
structure z15_l0(a:Option Addr)(b:Int)(c d:Addr)(e:Value)(f:Int)(g i:Sl)(j k:Int)(K:Sl->Bool->World->Prop)(w):Prop where out:fl (lp0 [tP,tI,tQ,tQ,tV,tI,tL,tL,tI,tI] [1,1,1,1,1,1,0,1,1,0] z15_b0 K a b c d e f g i j k w)
structure z15_sh(a:Option Addr)(b c d e f:Int)(g:Sl)(i j k l:Int)(m n:Sl)(K:Sl->Bool->World->Prop)(w):Prop where out:fq (fV z15_F [v0 0 z15_l0] K a b c d e f g i j k l m n w)
theorem z15_ok:okP z15_F 174 z15_sh:=okN (fun K=>[c0 0 z15_l0 K,c1 0 1 z15_k1 K,c1 0 2 z15_l2 K,c2 2 0 3 z15_k3 K,c2 2 0 4 z15_k4 K]) call174 func174 fun _=>q03 (hL0 [1,1,1,1,1,1,0,1,1,0] z15_b0)<|q03 hC1<|q03 (hL1 [1,1,1,1,1,1,1,1,1,1,1,1,1,0] z15_b2)<|q03 hC2<|q03 hC2<|hEnd
noncomputable def z1t_as0:Code:=rfAs (rfAt (qdd Tryz.f97) 0)
noncomputable def z1t_bd0:Code:=rfBd (rfAt (qdd Tryz.f97) 0)
def z1t_ps0:Array Tmp:=#[24]
noncomputable def z1t_F:FD prog:=⟨f97,[kn z17_ok,kn z29_ok,kn z16_ok,kn z2c_ok,kn z15_ok],fun l=>qr 1 (qr 3 (qr 1 (qr 5 (qs (qr 3 (qb (A.rf [0,1,4,5,6,23] (l 0) (qb (qr 5 (qr 5 (qr 3 (qc (qe 0) ql)))))))) (A.fnc [0,1,4,5,6] [4] (l 1) (qr 7 (qs (qr 2 (qc (A.drw (dp [0,1,2,3,4,5,6,7,8,9,10,11] (DA.eff 12 (DA.pur 13 DA.done)))) (qe 0))) (qs (qr 3 (qb (A.loop [0,1,4,5,6,8,57,58,59] (l 2) (qr 1 (qs (qc ql ql) (qs (qb (qr 4 (qr 3 (qb (A.loop [0,1,4,5,6,8,10,57,58,59,63,64,65] (l 3) (qr 1 (qs (qc ql ql) (qs (qb (qr 4 (qs (qr 8 (qr 5 (qc (qr 2 ql) ql))) (qr 11 (qr 1 (qc (qr 3 ql) ql)))))) (qe 2))))))))) (qe 2))))))) (qs (qr 1 (qc ql ql)) (qr 2 ql)))))))))),[tP,tI],[.g 2,tI,tL],[[tP,tI,tQ,tB,tQ,tV],[tP,tI,tQ,tB,tQ],[tP,tI,tQ,tB,tQ,tL,tL,tI,tI],[tP,tI,tQ,tB,tQ,tL,tQ,tL,tI,tI,tL,tI,tI],[tQ]]⟩
def z1t_b3(a:Option Addr)(b:Int)(c:Addr)(d:Bool)(e:Addr)(f:Sl)(g:Addr)(i:Sl)(j k:Int)(l:Sl)(m n:Int)(N3:Option Addr->Int->Addr->Bool->Addr->Sl->Addr->Sl->Int->Int->Sl->Int->Int->World->Prop)(N2:Option Addr->Int->Addr->Bool->Addr->Sl->Sl->Int->Int->World->Prop)(o:Addr->World->Prop)(K:Pw.Y12)(w:World):Prop:=fq (gV z1t_F 3 [] [nN 3 N3,nN 2 N2,nN 4 o] K a b c d e f g i j k l m n w)
structure z1t_l3(a:Option Addr)(b:Int)(c:Addr)(d:Bool)(e:Addr)(f:Sl)(g:Addr)(i:Sl)(j k:Int)(l:Sl)(m n:Int)(N2:Option Addr->Int->Addr->Bool->Addr->Sl->Sl->Int->Int->World->Prop)(o:Addr->World->Prop)(K:Pw.Y12)(w):Prop where out:fl (lp2 [tP,tI,tQ,tB,tQ,tL,tQ,tL,tI,tI,tL,tI,tI] [1,1,1,1,1,1,1,1,1,1,1,1,0] z1t_b3 N2 o K a b c d e f g i j k l m n w)
def z1t_b2(a:Option Addr)(b:Int)(c:Addr)(d:Bool)(e:Addr)(f g:Sl)(i j:Int)(N2:Option Addr->Int->Addr->Bool->Addr->Sl->Sl->Int->Int->World->Prop)(k:Addr->World->Prop)(K:Pw.Y12)(w:World):Prop:=fq (gV z1t_F 2 [v2 3 z1t_l3 N2 k] [nN 2 N2,nN 4 k] K a b c d e f g i j w)
structure z1t_l2(a:Option Addr)(b:Int)(c:Addr)(d:Bool)(e:Addr)(f g:Sl)(i j:Int)(k:Addr->World->Prop)(K:Pw.Y12)(w):Prop where out:fl (lp1 [tP,tI,tQ,tB,tQ,tL,tL,tI,tI] [1,1,1,1,1,1,1,1,0] z1t_b2 k K a b c d e f g i j w)
structure z1t_k1(a:Option Addr)(b:Int)(c:Addr)(d:Bool)(e:Addr)(f:Addr->World->Prop)(K:Pw.Y12)(w):Prop where out:fq (gV z1t_F 1 [v1 2 z1t_l2 f] [nN 4 f] K a b c d e w)
structure z1t_f0(a:Option Addr)(b:Int)(c:Addr)(d:Bool)(e:Addr)(f:Value)(K:Pw.Y12)(w):Prop where out:fq (gF z1t_F 99 0 z1t_ps0 z1t_as0 z1t_bd0 [vf 4 1 z1t_k1] K a b c d e f w)
structure z1t_r0(a:Option Addr)(b:Int)(c:Addr)(d:Bool)(e:Addr)(f:Value)(g i:Int)(j k:Int)(l:Sl)(M:World->(World->Prop)->Prop)(Nn0:World->Prop)(Nr0:World->Prop)(K:Pw.Y12)(w):Prop where out:fq (gR z1t_F 0 [.g 5,tI,tI,tI,tI,tL] z1t_ps0 z1t_as0 z1t_bd0 (qe 2) [] M Nn0 Nr0 K a b c d e f g i j k l w)
structure z1t_sh(a:Option Addr)(b:Int)(K:Pw.Y12)(w):Prop where out:fq (fV z1t_F [v0 0 z1t_f0] K a b w)
noncomputable def z1t_L:VW->List (LbC z1t_F):=fun K=>[c0 0 z1t_f0 K,c1 4 1 z1t_k1 K,c1 4 2 z1t_l2 K,c2 2 4 3 z1t_l3 K]
set_option maxHeartbeats 4000000 in
theorem z1t_ho(K:VW):∀k,0<=k->q12 Tryz.prog z1t_F.env z1t_F.f.ntmps (obF Tryz.prog z1t_F.env z1t_F.f (z1t_F.a (lbT (z1t_L K))) K) k:=q03 hF0<|q03 hC1<|q03 (hL1 [1,1,1,1,1,1,1,1,0] z1t_b2)<|q03 (hL2 [1,1,1,1,1,1,1,1,1,1,1,1,0] z1t_b3)<|hEnd
set_option maxHeartbeats 4000000 in
theorem z1t_ok:okP z1t_F 97 z1t_sh:=okN z1t_L call97 func97 z1t_ho
set_option maxHeartbeats 4000000 in
theorem z1t_y0{r_0:Option Addr}{claim_1:Int}{t_4:Addr}{all_5:Bool}{l_6:Addr}{t_23:Value}{t_24_0:Int}{t_24_1:Int}{t_24_2:Int}{t_24_3:Int}{t_24_4p:Option Addr}{t_24_4l t_24_4c:Nat}{fn d l:Nat}{tmps:Array Value}{K':VW}{w:World}(hag:agrT 99 [(0,(Value.pointer r_0)),(1,(Value.int .i64 claim_1)),(4,(Value.pointer (some t_4))),(5,(Value.bool all_5)),(6,(Value.pointer (some l_6))),(23,t_23)] tmps)(hl:w.heap[l]?=some (lrec fn tmps z1t_ps0 z1t_as0 z1t_bd0 d .ready none))(h:z1t_r0 r_0 claim_1 t_4 all_5 l_6 t_23 t_24_0 t_24_1 t_24_2 t_24_3 ⟨t_24_4p,t_24_4l,t_24_4c⟩ (rMid l fn tmps z1t_ps0 z1t_as0 z1t_bd0 d) (rN l fn tmps z1t_ps0 z1t_as0 z1t_bd0 d K') (rR l fn tmps z1t_ps0 z1t_as0 z1t_bd0 d K') (kk z1t_F.rs fun _ _=>True) w):Yl Tryz.prog l #[(Value.agg #[(Value.int .i64 t_24_0),(Value.int .i64 t_24_1),(Value.int .i64 t_24_2),(Value.int .i64 t_24_3),(Value.slice t_24_4p t_24_4l t_24_4c)])] w K':=yN z1t_F 0 (qe 2) (z1t_L fun _ _=>True) (Kv:=fun _ _=>True) (args:=[(Value.agg #[(Value.int .i64 t_24_0),(Value.int .i64 t_24_1),(Value.int .i64 t_24_2),(Value.int .i64 t_24_3),(Value.slice t_24_4p t_24_4l t_24_4c)])]) (z1t_ho _) hag hl (cast (by kernel_rfl) h.out)
noncomputable def z4s_F:FD prog:=⟨f48,[kn z5j_ok,kn z1t_ok],aV [(Value.bool false)] 0x41510df010d2b0d3e0d3e4271d,[tR,tI,tI,tV],[.g 2,tI,tL],[]⟩
structure z4s_sh(a:T43)(b c:Int)(d:Value)(K:Pw.Y12)(w):Prop where out:fq (fV z4s_F [] K a b c d w)
theorem z4s_ok:okP z4s_F 48 z4s_sh:=okN (fun _=>[]) call48 func48 fun _=>hEnd
noncomputable def z18_F:FD prog:=⟨f175,[],aN 0x8111,[tI],[tI],[]⟩
structure z18_sh(a:Int)(K:Pw.Y1)(w):Prop where out:fq (fV z18_F [] K a w)
theorem z18_ok:okP z18_F 175 z18_sh:=okN (fun _=>[]) call175 func175 fun _=>hEnd
structure z2b_sh(a:Option Addr)(b:ByteArray)(c d:Int)(e:ByteArray)(f:Sl)(g:ByteArray)(K:Pw.Y1)(w:World):Prop where out:clF prog 98 [tP,.g 5,tS,tI,tI,tS,tL,tS] [tI] K a b c d e f g w
theorem z2b_okr:q1v prog 98 (sr [tP,.g 5,tS,tI,tI,tS,tL,tS] [tI] z2b_sh):=okR call98
noncomputable def z2b_F:FD prog:=⟨f98,[kn z64_ok,kn z2b_okr,kn z18_ok],aN 0x41011f4188743a0517872a3027c23c027c06033c67fb364fb55ffb4b01134161b98745a0515872a3033c22c033c064dfb449fb63c22c033c22c033c064dfb449fb63c033c22c033c064dfb449fb4021bc45fb540fb43cfb4b42b1ba98747a0413033c22c033c062ffb42bfb63c22c033c22c033c062ffb42bfb63c033c22c033c062ffb42bfb4021bc27fb522fb41efb4b32b1ba98747a0413023c23c023c0512fb50dfb4b0513414222b1ba98747a06b25b4b2e1b0ba943812b06b25b4b2b3e1b0ba943853b06b25b4b2e1b0ba943813b06b25b4b3b3e1b0ba943852b06b25b4b2b3e3b06b25b4b3b3e2b51b0ba943867654321083721a987406a06b25b4b2e1b0ba943812b06b25b4b2b3e1b0ba943853b06b25b4b2e1b0ba943813b06b25b4b3b3e1b0ba943852b06b25b4b2b3e3b06b25b4b3b3e2b51b0ba94386765432108372011f41204b3b232b62e1b0ba9875432101b372011fe204203a011f024c06bbb4019c7bb4b2d,[tP,.g 5,tS,tI,tI,tS,tL,tS],[tI],[[tP,tS,tQ],[tP,tQ,tI,tI,tQ,tQ],[tQ,tI,tI,tQ,tQ,tQ,tQ],[tQ,tI,tI,tQ,tQ,tQ,tQ],[tQ,tI,tI,tQ,tQ,tQ,tQ],[tI,tI],[tQ,tI,tI,tQ,tQ],[tI,tI],[tQ,tI,tI]]⟩
structure z2b_k5(a b:Int)(K:Pw.Y1)(w):Prop where out:fq (gV z2b_F 5 [] [] K a b w)
structure z2b_k7(a b:Int)(K:Pw.Y1)(w):Prop where out:fq (gV z2b_F 7 [] [] K a b w)
structure z2b_k8(a:Addr)(b c:Int)(K:Pw.Y1)(w):Prop where out:fq (gV z2b_F 8 [] [] K a b c w)
structure z2b_k6(a:Addr)(b c:Int)(d e:Addr)(K:Pw.Y1)(w):Prop where out:fq (gV z2b_F 6 [v0 7 z2b_k7,v0 8 z2b_k8] [] K a b c d e w)
structure z2b_k4(a:Addr)(b c:Int)(d e f g:Addr)(K:Pw.Y1)(w):Prop where out:fq (gV z2b_F 4 [v0 5 z2b_k5,v0 6 z2b_k6] [] K a b c d e f g w)
structure z2b_k3(a:Addr)(b c:Int)(d e f g:Addr)(K:Pw.Y1)(w):Prop where out:fq (gV z2b_F 3 [v0 4 z2b_k4] [] K a b c d e f g w)
structure z2b_k2(a:Addr)(b c:Int)(d e f g:Addr)(K:Pw.Y1)(w):Prop where out:fq (gV z2b_F 2 [v0 3 z2b_k3] [] K a b c d e f g w)
structure z2b_k1(a:Option Addr)(b:Addr)(c d:Int)(e f:Addr)(K:Pw.Y1)(w):Prop where out:fq (gV z2b_F 1 [v0 2 z2b_k2] [] K a b c d e f w)
structure z2b_k0(a:Option Addr)(b:ByteArray)(c:Addr)(K:Pw.Y1)(w):Prop where out:fq (gV z2b_F 0 [v0 1 z2b_k1] [] K a b c w)
def z2b_sd(a:Option Addr)(b:ByteArray)(c d:Int)(e:ByteArray)(f:Sl)(g:ByteArray)(K:Pw.Y1)(w:World):Prop:=fq (fV z2b_F [v0 0 z2b_k0] K a b c d e f g w)
set_option maxHeartbeats 4000000 in
theorem z2b_mk{a:Option Addr}{b:ByteArray}{c d:Int}{e:ByteArray}{f:Sl}{g:ByteArray}{K:Int->World->Prop}{w:World}(h:z2b_sd a b c d e f g K w):z2b_sh a b c d e f g K w:=⟨mkY z2b_F z2b_sd (fun K=>[c0 0 z2b_k0 K,c0 1 z2b_k1 K,c0 2 z2b_k2 K,c0 3 z2b_k3 K,c0 4 z2b_k4 K,c0 5 z2b_k5 K,c0 6 z2b_k6 K,c0 7 z2b_k7 K,c0 8 z2b_k8 K]) func98 (fun _=>q03 hC0<|q03 hC0<|q03 hC0<|q03 hC0<|q03 hC0<|q03 hC0<|q03 hC0<|q03 hC0<|q03 hC0<|hEnd) (a,b,c,d,e,f,g,()) h⟩
noncomputable def z1q_F:FD prog:=⟨f49,[kn z2b_okr],aN 0xe2555553d092817654321083724142c2110ab9b8b305947129111,[tP],[tB],[[tP,tI,tL,tI,tI]]⟩
def z1q_b0(a:Option Addr)(b:Int)(c:Sl)(d e:Int)(N0:Option Addr->Int->Sl->Int->Int->World->Prop)(K:Pw.Y0)(w:World):Prop:=fq (gV z1q_F 0 [] [nN 0 N0] K a b c d e w)
structure z1q_l0(a:Option Addr)(b:Int)(c:Sl)(d e:Int)(K:Pw.Y0)(w):Prop where out:fl (lp0 [tP,tI,tL,tI,tI] [1,0,1,1,0] z1q_b0 K a b c d e w)
structure z1q_sh(a:Option Addr)(K:Pw.Y0)(w):Prop where out:fq (fV z1q_F [v0 0 z1q_l0] K a w)
theorem z1q_ok:okP z1q_F 49 z1q_sh:=okN (fun K=>[c0 0 z1q_l0 K]) call49 func49 fun _=>q03 (hL0 [1,0,1,1,0] z1q_b0)<|hEnd
noncomputable def z3s_F:FD prog:=⟨f18,[kn z4s_ok],aN 0x41d,[tR,tI],[.g 2,tI,tL],[]⟩
structure z3s_sh(a:T43)(b:Int)(K:Pw.Y12)(w):Prop where out:fq (fV z3s_F [] K a b w)
theorem z3s_ok:okP z3s_F 18 z3s_sh:=okN (fun _=>[]) call18 func18 fun _=>hEnd
noncomputable def z3t_F:FD prog:=⟨f50,[kn z17_ok],aN 0x4111,[tP],[tB],[]⟩
structure z3t_sh(a:Option Addr)(K:Pw.Y0)(w):Prop where out:fq (fV z3t_F [] K a w)
theorem z3t_ok:okP z3t_F 50 z3t_sh:=okN (fun _=>[]) call50 func50 fun _=>hEnd
noncomputable def z4r_F:FD prog:=⟨f19,[kn z4s_ok],aN 0x41d,[tR,tI],[.g 2,tI,tL],[]⟩
structure z4r_sh(a:T43)(b:Int)(K:Pw.Y12)(w):Prop where out:fq (fV z4r_F [] K a b w)
theorem z4r_ok:okP z4r_F 19 z4r_sh:=okN (fun _=>[]) call19 func19 fun _=>hEnd
noncomputable def z3f_F:FD prog:=⟨f52,[kn z2a_ok,kn z3i_ok],aN 0x1125011f06b25b4b3b2b1b0ba98760b406b5b234b13b2b1b0ba987693bc854321063726142c21111c0cfb3059441225654142c21104b3b2b30594712d11,[tP],[tB],[[tP,tL,tL,tI,tI],[tP,tL,tL,tI,tI]]⟩
def z3f_b1(a:Option Addr)(b c:Sl)(d e:Int)(N1:Option Addr->Sl->Sl->Int->Int->World->Prop)(K:Pw.Y0)(w:World):Prop:=fq (gV z3f_F 1 [] [nN 1 N1] K a b c d e w)
structure z3f_l1(a:Option Addr)(b c:Sl)(d e:Int)(K:Pw.Y0)(w):Prop where out:fl (lp0 [tP,tL,tL,tI,tI] [1,1,1,1,0] z3f_b1 K a b c d e w)
def z3f_b0(a:Option Addr)(b c:Sl)(d e:Int)(N0:Option Addr->Sl->Sl->Int->Int->World->Prop)(K:Pw.Y0)(w:World):Prop:=fq (gV z3f_F 0 [v0 1 z3f_l1] [nN 0 N0] K a b c d e w)
structure z3f_l0(a:Option Addr)(b c:Sl)(d e:Int)(K:Pw.Y0)(w):Prop where out:fl (lp0 [tP,tL,tL,tI,tI] [1,0,1,1,0] z3f_b0 K a b c d e w)
structure z3f_sh(a:Option Addr)(K:Pw.Y0)(w):Prop where out:fq (fV z3f_F [v0 0 z3f_l0] K a w)
theorem z3f_ok:okP z3f_F 52 z3f_sh:=okN (fun K=>[c0 0 z3f_l0 K,c0 1 z3f_l1 K]) call52 func52 fun _=>q03 (hL0 [1,0,1,1,0] z3f_b0)<|q03 (hL0 [1,1,1,1,0] z3f_b1)<|hEnd
noncomputable def z45_F:FD prog:=⟨f20,[kn z4s_ok],aN 0x41d,[tR,tI],[.g 2,tI,tL],[]⟩
structure z45_sh(a:T43)(b:Int)(K:Pw.Y12)(w):Prop where out:fq (fV z45_F [] K a b w)
theorem z45_ok:okP z45_F 20 z45_sh:=okN (fun _=>[]) call20 func20 fun _=>hEnd
structure z1m_sh(a:ByteArray)(b c:Int)(d:ByteArray)(e:Sl)(K:Pw.Y2)(w:World):Prop where out:clF prog 108 [.g 5,tS,tI,tI,tS,tL] [tS] K a b c d e w
theorem z1m_ok:q1v prog 108 (sr [.g 5,tS,tI,tI,tS,tL] [tS] z1m_sh):=okR call108
noncomputable def z0z_F:FD prog:=⟨f102,[],aN 0x32c051bb52c032c051bb3026c9b45b3b11,[.f (.i .u8)],[tB],[]⟩
structure z0z_sh(a:Int)(K:Pw.Y0)(w):Prop where out:fq (fV z0z_F [] K a w)
theorem z0z_ok:okP z0z_F 102 z0z_sh:=okN (fun _=>[]) call102 func102 fun _=>hEnd
noncomputable def z1l_F:FD prog:=⟨f177,[],aN 0x22c045b3b11,[.f (.i .u8)],[tB],[]⟩
structure z1l_sh(a:Int)(K:Pw.Y0)(w):Prop where out:fq (fV z1l_F [] K a w)
theorem z1l_ok:okP z1l_F 177 z1l_sh:=okN (fun _=>[]) call177 func177 fun _=>hEnd
noncomputable def z0q_F:FD prog:=⟨f101,[kn z0z_ok,kn z1l_ok],aN 0x4022c2bb3022c21cab2bee11,[.f (.i .u8)],[tB],[]⟩
structure z0q_sh(a:Int)(K:Pw.Y0)(w):Prop where out:fq (fV z0q_F [] K a w)
theorem z0q_ok:okP z0q_F 101 z0q_sh:=okN (fun _=>[]) call101 func101 fun _=>hEnd
noncomputable def z0x_F:FD prog:=⟨f55,[kn z0q_ok,kn z0z_ok],aN 0x1135011f022c046cb3016c3cb3b515142c412030294112011f04013c9b4b211,[tS],[tB],[[tS,tI]]⟩
def z0x_b0(a:ByteArray)(b:Int)(N0:ByteArray->Int->World->Prop)(K:Pw.Y0)(w:World):Prop:=fq (gV z0x_F 0 [] [nN 0 N0] K a b w)
structure z0x_l0(a:ByteArray)(b:Int)(K:Pw.Y0)(w):Prop where out:fl (lp0 [tS,tI] [1,0] z0x_b0 K a b w)
structure z0x_sh(a:ByteArray)(K:Pw.Y0)(w):Prop where out:fq (fV z0x_F [v0 0 z0x_l0] K a w)
theorem z0x_ok:okP z0x_F 55 z0x_sh:=okN (fun K=>[c0 0 z0x_l0 K]) call55 func55 fun _=>q03 (hL0 [1,0] z0x_b0)<|hEnd
noncomputable def z23_F:FD prog:=⟨f178,[kn z0x_ok,kn z1e_ok],aN 0x110024c23c024c0610fb50bfb5b011af2503d03d03d03d03d20024c24c23c23c024c24c23c024c24c024c06aeb64eb5fdb5adb2b413d0024c23c28c25c24c024c23c28c25c024c23c28c024c23c024c06ecb59cbaefbb78bb62bb2b413d4d2d,[.g 5,tS,tI,tI,tS,tL],[tB],[[tQ]]⟩
structure z23_k0(a:Addr)(K:Pw.Y0)(w):Prop where out:fq (gV z23_F 0 [] [] K a w)
structure z23_sh(a:ByteArray)(b c:Int)(d:ByteArray)(e:Sl)(K:Pw.Y0)(w):Prop where out:fq (fV z23_F [v0 0 z23_k0] K a b c d e w)
theorem z23_ok:okP z23_F 178 z23_sh:=okN (fun K=>[c0 0 z23_k0 K]) call178 func178 fun _=>q03 hC0<|hEnd
structure z1o_sh(a:ByteArray)(b c:Int)(d:ByteArray)(e:Sl)(K:Pw.Y0)(w:World):Prop where out:clF prog 103 [.g 5,tS,tI,tI,tS,tL] [tB] K a b c d e w
theorem z1o_okr:q1v prog 103 (sr [.g 5,tS,tI,tI,tS,tL] [tB] z1o_sh):=okR call103
noncomputable def z1o_F:FD prog:=⟨f103,[kn z1o_okr,kn z23_ok],aN 0xd357542c011c021bb6b20431394112ed,[.g 5,tS,tI,tI,tS,tL],[tB],[[tQ,tB,tI]]⟩
def z1o_b0(a:Addr)(b:Bool)(c:Int)(N0:Addr->Bool->Int->World->Prop)(K:Pw.Y0)(w:World):Prop:=fq (gV z1o_F 0 [] [nN 0 N0] K a b c w)
structure z1o_l0(a:Addr)(b:Bool)(c:Int)(K:Pw.Y0)(w):Prop where out:fl (lp0 [tQ,tB,tI] [1,0,0] z1o_b0 K a b c w)
def z1o_sd(a:ByteArray)(b c:Int)(d:ByteArray)(e:Sl)(K:Pw.Y0)(w:World):Prop:=fq (fV z1o_F [v0 0 z1o_l0] K a b c d e w)
theorem z1o_mk{a:ByteArray}{b c:Int}{d:ByteArray}{e:Sl}{K:Bool->World->Prop}{w:World}(h:z1o_sd a b c d e K w):z1o_sh a b c d e K w:=⟨mkY z1o_F z1o_sd (fun K=>[c0 0 z1o_l0 K]) func103 (fun _=>q03 (hL0 [1,0,0] z1o_b0)<|hEnd) (a,b,c,d,e,()) h⟩
structure z1i_sh(a:ByteArray)(b c:Int)(d:ByteArray)(e:Sl)(K:Pw.Y1)(w:World):Prop where out:clF prog 104 [.g 5,tS,tI,tI,tS,tL] [tI] K a b c d e w
theorem z1i_okr:q1v prog 104 (sr [.g 5,tS,tI,tI,tS,tL] [tI] z1i_sh):=okR call104
noncomputable def z1i_F:FD prog:=⟨f104,[kn z1i_okr],aN 0xd359542c512043139411211d,[.g 5,tS,tI,tI,tS,tL],[tI],[[tQ,tI,tI]]⟩
def z1i_b0(a:Addr)(b c:Int)(N0:Addr->Int->Int->World->Prop)(K:Pw.Y1)(w:World):Prop:=fq (gV z1i_F 0 [] [nN 0 N0] K a b c w)
structure z1i_l0(a:Addr)(b c:Int)(K:Pw.Y1)(w):Prop where out:fl (lp0 [tQ,tI,tI] [1,0,0] z1i_b0 K a b c w)
def z1i_sd(a:ByteArray)(b c:Int)(d:ByteArray)(e:Sl)(K:Pw.Y1)(w:World):Prop:=fq (fV z1i_F [v0 0 z1i_l0] K a b c d e w)
theorem z1i_mk{a:ByteArray}{b c:Int}{d:ByteArray}{e:Sl}{K:Int->World->Prop}{w:World}(h:z1i_sd a b c d e K w):z1i_sh a b c d e K w:=⟨mkY z1i_F z1i_sd (fun K=>[c0 0 z1i_l0 K]) func104 (fun _=>q03 (hL0 [1,0,0] z1i_b0)<|hEnd) (a,b,c,d,e,()) h⟩
structure z1h_sh(a:ByteArray)(b c:Int)(d:ByteArray)(e:Sl)(K:Pw.Y1)(w:World):Prop where out:clF prog 105 [.g 5,tS,tI,tI,tS,tL] [tI] K a b c d e w
theorem z1h_okr:q1v prog 105 (sr [.g 5,tS,tI,tI,tS,tL] [tI] z1h_sh):=okR call105
noncomputable def z1h_F:FD prog:=⟨f105,[kn z1h_okr],aN 0xe359542c512043139411211d,[.g 5,tS,tI,tI,tS,tL],[tI],[[tQ,tI,tI]]⟩
def z1h_b0(a:Addr)(b c:Int)(N0:Addr->Int->Int->World->Prop)(K:Pw.Y1)(w:World):Prop:=fq (gV z1h_F 0 [] [nN 0 N0] K a b c w)
structure z1h_l0(a:Addr)(b c:Int)(K:Pw.Y1)(w):Prop where out:fl (lp0 [tQ,tI,tI] [1,0,0] z1h_b0 K a b c w)
def z1h_sd(a:ByteArray)(b c:Int)(d:ByteArray)(e:Sl)(K:Pw.Y1)(w:World):Prop:=fq (fV z1h_F [v0 0 z1h_l0] K a b c d e w)
theorem z1h_mk{a:ByteArray}{b c:Int}{d:ByteArray}{e:Sl}{K:Int->World->Prop}{w:World}(h:z1h_sd a b c d e K w):z1h_sh a b c d e K w:=⟨mkY z1h_F z1h_sd (fun K=>[c0 0 z1h_l0 K]) func105 (fun _=>q03 (hL0 [1,0,0] z1h_b0)<|hEnd) (a,b,c,d,e,()) h⟩
noncomputable def z06_F:FD prog:=⟨f56,[kn z1o_okr,kn z1i_okr,kn z1h_okr],aN 0x23c23c023c051bb57b2bed,[.g 5,tS,tI,tI,tS,tL],[tB],[]⟩
structure z06_sh(a:ByteArray)(b c:Int)(d:ByteArray)(e:Sl)(K:Pw.Y0)(w):Prop where out:fq (fV z06_F [] K a b c d e w)
theorem z06_ok:okP z06_F 56 z06_sh:=okN (fun _=>[]) call56 func56 fun _=>hEnd
noncomputable def z1n_F:FD prog:=⟨f58,[],aN 0x22c048b4b11,[tI,tI],[tB],[]⟩
structure z1n_sh(a b:Int)(K:Pw.Y0)(w):Prop where out:fq (fV z1n_F [] K a b w)
theorem z1n_ok:okP z1n_F 58 z1n_sh:=okN (fun _=>[]) call58 func58 fun _=>hEnd
noncomputable def z0y_F:FD prog:=⟨f106,[kn z0x_ok],aN 0x22c22c22c22c022c22c22c022c22c022c048bb44bb40bb47b2be11,[tS],[tB],[]⟩
structure z0y_sh(a:ByteArray)(K:Pw.Y0)(w):Prop where out:fq (fV z0y_F [] K a w)
theorem z0y_ok:okP z0y_F 106 z0y_sh:=okN (fun _=>[]) call106 func106 fun _=>hEnd
noncomputable def z10_F:FD prog:=⟨f57,[kn z1n_ok,kn z0y_ok],aN 0xd35353501b0b23a987654329401b0ba987654320b3c5f81023842ce23b5b4b3b2b31694112b4b3b2b315a025c07b8fb2b42c4121b4b3b2b31594110b3b2b314a023c23c023c05acfb5a7fb2b6142c512a2b31394112353503b2b231b0ba987654320b403b2b1b0ba987654322b38df81023842ce291b0b314941180b313a023bc09036c7efb777fb2b42c51270b3139411235028c23c23c028c23c028c06033c69fb465fb560fb55bfb267142c5126931394112353501b0b23a987654329401b0ba987654320b343f81023842ce258763159411476314a028c23c23c23c028c23c23c028c23c028c06033c37fb433fb52efb529fb524fb2b7142c5123631394112353505b4b233b2b1b0ba987654322b405b4b3b2b1b0ba987654324b308f81023842ce2254314941114313a027c27c027c099eb90eb2b42c512043139411211011f05014c2db6014c24cccb6014c24c24c6cb6014c24c24c24c0cb6014c24c24c24c24cabb5b2d,[tR],[tB],[[tQ,tB,tI],[tQ,tB,tI],[tQ,tB,tI,tI],[tQ,tB,tI],[tQ,tB,tI,tQ],[tQ,tB,tI,tQ,tI],[tQ,tB,tI],[tQ,tB,tI],[tQ,tB,tI],[tQ,tB,tI,tI],[tQ,tB,tI],[tQ,tB,tI,tL],[tQ,tB,tI,tL,tI],[tQ,tB,tI,tL,tI],[tQ,tB,tI,tL,tI,tI]]⟩
def z10_b2(a:Addr)(b:Bool)(c d:Int)(N2:Addr->Bool->Int->Int->World->Prop)(N0:Addr->Bool->Int->World->Prop)(K:Pw.Y0)(w:World):Prop:=fq (gV z10_F 2 [] [nN 2 N2,nN 0 N0] K a b c d w)
structure z10_l2(a:Addr)(b:Bool)(c d:Int)(N0:Addr->Bool->Int->World->Prop)(K:Pw.Y0)(w):Prop where out:fl (lp1 [tQ,tB,tI,tI] [1,0,1,0] z10_b2 N0 K a b c d w)
structure z10_k1(a:Addr)(b:Bool)(c:Int)(N0:Addr->Bool->Int->World->Prop)(K:Pw.Y0)(w):Prop where out:fq (gV z10_F 1 [v1 2 z10_l2 N0] [nN 0 N0] K a b c w)
def z10_b5(a:Addr)(b:Bool)(c:Int)(d:Addr)(e:Int)(N5:Addr->Bool->Int->Addr->Int->World->Prop)(N3:Addr->Bool->Int->World->Prop)(K:Pw.Y0)(w:World):Prop:=fq (gV z10_F 5 [] [nN 5 N5,nN 3 N3] K a b c d e w)
structure z10_l5(a:Addr)(b:Bool)(c:Int)(d:Addr)(e:Int)(N3:Addr->Bool->Int->World->Prop)(K:Pw.Y0)(w):Prop where out:fl (lp1 [tQ,tB,tI,tQ,tI] [1,0,1,1,0] z10_b5 N3 K a b c d e w)
structure z10_k4(a:Addr)(b:Bool)(c:Int)(d:Addr)(N3:Addr->Bool->Int->World->Prop)(K:Pw.Y0)(w):Prop where out:fq (gV z10_F 4 [v1 5 z10_l5 N3] [nN 3 N3] K a b c d w)
def z10_b9(a:Addr)(b:Bool)(c d:Int)(N9:Addr->Bool->Int->Int->World->Prop)(N7:Addr->Bool->Int->World->Prop)(K:Pw.Y0)(w:World):Prop:=fq (gV z10_F 9 [] [nN 9 N9,nN 7 N7] K a b c d w)
structure z10_l9(a:Addr)(b:Bool)(c d:Int)(N7:Addr->Bool->Int->World->Prop)(K:Pw.Y0)(w):Prop where out:fl (lp1 [tQ,tB,tI,tI] [1,0,1,0] z10_b9 N7 K a b c d w)
structure z10_k8(a:Addr)(b:Bool)(c:Int)(N7:Addr->Bool->Int->World->Prop)(K:Pw.Y0)(w):Prop where out:fq (gV z10_F 8 [v1 9 z10_l9 N7] [nN 7 N7] K a b c w)
def z10_b14(a:Addr)(b:Bool)(c:Int)(d:Sl)(e f:Int)(g:Addr->Bool->Int->Sl->Int->Int->World->Prop)(i:Addr->Bool->Int->Sl->Int->World->Prop)(j:Addr->Bool->Int->World->Prop)(K:Pw.Y0)(w:World):Prop:=fq (gV z10_F 14 [] [nN 14 g,nN 12 i,nN 10 j] K a b c d e f w)
structure z10_l14(a:Addr)(b:Bool)(c:Int)(d:Sl)(e f:Int)(g:Addr->Bool->Int->Sl->Int->World->Prop)(i:Addr->Bool->Int->World->Prop)(K:Pw.Y0)(w):Prop where out:fl (lp2 [tQ,tB,tI,tL,tI,tI] [1,0,1,1,1,0] z10_b14 g i K a b c d e f w)
structure z10_k13(a:Addr)(b:Bool)(c:Int)(d:Sl)(e:Int)(f:Addr->Bool->Int->Sl->Int->World->Prop)(g:Addr->Bool->Int->World->Prop)(K:Pw.Y0)(w):Prop where out:fq (gV z10_F 13 [v2 14 z10_l14 f g] [nN 12 f,nN 10 g] K a b c d e w)
def z10_b12(a:Addr)(b:Bool)(c:Int)(d:Sl)(e:Int)(f:Addr->Bool->Int->Sl->Int->World->Prop)(g:Addr->Bool->Int->World->Prop)(K:Pw.Y0)(w:World):Prop:=fq (gV z10_F 12 [v2 13 z10_k13 f g] [nN 12 f,nN 10 g] K a b c d e w)
structure z10_l12(a:Addr)(b:Bool)(c:Int)(d:Sl)(e:Int)(f:Addr->Bool->Int->World->Prop)(K:Pw.Y0)(w):Prop where out:fl (lp1 [tQ,tB,tI,tL,tI] [1,0,1,1,0] z10_b12 f K a b c d e w)
structure z10_k11(a:Addr)(b:Bool)(c:Int)(d:Sl)(e:Addr->Bool->Int->World->Prop)(K:Pw.Y0)(w):Prop where out:fq (gV z10_F 11 [v1 12 z10_l12 e] [nN 10 e] K a b c d w)
def z10_b10(a:Addr)(b:Bool)(c:Int)(d:Addr->Bool->Int->World->Prop)(K:Pw.Y0)(w:World):Prop:=fq (gV z10_F 10 [v1 11 z10_k11 d] [nN 10 d] K a b c w)
structure z10_l10(a:Addr)(b:Bool)(c:Int)(K:Pw.Y0)(w):Prop where out:fl (lp0 [tQ,tB,tI] [1,0,0] z10_b10 K a b c w)
def z10_b7(a:Addr)(b:Bool)(c:Int)(N7:Addr->Bool->Int->World->Prop)(K:Pw.Y0)(w:World):Prop:=fq (gV z10_F 7 [v1 8 z10_k8 N7,v0 10 z10_l10] [nN 7 N7] K a b c w)
structure z10_l7(a:Addr)(b:Bool)(c:Int)(K:Pw.Y0)(w):Prop where out:fl (lp0 [tQ,tB,tI] [1,0,0] z10_b7 K a b c w)
def z10_b6(a:Addr)(b:Bool)(c:Int)(N6:Addr->Bool->Int->World->Prop)(K:Pw.Y0)(w:World):Prop:=fq (gV z10_F 6 [v0 7 z10_l7] [nN 6 N6] K a b c w)
structure z10_l6(a:Addr)(b:Bool)(c:Int)(K:Pw.Y0)(w):Prop where out:fl (lp0 [tQ,tB,tI] [1,0,0] z10_b6 K a b c w)
def z10_b3(a:Addr)(b:Bool)(c:Int)(N3:Addr->Bool->Int->World->Prop)(K:Pw.Y0)(w:World):Prop:=fq (gV z10_F 3 [v1 4 z10_k4 N3,v0 6 z10_l6] [nN 3 N3] K a b c w)
structure z10_l3(a:Addr)(b:Bool)(c:Int)(K:Pw.Y0)(w):Prop where out:fl (lp0 [tQ,tB,tI] [1,0,0] z10_b3 K a b c w)
def z10_b0(a:Addr)(b:Bool)(c:Int)(N0:Addr->Bool->Int->World->Prop)(K:Pw.Y0)(w:World):Prop:=fq (gV z10_F 0 [v1 1 z10_k1 N0,v0 3 z10_l3] [nN 0 N0] K a b c w)
structure z10_l0(a:Addr)(b:Bool)(c:Int)(K:Pw.Y0)(w):Prop where out:fl (lp0 [tQ,tB,tI] [1,0,0] z10_b0 K a b c w)
structure z10_sh(a:T43)(K:Pw.Y0)(w):Prop where out:fq (fV z10_F [v0 0 z10_l0] K a w)
set_option maxHeartbeats 4000000 in
theorem z10_ok:okP z10_F 57 z10_sh:=okN (fun K=>[c0 0 z10_l0 K,c1 0 1 z10_k1 K,c1 0 2 z10_l2 K,c0 3 z10_l3 K,c1 3 4 z10_k4 K,c1 3 5 z10_l5 K,c0 6 z10_l6 K,c0 7 z10_l7 K,c1 7 8 z10_k8 K,c1 7 9 z10_l9 K,c0 10 z10_l10 K,c1 10 11 z10_k11 K,c1 10 12 z10_l12 K,c2 12 10 13 z10_k13 K,c2 12 10 14 z10_l14 K]) call57 func57 fun _=>q03 (hL0 [1,0,0] z10_b0)<|q03 hC1<|q03 (hL1 [1,0,1,0] z10_b2)<|q03 (hL0 [1,0,0] z10_b3)<|q03 hC1<|q03 (hL1 [1,0,1,1,0] z10_b5)<|q03 (hL0 [1,0,0] z10_b6)<|q03 (hL0 [1,0,0] z10_b7)<|q03 hC1<|q03 (hL1 [1,0,1,0] z10_b9)<|q03 (hL0 [1,0,0] z10_b10)<|q03 hC1<|q03 (hL1 [1,0,1,1,0] z10_b12)<|q03 hC2<|q03 (hL2 [1,0,1,1,1,0] z10_b14)<|hEnd
structure z0o_sh(a:Int)(K:Pw.Y2)(w:World):Prop where out:clF prog 254 [tI] [tS] K a w
theorem z0o_okr:q1v prog 254 (sr [tI] [tS] z0o_sh):=okR call254
noncomputable def z0o_F:FD prog:=⟨f254,[kn z0o_okr],aN 0x81061fd2091fd2001a051f012c035b3b211,[tI],[tS],[[tI]]⟩
structure z0o_k0(a:Int)(K:Pw.Y2)(w):Prop where out:fq (gV z0o_F 0 [] [] K a w)
def z0o_sd(a:Int)(K:Pw.Y2)(w:World):Prop:=fq (fV z0o_F [v0 0 z0o_k0] K a w)
theorem z0o_mk{a:Int}{K:ByteArray->World->Prop}{w:World}(h:z0o_sd a K w):z0o_sh a K w:=⟨mkY z0o_F z0o_sd (fun K=>[c0 0 z0o_k0 K]) func254 (fun _=>q03 hC0<|hEnd) (a,()) h⟩
noncomputable def z22_F:FD prog:=⟨f179,[kn z1e_ok,kn z0o_okr],aN 0x872361322154104372041fe2011fd2ed,[.g 2,tI,tI],[tS],[]⟩
structure z22_sh(a b:Int)(K:Pw.Y2)(w):Prop where out:fq (fV z22_F [] K a b w)
theorem z22_ok:okP z22_F 179 z22_sh:=okN (fun _=>[]) call179 func179 fun _=>hEnd
noncomputable def z11_F:FD prog:=⟨f107,[kn z22_ok],aN 0x4111,[tI],[tS],[]⟩
structure z11_sh(a:Int)(K:Pw.Y2)(w):Prop where out:fq (fV z11_F [] K a w)
theorem z11_ok:okP z11_F 107 z11_sh:=okN (fun _=>[]) call107 func107 fun _=>hEnd
noncomputable def z0p_F:FD prog:=⟨f180,[kn z11_ok],aN 0xd65914cd21431394204313a35fd26171d,[.g 2,tI,tI],[tS],[[tQ,tS,tI],[tQ,tS,tI]]⟩
def z0p_b1(a:Addr)(b:ByteArray)(c:Int)(N1:Addr->ByteArray->Int->World->Prop)(K:Pw.Y2)(w:World):Prop:=fq (gV z0p_F 1 [] [nN 1 N1] K a b c w)
structure z0p_l1(a:Addr)(b:ByteArray)(c:Int)(K:Pw.Y2)(w):Prop where out:fl (lp0 [tQ,tS,tI] [1,0,0] z0p_b1 K a b c w)
structure z0p_k0(a:Addr)(b:ByteArray)(c:Int)(K:Pw.Y2)(w):Prop where out:fq (gV z0p_F 0 [v0 1 z0p_l1] [] K a b c w)
structure z0p_sh(a b:Int)(K:Pw.Y2)(w):Prop where out:fq (fV z0p_F [v0 0 z0p_k0] K a b w)
theorem z0p_ok:okP z0p_F 180 z0p_sh:=okN (fun K=>[c0 0 z0p_k0 K,c0 1 z0p_l1 K]) call180 func180 fun _=>q03 hC0<|q03 (hL0 [1,0,0] z0p_b1)<|hEnd
noncomputable def z0s_F:FD prog:=⟨f181,[],aN 0x5023c6b4bd,[.g 5,tS,tI,tI,tS,tL],[tB],[]⟩
structure z0s_sh(a:ByteArray)(b c:Int)(d:ByteArray)(e:Sl)(K:Pw.Y0)(w):Prop where out:fq (fV z0s_F [] K a b c d e w)
theorem z0s_ok:okP z0s_F 181 z0s_sh:=okN (fun _=>[]) call181 func181 fun _=>hEnd
noncomputable def z31_F:FD prog:=⟨f182,[],aN 0x5023c6b4bd,[.g 5,tS,tI,tI,tS,tL],[tB],[]⟩
structure z31_sh(a:ByteArray)(b c:Int)(d:ByteArray)(e:Sl)(K:Pw.Y0)(w):Prop where out:fq (fV z31_F [] K a b c d e w)
theorem z31_ok:okP z31_F 182 z31_sh:=okN (fun _=>[]) call182 func182 fun _=>hEnd
noncomputable def z0g_F:FD prog:=⟨f183,[kn z1m_ok],aN 0xe051f112d,[.g 5,tS,tI,tI,tS,tL,tB],[tS],[]⟩
structure z0g_sh(a:ByteArray)(b c:Int)(d:ByteArray)(e:Sl)(f:Bool)(K:Pw.Y2)(w):Prop where out:fq (fV z0g_F [] K a b c d e f w)
theorem z0g_ok:okP z0g_F 183 z0g_sh:=okN (fun _=>[]) call183 func183 fun _=>hEnd
noncomputable def z0r_F:FD prog:=⟨f59,[kn z11_ok,kn z1m_ok],aN 0xcfbeb33db1ab9b238b15b4b233b10ba2391652341cbbb7b6b2b1b8732101b37281413535352b542c81280ba31494112e42c5127a313941126312a85fe25312a35359542c5124931394112ef41206b5b4b333b10ba23916523412b1b87321083723504b3b2b331b10ba98765432101b377142c5123731394112353535fd2265314a0cbbb7b6b2b1b0ba8367ab0cbbb23ab77b6b2b1b0ba636a5b0cbbb23ab77b6b235b72b1b0ba436a9b8b4b3b9875432102b3727142c51215313941123509b8b7b336b1a923815b4b3b2b1b0b765432103b3742c512043139411251d,[tR],[tS],[[tQ,tS,tI],[tQ,tS,tI],[tQ,tS,tI,tQ],[tQ,tS,tI],[tQ,tS,tI],[tQ,tS],[tQ,tS],[tQ,tS,tI],[tQ,tS,tI,tI]]⟩
structure z0r_k2(a:Addr)(b:ByteArray)(c:Int)(d:Addr)(N1:Addr->ByteArray->Int->World->Prop)(K:Pw.Y2)(w):Prop where out:fq (gV z0r_F 2 [] [nN 1 N1] K a b c d w)
def z0r_b8(a:Addr)(b:ByteArray)(c d:Int)(N8:Addr->ByteArray->Int->Int->World->Prop)(N7:Addr->ByteArray->Int->World->Prop)(K:Pw.Y2)(w:World):Prop:=fq (gV z0r_F 8 [] [nN 8 N8,nN 7 N7] K a b c d w)
structure z0r_l8(a:Addr)(b:ByteArray)(c d:Int)(N7:Addr->ByteArray->Int->World->Prop)(K:Pw.Y2)(w):Prop where out:fl (lp1 [tQ,tS,tI,tI] [1,0,1,0] z0r_b8 N7 K a b c d w)
def z0r_b7(a:Addr)(b:ByteArray)(c:Int)(N7:Addr->ByteArray->Int->World->Prop)(K:Pw.Y2)(w:World):Prop:=fq (gV z0r_F 7 [v1 8 z0r_l8 N7] [nN 7 N7] K a b c w)
structure z0r_l7(a:Addr)(b:ByteArray)(c:Int)(K:Pw.Y2)(w):Prop where out:fl (lp0 [tQ,tS,tI] [1,0,0] z0r_b7 K a b c w)
structure z0r_k6(a:Addr)(b:ByteArray)(K:Pw.Y2)(w):Prop where out:fq (gV z0r_F 6 [v0 7 z0r_l7] [] K a b w)
structure z0r_k5(a:Addr)(b:ByteArray)(K:Pw.Y2)(w):Prop where out:fq (gV z0r_F 5 [v0 6 z0r_k6] [] K a b w)
def z0r_b4(a:Addr)(b:ByteArray)(c:Int)(N4:Addr->ByteArray->Int->World->Prop)(K:Pw.Y2)(w:World):Prop:=fq (gV z0r_F 4 [v0 5 z0r_k5] [nN 4 N4] K a b c w)
structure z0r_l4(a:Addr)(b:ByteArray)(c:Int)(K:Pw.Y2)(w):Prop where out:fl (lp0 [tQ,tS,tI] [1,0,0] z0r_b4 K a b c w)
def z0r_b3(a:Addr)(b:ByteArray)(c:Int)(N3:Addr->ByteArray->Int->World->Prop)(K:Pw.Y2)(w:World):Prop:=fq (gV z0r_F 3 [v0 4 z0r_l4,v0 5 z0r_k5] [nN 3 N3] K a b c w)
structure z0r_l3(a:Addr)(b:ByteArray)(c:Int)(K:Pw.Y2)(w):Prop where out:fl (lp0 [tQ,tS,tI] [1,0,0] z0r_b3 K a b c w)
def z0r_b1(a:Addr)(b:ByteArray)(c:Int)(N1:Addr->ByteArray->Int->World->Prop)(K:Pw.Y2)(w:World):Prop:=fq (gV z0r_F 1 [v1 2 z0r_k2 N1,v0 3 z0r_l3] [nN 1 N1] K a b c w)
structure z0r_l1(a:Addr)(b:ByteArray)(c:Int)(K:Pw.Y2)(w):Prop where out:fl (lp0 [tQ,tS,tI] [1,0,0] z0r_b1 K a b c w)
def z0r_b0(a:Addr)(b:ByteArray)(c:Int)(N0:Addr->ByteArray->Int->World->Prop)(K:Pw.Y2)(w:World):Prop:=fq (gV z0r_F 0 [v0 1 z0r_l1] [nN 0 N0] K a b c w)
structure z0r_l0(a:Addr)(b:ByteArray)(c:Int)(K:Pw.Y2)(w):Prop where out:fl (lp0 [tQ,tS,tI] [1,0,0] z0r_b0 K a b c w)
structure z0r_sh(a:T43)(K:Pw.Y2)(w):Prop where out:fq (fV z0r_F [v0 0 z0r_l0] K a w)
theorem z0r_ok:okP z0r_F 59 z0r_sh:=okN (fun K=>[c0 0 z0r_l0 K,c0 1 z0r_l1 K,c1 1 2 z0r_k2 K,c0 3 z0r_l3 K,c0 4 z0r_l4 K,c0 5 z0r_k5 K,c0 6 z0r_k6 K,c0 7 z0r_l7 K,c1 7 8 z0r_l8 K]) call59 func59 fun _=>q03 (hL0 [1,0,0] z0r_b0)<|q03 (hL0 [1,0,0] z0r_b1)<|q03 hC1<|q03 (hL0 [1,0,0] z0r_b3)<|q03 (hL0 [1,0,0] z0r_b4)<|q03 hC0<|q03 hC0<|q03 (hL0 [1,0,0] z0r_b7)<|q03 (hL1 [1,0,1,0] z0r_b8)<|hEnd
noncomputable def z1k_F:FD prog:=⟨f21,[kn z0x_ok,kn z06_ok,kn z10_ok,kn z1n_ok,kn z0r_ok],aN 0x61e0df03012ceeb4012c22caeb4012c22c22c6eb3b20865415a023c23c23c23c23c23c23c23c023c23c23c23c23c23c23c023c23c23c23c23c23c023c23c23c23c23c023c23c23c23c023c23c23c023c23c023c05fdb5adb55db50db5bcb56cb51cb5cbb4b41e4141e,[tR],[.u 2,tS,tB],[[tQ,tB,tB,tB,tB]]⟩
structure z1k_k0(a:Addr)(b c d e:Bool)(K:ByteArray->Bool->World->Prop)(w):Prop where out:fq (gV z1k_F 0 [] [] K a b c d e w)
structure z1k_sh(a:T43)(K:ByteArray->Bool->World->Prop)(w):Prop where out:fq (fV z1k_F [v0 0 z1k_k0] K a w)
theorem z1k_ok:okP z1k_F 21 z1k_sh:=okN (fun K=>[c0 0 z1k_k0 K]) call21 func21 fun _=>q03 hC0<|hEnd
noncomputable def z1j_F:FD prog:=⟨f6,[kn z1k_ok],aN 0xd011fd271d,[tR],[tS],[]⟩
structure z1j_sh(a:T43)(K:Pw.Y2)(w):Prop where out:fq (fV z1j_F [] K a w)
theorem z1j_ok:okP z1j_F 6 z1j_sh:=okN (fun _=>[]) call6 func6 fun _=>hEnd
