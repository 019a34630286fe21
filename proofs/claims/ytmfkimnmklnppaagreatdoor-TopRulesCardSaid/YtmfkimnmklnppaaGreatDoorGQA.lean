/- The bodies' formulas, by program. -/
import Derived.Test.YtmfkimnmklnppaaGreatDoorProg
import Derived.Test.YtmfkimnmklnppaaGreatDoorNF
set_option maxRecDepth 20000
namespace Pw
open Go
abbrev Y0:=Bool->World->Prop
abbrev Y1:=Int->World->Prop
abbrev Y2:=ByteArray->World->Prop
abbrev Y3:=Int->Int->World->Prop
abbrev Y4:=Sl->World->Prop
abbrev Y5:=World->Prop
abbrev Y6:=Int->Int->Bool->World->Prop
abbrev Y7:=Int->Int->Int->Int->Int->World->Prop
abbrev Y8:=ByteArray->Int->Int->ByteArray->Sl->Int->World->Prop
abbrev Y9:=T43->World->Prop
abbrev Y10:=Sl->Int->World->Prop
abbrev Y11:=ByteArray->Int->World->Prop
abbrev Y12:=Int->Sl->World->Prop
abbrev Y13:=Int->Int->Int->Int->Sl->World->Prop
abbrev Y14:=Int->Bool->Int->World->Prop
abbrev Y15:=Int->Bool->World->Prop
end Pw
namespace Go.Proofs.YtmfkimnmklnppaaGreatDoor
open Go Pw Tryz
attribute [local irreducible] cnd nz stN stQ Lt inR wrOk apS T43.ld T43.lds World.cell? World.drew World.setCell World.alloc Addr.add str LE.le LT.lt okk neZ nzm nif Mp Ms Ml mkS stbS btsS usS cpS cpT clS apZ apT Ext ExtL ninL q0y Instr.index Instr.lookup Instr.mapUpdate Sem.run rfF World.putObj
theorem progMixed:Tryz.prog.follows .mixedOrders=true:=by kernel_rfl
instance:PM Tryz.prog:=⟨progMixed⟩
noncomputable def z69_F:FD prog:=⟨f123,[],aN 0x712202a35efd21202a35efd20202a15efd211,[tU],[tI],[[tU,tI],[tU,tI],[tU,tI]]⟩
structure z69_k2(a b:Int)(K:Pw.Y1)(w):Prop where out:fq (gW z69_F 2 [] [] K a b w)
structure z69_k1(a b:Int)(K:Pw.Y1)(w):Prop where out:fq (gW z69_F 1 [v0 2 z69_k2] [] K a b w)
structure z69_k0(a b:Int)(K:Pw.Y1)(w):Prop where out:fq (gW z69_F 0 [v0 1 z69_k1] [] K a b w)
structure z69_sh(a:Int)(K:Pw.Y1)(w):Prop where out:fq (fW z69_F [v0 0 z69_k0] K a w)
theorem z69_ok:okP z69_F 123 z69_sh:=okN (fun K=>[c0 0 z69_k0 K,c0 1 z69_k1 K,c0 2 z69_k2 K]) call123 func123 fun _=>q03 hC0<|q03 hC0<|q03 hC0<|hEnd
noncomputable def z6h_F:FD prog:=⟨f75,[],aN 0x1a1b001aa1bfd211,[tI],[tU],[]⟩
structure z6h_sh(a:Int)(K:Pw.Y1)(w):Prop where out:fq (fW z6h_F [] K a w)
theorem z6h_ok:okP z6h_F 75 z6h_sh:=okN (fun _=>[]) call75 func75 fun _=>hEnd
noncomputable def z76_F:FD prog:=⟨f132,[],aN 0xd05432106384cd2010294211,[tU,tU],[tU],[[tU,tU]]⟩
def z76_b0(a b:Int)(N0:Int->Int->World->Prop)(K:Pw.Y1)(w:World):Prop:=fq (gW z76_F 0 [] [nN 0 N0] K a b w)
structure z76_l0(a b:Int)(K:Pw.Y1)(w):Prop where out:fl (lp0 [tU,tU] [0,0] z76_b0 K a b w)
structure z76_sh(a b:Int)(K:Pw.Y1)(w):Prop where out:fq (fW z76_F [v0 0 z76_l0] K a b w)
theorem z76_ok:okP z76_F 132 z76_sh:=okN (fun K=>[c0 0 z76_l0 K]) call132 func132 fun _=>q03 (hL0 [0,0] z76_b0)<|hEnd
noncomputable def z5l_F:FD prog:=⟨f74,[kn z6h_ok,kn z76_ok],aN 0x2b1b230ba6987548402b1b0b33a62e98754536832104372d,[.g 2,tI,tI],[tB],[]⟩
structure z5l_sh(a b:Int)(K:Pw.Y0)(w):Prop where out:fq (fW z5l_F [] K a b w)
theorem z5l_ok:okP z5l_F 74 z5l_sh:=okN (fun _=>[]) call74 func74 fun _=>hEnd
noncomputable def z6g_F:FD prog:=⟨f31,[kn z5l_ok],aN 0x22c047b3be,[.g 2,tI,tI,.g 2,tI,tI],[tB],[]⟩
structure z6g_sh(a b c d:Int)(K:Pw.Y0)(w):Prop where out:fq (fW z6g_F [] K a b c d w)
theorem z6g_ok:okP z6g_F 31 z6g_sh:=okN (fun _=>[]) call31 func31 fun _=>hEnd
noncomputable def z7f_F:FD prog:=⟨f32,[kn z6h_ok],aN 0xa192852e76432107372d,[.g 2,tI,tI],[.g 3,tB,tU,tU],[]⟩
structure z7f_sh(a b:Int)(K:Bool->Int->Int->World->Prop)(w):Prop where out:fq (fW z7f_F [] K a b w)
theorem z7f_ok:okP z7f_F 32 z7f_sh:=okN (fun _=>[]) call32 func32 fun _=>hEnd
noncomputable def z6w_F:FD prog:=⟨f76,[],aN 0x4111,[tI],[tB],[]⟩
structure z6w_sh(a:Int)(K:Pw.Y0)(w):Prop where out:fq (fW z6w_F [] K a w)
theorem z6w_ok:okP z6w_F 76 z6w_sh:=okN (fun _=>[]) call76 func76 fun _=>hEnd
noncomputable def z5c_F:FD prog:=⟨f33,[kn z6w_ok],aN 0x11011fe2011fe2011f112011011f112f112ee11,[tI,tI],[tI],[]⟩
structure z5c_sh(a b:Int)(K:Pw.Y1)(w):Prop where out:fq (fW z5c_F [] K a b w)
theorem z5c_ok:okP z5c_F 33 z5c_sh:=okN (fun _=>[]) call33 func33 fun _=>hEnd
noncomputable def z6a_F:FD prog:=⟨f79,[],aN 0x1a2b01a2a1a2b01aa3bee01a2a2b01a2beeeed,[tU,tU],[.u 2,tU,tU],[]⟩
structure z6a_sh(a b:Int)(K:Pw.Y3)(w):Prop where out:fq (fW z6a_F [] K a b w)
theorem z6a_ok:okP z6a_F 79 z6a_sh:=okN (fun _=>[]) call79 func79 fun _=>hEnd
noncomputable def z48_F:FD prog:=⟨f35,[kn z6a_ok],aN 0x418111,[tU,tU],[.g 2,tU,tU],[]⟩
structure z48_sh(a b:Int)(K:Pw.Y3)(w):Prop where out:fq (fW z48_F [] K a b w)
theorem z48_ok:okP z48_F 35 z48_sh:=okN (fun _=>[]) call35 func35 fun _=>hEnd
noncomputable def z2z_F:FD prog:=⟨f133,[],aN 0x4111,[tU],[tB],[]⟩
structure z2z_sh(a:Int)(K:Pw.Y0)(w):Prop where out:fq (fW z2z_F [] K a w)
theorem z2z_ok:okP z2z_F 133 z2z_sh:=okN (fun _=>[]) call133 func133 fun _=>hEnd
noncomputable def z1d_F:FD prog:=⟨f78,[kn z2z_ok],aN 0x11011fe2011fe2011f112011011f112f112ee11,[tU,tU],[tI],[]⟩
structure z1d_sh(a b:Int)(K:Pw.Y1)(w):Prop where out:fq (fW z1d_F [] K a b w)
theorem z1d_ok:okP z1d_F 78 z1d_sh:=okN (fun _=>[]) call78 func78 fun _=>hEnd
noncomputable def z7h_F:FD prog:=⟨f77,[],aN 0xd250dfee42c21108763494e21111,[tL],[tI],[[tI,tL,tI,tI]]⟩
def z7h_b0(a:Int)(b:Sl)(c d:Int)(N0:Int->Sl->Int->Int->World->Prop)(K:Pw.Y1)(w:World):Prop:=fq (gW z7h_F 0 [] [nN 0 N0] K a b c d w)
structure z7h_l0(a:Int)(b:Sl)(c d:Int)(K:Pw.Y1)(w):Prop where out:fl (lp0 [tI,tL,tI,tI] [1,1,1,0] z7h_b0 K a b c d w)
structure z7h_sh(a:Sl)(K:Pw.Y1)(w):Prop where out:fq (fW z7h_F [v0 0 z7h_l0] K a w)
theorem z7h_ok:okP z7h_F 77 z7h_sh:=okN (fun K=>[c0 0 z7h_l0 K]) call77 func77 fun _=>q03 (hL0 [1,1,1,0] z7h_b0)<|hEnd
noncomputable def z47_F:FD prog:=⟨f34,[kn z7h_ok,kn z1d_ok],aN 0x1b20ba944e876532108372e,[.g 2,tU,tU,.g 2,tU,tU],[tI],[]⟩
structure z47_sh(a b c d:Int)(K:Pw.Y1)(w):Prop where out:fq (fW z47_F [] K a b c d w)
theorem z47_ok:okP z47_F 34 z47_sh:=okN (fun _=>[]) call34 func34 fun _=>hEnd
noncomputable def z72_F:FD prog:=⟨f14,[kn z6g_ok,kn z7f_ok,kn z5c_ok,kn z47_ok,kn z48_ok],aN 0xd0efd200b2a943e876532108372061f512065324a076314e407633e407643e35155076314e507633e507653e3515407633e407643e35507633e507653e35407643e507653e453616202372011f412e,[.g 2,tI,tI,.g 2,tI,tI],[tI],[[tQ,tQ,tQ,tQ]]⟩
structure z72_k0(a b c d:Addr)(K:Pw.Y1)(w):Prop where out:fq (gW z72_F 0 [] [] K a b c d w)
structure z72_sh(a b c d:Int)(K:Pw.Y1)(w):Prop where out:fq (fW z72_F [v0 0 z72_k0] K a b c d w)
theorem z72_ok:okP z72_F 14 z72_sh:=okN (fun K=>[c0 0 z72_k0 K]) call14 func14 fun _=>q03 hC0<|hEnd
noncomputable def z6i_F:FD prog:=⟨f265,[],aN 0xd11,[],[.g 2,tI,tI],[]⟩
structure z6i_sh(K:Pw.Y3)(w):Prop where out:fq (fW z6i_F [] K w)
theorem z6i_ok:okP z6i_F 265 z6i_sh:=okN (fun _=>[]) call265 func265 fun _=>hEnd
noncomputable def z46_F:FD prog:=⟨f260,[kn z6g_ok,kn z7f_ok,kn z6i_ok],aV [(Value.tuple #[(Value.agg #[(Value.int .i64 0),(Value.int .i64 0)]),(Value.bool false)])] 0x92817623059422e31033720ef41241,[.g 2,tI,tI,.g 2,tI,tI,tV],[.u 2,.g 2,tI,tI,tB],[]⟩
structure z46_sh(a b c d:Int)(e:Value)(K:Pw.Y6)(w):Prop where out:fq (fW z46_F [] K a b c d e w)
theorem z46_ok:okP z46_F 260 z46_sh:=okN (fun _=>[]) call260 func260 fun _=>hEnd
structure bits_Add64_sh(a b c:Int)(K:Pw.Y3)(w:World):Prop where
 out:(0<=a/\a<18446744073709551616/\0<=b/\b<18446744073709551616/\0<=c/\c<=1)/\K ((a+b+c)%18446744073709551616) ((a+b+c)/18446744073709551616) w
noncomputable def bits_Add64_S:Pw.Spec:=fun vs w Kv =>
 match vs with
 | [.int .u64 a,.int .u64 b,.int .u64 c]=>bits_Add64_sh a b c (fun(r s:Int) (w':World)=>Kv (Value.tuple #[Value.int .u64 r,Value.int .u64 s]) w') w
 | _=>False
theorem bits_Add64_ok:q5v Tryz.prog 310 bits_Add64_S:=fun vs w Kv h=>by
  unfold bits_Add64_S at h
  split at h
  · rename_i a b c
    obtain⟨⟨ha,ha',hb,hb',hc,hc'⟩,hk⟩:=h.out
    exact q9q Tryz.func310 (by kernel_rfl) (by kernel_rfl) (by kernel_rfl) (by kernel_rfl) ha ha' hb hb' hc hc' hk
  · exact h.elim
noncomputable def z3u_F:FD prog:=⟨f289,[kx bits_Add64_ok],aN 0x410b1a1e,[.g 2,tU,tU,.g 2,tU,tU],[.g 2,tU,tU],[]⟩
structure z3u_sh(a b c d:Int)(K:Pw.Y3)(w):Prop where out:fq (fW z3u_F [] K a b c d w)
theorem z3u_ok:okP z3u_F 289 z3u_sh:=okN (fun _=>[]) call289 func289 fun _=>hEnd
structure bits_Sub64_sh(a b c:Int)(K:Pw.Y3)(w:World):Prop where
 out:(0<=a/\a<18446744073709551616/\0<=b/\b<18446744073709551616/\0<=c/\c<=1)/\K ((a-b-c)%18446744073709551616) (if a<b+c then 1 else 0) w
noncomputable def bits_Sub64_S:Pw.Spec:=fun vs w Kv =>
 match vs with
 | [.int .u64 a,.int .u64 b,.int .u64 c]=>bits_Sub64_sh a b c (fun(r s:Int) (w':World)=>Kv (Value.tuple #[Value.int .u64 r,Value.int .u64 s]) w') w
 | _=>False
theorem bits_Sub64_ok:q5v Tryz.prog 311 bits_Sub64_S:=fun vs w Kv h=>by
  unfold bits_Sub64_S at h
  split at h
  · rename_i a b c
    obtain⟨⟨ha,ha',hb,hb',hc,hc'⟩,hk⟩:=h.out
    exact q9r Tryz.func311 (by kernel_rfl) (by kernel_rfl) (by kernel_rfl) (by kernel_rfl) ha ha' hb hb' hc hc' hk
  · exact h.elim
noncomputable def z3v_F:FD prog:=⟨f290,[kx bits_Sub64_ok],aN 0x410b1a1e,[.g 2,tU,tU,.g 2,tU,tU],[.g 2,tU,tU],[]⟩
structure z3v_sh(a b c d:Int)(K:Pw.Y3)(w):Prop where out:fq (fW z3v_F [] K a b c d w)
theorem z3v_ok:okP z3v_F 290 z3v_sh:=okN (fun _=>[]) call290 func290 fun _=>hEnd
noncomputable def z0w_F:FD prog:=⟨f331,[kn z69_ok],aN 0x4111,[tU],[tI],[]⟩
structure z0w_sh(a:Int)(K:Pw.Y1)(w):Prop where out:fq (fW z0w_F [] K a w)
theorem z0w_ok:okP z0w_F 331 z0w_sh:=okN (fun _=>[]) call331 func331 fun _=>hEnd
noncomputable def z67_F:FD prog:=⟨f312,[kn z0w_ok],aN 0x4aa2a1a1a1a1b57b6b4b3b826acd01a2b01a1b447b6b5b4b3ba9829ac02a1a1a2018c1dfb3b237b6b5b4b3ba982994201aa3b4101aa2a1a1b24b3b2b0ba9828acd01a2b01a1b415b4b3b2b0ba9829ac02a1a1a2018caeb3b205b4b3b2b0ba982994201aa3b41ee4103a5bee4101a2b00765432108382fd225fe225fd2d,[tU,tU,tU],[.u 2,tU,tU],[[tU,tU,tU,tU,tU,tU,tU,tU,tU],[tU,tU,tU,tU,tU,tU,tU,tU,tU],[tU,tU,tU,tU,tU,tU,tU,tU],[tU,tU,tU,tU,tU,tU,tU,tU,tU],[tU,tU,tU,tU,tU,tU,tU,tU,tU],[tU,tU,tU,tU,tU,tU]]⟩
structure z67_k5(a b c d e f:Int)(K:Pw.Y3)(w):Prop where out:fq (gW z67_F 5 [] [] K a b c d e f w)
structure z67_k4(a b c d e f g i j:Int)(N3:Int->Int->Int->Int->Int->Int->Int->Int->Int->World->Prop)(K:Pw.Y3)(w):Prop where out:fq (gW z67_F 4 [v0 5 z67_k5] [nN 3 N3] K a b c d e f g i j w)
def z67_b3(a b c d e f g i j:Int)(N3:Int->Int->Int->Int->Int->Int->Int->Int->Int->World->Prop)(K:Pw.Y3)(w:World):Prop:=fq (gW z67_F 3 [v1 4 z67_k4 N3,v0 5 z67_k5] [nN 3 N3] K a b c d e f g i j w)
structure z67_l3(a b c d e f g i j:Int)(K:Pw.Y3)(w):Prop where out:fl (lp0 [tU,tU,tU,tU,tU,tU,tU,tU,tU] [1,1,1,1,1,1,0,1,0] z67_b3 K a b c d e f g i j w)
structure z67_k2(a b c d e f g i:Int)(K:Pw.Y3)(w):Prop where out:fq (gW z67_F 2 [v0 3 z67_l3] [] K a b c d e f g i w)
structure z67_k1(a b c d e f g i j:Int)(N0:Int->Int->Int->Int->Int->Int->Int->Int->Int->World->Prop)(K:Pw.Y3)(w):Prop where out:fq (gW z67_F 1 [v0 2 z67_k2] [nN 0 N0] K a b c d e f g i j w)
def z67_b0(a b c d e f g i j:Int)(N0:Int->Int->Int->Int->Int->Int->Int->Int->Int->World->Prop)(K:Pw.Y3)(w:World):Prop:=fq (gW z67_F 0 [v1 1 z67_k1 N0,v0 2 z67_k2] [nN 0 N0] K a b c d e f g i j w)
structure z67_l0(a b c d e f g i j:Int)(K:Pw.Y3)(w):Prop where out:fl (lp0 [tU,tU,tU,tU,tU,tU,tU,tU,tU] [1,1,1,1,1,1,1,0,0] z67_b0 K a b c d e f g i j w)
structure z67_sh(a b c:Int)(K:Pw.Y3)(w):Prop where out:fq (fW z67_F [v0 0 z67_l0] K a b c w)
theorem z67_ok:okP z67_F 312 z67_sh:=okN (fun K=>[c0 0 z67_l0 K,c1 0 1 z67_k1 K,c0 2 z67_k2 K,c0 3 z67_l3 K,c1 3 4 z67_k4 K,c0 5 z67_k5 K]) call312 func312 fun _=>q03 (hL0 [1,1,1,1,1,1,1,0,0] z67_b0)<|q03 hC1<|q03 hC0<|q03 (hL0 [1,1,1,1,1,1,0,1,0] z67_b3)<|q03 hC1<|q03 hC0<|hEnd
noncomputable def z3g_F:FD prog:=⟨f291,[kn z67_ok],aN 0x61a109876543210a382e,[.g 2,tU,tU,tU],[.u 2,.g 2,tU,tU,tU],[]⟩
structure z3g_sh(a b c:Int)(K:Int->Int->Int->World->Prop)(w):Prop where out:fq (fW z3g_F [] K a b c w)
theorem z3g_ok:okP z3g_F 291 z3g_sh:=okN (fun _=>[]) call291 func291 fun _=>hEnd
noncomputable def z77_F:FD prog:=⟨f292,[kn z6i_ok],aN 0x3a3b28653a01a16f11201a2b165404a0e061af022c044cb4017c0cb5017c23cbbb5017c23c23c6bb5017c23c23c23c1bb4b241,[tB,.g 2,tU,tU,.g 2,tU,tU],[.u 2,.g 2,tI,tI,tB],[[tQ],[tB,tQ,tQ,tQ],[tQ,tQ,tI]]⟩
structure z77_k0(a:Addr)(K:Pw.Y6)(w):Prop where out:fq (gW z77_F 0 [] [] K a w)
structure z77_k2(a b:Addr)(c:Int)(K:Pw.Y6)(w):Prop where out:fq (gW z77_F 2 [] [] K a b c w)
structure z77_k1(a:Bool)(b c d:Addr)(K:Pw.Y6)(w):Prop where out:fq (gW z77_F 1 [v0 2 z77_k2] [] K a b c d w)
structure z77_sh(a:Bool)(b c d e:Int)(K:Pw.Y6)(w):Prop where out:fq (fW z77_F [v0 0 z77_k0,v0 1 z77_k1] K a b c d e w)
theorem z77_ok:okP z77_F 292 z77_sh:=okN (fun K=>[c0 0 z77_k0 K,c0 1 z77_k1 K,c0 2 z77_k2 K]) call292 func292 fun _=>q03 hC0<|q03 hC0<|q03 hC0<|hEnd
noncomputable def z78_F:FD prog:=⟨f261,[kn z47_ok,kn z48_ok,kn z76_ok,kn z6i_ok,kn z3u_ok,kn z3v_ok,kn z3g_ok,kn z77_ok],aN 0x4b23b12b1b230ba2e9876543210a3727141910efe21a964326a062522e4310437453514536142e1108764326a06b5b2b64e3b06b5b2b3e3b06b5b3b3e2b5654b06b5b2b64e4b06b5b2b3e4b06b5b4b3e2b5653b06b5b2b3e3b06b5b3b3e2b54b06b5b2b3e4b06b5b4b3e2b53b06b5b3b3e4b06b5b4b3e3b52b6661b0ba9875432101b3726141,[.g 3,tB,tU,tU,.g 3,tB,tU,tU],[.u 2,.g 2,tI,tI,tB],[[tQ,tQ,tQ,tU,tQ,tQ],[tQ,tQ,tQ,tU,tQ,tB]]⟩
structure z78_k1(a b c:Addr)(d:Int)(e:Addr)(f:Bool)(K:Pw.Y6)(w):Prop where out:fq (gW z78_F 1 [] [] K a b c d e f w)
structure z78_k0(a b c:Addr)(d:Int)(e f:Addr)(K:Pw.Y6)(w):Prop where out:fq (gW z78_F 0 [v0 1 z78_k1] [] K a b c d e f w)
structure z78_sh(a:Bool)(b c:Int)(d:Bool)(e f:Int)(K:Pw.Y6)(w):Prop where out:fq (fW z78_F [v0 0 z78_k0] K a b c d e f w)
theorem z78_ok:okP z78_F 261 z78_sh:=okN (fun K=>[c0 0 z78_k0 K,c0 1 z78_k1 K]) call261 func261 fun _=>q03 hC0<|q03 hC0<|hEnd
noncomputable def z71_F:FD prog:=⟨f198,[kn z46_ok],aN 0x7141,[.g 2,tI,tI,.g 2,tI,tI],[.u 2,.g 2,tI,tI,tB],[]⟩
structure z71_sh(a b c d:Int)(K:Pw.Y6)(w):Prop where out:fq (fW z71_F [] K a b c d w)
theorem z71_ok:okP z71_F 198 z71_sh:=okN (fun _=>[]) call198 func198 fun _=>hEnd
noncomputable def z5m_F:FD prog:=⟨f262,[kn z78_ok],aN 0x715141,[.g 3,tB,tU,tU,.g 3,tB,tU,tU],[.u 2,.g 2,tI,tI,tB],[]⟩
structure z5m_sh(a:Bool)(b c:Int)(d:Bool)(e f:Int)(K:Pw.Y6)(w):Prop where out:fq (fW z5m_F [] K a b c d e f w)
theorem z5m_ok:okP z5m_F 262 z5m_sh:=okN (fun _=>[]) call262 func262 fun _=>hEnd
noncomputable def z75_F:FD prog:=⟨f199,[kn z46_ok],aN 0x7141,[.g 2,tI,tI,.g 2,tI,tI],[.u 2,.g 2,tI,tI,tB],[]⟩
structure z75_sh(a b c d:Int)(K:Pw.Y6)(w):Prop where out:fq (fW z75_F [] K a b c d w)
theorem z75_ok:okP z75_F 199 z75_sh:=okN (fun _=>[]) call199 func199 fun _=>hEnd
noncomputable def z5n_F:FD prog:=⟨f263,[kn z48_ok,kn z76_ok,kn z6i_ok,kn z77_ok],aN 0xc2fb1ebdb23cbbb2b3eab9b8b7b6b5b4b3b1b0ba9876543210ab37200ba23942e8765321083720e041af04013c0bb4b241,[.g 3,tB,tU,tU,.g 3,tB,tU,tU],[.u 2,.g 2,tI,tI,tB],[[tQ]]⟩
structure z5n_k0(a:Addr)(K:Pw.Y6)(w):Prop where out:fq (gW z5n_F 0 [] [] K a w)
structure z5n_sh(a:Bool)(b c:Int)(d:Bool)(e f:Int)(K:Pw.Y6)(w):Prop where out:fq (fW z5n_F [v0 0 z5n_k0] K a b c d e f w)
theorem z5n_ok:okP z5n_F 263 z5n_sh:=okN (fun K=>[c0 0 z5n_k0 K]) call263 func263 fun _=>q03 hC0<|hEnd
noncomputable def z73_F:FD prog:=⟨f200,[kn z46_ok],aN 0x7141,[.g 2,tI,tI,.g 2,tI,tI],[.u 2,.g 2,tI,tI,tB],[]⟩
structure z73_sh(a b c d:Int)(K:Pw.Y6)(w):Prop where out:fq (fW z73_F [] K a b c d w)
theorem z73_ok:okP z73_F 200 z73_sh:=okN (fun _=>[]) call200 func200 fun _=>hEnd
noncomputable def z5k_F:FD prog:=⟨f264,[kn z5n_ok,kn z6i_ok],aN 0x2b10efe241,[.g 3,tB,tU,tU,.g 3,tB,tU,tU,tQ],[.u 2,.g 2,tI,tI,tB],[]⟩
structure z5k_sh(a:Bool)(b c:Int)(d:Bool)(e f:Int)(g:Addr)(K:Pw.Y6)(w):Prop where out:fq (fW z5k_F [] K a b c d e f g w)
theorem z5k_ok:okP z5k_F 264 z5k_sh:=okN (fun _=>[]) call264 func264 fun _=>hEnd
noncomputable def z74_F:FD prog:=⟨f201,[kn z46_ok],aN 0x8141,[.g 2,tI,tI,.g 2,tI,tI],[.u 2,.g 2,tI,tI,tB],[]⟩
structure z74_sh(a b c d:Int)(K:Pw.Y6)(w):Prop where out:fq (fW z74_F [] K a b c d w)
theorem z74_ok:okP z74_F 201 z74_sh:=okN (fun _=>[]) call201 func201 fun _=>hEnd
noncomputable def z7e_F:FD prog:=⟨f129,[],aN 0xe11,[tI],[.g 2,tI,tI],[]⟩
structure z7e_sh(a:Int)(K:Pw.Y3)(w):Prop where out:fq (fW z7e_F [] K a w)
def z7e_S:Pw.Spec:=sp z7e_F z7e_sh
theorem z7e_ok:okP z7e_F 129 z7e_sh:=okN (fun _=>[]) call129 func129 fun _=>hEnd
noncomputable def z7d_F:FD prog:=⟨f95,[kn z6w_ok],aN 0x73c05023c1bb57b3b11,[tI,tI],[tB],[]⟩
structure z7d_sh(a b:Int)(K:Pw.Y0)(w):Prop where out:fq (fW z7d_F [] K a b w)
theorem z7d_ok:okP z7d_F 95 z7d_sh:=okN (fun _=>[]) call95 func95 fun _=>hEnd
noncomputable def z7c_F:FD prog:=⟨f69,[kn z69_ok],aN 0xec211,[tU],[tI],[]⟩
structure z7c_sh(a:Int)(K:Pw.Y1)(w):Prop where out:fq (fW z7c_F [] K a w)
theorem z7c_ok:okP z7c_F 69 z7c_sh:=okN (fun _=>[]) call69 func69 fun _=>hEnd
noncomputable def z4t_F:FD prog:=⟨f357,[kn z76_ok,kn z77_ok],aN 0xab29b18b7b236b162543340ab29b18b7b236b16543431b85b4b3b2b1b0ba9872102b37261e,[.g 3,tB,tU,tU],[.u 2,.g 2,tI,tI,tB],[]⟩
structure z4t_sh(a:Bool)(b c:Int)(K:Pw.Y6)(w):Prop where out:fq (fW z4t_F [] K a b c w)
theorem z4t_ok:okP z4t_F 357 z4t_sh:=okN (fun _=>[]) call357 func357 fun _=>hEnd
noncomputable def z6f_F:FD prog:=⟨f350,[kn z6h_ok,kn z6i_ok,kn z4t_ok],aN 0x4b10efd2d,[tI,tI],[.u 2,.g 2,tI,tI,tB],[]⟩
structure z6f_sh(a b:Int)(K:Pw.Y6)(w):Prop where out:fq (fW z6f_F [] K a b w)
theorem z6f_ok:okP z6f_F 350 z6f_sh:=okN (fun _=>[]) call350 func350 fun _=>hEnd
noncomputable def z30_F:FD prog:=⟨f60,[],aN 0x8111,[tI,tI],[tI],[]⟩
structure z30_sh(a b:Int)(K:Pw.Y1)(w):Prop where out:fq (fV z30_F [] K a b w)
theorem z30_ok:okP z30_F 60 z30_sh:=okN (fun _=>[]) call60 func60 fun _=>hEnd
noncomputable def z3b_F:FD prog:=⟨f109,[],aN 0xe11,[tI],[.g 2,tI,tI],[]⟩
structure z3b_sh(a:Int)(K:Pw.Y3)(w):Prop where out:fq (fV z3b_F [] K a w)
theorem z3b_ok:okP z3b_F 109 z3b_sh:=okN (fun _=>[]) call109 func109 fun _=>hEnd
noncomputable def z1g_F:FD prog:=⟨f110,[],aN 0x22c045b3b11,[tI],[tB],[]⟩
structure z1g_sh(a:Int)(K:Pw.Y0)(w):Prop where out:fq (fV z1g_F [] K a w)
theorem z1g_ok:okP z1g_F 110 z1g_sh:=okN (fun _=>[]) call110 func110 fun _=>hEnd
noncomputable def z1f_F:FD prog:=⟨f111,[],aN 0x716543210737225d414cd21654105942d5104103a35efd211,[tI,tI],[.g 2,tI,tI],[[tI,tI,tQ],[tI,tI,tQ,tI,tI]]⟩
def z1f_b1(a b:Int)(c:Addr)(d e:Int)(N1:Int->Int->Addr->Int->Int->World->Prop)(K:Pw.Y3)(w:World):Prop:=fq (gV z1f_F 1 [] [nN 1 N1] K a b c d e w)
structure z1f_l1(a b:Int)(c:Addr)(d e:Int)(K:Pw.Y3)(w):Prop where out:fl (lp0 [tI,tI,tQ,tI,tI] [1,1,1,0,0] z1f_b1 K a b c d e w)
structure z1f_k0(a b:Int)(c:Addr)(K:Pw.Y3)(w):Prop where out:fq (gV z1f_F 0 [v0 1 z1f_l1] [] K a b c w)
structure z1f_sh(a b:Int)(K:Pw.Y3)(w):Prop where out:fq (fV z1f_F [v0 0 z1f_k0] K a b w)
theorem z1f_ok:okP z1f_F 111 z1f_sh:=okN (fun K=>[c0 0 z1f_k0 K,c0 1 z1f_l1 K]) call111 func111 fun _=>q03 hC0<|q03 (hL0 [1,1,1,0,0] z1f_b1)<|hEnd
noncomputable def z21_F:FD prog:=⟨f61,[kn z3b_ok,kn z1g_ok,kn z1f_ok],aN 0x51f012c030bb3b20efd2d,[tI,tI],[.u 2,.g 2,tI,tI,tB],[]⟩
structure z21_sh(a b:Int)(K:Pw.Y6)(w):Prop where out:fq (fV z21_F [] K a b w)
theorem z21_ok:okP z21_F 61 z21_sh:=okN (fun _=>[]) call61 func61 fun _=>hEnd
noncomputable def z1e_F:FD prog:=⟨f253,[kn z1g_ok,kn z1f_ok],aN 0x762341532105372f013c040bb4b2011fe2d,[.g 2,tI,tI],[tB],[]⟩
structure z1e_sh(a b:Int)(K:Pw.Y0)(w):Prop where out:fq (fV z1e_F [] K a b w)
theorem z1e_ok:okP z1e_F 253 z1e_sh:=okN (fun _=>[]) call253 func253 fun _=>hEnd
structure z4c_sh(a0 a1:ByteArray)(K:Pw.Y4)(w:World):Prop where
 out:Calls Tryz.prog 82 #[(Value.string a0),(Value.string a1)] w fun e w'=>∃r0:Sl,e=.returned (Value.slice r0.p r0.l r0.c)/\K r0 w'
noncomputable def z4c_S:Pw.Spec:=fun vs w Kv =>
 match vs with
 | [.string a0,.string a1]=>z4c_sh a0 a1 (fun r0 w'=>Kv (Value.slice r0.p r0.l r0.c) w') w
 | _=>False
theorem z4c_ok:q1v Tryz.prog 82 z4c_S:=⟨Tryz.call82,fun vs w Kv h=>by
  unfold z4c_S at h
  split at h
  · exact h.out.mono fun e w' he=>by
      obtain⟨_,he,hk⟩:=he
      exact⟨_,he,hk⟩
  · exact h.elim⟩
structure z51_sh(a0:Sl)(a1:ByteArray)(K:Pw.Y2)(w:World):Prop where
 out:Calls Tryz.prog 154 #[(Value.slice a0.p a0.l a0.c),(Value.string a1)] w fun e w'=>∃r0:ByteArray,e=.returned (Value.string r0)/\K r0 w'
noncomputable def z51_S:Pw.Spec:=fun vs w Kv =>
 match vs with
 | [.slice a0p a0l a0c,.string a1]=>z51_sh ⟨a0p,a0l,a0c⟩ a1 (fun r0 w'=>Kv (Value.string r0) w') w
 | _=>False
theorem z51_ok:q1v Tryz.prog 154 z51_S:=⟨Tryz.call154,fun vs w Kv h=>by
  unfold z51_S at h
  split at h
  · exact h.out.mono fun e w' he=>by
      obtain⟨_,he,hk⟩:=he
      exact⟨_,he,hk⟩
  · exact h.elim⟩
structure z50_sh(a0:Int)(K:Pw.Y2)(w:World):Prop where
 out:Calls Tryz.prog 155 #[(Value.int .i64 a0)] w fun e w'=>∃r0:ByteArray,e=.returned (Value.string r0)/\K r0 w'
noncomputable def z50_S:Pw.Spec:=fun vs w Kv =>
 match vs with
 | [.int .i64 a0]=>z50_sh a0 (fun r0 w'=>Kv (Value.string r0) w') w
 | _=>False
theorem z50_ok:q1v Tryz.prog 155 z50_S:=⟨Tryz.call155,fun vs w Kv h=>by
  unfold z50_S at h
  split at h
  · exact h.out.mono fun e w' he=>by
      obtain⟨_,he,hk⟩:=he
      exact⟨_,he,hk⟩
  · exact h.elim⟩
structure z2e_sh(a0 a1:ByteArray)(K:Pw.Y2)(w:World):Prop where
 out:Calls Tryz.prog 306 #[(Value.string a0),(Value.string a1)] w fun e w'=>∃r0:ByteArray,e=.returned (Value.string r0)/\K r0 w'
noncomputable def z2e_S:Pw.Spec:=fun vs w Kv =>
 match vs with
 | [.string a0,.string a1]=>z2e_sh a0 a1 (fun r0 w'=>Kv (Value.string r0) w') w
 | _=>False
theorem z2e_ok:q1v Tryz.prog 306 z2e_S:=⟨Tryz.call306,fun vs w Kv h=>by
  unfold z2e_S at h
  split at h
  · exact h.out.mono fun e w' he=>by
      obtain⟨_,he,hk⟩:=he
      exact⟨_,he,hk⟩
  · exact h.elim⟩
structure z4z_sh(a0:ByteArray)(K:Int->Value->World->Prop)(w:World):Prop where
 out:Calls Tryz.prog 293 #[(Value.string a0)] w fun e w'=>∃r0:Int,∃r1:Value,e=.returned (Value.tuple #[(Value.int .i64 r0),r1])/\K r0 r1 w'
noncomputable def z4z_S:Pw.Spec:=fun vs w Kv =>
 match vs with
 | [.string a0]=>z4z_sh a0 (fun r0 r1 w'=>Kv (Value.tuple #[(Value.int .i64 r0),r1]) w') w
 | _=>False
theorem z4z_ok:q1v Tryz.prog 293 z4z_S:=⟨Tryz.call293,fun vs w Kv h=>by
  unfold z4z_S at h
  split at h
  · exact h.out.mono fun e w' he=>by
      obtain⟨_,_,he,hk⟩:=he
      exact⟨_,he,hk⟩
  · exact h.elim⟩
structure z5u_sh(a0 a1:ByteArray)(K:ByteArray->ByteArray->Bool->World->Prop)(w:World):Prop where
 out:Calls Tryz.prog 348 #[(Value.string a0),(Value.string a1)] w fun e w'=>∃r0:ByteArray,∃r1:ByteArray,∃r2:Bool,e=.returned (Value.tuple #[(Value.string r0),(Value.string r1),(Value.bool r2)])/\K r0 r1 r2 w'
noncomputable def z5u_S:Pw.Spec:=fun vs w Kv =>
 match vs with
 | [.string a0,.string a1]=>z5u_sh a0 a1 (fun r0 r1 r2 w'=>Kv (Value.tuple #[(Value.string r0),(Value.string r1),(Value.bool r2)]) w') w
 | _=>False
theorem z5u_ok:q1v Tryz.prog 348 z5u_S:=⟨Tryz.call348,fun vs w Kv h=>by
  unfold z5u_S at h
  split at h
  · exact h.out.mono fun e w' he=>by
      obtain⟨_,_,_,he,hk⟩:=he
      exact⟨_,he,hk⟩
  · exact h.elim⟩
structure z2d_sh(a0 a1:ByteArray)(K:Pw.Y0)(w:World):Prop where
 out:Calls Tryz.prog 349 #[(Value.string a0),(Value.string a1)] w fun e w'=>∃r0:Bool,e=.returned (Value.bool r0)/\K r0 w'
noncomputable def z2d_S:Pw.Spec:=fun vs w Kv =>
 match vs with
 | [.string a0,.string a1]=>z2d_sh a0 a1 (fun r0 w'=>Kv (Value.bool r0) w') w
 | _=>False
theorem z2d_ok:q1v Tryz.prog 349 z2d_S:=⟨Tryz.call349,fun vs w Kv h=>by
  unfold z2d_S at h
  split at h
  · exact h.out.mono fun e w' he=>by
      obtain⟨_,he,hk⟩:=he
      exact⟨_,he,hk⟩
  · exact h.elim⟩
structure z36_sh(a0 a1:ByteArray)(K:Pw.Y0)(w:World):Prop where
 out:Calls Tryz.prog 315 #[(Value.string a0),(Value.string a1)] w fun e w'=>∃r0:Bool,e=.returned (Value.bool r0)/\K r0 w'
noncomputable def z36_S:Pw.Spec:=fun vs w Kv =>
 match vs with
 | [.string a0,.string a1]=>z36_sh a0 a1 (fun r0 w'=>Kv (Value.bool r0) w') w
 | _=>False
theorem z36_ok:q1v Tryz.prog 315 z36_S:=⟨Tryz.call315,fun vs w Kv h=>by
  unfold z36_S at h
  split at h
  · exact h.out.mono fun e w' he=>by
      obtain⟨_,he,hk⟩:=he
      exact⟨_,he,hk⟩
  · exact h.elim⟩
noncomputable def z1a_F:FD prog:=⟨f158,[],aN 0x1125011f08765432109382d42c21102b1b10494e2011f51211,[tL,tL],[tB],[[tL,tL,tI,tI]]⟩
def z1a_b0(a b:Sl)(c d:Int)(N0:Sl->Sl->Int->Int->World->Prop)(K:Pw.Y0)(w:World):Prop:=fq (gV z1a_F 0 [] [nN 0 N0] K a b c d w)
structure z1a_l0(a b:Sl)(c d:Int)(K:Pw.Y0)(w):Prop where out:fl (lp0 [tL,tL,tI,tI] [1,1,1,0] z1a_b0 K a b c d w)
structure z1a_sh(a b:Sl)(K:Pw.Y0)(w):Prop where out:fq (fV z1a_F [v0 0 z1a_l0] K a b w)
theorem z1a_ok:okP z1a_F 158 z1a_sh:=okN (fun K=>[c0 0 z1a_l0 K]) call158 func158 fun _=>q03 (hL0 [1,1,1,0] z1a_b0)<|hEnd
noncomputable def z08_F:FD prog:=⟨f159,[],aN 0x1125011f08765432109382d42c21102b1b10494e2011f51211,[tL,tL],[tB],[[tL,tL,tI,tI]]⟩
def z08_b0(a b:Sl)(c d:Int)(N0:Sl->Sl->Int->Int->World->Prop)(K:Pw.Y0)(w:World):Prop:=fq (gV z08_F 0 [] [nN 0 N0] K a b c d w)
structure z08_l0(a b:Sl)(c d:Int)(K:Pw.Y0)(w):Prop where out:fl (lp0 [tL,tL,tI,tI] [1,1,1,0] z08_b0 K a b c d w)
structure z08_sh(a b:Sl)(K:Pw.Y0)(w):Prop where out:fq (fV z08_F [v0 0 z08_l0] K a b w)
theorem z08_ok:okP z08_F 159 z08_sh:=okN (fun K=>[c0 0 z08_l0 K]) call159 func159 fun _=>q03 (hL0 [1,1,1,0] z08_b0)<|hEnd
noncomputable def z0c_F:FD prog:=⟨f160,[],aN 0x1125011f08765432109382d42c21102b1b10494e2011f51211,[tL,tL],[tB],[[tL,tL,tI,tI]]⟩
def z0c_b0(a b:Sl)(c d:Int)(N0:Sl->Sl->Int->Int->World->Prop)(K:Pw.Y0)(w:World):Prop:=fq (gV z0c_F 0 [] [nN 0 N0] K a b c d w)
structure z0c_l0(a b:Sl)(c d:Int)(K:Pw.Y0)(w):Prop where out:fl (lp0 [tL,tL,tI,tI] [1,1,1,0] z0c_b0 K a b c d w)
structure z0c_sh(a b:Sl)(K:Pw.Y0)(w):Prop where out:fq (fV z0c_F [v0 0 z0c_l0] K a b w)
theorem z0c_ok:okP z0c_F 160 z0c_sh:=okN (fun K=>[c0 0 z0c_l0 K]) call160 func160 fun _=>q03 (hL0 [1,1,1,0] z0c_b0)<|hEnd
noncomputable def z4x_F:FD prog:=⟨f161,[],aN 0x1125011f08765432109382d42c21102b1b10494e2011f51211,[tL,tL],[tB],[[tL,tL,tI,tI]]⟩
def z4x_b0(a b:Sl)(c d:Int)(N0:Sl->Sl->Int->Int->World->Prop)(K:Pw.Y0)(w:World):Prop:=fq (gV z4x_F 0 [] [nN 0 N0] K a b c d w)
structure z4x_l0(a b:Sl)(c d:Int)(K:Pw.Y0)(w):Prop where out:fl (lp0 [tL,tL,tI,tI] [1,1,1,0] z4x_b0 K a b c d w)
structure z4x_sh(a b:Sl)(K:Pw.Y0)(w):Prop where out:fq (fV z4x_F [v0 0 z4x_l0] K a b w)
theorem z4x_ok:okP z4x_F 161 z4x_sh:=okN (fun K=>[c0 0 z4x_l0 K]) call161 func161 fun _=>q03 (hL0 [1,1,1,0] z4x_b0)<|hEnd
noncomputable def z33_F:FD prog:=⟨f162,[],aV [(Value.bool false)] 0x1125011f010d3b515142c21106b5b4b21594e2011f51211,[tL,tL,tV],[tB],[[tL,tV,tL,tI,tI]]⟩
def z33_b0(a:Sl)(b:Value)(c:Sl)(d e:Int)(N0:Sl->Value->Sl->Int->Int->World->Prop)(K:Pw.Y0)(w:World):Prop:=fq (gV z33_F 0 [] [nN 0 N0] K a b c d e w)
structure z33_l0(a:Sl)(b:Value)(c:Sl)(d e:Int)(K:Pw.Y0)(w):Prop where out:fl (lp0 [tL,tV,tL,tI,tI] [1,1,1,1,0] z33_b0 K a b c d e w)
structure z33_sh(a b:Sl)(c:Value)(K:Pw.Y0)(w):Prop where out:fq (fV z33_F [v0 0 z33_l0] K a b c w)
theorem z33_ok:okP z33_F 162 z33_sh:=okN (fun K=>[c0 0 z33_l0 K]) call162 func162 fun _=>q03 (hL0 [1,1,1,1,0] z33_b0)<|hEnd
noncomputable def z34_F:FD prog:=⟨f163,[],aN 0x1125011f08765432109382d42c21102b1b10494e2011f51211,[tL,tL],[tB],[[tL,tL,tI,tI]]⟩
def z34_b0(a b:Sl)(c d:Int)(N0:Sl->Sl->Int->Int->World->Prop)(K:Pw.Y0)(w:World):Prop:=fq (gV z34_F 0 [] [nN 0 N0] K a b c d w)
structure z34_l0(a b:Sl)(c d:Int)(K:Pw.Y0)(w):Prop where out:fl (lp0 [tL,tL,tI,tI] [1,1,1,0] z34_b0 K a b c d w)
structure z34_sh(a b:Sl)(K:Pw.Y0)(w):Prop where out:fq (fV z34_F [v0 0 z34_l0] K a b w)
theorem z34_ok:okP z34_F 163 z34_sh:=okN (fun K=>[c0 0 z34_l0 K]) call163 func163 fun _=>q03 (hL0 [1,1,1,0] z34_b0)<|hEnd
noncomputable def z0a_F:FD prog:=⟨f228,[],aV [(Value.bool false)] 0x1125011f010d3b616142c21106b5b4b21594e2011f51211,[tL,tL,tV],[tB],[[tL,tV,tL,tI,tI]]⟩
def z0a_b0(a:Sl)(b:Value)(c:Sl)(d e:Int)(N0:Sl->Value->Sl->Int->Int->World->Prop)(K:Pw.Y0)(w:World):Prop:=fq (gV z0a_F 0 [] [nN 0 N0] K a b c d e w)
structure z0a_l0(a:Sl)(b:Value)(c:Sl)(d e:Int)(K:Pw.Y0)(w):Prop where out:fl (lp0 [tL,tV,tL,tI,tI] [1,1,1,1,0] z0a_b0 K a b c d e w)
structure z0a_sh(a b:Sl)(c:Value)(K:Pw.Y0)(w):Prop where out:fq (fV z0a_F [v0 0 z0a_l0] K a b c w)
theorem z0a_ok:okP z0a_F 228 z0a_sh:=okN (fun K=>[c0 0 z0a_l0 K]) call228 func228 fun _=>q03 (hL0 [1,1,1,1,0] z0a_b0)<|hEnd
noncomputable def z0d_F:FD prog:=⟨f63,[],aV [(Value.bool false)] 0x11250df00d5bd42c21108710494e211,[tL,tV],[tI],[[tL,tV,tI,tI]]⟩
def z0d_b0(a:Sl)(b:Value)(c d:Int)(N0:Sl->Value->Int->Int->World->Prop)(K:Pw.Y1)(w:World):Prop:=fq (gV z0d_F 0 [] [nN 0 N0] K a b c d w)
structure z0d_l0(a:Sl)(b:Value)(c d:Int)(K:Pw.Y1)(w):Prop where out:fl (lp0 [tL,tV,tI,tI] [1,1,1,0] z0d_b0 K a b c d w)
structure z0d_sh(a:Sl)(b:Value)(K:Pw.Y1)(w):Prop where out:fq (fV z0d_F [v0 0 z0d_l0] K a b w)
theorem z0d_ok:okP z0d_F 63 z0d_sh:=okN (fun K=>[c0 0 z0d_l0 K]) call63 func63 fun _=>q03 (hL0 [1,1,1,0] z0d_b0)<|hEnd
noncomputable def z05_F:FD prog:=⟨f40,[kn z0d_ok],aN 0x5111,[tL,tV],[tB],[]⟩
structure z05_sh(a:Sl)(b:Value)(K:Pw.Y0)(w):Prop where out:fq (fV z05_F [] K a b w)
theorem z05_ok:okP z05_F 40 z05_sh:=okN (fun _=>[]) call40 func40 fun _=>hEnd
noncomputable def z02_F:FD prog:=⟨f89,[],aV [(Value.bool false)] 0x11250df00d5bd42c21108710494e211,[tL,tV],[tI],[[tL,tV,tI,tI]]⟩
def z02_b0(a:Sl)(b:Value)(c d:Int)(N0:Sl->Value->Int->Int->World->Prop)(K:Pw.Y1)(w:World):Prop:=fq (gV z02_F 0 [] [nN 0 N0] K a b c d w)
structure z02_l0(a:Sl)(b:Value)(c d:Int)(K:Pw.Y1)(w):Prop where out:fl (lp0 [tL,tV,tI,tI] [1,1,1,0] z02_b0 K a b c d w)
structure z02_sh(a:Sl)(b:Value)(K:Pw.Y1)(w):Prop where out:fq (fV z02_F [v0 0 z02_l0] K a b w)
theorem z02_ok:okP z02_F 89 z02_sh:=okN (fun K=>[c0 0 z02_l0 K]) call89 func89 fun _=>q03 (hL0 [1,1,1,0] z02_b0)<|hEnd
noncomputable def z00_F:FD prog:=⟨f66,[kn z02_ok],aN 0x5111,[tL,tV],[tB],[]⟩
structure z00_sh(a:Sl)(b:Value)(K:Pw.Y0)(w):Prop where out:fq (fV z00_F [] K a b w)
theorem z00_ok:okP z00_F 66 z00_sh:=okN (fun _=>[]) call66 func66 fun _=>hEnd
noncomputable def z01_F:FD prog:=⟨f205,[],aV [(Value.bool false)] 0x11250df00d5bd42c21108710494e211,[tL,tV],[tI],[[tL,tV,tI,tI]]⟩
def z01_b0(a:Sl)(b:Value)(c d:Int)(N0:Sl->Value->Int->Int->World->Prop)(K:Pw.Y1)(w:World):Prop:=fq (gV z01_F 0 [] [nN 0 N0] K a b c d w)
structure z01_l0(a:Sl)(b:Value)(c d:Int)(K:Pw.Y1)(w):Prop where out:fl (lp0 [tL,tV,tI,tI] [1,1,1,0] z01_b0 K a b c d w)
structure z01_sh(a:Sl)(b:Value)(K:Pw.Y1)(w):Prop where out:fq (fV z01_F [v0 0 z01_l0] K a b w)
theorem z01_ok:okP z01_F 205 z01_sh:=okN (fun K=>[c0 0 z01_l0 K]) call205 func205 fun _=>q03 (hL0 [1,1,1,0] z01_b0)<|hEnd
noncomputable def z09_F:FD prog:=⟨f127,[],aV [(Value.bool false)] 0x11250df00d5bd42c21108710494e211,[tL,tV],[tI],[[tL,tV,tI,tI]]⟩
def z09_b0(a:Sl)(b:Value)(c d:Int)(N0:Sl->Value->Int->Int->World->Prop)(K:Pw.Y1)(w:World):Prop:=fq (gV z09_F 0 [] [nN 0 N0] K a b c d w)
structure z09_l0(a:Sl)(b:Value)(c d:Int)(K:Pw.Y1)(w):Prop where out:fl (lp0 [tL,tV,tI,tI] [1,1,1,0] z09_b0 K a b c d w)
structure z09_sh(a:Sl)(b:Value)(K:Pw.Y1)(w):Prop where out:fq (fV z09_F [v0 0 z09_l0] K a b w)
def z09_S:Pw.Spec:=sp z09_F z09_sh
theorem z09_ok:okP z09_F 127 z09_sh:=okN (fun K=>[c0 0 z09_l0 K]) call127 func127 fun _=>q03 (hL0 [1,1,1,0] z09_b0)<|hEnd
noncomputable def z4y_F:FD prog:=⟨f100,[],aN 0x11250df61d42c21108710494e211,[tL,tS],[tI],[[tL,tS,tI,tI]]⟩
def z4y_b0(a:Sl)(b:ByteArray)(c d:Int)(N0:Sl->ByteArray->Int->Int->World->Prop)(K:Pw.Y1)(w:World):Prop:=fq (gV z4y_F 0 [] [nN 0 N0] K a b c d w)
structure z4y_l0(a:Sl)(b:ByteArray)(c d:Int)(K:Pw.Y1)(w):Prop where out:fl (lp0 [tL,tS,tI,tI] [1,1,1,0] z4y_b0 K a b c d w)
structure z4y_sh(a:Sl)(b:ByteArray)(K:Pw.Y1)(w):Prop where out:fq (fV z4y_F [v0 0 z4y_l0] K a b w)
theorem z4y_ok:okP z4y_F 100 z4y_sh:=okN (fun K=>[c0 0 z4y_l0 K]) call100 func100 fun _=>q03 (hL0 [1,1,1,0] z4y_b0)<|hEnd
noncomputable def z3i_F:FD prog:=⟨f54,[kn z4y_ok],aN 0x5111,[tL,tS],[tB],[]⟩
structure z3i_sh(a:Sl)(b:ByteArray)(K:Pw.Y0)(w):Prop where out:fq (fV z3i_F [] K a b w)
theorem z3i_ok:okP z3i_F 54 z3i_sh:=okN (fun _=>[]) call54 func54 fun _=>hEnd
noncomputable def z35_F:FD prog:=⟨f274,[],aN 0x11250df61d42c21108710494e211,[tL,tI],[tI],[[tL,tI,tI,tI]]⟩
def z35_b0(a:Sl)(b c d:Int)(N0:Sl->Int->Int->Int->World->Prop)(K:Pw.Y1)(w:World):Prop:=fq (gV z35_F 0 [] [nN 0 N0] K a b c d w)
structure z35_l0(a:Sl)(b c d:Int)(K:Pw.Y1)(w):Prop where out:fl (lp0 [tL,tI,tI,tI] [1,1,1,0] z35_b0 K a b c d w)
structure z35_sh(a:Sl)(b:Int)(K:Pw.Y1)(w):Prop where out:fq (fV z35_F [v0 0 z35_l0] K a b w)
theorem z35_ok:okP z35_F 274 z35_sh:=okN (fun K=>[c0 0 z35_l0 K]) call274 func274 fun _=>q03 (hL0 [1,1,1,0] z35_b0)<|hEnd
noncomputable def z19_F:FD prog:=⟨f219,[kn z35_ok],aN 0x5111,[tL,tI],[tB],[]⟩
structure z19_sh(a:Sl)(b:Int)(K:Pw.Y0)(w):Prop where out:fq (fV z19_F [] K a b w)
theorem z19_ok:okP z19_F 219 z19_sh:=okN (fun _=>[]) call219 func219 fun _=>hEnd
noncomputable def z5z_F:FD prog:=⟨f266,[],aN 0x32c051bb52c032c051bb3026c9b45b3b11,[.f (.i .u8)],[tB],[]⟩
structure z5z_sh(a:Int)(K:Pw.Y0)(w):Prop where out:fq (fV z5z_F [] K a w)
theorem z5z_ok:okP z5z_F 266 z5z_sh:=okN (fun _=>[]) call266 func266 fun _=>hEnd
noncomputable def z7g_F:FD prog:=⟨f267,[],aV [(Value.bool false)] 0xd354c015c010d40bb5b20210394211,[tS,tI,tV],[tI],[[tS,tI,tV]]⟩
def z7g_b0(a:ByteArray)(b:Int)(c:Value)(N0:ByteArray->Int->Value->World->Prop)(K:Pw.Y1)(w:World):Prop:=fq (gV z7g_F 0 [] [nN 0 N0] K a b c w)
structure z7g_l0(a:ByteArray)(b:Int)(c:Value)(K:Pw.Y1)(w):Prop where out:fl (lp0 [tS,tI,tV] [1,0,1] z7g_b0 K a b c w)
structure z7g_sh(a:ByteArray)(b:Int)(c:Value)(K:Pw.Y1)(w):Prop where out:fq (fV z7g_F [v0 0 z7g_l0] K a b c w)
theorem z7g_ok:okP z7g_F 267 z7g_sh:=okN (fun K=>[c0 0 z7g_l0 K]) call267 func267 fun _=>q03 (hL0 [1,0,1] z7g_b0)<|hEnd
noncomputable def z6n_F:FD prog:=⟨f273,[],aN 0x22c045b3b11,[.f (.i .u8)],[tB],[]⟩
structure z6n_sh(a:Int)(K:Pw.Y0)(w):Prop where out:fq (fV z6n_F [] K a w)
theorem z6n_ok:okP z6n_F 273 z6n_sh:=okN (fun _=>[]) call273 func273 fun _=>hEnd
noncomputable def z5w_F:FD prog:=⟨f268,[kn z5z_ok,kn z6n_ok],aN 0x4022c9b4022c22c5b3b11,[.f (.i .u8)],[tB],[]⟩
structure z5w_sh(a:Int)(K:Pw.Y0)(w):Prop where out:fq (fV z5w_F [] K a w)
theorem z5w_ok:okP z5w_F 268 z5w_sh:=okN (fun _=>[]) call268 func268 fun _=>hEnd
noncomputable def z5x_F:FD prog:=⟨f207,[kn z5z_ok,kn z7g_ok],aN 0x25c23c23c025c23c025c074bb5ab55b3b11,[tS],[tB],[]⟩
structure z5x_sh(a:ByteArray)(K:Pw.Y0)(w):Prop where out:fq (fV z5x_F [] K a w)
theorem z5x_ok:okP z5x_F 207 z5x_sh:=okN (fun _=>[]) call207 func207 fun _=>hEnd
structure z2l_sh(a:ByteArray)(b c:Int)(d:ByteArray)(e:Sl)(f:Int)(g:Option Addr)(K:Pw.Y0)(w:World):Prop where out:clF prog 226 [.g 5,tS,tI,tI,tS,tL,tI,tP] [tB] K a b c d e f g w
theorem z2l_okr:q1v prog 226 (sr [.g 5,tS,tI,tI,tS,tL,tI,tP] [tB] z2l_sh):=okR call226
noncomputable def z2l_F:FD prog:=⟨f226,[kn z5l_ok,kn z5x_ok,kn z2l_okr],aN 0x110028c28c23c24c028c28c23c028c28c028c0ae2dfbae23fb51efb618fb5b03213af2503d03d03d03d03d20024c24c23c23c024c24c23c024c24c024c0607fb601fb5ceb57eb4b3d0024c23c28c25c24c024c23c28c25c024c23c28c024c23c024c06cdb57dbaedcb76cb60cb4b3d4d2011f05014c3bb3b261d,[.g 5,tS,tI,tI,tS,tL,tI,tP],[tB],[[tI,tP,tQ]]⟩
structure z2l_k0(a:Int)(b:Option Addr)(c:Addr)(K:Pw.Y0)(w):Prop where out:fq (gV z2l_F 0 [] [] K a b c w)
def z2l_sd(a:ByteArray)(b c:Int)(d:ByteArray)(e:Sl)(f:Int)(g:Option Addr)(K:Pw.Y0)(w:World):Prop:=fq (fV z2l_F [v0 0 z2l_k0] K a b c d e f g w)
theorem z2l_mk{a:ByteArray}{b c:Int}{d:ByteArray}{e:Sl}{f:Int}{g:Option Addr}{K:Bool->World->Prop}{w:World}(h:z2l_sd a b c d e f g K w):z2l_sh a b c d e f g K w:=⟨mkY z2l_F z2l_sd (fun K=>[c0 0 z2l_k0 K]) func226 (fun _=>q03 hC0<|hEnd) (a,b,c,d,e,f,g,()) h⟩
noncomputable def z6q_F:FD prog:=⟨f282,[],aN 0x11011f2503d2031a01132503d2411211,[tS],[tI],[[tS]]⟩
structure z6q_k0(a:ByteArray)(K:Pw.Y1)(w):Prop where out:fq (gV z6q_F 0 [] [] K a w)
structure z6q_sh(a:ByteArray)(K:Pw.Y1)(w):Prop where out:fq (fV z6q_F [v0 0 z6q_k0] K a w)
theorem z6q_ok:okP z6q_F 282 z6q_sh:=okN (fun K=>[c0 0 z6q_k0 K]) call282 func282 fun _=>q03 hC0<|hEnd
noncomputable def z53_F:FD prog:=⟨f283,[kn z50_ok,kn z2e_ok],aN 0x3b1071fd209876543210a382d,[.g 2,tI,tI],[tS],[]⟩
structure z53_sh(a b:Int)(K:Pw.Y2)(w):Prop where out:fq (fV z53_F [] K a b w)
theorem z53_ok:okP z53_F 283 z53_sh:=okN (fun _=>[]) call283 func283 fun _=>hEnd
structure z7b_sh(a:ByteArray)(b c:Int)(d:ByteArray)(e:Sl)(f:Int)(K:Pw.Y2)(w:World):Prop where out:clF prog 227 [.g 5,tS,tI,tI,tS,tL,tI] [tS] K a b c d e f w
theorem z7b_okr:q1v prog 227 (sr [.g 5,tS,tI,tI,tS,tL,tI] [tS] z7b_sh):=okR call227
noncomputable def z7b_F:FD prog:=⟨f227,[kn z7b_okr,kn z6q_ok,kn z53_ok],aN 0xd041fe216513a08b7b236b1a9633515b4b3b2b1b0b87432102b3705213a032503d2353d453d4d21141d,[.g 5,tS,tI,tI,tS,tL,tI],[tS],[[tI,tQ,tI],[tI,tI,tS]]⟩
structure z7b_k1(a b:Int)(c:ByteArray)(K:Pw.Y2)(w):Prop where out:fq (gV z7b_F 1 [] [] K a b c w)
structure z7b_k0(a:Int)(b:Addr)(c:Int)(K:Pw.Y2)(w):Prop where out:fq (gV z7b_F 0 [v0 1 z7b_k1] [] K a b c w)
def z7b_sd(a:ByteArray)(b c:Int)(d:ByteArray)(e:Sl)(f:Int)(K:Pw.Y2)(w:World):Prop:=fq (fV z7b_F [v0 0 z7b_k0,v0 1 z7b_k1] K a b c d e f w)
theorem z7b_mk{a:ByteArray}{b c:Int}{d:ByteArray}{e:Sl}{f:Int}{K:ByteArray->World->Prop}{w:World}(h:z7b_sd a b c d e f K w):z7b_sh a b c d e f K w:=⟨mkY z7b_F z7b_sd (fun K=>[c0 0 z7b_k0 K,c0 1 z7b_k1 K]) func227 (fun _=>q03 hC0<|q03 hC0<|hEnd) (a,b,c,d,e,f,()) h⟩
noncomputable def z2f_F:FD prog:=⟨f156,[kn z2l_okr,kn z7b_okr],aN 0xe011fe2dd,[.g 5,tS,tI,tI,tS,tL],[tS],[]⟩
structure z2f_sh(a:ByteArray)(b c:Int)(d:ByteArray)(e:Sl)(K:Pw.Y2)(w):Prop where out:fq (fV z2f_F [] K a b c d e w)
theorem z2f_ok:okP z2f_F 156 z2f_sh:=okN (fun _=>[]) call156 func156 fun _=>hEnd
noncomputable def z66_F:FD prog:=⟨f165,[kn z2f_ok],aN 0x41d,[.g 5,tS,tI,tI,tS,tL],[tB],[]⟩
structure z66_sh(a:ByteArray)(b c:Int)(d:ByteArray)(e:Sl)(K:Pw.Y0)(w):Prop where out:fq (fV z66_F [] K a b c d e w)
theorem z66_ok:okP z66_F 165 z66_sh:=okN (fun _=>[]) call165 func165 fun _=>hEnd
noncomputable def z3r_F:FD prog:=⟨f252,[],aV [(Value.bool false)] 0x10d2b25011f010d2b4142c2110a98321694412d,[.g 5,tS,tI,tI,tS,tL,tQ,tQ],[tB],[[tQ,tQ,tQ,tL,tI,tI]]⟩
def z3r_b0(a b c:Addr)(d:Sl)(e f:Int)(N0:Addr->Addr->Addr->Sl->Int->Int->World->Prop)(K:Pw.Y0)(w:World):Prop:=fq (gV z3r_F 0 [] [nN 0 N0] K a b c d e f w)
structure z3r_l0(a b c:Addr)(d:Sl)(e f:Int)(K:Pw.Y0)(w):Prop where out:fl (lp0 [tQ,tQ,tQ,tL,tI,tI] [1,1,1,1,1,0] z3r_b0 K a b c d e f w)
structure z3r_sh(a:ByteArray)(b c:Int)(d:ByteArray)(e:Sl)(f g:Addr)(K:Pw.Y0)(w):Prop where out:fq (fV z3r_F [v0 0 z3r_l0] K a b c d e f g w)
theorem z3r_ok:okP z3r_F 252 z3r_sh:=okN (fun K=>[c0 0 z3r_l0 K]) call252 func252 fun _=>q03 (hL0 [1,1,1,1,1,0] z3r_b0)<|hEnd
noncomputable def z4n_F:FD prog:=⟨f251,[],aV [(Value.bool false)] 0xd26d1111,[tV,tQ],[.u 0],[]⟩
structure z4n_sh(a:Value)(b:Addr)(K:Pw.Y5)(w):Prop where out:fq (fV z4n_F [] K a b w)
theorem z4n_ok:okP z4n_F 251 z4n_sh:=okN (fun _=>[]) call251 func251 fun _=>hEnd
noncomputable def z65_F:FD prog:=⟨f176,[],aN 0xdd,[.g 5,tS,tI,tI,tS,tL],[tV],[]⟩
structure z65_sh(a:ByteArray)(b c:Int)(d:ByteArray)(e:Sl)(K:Value->World->Prop)(w):Prop where out:fq (fV z65_F [] K a b c d e w)
theorem z65_ok:okP z65_F 176 z65_sh:=okN (fun _=>[]) call176 func176 fun _=>hEnd
noncomputable def z63_as0:Code:=rfAs (rfAt (qdd Tryz.f99) 0)
noncomputable def z63_bd0:Code:=rfBd (rfAt (qdd Tryz.f99) 0)
def z63_ps0:Array Tmp:=#[10]
noncomputable def z63_F:FD prog:=⟨f99,[kn z3i_ok,kn z66_ok,kn z65_ok],fun l=>qr 2 (qs (qr 3 (qc (qr 1 ql) ql)) (qr 1 (qs (qr 2 (qb (A.rf [2,3,9] (l 0) (qb (qs (A.reg (qn 4 (RA.spl 14 (qn 6 RA.done) (qk 5 (qn 1 RA.done))))) (qc (qe 6) ql)))))) (qr 2 ql)))),[.g 5,tS,tI,tI,tS,tL],[tL],[[tL,tQ,tV]]⟩
structure z63_f0(a:Sl)(b:Addr)(c:Value)(K:Pw.Y4)(w):Prop where out:fq (gF z63_F 27 0 z63_ps0 z63_as0 z63_bd0 [] K a b c w)
structure z63_r0(a:Sl)(b:Addr)(c:Value)(d:ByteArray)(e f:Int)(g:ByteArray)(i:Sl)(M:World->(World->Prop)->Prop)(Nn0:World->Prop)(Nr0:World->Prop)(K:Pw.Y4)(w):Prop where out:fq (gR z63_F 0 [.g 5,tS,tI,tI,tS,tL] z63_ps0 z63_as0 z63_bd0 (qe 2) [] M Nn0 Nr0 K a b c d e f g i w)
structure z63_sh(a:ByteArray)(b c:Int)(d:ByteArray)(e:Sl)(K:Pw.Y4)(w):Prop where out:fq (fV z63_F [v0 0 z63_f0] K a b c d e w)
noncomputable def z63_L:VW->List (LbC z63_F):=fun K=>[c0 0 z63_f0 K]
set_option maxHeartbeats 4000000 in
theorem z63_ho(K:VW):∀k,0<=k->q12 Tryz.prog z63_F.env z63_F.f.ntmps (obF Tryz.prog z63_F.env z63_F.f (z63_F.a (lbT (z63_L K))) K) k:=q03 hF0<|hEnd
set_option maxHeartbeats 4000000 in
theorem z63_ok:okP z63_F 99 z63_sh:=okN z63_L call99 func99 z63_ho
set_option maxHeartbeats 4000000 in
theorem z63_y0{t_2p:Option Addr}{t_2l t_2c:Nat}{out_3:Addr}{t_9:Value}{t_10_0:ByteArray}{t_10_1:Int}{t_10_2:Int}{t_10_3:ByteArray}{t_10_4p:Option Addr}{t_10_4l t_10_4c:Nat}{fn d l:Nat}{tmps:Array Value}{K':VW}{w:World}(hag:agrT 27 [(2,(Value.slice t_2p t_2l t_2c)),(3,(Value.pointer (some out_3))),(9,t_9)] tmps)(hl:w.heap[l]?=some (lrec fn tmps z63_ps0 z63_as0 z63_bd0 d .ready none))(h:z63_r0 ⟨t_2p,t_2l,t_2c⟩ out_3 t_9 t_10_0 t_10_1 t_10_2 t_10_3 ⟨t_10_4p,t_10_4l,t_10_4c⟩ (rMid l fn tmps z63_ps0 z63_as0 z63_bd0 d) (rN l fn tmps z63_ps0 z63_as0 z63_bd0 d K') (rR l fn tmps z63_ps0 z63_as0 z63_bd0 d K') (kk z63_F.rs fun _ _=>True) w):Yl Tryz.prog l #[(Value.agg #[(Value.string t_10_0),(Value.int .i64 t_10_1),(Value.int .i64 t_10_2),(Value.string t_10_3),(Value.slice t_10_4p t_10_4l t_10_4c)])] w K':=yN z63_F 0 (qe 2) (z63_L fun _ _=>True) (Kv:=fun _ _=>True) (args:=[(Value.agg #[(Value.string t_10_0),(Value.int .i64 t_10_1),(Value.int .i64 t_10_2),(Value.string t_10_3),(Value.slice t_10_4p t_10_4l t_10_4c)])]) (z63_ho _) hag hl (cast (by kernel_rfl) h.out)
noncomputable def z4o_F:FD prog:=⟨f64,[],aN 0x61d,[.g 2,tI,tI,tQ],[tB],[]⟩
structure z4o_sh(a b:Int)(c:Addr)(K:Pw.Y0)(w):Prop where out:fq (fV z4o_F [] K a b c w)
theorem z4o_ok:okP z4o_F 64 z4o_sh:=okN (fun _=>[]) call64 func64 fun _=>hEnd
noncomputable def z5i_F:FD prog:=⟨f65,[],aN 0x41253535fd2f414142c2110a98541694e2d,[tL,tS],[.u 2,tI,tI],[[tS,tI,tI,tL,tI,tI]]⟩
def z5i_b0(a:ByteArray)(b c:Int)(d:Sl)(e f:Int)(N0:ByteArray->Int->Int->Sl->Int->Int->World->Prop)(K:Pw.Y3)(w:World):Prop:=fq (gV z5i_F 0 [] [nN 0 N0] K a b c d e f w)
structure z5i_l0(a:ByteArray)(b c:Int)(d:Sl)(e f:Int)(K:Pw.Y3)(w):Prop where out:fl (lp0 [tS,tI,tI,tL,tI,tI] [1,0,0,1,1,0] z5i_b0 K a b c d e f w)
structure z5i_sh(a:Sl)(b:ByteArray)(K:Pw.Y3)(w):Prop where out:fq (fV z5i_F [v0 0 z5i_l0] K a b w)
theorem z5i_ok:okP z5i_F 65 z5i_sh:=okN (fun K=>[c0 0 z5i_l0 K]) call65 func65 fun _=>q03 (hL0 [1,0,0,1,1,0] z5i_b0)<|hEnd
noncomputable def z4p_F:FD prog:=⟨f67,[],aN 0x61d,[.g 5,tS,tI,tI,tI,tB,tQ],[tB],[]⟩
structure z4p_sh(a:ByteArray)(b c d:Int)(e:Bool)(f:Addr)(K:Pw.Y0)(w):Prop where out:fq (fV z4p_F [] K a b c d e f w)
theorem z4p_ok:okP z4p_F 67 z4p_sh:=okN (fun _=>[]) call67 func67 fun _=>hEnd
noncomputable def z6b_F:FD prog:=⟨f27,[kn z0d_ok,kn z5i_ok,kn z00_ok],aN 0x1125011f034c0732fb64c034c0732fb4029c2efb628fb4b30cf0bf0af3b2b36a0113023c051ffb4b0113e4a14142c21120cf0bf0af349441225011f514142c2111feeede3259441225011f05014c5eb6014c24cfdb3ba14142c21101d0dfc32594412011f07b6b5b4b3b2b1b0ba98762b307b26b5b4b3b2b1b0ba98761b40c854321063822011fd251e,[tR,.g 5,tI,tI,tI,tI,tL],[tI],[[tQ,tQ,tL,tI,tI],[tQ,tQ,tL,tI,tI],[tQ,tL,tI,tI],[tQ,tQ,tI,tL,tI,tI]]⟩
structure z6b_k3(a b:Addr)(c:Int)(d:Sl)(e f:Int)(N2:Addr->Sl->Int->Int->World->Prop)(K:Pw.Y1)(w):Prop where out:fq (gV z6b_F 3 [] [nN 2 N2] K a b c d e f w)
def z6b_b2(a:Addr)(b:Sl)(c d:Int)(N2:Addr->Sl->Int->Int->World->Prop)(K:Pw.Y1)(w:World):Prop:=fq (gV z6b_F 2 [v1 3 z6b_k3 N2] [nN 2 N2] K a b c d w)
structure z6b_l2(a:Addr)(b:Sl)(c d:Int)(K:Pw.Y1)(w):Prop where out:fl (lp0 [tQ,tL,tI,tI] [1,1,1,0] z6b_b2 K a b c d w)
def z6b_b1(a b:Addr)(c:Sl)(d e:Int)(N1:Addr->Addr->Sl->Int->Int->World->Prop)(K:Pw.Y1)(w:World):Prop:=fq (gV z6b_F 1 [v0 2 z6b_l2] [nN 1 N1] K a b c d e w)
structure z6b_l1(a b:Addr)(c:Sl)(d e:Int)(K:Pw.Y1)(w):Prop where out:fl (lp0 [tQ,tQ,tL,tI,tI] [1,1,1,1,0] z6b_b1 K a b c d e w)
def z6b_b0(a b:Addr)(c:Sl)(d e:Int)(N0:Addr->Addr->Sl->Int->Int->World->Prop)(K:Pw.Y1)(w:World):Prop:=fq (gV z6b_F 0 [v0 1 z6b_l1] [nN 0 N0] K a b c d e w)
structure z6b_l0(a b:Addr)(c:Sl)(d e:Int)(K:Pw.Y1)(w):Prop where out:fl (lp0 [tQ,tQ,tL,tI,tI] [1,1,1,1,0] z6b_b0 K a b c d e w)
structure z6b_sh(a:T43)(b c d e:Int)(f:Sl)(K:Pw.Y1)(w):Prop where out:fq (fV z6b_F [v0 0 z6b_l0] K a b c d e f w)
theorem z6b_ok:okP z6b_F 27 z6b_sh:=okN (fun K=>[c0 0 z6b_l0 K,c0 1 z6b_l1 K,c0 2 z6b_l2 K,c1 2 3 z6b_k3 K]) call27 func27 fun _=>q03 (hL0 [1,1,1,1,0] z6b_b0)<|q03 (hL0 [1,1,1,1,0] z6b_b1)<|q03 (hL0 [1,1,1,0] z6b_b2)<|q03 hC1<|hEnd
structure z6c_sh(a:ByteArray)(b c:Int)(d:ByteArray)(e:Sl)(f g:Int)(K:Pw.Y15)(w:World):Prop where out:clF prog 125 [.g 5,tS,tI,tI,tS,tL,tI,tI] [.u 2,tI,tB] K a b c d e f g w
theorem z6c_okr:q1v prog 125 (sr [.g 5,tS,tI,tI,tS,tL,tI,tI] [.u 2,tI,tB] z6c_sh):=okR call125
noncomputable def z6c_F:FD prog:=⟨f125,[kn z6c_okr],aN 0xe25250dfd2a14142c2110cbbbab21594412e0df03012c3bb3b2e,[.g 5,tS,tI,tI,tS,tL,tI,tI],[.u 2,tI,tB],[[tI,tI,tL,tI,tI]]⟩
def z6c_b0(a b:Int)(c:Sl)(d e:Int)(N0:Int->Int->Sl->Int->Int->World->Prop)(K:Pw.Y15)(w:World):Prop:=fq (gV z6c_F 0 [] [nN 0 N0] K a b c d e w)
structure z6c_l0(a b:Int)(c:Sl)(d e:Int)(K:Pw.Y15)(w):Prop where out:fl (lp0 [tI,tI,tL,tI,tI] [0,1,1,1,0] z6c_b0 K a b c d e w)
def z6c_sd(a:ByteArray)(b c:Int)(d:ByteArray)(e:Sl)(f g:Int)(K:Pw.Y15)(w:World):Prop:=fq (fV z6c_F [v0 0 z6c_l0] K a b c d e f g w)
theorem z6c_mk{a:ByteArray}{b c:Int}{d:ByteArray}{e:Sl}{f g:Int}{K:Int->Bool->World->Prop}{w:World}(h:z6c_sd a b c d e f g K w):z6c_sh a b c d e f g K w:=⟨mkY z6c_F z6c_sd (fun K=>[c0 0 z6c_l0 K]) func125 (fun _=>q03 (hL0 [0,1,1,1,0] z6c_b0)<|hEnd) (a,b,c,d,e,f,g,()) h⟩
noncomputable def z5g_F:FD prog:=⟨f206,[],aN 0x51d,[.g 2,tS,tV,tQ],[tB],[]⟩
structure z5g_sh(a:ByteArray)(b:Value)(c:Addr)(K:Pw.Y0)(w):Prop where out:fq (fV z5g_F [] K a b c w)
theorem z5g_ok:okP z5g_F 206 z5g_sh:=okN (fun _=>[]) call206 func206 fun _=>hEnd
noncomputable def z6y_F:FD prog:=⟨f130,[kn z01_ok],aN 0x610efd24181e,[tS],[.u 2,.g 2,tS,tV,tB],[]⟩
structure z6y_sh(a:ByteArray)(K:ByteArray->Value->Bool->World->Prop)(w):Prop where out:fq (fV z6y_F [] K a w)
def z6y_S:Pw.Spec:=sp z6y_F z6y_sh
theorem z6y_ok:okP z6y_F 130 z6y_sh:=okN (fun _=>[]) call130 func130 fun _=>hEnd
structure z5h_sh(a:ByteArray)(b c:Int)(d:ByteArray)(e:Sl)(K:Pw.Y0)(w:World):Prop where out:clF prog 126 [.g 5,tS,tI,tI,tS,tL] [tB] K a b c d e w
theorem z5h_okr:q1v prog 126 (sr [.g 5,tS,tI,tI,tS,tL] [tB] z5h_sh):=okR call126
noncomputable def z5h_F:FD prog:=⟨f126,[kn z5l_ok,kn z5h_okr,kn z6y_ok],aN 0x25c25c24c23c24c025c25c24c23c025c25c24c025c25c025c07ceb75eb6fdb5adb64db2b910024c23c024c067cb52cb5bfd0023c23c023c057bb52bb5b3d4d2d,[.g 5,tS,tI,tI,tS,tL],[tB],[]⟩
def z5h_sd(a:ByteArray)(b c:Int)(d:ByteArray)(e:Sl)(K:Pw.Y0)(w:World):Prop:=fq (fV z5h_F [] K a b c d e w)
theorem z5h_mk{a:ByteArray}{b c:Int}{d:ByteArray}{e:Sl}{K:Bool->World->Prop}{w:World}(h:z5h_sd a b c d e K w):z5h_sh a b c d e K w:=⟨mkY z5h_F z5h_sd (fun _=>[]) func126 (fun _=>hEnd) (a,b,c,d,e,()) h⟩
noncomputable def z6e_F:FD prog:=⟨f71,[kn z6c_okr,kn z5h_okr],aN 0x11011fe2011fd712d,[.g 5,tS,tI,tI,tS,tL],[tI],[]⟩
structure z6e_sh(a:ByteArray)(b c:Int)(d:ByteArray)(e:Sl)(K:Pw.Y1)(w):Prop where out:fq (fV z6e_F [] K a b c d e w)
def z6e_S:Pw.Spec:=sp z6e_F z6e_sh
theorem z6e_ok:okP z6e_F 71 z6e_sh:=okN (fun _=>[]) call71 func71 fun _=>hEnd
noncomputable def z4q_F:FD prog:=⟨f128,[],aN 0x61d,[.g 2,tS,tI,tQ],[tB],[]⟩
structure z4q_sh(a:ByteArray)(b:Int)(c:Addr)(K:Pw.Y0)(w):Prop where out:fq (fV z4q_F [] K a b c w)
theorem z4q_ok:okP z4q_F 128 z4q_sh:=okN (fun _=>[]) call128 func128 fun _=>hEnd
noncomputable def z0n_F:FD prog:=⟨f131,[],aV [(Value.tuple #[(Value.agg #[(Value.int .i64 0),(Value.int .i64 0)]),(Value.bool false)])] 0xe0ef11060d4b2065434a0ef013c042bb4b251,[.g 2,tS,tV,.g 2,tI,tI,.g 2,tI,tI],[.u 2,.g 2,tI,tI,tI],[[tQ,tQ,tQ,tQ]]⟩
structure z0n_k0(a b c d:Addr)(K:Int->Int->Int->World->Prop)(w):Prop where out:fq (gV z0n_F 0 [] [] K a b c d w)
structure z0n_sh(a:ByteArray)(b:Value)(c d e f:Int)(K:Int->Int->Int->World->Prop)(w):Prop where out:fq (fV z0n_F [v0 0 z0n_k0] K a b c d e f w)
def z0n_S:Pw.Spec:=sp z0n_F z0n_sh
theorem z0n_ok:okP z0n_F 131 z0n_sh:=okN (fun K=>[c0 0 z0n_k0 K]) call131 func131 fun _=>q03 hC0<|hEnd
noncomputable def z6z_F:FD prog:=⟨f203,[],aN 0xd0df112e,[tB,.g 2,tI,tI,.g 2,tI,tI],[.g 2,tI,tI],[]⟩
structure z6z_sh(a:Bool)(b c d e:Int)(K:Pw.Y3)(w):Prop where out:fq (fV z6z_F [] K a b c d e w)
theorem z6z_ok:okP z6z_F 203 z6z_sh:=okN (fun _=>[]) call203 func203 fun _=>hEnd
noncomputable def z5e_F:FD prog:=⟨f202,[kn z72_ok,kn z6z_ok],aN 0x82762e32215410437241,[.g 2,tI,tI,.g 2,tI,tI],[.u 2,.g 2,tI,tI,tB],[]⟩
structure z5e_sh(a b c d:Int)(K:Pw.Y6)(w):Prop where out:fq (fV z5e_F [] K a b c d w)
theorem z5e_ok:okP z5e_F 202 z5e_sh:=okN (fun _=>[]) call202 func202 fun _=>hEnd
noncomputable def z5f_F:FD prog:=⟨f204,[kn z72_ok,kn z6z_ok],aN 0x82762e32215410437241,[.g 2,tI,tI,.g 2,tI,tI],[.u 2,.g 2,tI,tI,tB],[]⟩
structure z5f_sh(a b c d:Int)(K:Pw.Y6)(w):Prop where out:fq (fV z5f_F [] K a b c d w)
theorem z5f_ok:okP z5f_F 204 z5f_sh:=okN (fun _=>[]) call204 func204 fun _=>hEnd
noncomputable def z3h_F:FD prog:=⟨f62,[],aN 0x51d,[.g 2,tI,tI,tQ],[tB],[]⟩
structure z3h_sh(a b:Int)(c:Addr)(K:Pw.Y0)(w):Prop where out:fq (fV z3h_F [] K a b c w)
theorem z3h_ok:okP z3h_F 62 z3h_sh:=okN (fun _=>[]) call62 func62 fun _=>hEnd
noncomputable def z49_F:FD prog:=⟨f26,[kn z05_ok],aN 0xe0df07025c8db6b0d34142250762e54321063751f414142c2110bbab9ba984794e241110df51241,[tR,tI,tL],[.u 2,tL,tI],[[tQ,tL,tN,tN,tL,tI,tI]]⟩
def z49_b0(a:Addr)(b:Sl)(c d:Nat)(e:Sl)(f g:Int)(N0:Addr->Sl->Nat->Nat->Sl->Int->Int->World->Prop)(K:Pw.Y10)(w:World):Prop:=fq (gV z49_F 0 [] [nN 0 N0] K a b c d e f g w)
structure z49_l0(a:Addr)(b:Sl)(c d:Nat)(e:Sl)(f g:Int)(K:Pw.Y10)(w):Prop where out:fl (lp0 [tQ,tL,tN,tN,tL,tI,tI] [1,0,1,1,1,1,0] z49_b0 K a b c d e f g w)
structure z49_sh(a:T43)(b:Int)(c:Sl)(K:Pw.Y10)(w):Prop where out:fq (fV z49_F [v0 0 z49_l0] K a b c w)
theorem z49_ok:okP z49_F 26 z49_sh:=okN (fun K=>[c0 0 z49_l0 K]) call26 func26 fun _=>q03 (hL0 [1,0,1,1,1,1,0] z49_b0)<|hEnd
noncomputable def z5o_F:FD prog:=⟨f193,[kn z5c_ok],aN 0x61e,[.g 5,tI,tI,tI,tI,tL,.g 5,tI,tI,tI,tI,tL],[tI],[]⟩
structure z5o_sh(a b c d:Int)(e:Sl)(f g i j:Int)(k:Sl)(K:Pw.Y1)(w):Prop where out:fq (fV z5o_F [] K a b c d e f g i j k w)
theorem z5o_ok:okP z5o_F 193 z5o_sh:=okN (fun _=>[]) call193 func193 fun _=>hEnd
noncomputable def z5p_F:FD prog:=⟨f194,[],aN 0x51d,[.g 5,tS,tI,tI,tI,tB,tQ],[tB],[]⟩
structure z5p_sh(a:ByteArray)(b c d:Int)(e:Bool)(f:Addr)(K:Pw.Y0)(w):Prop where out:fq (fV z5p_F [] K a b c d e f w)
theorem z5p_ok:okP z5p_F 194 z5p_sh:=okN (fun _=>[]) call194 func194 fun _=>hEnd
noncomputable def z5q_F:FD prog:=⟨f195,[],aN 0x11e,[.g 5,tI,tI,tI,tI,tL,.g 5,tI,tI,tI,tI,tL],[tI],[]⟩
structure z5q_sh(a b c d:Int)(e:Sl)(f g i j:Int)(k:Sl)(K:Pw.Y1)(w):Prop where out:fq (fV z5q_F [] K a b c d e f g i j k w)
theorem z5q_ok:okP z5q_F 195 z5q_sh:=okN (fun _=>[]) call195 func195 fun _=>hEnd
noncomputable def z4a_F:FD prog:=⟨f259,[],aN 0x51d,[.g 2,tS,tI,tQ],[tB],[]⟩
structure z4a_sh(a:ByteArray)(b:Int)(c:Addr)(K:Pw.Y0)(w):Prop where out:fq (fV z4a_F [] K a b c w)
theorem z4a_ok:okP z4a_F 259 z4a_sh:=okN (fun _=>[]) call259 func259 fun _=>hEnd
noncomputable def z5s_F:FD prog:=⟨f197,[kn z09_ok],aN 0x810dfd25141,[.g 5,tI,tI,tI,tI,tL,tS],[.u 2,tI,tB],[]⟩
structure z5s_sh(a b c d:Int)(e:Sl)(f:ByteArray)(K:Pw.Y15)(w):Prop where out:fq (fV z5s_F [] K a b c d e f w)
theorem z5s_ok:okP z5s_F 197 z5s_sh:=okN (fun _=>[]) call197 func197 fun _=>hEnd
noncomputable def z5r_F:FD prog:=⟨f196,[kn z5c_ok,kn z5s_ok],aN 0xd0542331210337f011c02dbb2b28181e,[.g 5,tI,tI,tI,tI,tL,.g 5,tI,tI,tI,tI,tL,tQ,tQ],[tI],[]⟩
structure z5r_sh(a b c d:Int)(e:Sl)(f g i j:Int)(k:Sl)(l m:Addr)(K:Pw.Y1)(w):Prop where out:fq (fV z5r_F [] K a b c d e f g i j k l m w)
theorem z5r_ok:okP z5r_F 196 z5r_sh:=okN (fun _=>[]) call196 func196 fun _=>hEnd
noncomputable def z79_F:FD prog:=⟨f124,[kn z02_ok],aN 0xd0632a15f612d011fd251011fd2e,[tR,tS],[tV],[[tQ,tQ]]⟩
structure z79_k0(a b:Addr)(K:Value->World->Prop)(w):Prop where out:fq (gV z79_F 0 [] [] K a b w)
structure z79_sh(a:T43)(b:ByteArray)(K:Value->World->Prop)(w):Prop where out:fq (fV z79_F [v0 0 z79_k0] K a b w)
theorem z79_ok:okP z79_F 124 z79_sh:=okN (fun K=>[c0 0 z79_k0 K]) call124 func124 fun _=>q03 hC0<|hEnd
noncomputable def z4u_F:FD prog:=⟨f70,[kn z72_ok,kn z79_ok],aV [(Value.int .i64 0)] 0x61250efd0620592143104372e42c2110ebdbcb7656944120efd41261,[tR,.g 5,tI,tI,tI,tI,tL,.g 5,tI,tI,tI,tI,tL,.g 2,tI,tI,.g 2,tI,tI],[tB],[[tQ,tQ,tQ,tL,tI,tI]]⟩
def z4u_b0(a b c:Addr)(d:Sl)(e f:Int)(N0:Addr->Addr->Addr->Sl->Int->Int->World->Prop)(K:Pw.Y0)(w:World):Prop:=fq (gV z4u_F 0 [] [nN 0 N0] K a b c d e f w)
structure z4u_l0(a b c:Addr)(d:Sl)(e f:Int)(K:Pw.Y0)(w):Prop where out:fl (lp0 [tQ,tQ,tQ,tL,tI,tI] [1,1,1,1,1,0] z4u_b0 K a b c d e f w)
structure z4u_sh(a:T43)(b c d e:Int)(f:Sl)(g i j k:Int)(l:Sl)(m n o p:Int)(K:Pw.Y0)(w):Prop where out:fq (fV z4u_F [v0 0 z4u_l0] K a b c d e f g i j k l m n o p w)
theorem z4u_ok:okP z4u_F 70 z4u_sh:=okN (fun K=>[c0 0 z4u_l0 K]) call70 func70 fun _=>q03 (hL0 [1,1,1,1,1,0] z4u_b0)<|hEnd
noncomputable def z0i_F:FD prog:=⟨f29,[kn z4u_ok],aN 0x11011f1b101131b14241,[.g 20,tS,tL,tL,tL,tI,tI,tS,tI,tI,tS,tL,tL,tI,tL,tI,tI,tI,tI,tI,tI,.g 7,tI,tI,tI,tI,tL,tI,tI,.g 7,tI,tI,tI,tI,tL,tI,tI],[tI],[]⟩
structure z0i_sh(a:ByteArray)(b c d:Sl)(e f:Int)(g:ByteArray)(i j:Int)(k:ByteArray)(l m:Sl)(n:Int)(o:Sl)(p q r s t u v x y z:Int)(aa:Sl)(ab ac ad ae af ag:Int)(ah:Sl)(ai aj:Int)(K:Pw.Y1)(w):Prop where out:fq (fV z0i_F [] K a b c d e f g i j k l m n o p q r s t u v x y z aa ab ac ad ae af ag ah ai aj w)
theorem z0i_ok:okP z0i_F 29 z0i_sh:=okN (fun _=>[]) call29 func29 fun _=>hEnd
noncomputable def z03_F:FD prog:=⟨f114,[],aV [(Value.int .i64 0)] 0x353506b15b24b13b2b1b0ba98765432104b3742c05b24b3b2b1b0ba9876541b405b4b2303b92b1b0ba987654a3ab83210437221983210694d42ce2083210594e,[tL,tI,tI,tV],[.u 0],[[tL,tI,tI,tV,tI],[tL,tI,tI,tV,tI,tI]]⟩
def z03_b1(a:Sl)(b c:Int)(d:Value)(e f:Int)(N1:Sl->Int->Int->Value->Int->Int->World->Prop)(N0:Sl->Int->Int->Value->Int->World->Prop)(K:Pw.Y5)(w:World):Prop:=fq (gV z03_F 1 [] [nN 1 N1,nN 0 N0] K a b c d e f w)
structure z03_l1(a:Sl)(b c:Int)(d:Value)(e f:Int)(N0:Sl->Int->Int->Value->Int->World->Prop)(K:Pw.Y5)(w):Prop where out:fl (lp1 [tL,tI,tI,tV,tI,tI] [1,1,1,1,1,0] z03_b1 N0 K a b c d e f w)
def z03_b0(a:Sl)(b c:Int)(d:Value)(e:Int)(N0:Sl->Int->Int->Value->Int->World->Prop)(K:Pw.Y5)(w:World):Prop:=fq (gV z03_F 0 [v1 1 z03_l1 N0] [nN 0 N0] K a b c d e w)
structure z03_l0(a:Sl)(b c:Int)(d:Value)(e:Int)(K:Pw.Y5)(w):Prop where out:fl (lp0 [tL,tI,tI,tV,tI] [1,1,1,1,0] z03_b0 K a b c d e w)
structure z03_sh(a:Sl)(b c:Int)(d:Value)(K:Pw.Y5)(w):Prop where out:fq (fV z03_F [v0 0 z03_l0] K a b c d w)
theorem z03_ok:okP z03_F 114 z03_sh:=okN (fun K=>[c0 0 z03_l0 K,c1 0 1 z03_l1 K]) call114 func114 fun _=>q03 (hL0 [1,1,1,1,0] z03_b0)<|q03 (hL1 [1,1,1,1,1,0] z03_b1)<|hEnd
structure z6d_sh(Pn:List PanicEntry->World->Prop)(e_0_0:ByteArray)(e_0_1 e_0_2:Int)(e_0_3:ByteArray)(e_0_4 values_1:Sl)(K:Pw.Y3)(w:World):Prop where
 out:Calls Tryz.prog 73 #[(Value.agg #[(Value.string e_0_0),(Value.int .i64 e_0_1),(Value.int .i64 e_0_2),(Value.string e_0_3),(Value.slice e_0_4.p e_0_4.l e_0_4.c)]),(Value.slice values_1.p values_1.l values_1.c)] w fun e w'=>(∃r0_0:Int,∃r0_1:Int,e=.returned (Value.agg #[(Value.int .i64 r0_0),(Value.int .i64 r0_1)])/\K r0_0 r0_1 w')\/∃c,e=.panicked c/\Pn c w'
noncomputable def z6d_S(Pn:List PanicEntry->World->Prop):Pw.Spec:=fun vs w Kv =>
 match vs with
 | [.agg ⟨[.string e_0_0,.int .i64 e_0_1,.int .i64 e_0_2,.string e_0_3,.slice e_0_4p e_0_4l e_0_4c]⟩,.slice values_1p values_1l values_1c]=>(z6d_sh Pn) e_0_0 e_0_1 e_0_2 e_0_3 ⟨e_0_4p,e_0_4l,e_0_4c⟩ ⟨values_1p,values_1l,values_1c⟩ (fun r0_0 r0_1 w'=>Kv (Value.agg #[(Value.int .i64 r0_0),(Value.int .i64 r0_1)]) w') w
 | _=>False
theorem z6d_okr(Pn:List PanicEntry->World->Prop):qd5 Tryz.prog Pn 73 (z6d_S Pn):=⟨Tryz.call73,fun vs w Kv h=>by
  unfold z6d_S at h
  split at h
  · exact h.out.mono fun e w' he=>by
      rcases he with⟨_,_,he,hk⟩|he
      · exact .inl ⟨_,he,hk⟩
      · exact .inr he
  · exact h.elim⟩
def z6d_k0d(Pn:List PanicEntry->World->Prop)(t_4 x_9:Addr)(f_10:Int)(K:Pw.Y3)(w:World):Prop:=
 cnd (f_10 != (0:Int))
 (Pn [{ v:=(Value.iface 148 (Value.agg #[(Value.int .i64 f_10)])),recovered:=false }] w)
 (∃x74:Int,w.cell? x_9=some (Value.int .i64 x74)/\∃x75:Int,w.cell? (x_9.add 1)=some (Value.int .i64 x75)/\wrOk w t_4/\
 (let w76:=w.setCell t_4 (Value.int .i64 x74)
 wrOk w76 (t_4.add 1)/\
 (let w77:=w76.setCell (t_4.add 1) (Value.int .i64 x75)
 ∃x78:Int,w77.cell? t_4=some (Value.int .i64 x78)/\∃x79:Int,w77.cell? (t_4.add 1)=some (Value.int .i64 x79)/\K x78 x79 w77)))
structure z6d_k0(Pn:List PanicEntry->World->Prop)(t_4 x_9:Addr)(f_10:Int)(K:Pw.Y3)(w:World):Prop where
 out:(z6d_k0d Pn) t_4 x_9 f_10 K w
def z6d_sd(Pn:List PanicEntry->World->Prop)(e_0_0:ByteArray)(e_0_1 e_0_2:Int)(e_0_3:ByteArray)(e_0_4 values_1:Sl)(K:Pw.Y3)(w:World):Prop:=
 let w1:=w.alloc (Obj.cells #[(Value.string e_0_0),(Value.int .i64 e_0_1),(Value.int .i64 e_0_2),(Value.string e_0_3),(Value.slice e_0_4.p e_0_4.l e_0_4.c)] 31)
 let w2:=w1.alloc (Obj.cells #[(Value.int .i64 0),(Value.int .i64 0)] 28)
 ∃x3:ByteArray,w2.cell? (Addr.mk w.heap.size 0 none)=some (Value.string x3)/\cnd (decide (x3=(str [110,117,109])))
 (∃x4:Int,w2.cell? (Addr.mk w.heap.size 1 none)=some (Value.int .i64 x4)/\∃x5:Int,w2.cell? (Addr.mk w.heap.size 2 none)=some (Value.int .i64 x5)/\wrOk w2 (Addr.mk w1.heap.size 0 none)/\
 (let w6:=w2.setCell (Addr.mk w1.heap.size 0 none) (Value.int .i64 x4)
 wrOk w6 (Addr.mk w1.heap.size 1 none)/\
 (let w7:=w6.setCell (Addr.mk w1.heap.size 1 none) (Value.int .i64 x5)
 ∃x8:Int,w7.cell? (Addr.mk w1.heap.size 0 none)=some (Value.int .i64 x8)/\∃x9:Int,w7.cell? (Addr.mk w1.heap.size 1 none)=some (Value.int .i64 x9)/\K x8 x9 w7)))
 (cnd (decide (x3=(str [110,97,109,101])))
 (z09_sh values_1 (Value.func (.func 128) #[] #[(Value.pointer (some (Addr.mk w.heap.size 0 none)))]) (fun r11 w10=>cnd (decide (r11<(0:Int)))
 (Pn [{ v:=(Value.iface 148 (Value.agg #[(Value.int .i64 13)])),recovered:=false }] w10)
 (nz values_1.p fun a12=>(0<=r11/\r11<(values_1.l:Nat))/\∃x13:Int,w10.cell? ((a12.add (r11.toNat*2)).add 1)=some (Value.int .i64 x13)/\z7e_sh x13 (fun r15_0 r15_1 w14=>wrOk w14 (Addr.mk w1.heap.size 0 none)/\
 (let w16:=w14.setCell (Addr.mk w1.heap.size 0 none) (Value.int .i64 r15_0)
 wrOk w16 (Addr.mk w1.heap.size 1 none)/\
 (let w17:=w16.setCell (Addr.mk w1.heap.size 1 none) (Value.int .i64 r15_1)
 ∃x18:Int,w17.cell? (Addr.mk w1.heap.size 0 none)=some (Value.int .i64 x18)/\∃x19:Int,w17.cell? (Addr.mk w1.heap.size 1 none)=some (Value.int .i64 x19)/\K x18 x19 w17))) w10)) w2)
 (∃x20:ByteArray,w2.cell? (Addr.mk w.heap.size 0 none)=some (Value.string x20)/\z6y_sh x20 (fun r22_0 r22_1 r23 w21=>let w24:=w21.alloc (Obj.cells #[(Value.string (str [])),Value.nilFunc] 220)
 wrOk w24 (Addr.mk w21.heap.size 0 none)/\
 (let w25:=w24.setCell (Addr.mk w21.heap.size 0 none) (Value.string r22_0)
 okk r22_1 (wrOk w25 (Addr.mk w21.heap.size 1 none)/\
 (let w26:=w25.setCell (Addr.mk w21.heap.size 1 none) r22_1
 ∃x27:Sl,w26.cell? (Addr.mk w.heap.size 4 none)=some (Value.slice x27.p x27.l x27.c)/\nz x27.p fun a28=>(0<=(0:Int)/\(0:Int)<(x27.l:Nat))/\∃x29:ByteArray,w26.cell? (a28.add ((0:Int).toNat*5))=some (Value.string x29)/\∃x30:Int,w26.cell? ((a28.add ((0:Int).toNat*5)).add 1)=some (Value.int .i64 x30)/\∃x31:Int,w26.cell? ((a28.add ((0:Int).toNat*5)).add 2)=some (Value.int .i64 x31)/\∃x32:ByteArray,w26.cell? ((a28.add ((0:Int).toNat*5)).add 3)=some (Value.string x32)/\∃x33:Sl,w26.cell? ((a28.add ((0:Int).toNat*5)).add 4)=some (Value.slice x33.p x33.l x33.c)/\(z6d_sh Pn) x29 x30 x31 x32 x33 values_1 (fun r35_0 r35_1 w34=>let w36:=w34.alloc (Obj.cells #[(Value.int .i64 0),(Value.int .i64 0)] 28)
 wrOk w36 (Addr.mk w34.heap.size 0 none)/\
 (let w37:=w36.setCell (Addr.mk w34.heap.size 0 none) (Value.int .i64 r35_0)
 wrOk w37 (Addr.mk w34.heap.size 1 none)/\
 (let w38:=w37.setCell (Addr.mk w34.heap.size 1 none) (Value.int .i64 r35_1)
 let w39:=w38.drew
 ∃S40:World->Prop,S40 w39/\∃x41:ByteArray,(∀w':World,S40 w'->w'.cell? (Addr.mk w21.heap.size 0 none)=some (Value.string x41))/\∃x42:Value,(∀w':World,S40 w'->w'.cell? (Addr.mk w21.heap.size 1 none)=some x42)/\∃x43:Int,(∀w':World,S40 w'->w'.cell? (Addr.mk w34.heap.size 0 none)=some (Value.int .i64 x43))/\∃x44:Int,(∀w':World,S40 w'->w'.cell? (Addr.mk w34.heap.size 1 none)=some (Value.int .i64 x44))/\∃x45:Sl,(∀w':World,S40 w'->w'.cell? (Addr.mk w.heap.size 4 none)=some (Value.slice x45.p x45.l x45.c))/\nz x45.p fun a46=>(0<=(1:Int)/\(1:Int)<(x45.l:Nat))/\∃x47:ByteArray,(∀w':World,S40 w'->w'.cell? (a46.add ((1:Int).toNat*5))=some (Value.string x47))/\∃x48:Int,(∀w':World,S40 w'->w'.cell? ((a46.add ((1:Int).toNat*5)).add 1)=some (Value.int .i64 x48))/\∃x49:Int,(∀w':World,S40 w'->w'.cell? ((a46.add ((1:Int).toNat*5)).add 2)=some (Value.int .i64 x49))/\∃x50:ByteArray,(∀w':World,S40 w'->w'.cell? ((a46.add ((1:Int).toNat*5)).add 3)=some (Value.string x50))/\∃x51:Sl,(∀w':World,S40 w'->w'.cell? ((a46.add ((1:Int).toNat*5)).add 4)=some (Value.slice x51.p x51.l x51.c))/\((z6d_sh Pn) x47 x48 x49 x50 x51 values_1 (fun r53_0 r53_1 w52=>S40 w52/\(z0n_sh x41 x42 x43 x44 r53_0 r53_1 (fun r55_0 r55_1 r56 w54=>S40 w54/\let w57:=w54.alloc (Obj.cells #[(Value.int .i64 0),(Value.int .i64 0)] 28)
 S40 w57/\wrOk w57 (Addr.mk w54.heap.size 0 none)/\
 (let w58:=w57.setCell (Addr.mk w54.heap.size 0 none) (Value.int .i64 r55_0)
 wrOk w58 (Addr.mk w54.heap.size 1 none)/\
 (let w59:=w58.setCell (Addr.mk w54.heap.size 1 none) (Value.int .i64 r55_1)
 (z6d_k0 Pn) (Addr.mk w1.heap.size 0 none) (Addr.mk w54.heap.size 0 none) r56 K w59))) w52)
/\(let w60:=w52.alloc (Obj.cells #[(Value.int .i64 0),(Value.int .i64 0)] 28)
 S40 w60/\z0n_sh x41 x42 x43 x44 r53_0 r53_1 (fun r62_0 r62_1 r63 w61=>S40 w61/\wrOk w61 (Addr.mk w52.heap.size 0 none)/\
 (let w64:=w61.setCell (Addr.mk w52.heap.size 0 none) (Value.int .i64 r62_0)
 wrOk w64 (Addr.mk w52.heap.size 1 none)/\
 (let w65:=w64.setCell (Addr.mk w52.heap.size 1 none) (Value.int .i64 r62_1)
 (z6d_k0 Pn) (Addr.mk w1.heap.size 0 none) (Addr.mk w52.heap.size 0 none) r63 K w65))) w60)) w39)
/\(let w66:=w39.alloc (Obj.cells #[(Value.int .i64 0),(Value.int .i64 0)] 28)
 S40 w66/\(z6d_sh Pn) x47 x48 x49 x50 x51 values_1 (fun r68_0 r68_1 w67=>S40 w67/\z0n_sh x41 x42 x43 x44 r68_0 r68_1 (fun r70_0 r70_1 r71 w69=>S40 w69/\wrOk w69 (Addr.mk w39.heap.size 0 none)/\
 (let w72:=w69.setCell (Addr.mk w39.heap.size 0 none) (Value.int .i64 r70_0)
 wrOk w72 (Addr.mk w39.heap.size 1 none)/\
 (let w73:=w72.setCell (Addr.mk w39.heap.size 1 none) (Value.int .i64 r70_1)
 (z6d_k0 Pn) (Addr.mk w1.heap.size 0 none) (Addr.mk w39.heap.size 0 none) r71 K w73))) w67) w66)))) w26)))) w2))
def z6d_P0(Pn:List PanicEntry->World->Prop)(Kv:VW)(ρ:Rho)(vs:List Value)(w:World):Prop:=
 match ρ,vs with
 | _,[.pointer (some t_4),.pointer (some x_9),.int .i64 f_10]=>(z6d_k0 Pn) t_4 x_9 f_10 (fun r0_0 r0_1 w'=>Kv (Value.agg #[(Value.int .i64 r0_0),(Value.int .i64 r0_1)]) w') w
 | _,_=>False
noncomputable def z6d_E(Pn:List PanicEntry->World->Prop):Pw.Env:=(73,(z6d_S Pn))::(pk,panS Pn)::([(127,z09_S),(129,z7e_S),(130,z6y_S),(131,z0n_S)]:Pw.Env)
noncomputable def z6d_C(Pn:List PanicEntry->World->Prop):Code:=(Tryz.f73.body).getD .skip
noncomputable def z6d_A(Pn:List PanicEntry->World->Prop)(Kv:VW):Pw.A:=
 (A.seq (A.reg (RA.run (RA.run RA.done)))
 (A.seq (A.seq (A.reg (RA.run (RA.run RA.done)))
 (A.blk (A.seq (A.reg (RA.run (RA.run RA.done)))
 (A.cond (A.seq (A.reg (RA.run (RA.run (RA.run RA.done))))
 A.leaf)
 (A.seq (A.reg (RA.run (RA.run RA.done)))
 (A.cond (A.seq (A.reg (RA.run (RA.run (RA.run (RA.run RA.done)))))
 (A.seq (A.seq (A.reg (RA.run (RA.run RA.done)))
 (A.cond (A.reg (RA.run (RA.run (RA.run RA.done))))
 A.leaf))
 (A.seq (A.reg (RA.run (RA.run (RA.run (RA.run (RA.run (RA.run (RA.run RA.done))))))))
 A.leaf)))
 A.leaf))))))
 (A.seq (A.reg (RA.run (RA.run (RA.run (RA.run (RA.run (RA.run (RA.run (RA.run (RA.run RA.done))))))))))
 (A.seq (A.reg (RA.run (RA.run (RA.run (RA.run (RA.run (RA.run (RA.run (RA.run RA.done)))))))))
 (A.seq (A.drw (DA.pur 0 (DA.pur 1 (DA.pur 2 (DA.pur 3 (DA.pur 4 (DA.pur 5 (DA.pur 6 (DA.two 7 (DA.two 8 (DA.pur 9 (DA.pur 10 (DA.pur 11 (DA.eff 12 (DA.eff 13 (DA.pur 14 DA.done)))))) 12 (DA.eff 8 (DA.pur 9 (DA.pur 10 (DA.pur 11 (DA.eff 13 (DA.pur 14 DA.done))))))) 12 (DA.eff 7 (DA.eff 8 (DA.pur 9 (DA.pur 10 (DA.pur 11 (DA.eff 13 (DA.pur 14 DA.done))))))))))))))))
 (A.cut [4,9,10] ((z6d_P0 Pn) Kv) (A.seq (A.seq (A.reg (RA.run (RA.run RA.done)))
 (A.cond (A.reg (RA.run (RA.run (RA.run (RA.run RA.done)))))
 A.leaf))
 (A.seq (A.reg (RA.run (RA.run RA.done)))
 A.leaf))))))))
noncomputable def z6d_O(Pn:List PanicEntry->World->Prop)(Kv:VW):List Ob:=(obs Tryz.prog (z6d_E Pn) 62 ((z6d_A Pn) Kv) (z6d_C Pn) (fun _=>retQ Tryz.prog Tryz.f73.results Kv))
theorem z6d_e(Pn:List PanicEntry->World->Prop)(Kv:VW)(e_0_0:ByteArray)(e_0_1 e_0_2:Int)(e_0_3:ByteArray)(e_0_4p:Option Addr)(e_0_4l e_0_4c:Nat)(values_1p:Option Addr)(values_1l values_1c:Nat)(w:World):(z6d_sd Pn) e_0_0 e_0_1 e_0_2 e_0_3 ⟨e_0_4p,e_0_4l,e_0_4c⟩ ⟨values_1p,values_1l,values_1c⟩ (fun r0_0 r0_1 w'=>Kv (Value.agg #[(Value.int .i64 r0_0),(Value.int .i64 r0_1)]) w') w=W Tryz.prog (z6d_E Pn) 62 ((z6d_A Pn) Kv) (z6d_C Pn) [] (retQ Tryz.prog Tryz.f73.results Kv) [] (q25 [(Value.agg #[(Value.string e_0_0),(Value.int .i64 e_0_1),(Value.int .i64 e_0_2),(Value.string e_0_3),(Value.slice e_0_4p e_0_4l e_0_4c)]),(Value.slice values_1p values_1l values_1c)]) w:=by kernel_rfl
theorem z6d_e0(Pn:List PanicEntry->World->Prop)(Kv:VW)(ρ:Rho)(t_4 x_9:Addr)(f_10:Int)(w:World):(z6d_k0d Pn) t_4 x_9 f_10 (fun r0_0 r0_1 w'=>Kv (Value.agg #[(Value.int .i64 r0_0),(Value.int .i64 r0_1)]) w') w=q2x Tryz.prog (z6d_E Pn) 62 ((z6d_O Pn) Kv) 0 (ρ) [(Value.pointer (some t_4)),(Value.pointer (some x_9)),(Value.int .i64 f_10)] w:=by kernel_rfl
theorem z6d_q0(Pn:List PanicEntry->World->Prop)(Kv:VW)(ρ:Rho)(vs:List Value)(w:World):q5g ((z6d_O Pn) Kv) 0 ρ vs w=(z6d_P0 Pn) Kv ρ vs w:=by kernel_rfl
theorem z6d_h0(Pn:List PanicEntry->World->Prop)(Kv:VW):q12 Tryz.prog (z6d_E Pn) 62 ((z6d_O Pn) Kv) 0:=q2z (.inl (by kernel_rfl)) (fun ρ vs w h=>by
  rw[(z6d_q0 Pn)]at h
  unfold z6d_P0 at h
  split at h
  · rw[←(z6d_e0 Pn)];exact h.out
  · exact h.elim)
theorem z6d_n(Pn:List PanicEntry->World->Prop)(Kv:VW):obAt ((z6d_O Pn) Kv) 1=none:=by kernel_rfl
theorem z6d_h(Pn:List PanicEntry->World->Prop)(Kv:VW):∀k,q12 Tryz.prog (z6d_E Pn) 62 ((z6d_O Pn) Kv) k:=fun k=>match k with
  | 0=>(z6d_h0 Pn) Kv
  | k+1=>qa5 ((z6d_n Pn) Kv) (Nat.le_add_left _ _)
theorem z6d_mk(Pn:List PanicEntry->World->Prop)(e_0_0:ByteArray)(e_0_1 e_0_2:Int)(e_0_3:ByteArray)(e_0_4p:Option Addr)(e_0_4l e_0_4c:Nat)(values_1p:Option Addr)(values_1l values_1c:Nat){K:Int->Int->World->Prop}{w:World}(h:(z6d_sd Pn) e_0_0 e_0_1 e_0_2 e_0_3 ⟨e_0_4p,e_0_4l,e_0_4c⟩ ⟨values_1p,values_1l,values_1c⟩ K w):(z6d_sh Pn) e_0_0 e_0_1 e_0_2 e_0_3 ⟨e_0_4p,e_0_4l,e_0_4c⟩ ⟨values_1p,values_1l,values_1c⟩ K w:=by
  have e:(fun r0_0 r0_1 w'=>(fun v w'=>∃r0_0:Int,∃r0_1:Int,v=(Value.agg #[(Value.int .i64 r0_0),(Value.int .i64 r0_1)])/\K r0_0 r0_1 w') (Value.agg #[(Value.int .i64 r0_0),(Value.int .i64 r0_1)]) w')=K:=by
    funext r0_0 r0_1 w'
    apply propext
    constructor
    · rintro⟨r0_0',r0_1',hv,hk⟩
      cases hv
      exact hk
    · intro hk
      exact⟨_,_,rfl,hk⟩
  have h':(z6d_sd Pn) e_0_0 e_0_1 e_0_2 e_0_3 ⟨e_0_4p,e_0_4l,e_0_4c⟩ ⟨values_1p,values_1l,values_1c⟩ (fun r0_0 r0_1 w'=>(fun v w'=>∃r0_0:Int,∃r0_1:Int,v=(Value.agg #[(Value.int .i64 r0_0),(Value.int .i64 r0_1)])/\K r0_0 r0_1 w') (Value.agg #[(Value.int .i64 r0_0),(Value.int .i64 r0_1)]) w') w:=by rw[e];exact h
  rw[(z6d_e Pn) (fun v w'=>∃r0_0:Int,∃r0_1:Int,v=(Value.agg #[(Value.int .i64 r0_0),(Value.int .i64 r0_1)])/\K r0_0 r0_1 w')]at h'
  refine⟨(qda (Γ:=(z6d_E Pn)) progMixed (.mk2 (hf:=rfl) ⟨.inl z09_ok,.inl z7e_ok,.inl z6y_ok,.inl z0n_ok,trivial⟩ rfl (z6d_okr Pn)) Tryz.func73 (code:=(z6d_C Pn)) (by kernel_rfl) ((z6d_A Pn) (fun v w'=>∃r0_0:Int,∃r0_1:Int,v=(Value.agg #[(Value.int .i64 r0_0),(Value.int .i64 r0_1)])/\K r0_0 r0_1 w')) rfl (fun v w'=>∃r0_0:Int,∃r0_1:Int,v=(Value.agg #[(Value.int .i64 r0_0),(Value.int .i64 r0_1)])/\K r0_0 r0_1 w') (q4f ((z6d_h Pn) (fun v w'=>∃r0_0:Int,∃r0_1:Int,v=(Value.agg #[(Value.int .i64 r0_0),(Value.int .i64 r0_1)])/\K r0_0 r0_1 w'))) (Nat.le_of_ble_eq_true (by kernel_rfl)) h').mono fun e w' he=>?_⟩
  rcases he with⟨v,rfl,_,_,rfl,hk⟩|he
  · exact .inl ⟨_,_,rfl,hk⟩
  · exact .inr he
structure z6x_sh(a0_0:ByteArray)(a0_1 a0_2:Int)(a0_3:ByteArray)(a0_4 a1:Sl)(K:Int->Int->Int->World->Prop)(w:World):Prop where
 out:Calls Tryz.prog 30 #[(Value.agg #[(Value.string a0_0),(Value.int .i64 a0_1),(Value.int .i64 a0_2),(Value.string a0_3),(Value.slice a0_4.p a0_4.l a0_4.c)]),(Value.slice a1.p a1.l a1.c)] w fun e w'=>∃r0_0:Int,∃r0_1:Int,∃r1:Int,e=.returned (Value.tuple #[(Value.agg #[(Value.int .i64 r0_0),(Value.int .i64 r0_1)]),(Value.int .i64 r1)])/\K r0_0 r0_1 r1 w'
noncomputable def z6x_S:Pw.Spec:=fun vs w Kv =>
 match vs with
 | [.agg ⟨[.string a0_0,.int .i64 a0_1,.int .i64 a0_2,.string a0_3,.slice a0_4p a0_4l a0_4c]⟩,.slice a1p a1l a1c]=>z6x_sh a0_0 a0_1 a0_2 a0_3 ⟨a0_4p,a0_4l,a0_4c⟩ ⟨a1p,a1l,a1c⟩ (fun r0_0 r0_1 r1 w'=>Kv (Value.tuple #[(Value.agg #[(Value.int .i64 r0_0),(Value.int .i64 r0_1)]),(Value.int .i64 r1)]) w') w
 | _=>False
theorem z6x_ok:q1v Tryz.prog 30 z6x_S:=⟨Tryz.call30,fun vs w Kv h=>by
  unfold z6x_S at h
  split at h
  · exact h.out.mono fun e w' he=>by
      obtain⟨_,_,_,he,hk⟩:=he
      exact⟨_,he,hk⟩
  · exact h.elim⟩
noncomputable def z5d_F:FD prog:=⟨f13,[kn z6x_ok],aN 0xa2918723652e4321053727141,[tR,.g 5,tI,tI,tI,tI,tL,tI],[.u 2,.g 2,tI,tI,tI],[]⟩
structure z5d_sh(a:T43)(b c d e:Int)(f:Sl)(g:Int)(K:Int->Int->Int->World->Prop)(w):Prop where out:fq (fV z5d_F [] K a b c d e f g w)
theorem z5d_ok:okP z5d_F 13 z5d_sh:=okN (fun _=>[]) call13 func13 fun _=>hEnd
noncomputable def z0j_F:FD prog:=⟨f68,[kn z03_ok],aN 0x51fd2414042104941111,[tL,tI,tI,tI,tV],[.u 0],[[tL,tI,tI,tV]]⟩
def z0j_b0(a:Sl)(b c:Int)(d:Value)(N0:Sl->Int->Int->Value->World->Prop)(K:Pw.Y5)(w:World):Prop:=fq (gV z0j_F 0 [] [nN 0 N0] K a b c d w)
structure z0j_l0(a:Sl)(b c:Int)(d:Value)(K:Pw.Y5)(w):Prop where out:fl (lp0 [tL,tI,tI,tV] [1,0,0,1] z0j_b0 K a b c d w)
structure z0j_sh(a:Sl)(b c d:Int)(e:Value)(K:Pw.Y5)(w):Prop where out:fq (fV z0j_F [v0 0 z0j_l0] K a b c d e w)
theorem z0j_ok:okP z0j_F 68 z0j_sh:=okN (fun K=>[c0 0 z0j_l0 K]) call68 func68 fun _=>q03 (hL0 [1,0,0,1] z0j_b0)<|hEnd
noncomputable def z3k_F:FD prog:=⟨f28,[kn z0j_ok,kn z7c_ok],aN 0x75e,[tL,tV],[.u 0],[]⟩
structure z3k_sh(a:Sl)(b:Value)(K:Pw.Y5)(w):Prop where out:fq (fV z3k_F [] K a b w)
theorem z3k_ok:okP z3k_F 28 z3k_sh:=okN (fun _=>[]) call28 func28 fun _=>hEnd
noncomputable def z6j_F:FD prog:=⟨f9,[kn z5d_ok,kn z49_ok,kn z6b_ok,kn z3k_ok],aN 0x51251b56142c211416f15f14f9b4b594e211512575081fd23fdeddd8b7b6b4b3ba3aa95fd211414142c2112fdeddd4b3ba3794e21111254518c7c6c2b836af018c06024c3db30db5b4142c21108c7c6c0ba83794e2d0efd291e,[tR,tI,tL],[.u 2,tL,tI],[[tQ,tL,tI,tB,tL,tI,tI],[tQ,tL,tQ,tL,tI,tI],[tQ,tI,tL,tL,tL,tI,tI],[tQ,tI,tL,tL,tQ,tI,tQ,tL,tI,tI],[tL,tL,tL,tI,tI]]⟩
structure z6j_k1(a:Addr)(b:Sl)(c:Addr)(d:Sl)(e f:Int)(N0:Addr->Sl->Int->Bool->Sl->Int->Int->World->Prop)(K:Pw.Y10)(w):Prop where out:fq (gV z6j_F 1 [] [nN 0 N0] K a b c d e f w)
structure z6j_k3(a:Addr)(b:Int)(c d:Sl)(e:Addr)(f:Int)(g:Addr)(i:Sl)(j k:Int)(N2:Addr->Int->Sl->Sl->Sl->Int->Int->World->Prop)(K:Pw.Y10)(w):Prop where out:fq (gV z6j_F 3 [] [nN 2 N2] K a b c d e f g i j k w)
def z6j_b4(a b c:Sl)(d e:Int)(N4:Sl->Sl->Sl->Int->Int->World->Prop)(K:Pw.Y10)(w:World):Prop:=fq (gV z6j_F 4 [] [nN 4 N4] K a b c d e w)
structure z6j_l4(a b c:Sl)(d e:Int)(K:Pw.Y10)(w):Prop where out:fl (lp0 [tL,tL,tL,tI,tI] [1,0,1,1,0] z6j_b4 K a b c d e w)
def z6j_b2(a:Addr)(b:Int)(c d e:Sl)(f g:Int)(N2:Addr->Int->Sl->Sl->Sl->Int->Int->World->Prop)(K:Pw.Y10)(w:World):Prop:=fq (gV z6j_F 2 [v1 3 z6j_k3 N2,v0 4 z6j_l4] [nN 2 N2] K a b c d e f g w)
structure z6j_l2(a:Addr)(b:Int)(c d e:Sl)(f g:Int)(K:Pw.Y10)(w):Prop where out:fl (lp0 [tQ,tI,tL,tL,tL,tI,tI] [1,1,0,0,1,1,0] z6j_b2 K a b c d e f g w)
def z6j_b0(a:Addr)(b:Sl)(c:Int)(d:Bool)(e:Sl)(f g:Int)(N0:Addr->Sl->Int->Bool->Sl->Int->Int->World->Prop)(K:Pw.Y10)(w:World):Prop:=fq (gV z6j_F 0 [v1 1 z6j_k1 N0,v0 2 z6j_l2] [nN 0 N0] K a b c d e f g w)
structure z6j_l0(a:Addr)(b:Sl)(c:Int)(d:Bool)(e:Sl)(f g:Int)(K:Pw.Y10)(w):Prop where out:fl (lp0 [tQ,tL,tI,tB,tL,tI,tI] [1,1,0,0,1,1,0] z6j_b0 K a b c d e f g w)
structure z6j_sh(a:T43)(b:Int)(c:Sl)(K:Pw.Y10)(w):Prop where out:fq (fV z6j_F [v0 0 z6j_l0] K a b c w)
theorem z6j_ok:okP z6j_F 9 z6j_sh:=okN (fun K=>[c0 0 z6j_l0 K,c1 0 1 z6j_k1 K,c0 2 z6j_l2 K,c1 2 3 z6j_k3 K,c0 4 z6j_l4 K]) call9 func9 fun _=>q03 (hL0 [1,1,0,0,1,1,0] z6j_b0)<|q03 hC1<|q03 (hL0 [1,1,0,0,1,1,0] z6j_b2)<|q03 hC1<|q03 (hL0 [1,0,1,1,0] z6j_b4)<|hEnd
noncomputable def z4v_F:FD prog:=⟨f15,[kn z6j_ok],aN 0x610df07025cebb4b0e3e4291e,[tR,tI,tL],[.u 2,tI,tI],[]⟩
structure z4v_sh(a:T43)(b:Int)(c:Sl)(K:Pw.Y3)(w):Prop where out:fq (fV z4v_F [] K a b c w)
theorem z4v_ok:okP z4v_F 15 z4v_sh:=okN (fun _=>[]) call15 func15 fun _=>hEnd
structure z0l_sh(a0:Option Addr)(K:Pw.Y8)(w:World):Prop where
 out:Calls Tryz.prog 272 #[(Value.pointer a0)] w fun e w'=>∃r0_0:ByteArray,∃r0_1:Int,∃r0_2:Int,∃r0_3:ByteArray,∃r0_4:Sl,∃r0_5:Int,e=.returned (Value.agg #[(Value.string r0_0),(Value.int .i64 r0_1),(Value.int .i64 r0_2),(Value.string r0_3),(Value.slice r0_4.p r0_4.l r0_4.c),(Value.int .i64 r0_5)])/\K r0_0 r0_1 r0_2 r0_3 r0_4 r0_5 w'
noncomputable def z0l_S:Pw.Spec:=fun vs w Kv =>
 match vs with
 | [.pointer a0]=>z0l_sh a0 (fun r0_0 r0_1 r0_2 r0_3 r0_4 r0_5 w'=>Kv (Value.agg #[(Value.string r0_0),(Value.int .i64 r0_1),(Value.int .i64 r0_2),(Value.string r0_3),(Value.slice r0_4.p r0_4.l r0_4.c),(Value.int .i64 r0_5)]) w') w
 | _=>False
theorem z0l_ok:q1v Tryz.prog 272 z0l_S:=⟨Tryz.call272,fun vs w Kv h=>by
  unfold z0l_S at h
  split at h
  · exact h.out.mono fun e w' he=>by
      obtain⟨_,_,_,_,_,_,he,hk⟩:=he
      exact⟨_,he,hk⟩
  · exact h.elim⟩
noncomputable def z61_F:FD prog:=⟨f83,[kn z4c_ok],aN 0x91256512b1b0b865108a75fd2e42c21102b1b0b6510794412d1111,[tS,tI],[tL],[[tS,tI,tL,tI,tL,tI,tI],[tS,tI,tL,tI,tS,tL,tI,tI]]⟩
structure z61_k1(a:ByteArray)(b:Int)(c:Sl)(d:Int)(e:ByteArray)(f:Sl)(g i:Int)(N0:ByteArray->Int->Sl->Int->Sl->Int->Int->World->Prop)(K:Pw.Y4)(w):Prop where out:fq (gV z61_F 1 [] [nN 0 N0] K a b c d e f g i w)
def z61_b0(a:ByteArray)(b:Int)(c:Sl)(d:Int)(e:Sl)(f g:Int)(N0:ByteArray->Int->Sl->Int->Sl->Int->Int->World->Prop)(K:Pw.Y4)(w:World):Prop:=fq (gV z61_F 0 [v1 1 z61_k1 N0] [nN 0 N0] K a b c d e f g w)
structure z61_l0(a:ByteArray)(b:Int)(c:Sl)(d:Int)(e:Sl)(f g:Int)(K:Pw.Y4)(w):Prop where out:fl (lp0 [tS,tI,tL,tI,tL,tI,tI] [1,1,0,0,1,1,0] z61_b0 K a b c d e f g w)
structure z61_sh(a:ByteArray)(b:Int)(K:Pw.Y4)(w):Prop where out:fq (fV z61_F [v0 0 z61_l0] K a b w)
theorem z61_ok:okP z61_F 83 z61_sh:=okN (fun K=>[c0 0 z61_l0 K,c1 0 1 z61_k1 K]) call83 func83 fun _=>q03 (hL0 [1,1,0,0,1,1,0] z61_b0)<|q03 hC1<|hEnd
noncomputable def z2o_F:FD prog:=⟨f84,[],aN 0xa19876543210a37211,[tP],[.g 2,tS,tI],[]⟩
structure z2o_sh(a:Option Addr)(K:Pw.Y11)(w):Prop where out:fq (fV z2o_F [] K a w)
theorem z2o_ok:okP z2o_F 84 z2o_sh:=okN (fun _=>[]) call84 func84 fun _=>hEnd
noncomputable def z2m_F:FD prog:=⟨f151,[kn z2o_ok],aN 0x75,[tP,tI],[.u 0],[]⟩
structure z2m_sh(a:Option Addr)(b:Int)(K:Pw.Y5)(w):Prop where out:fq (fV z2m_F [] K a b w)
theorem z2m_ok:okP z2m_F 151 z2m_sh:=okN (fun _=>[]) call151 func151 fun _=>hEnd
noncomputable def z2n_F:FD prog:=⟨f85,[kn z2m_ok],aN 0x35fd,[tP,tB,tI],[.u 0],[]⟩
structure z2n_sh(a:Option Addr)(b:Bool)(c:Int)(K:Pw.Y5)(w):Prop where out:fq (fV z2n_F [] K a b c w)
theorem z2n_ok:okP z2n_F 85 z2n_sh:=okN (fun _=>[]) call85 func85 fun _=>hEnd
noncomputable def z2p_F:FD prog:=⟨f86,[kn z2o_ok],aN 0xd814111,[tP],[.g 2,tS,tI],[]⟩
structure z2p_sh(a:Option Addr)(K:Pw.Y11)(w):Prop where out:fq (fV z2p_F [] K a w)
theorem z2p_ok:okP z2p_F 86 z2p_sh:=okN (fun _=>[]) call86 func86 fun _=>hEnd
noncomputable def z4d_F:FD prog:=⟨f269,[kn z7g_ok],aN 0x27c25c027c06033c4bb31bb75b3b11,[tS],[tB],[]⟩
structure z4d_sh(a:ByteArray)(K:Pw.Y0)(w):Prop where out:fq (fV z4d_F [] K a w)
theorem z4d_ok:okP z4d_F 269 z4d_sh:=okN (fun _=>[]) call269 func269 fun _=>hEnd
noncomputable def z60_F:FD prog:=⟨f270,[kn z4z_ok],aN 0x32c053bb4b71d,[tS],[.u 2,tI,tB],[]⟩
structure z60_sh(a:ByteArray)(K:Pw.Y15)(w):Prop where out:fq (fV z60_F [] K a w)
theorem z60_ok:okP z60_F 270 z60_sh:=okN (fun _=>[]) call270 func270 fun _=>hEnd
noncomputable def z5y_F:FD prog:=⟨f217,[kn z3i_ok,kn z5x_ok],aN 0x24c065b3b11,[tS],[tB],[]⟩
structure z5y_sh(a:ByteArray)(K:Pw.Y0)(w):Prop where out:fq (fV z5y_F [] K a w)
theorem z5y_ok:okP z5y_F 217 z5y_sh:=okN (fun _=>[]) call217 func217 fun _=>hEnd
noncomputable def z1w_F:FD prog:=⟨f216,[kn z5z_ok,kn z7g_ok,kn z6n_ok],aN 0x91251b11765105a25f014c24c014c05cdb66db5b8141f51453510e35142e4c412065104941121111,[tS,tI],[tL],[[tS,tI,tL,tI],[tS,tI,tL,tI,tI]]⟩
structure z1w_k1(a:ByteArray)(b:Int)(c:Sl)(d e:Int)(N0:ByteArray->Int->Sl->Int->World->Prop)(K:Pw.Y4)(w):Prop where out:fq (gV z1w_F 1 [] [nN 0 N0] K a b c d e w)
def z1w_b0(a:ByteArray)(b:Int)(c:Sl)(d:Int)(N0:ByteArray->Int->Sl->Int->World->Prop)(K:Pw.Y4)(w:World):Prop:=fq (gV z1w_F 0 [v1 1 z1w_k1 N0] [nN 0 N0] K a b c d w)
structure z1w_l0(a:ByteArray)(b:Int)(c:Sl)(d:Int)(K:Pw.Y4)(w):Prop where out:fl (lp0 [tS,tI,tL,tI] [1,1,0,0] z1w_b0 K a b c d w)
structure z1w_sh(a:ByteArray)(b:Int)(K:Pw.Y4)(w):Prop where out:fq (fV z1w_F [v0 0 z1w_l0] K a b w)
theorem z1w_ok:okP z1w_F 216 z1w_sh:=okN (fun K=>[c0 0 z1w_l0 K,c1 0 1 z1w_k1 K]) call216 func216 fun _=>q03 (hL0 [1,1,0,0] z1w_b0)<|q03 hC1<|hEnd
noncomputable def z1x_F:FD prog:=⟨f339,[],aN 0xe81d,[tP,.g 5,tS,tI,tI,tS,tL],[.g 6,tS,tI,tI,tS,tL,tI],[]⟩
structure z1x_sh(a:Option Addr)(b:ByteArray)(c d:Int)(e:ByteArray)(f:Sl)(K:Pw.Y8)(w):Prop where out:fq (fV z1x_F [] K a b c d e f w)
theorem z1x_ok:okP z1x_F 339 z1x_sh:=okN (fun _=>[]) call339 func339 fun _=>hEnd
noncomputable def z0k_F:FD prog:=⟨f337,[kn z2n_ok,kn z2p_ok,kn z4d_ok,kn z60_ok,kn z1x_ok,kn z5u_ok,kn z2d_ok,kn z6f_ok],aN 0x51419125a5e42c2112fdeddda84079441211186404a026c23c026c05032c6db33db5ecb5b71065404a0a192876340a198237162fb85241321043729111,[tP,tS],[.g 6,tS,tI,tI,tS,tL,tI],[[tP,tQ,tS,tS],[tP,tQ,tS,tI],[tP,tQ,tI,tI,tL,tI,tI]]⟩
def z0k_b2(a:Option Addr)(b:Addr)(c d:Int)(e:Sl)(f g:Int)(N2:Option Addr->Addr->Int->Int->Sl->Int->Int->World->Prop)(K:Pw.Y8)(w:World):Prop:=fq (gV z0k_F 2 [] [nN 2 N2] K a b c d e f g w)
structure z0k_l2(a:Option Addr)(b:Addr)(c d:Int)(e:Sl)(f g:Int)(K:Pw.Y8)(w):Prop where out:fl (lp0 [tP,tQ,tI,tI,tL,tI,tI] [1,1,0,0,1,1,0] z0k_b2 K a b c d e f g w)
structure z0k_k1(a:Option Addr)(b:Addr)(c:ByteArray)(d:Int)(K:Pw.Y8)(w):Prop where out:fq (gV z0k_F 1 [v0 2 z0k_l2] [] K a b c d w)
structure z0k_k0(a:Option Addr)(b:Addr)(c d:ByteArray)(K:Pw.Y8)(w):Prop where out:fq (gV z0k_F 0 [v0 1 z0k_k1] [] K a b c d w)
structure z0k_sh(a:Option Addr)(b:ByteArray)(K:Pw.Y8)(w):Prop where out:fq (fV z0k_F [v0 0 z0k_k0] K a b w)
theorem z0k_ok:okP z0k_F 337 z0k_sh:=okN (fun K=>[c0 0 z0k_k0 K,c0 1 z0k_k1 K,c0 2 z0k_l2 K]) call337 func337 fun _=>q03 hC0<|q03 hC0<|q03 (hL0 [1,1,0,0,1,1,0] z0k_b2)<|hEnd
noncomputable def z1z_F:FD prog:=⟨f338,[kn z2o_ok,kn z2n_ok,kn z2p_ok],aN 0x450a197236185432107372,[tP,tS],[.u 0],[]⟩
structure z1z_sh(a:Option Addr)(b:ByteArray)(K:Pw.Y5)(w):Prop where out:fq (fV z1z_F [] K a b w)
theorem z1z_ok:okP z1z_F 338 z1z_sh:=okN (fun _=>[]) call338 func338 fun _=>hEnd
noncomputable def z1y_F:FD prog:=⟨f316,[],aN 0x4b181e,[tP,tS,.g 6,tS,tI,tI,tS,tL,tI,.g 6,tS,tI,tI,tS,tL,tI],[.g 6,tS,tI,tI,tS,tL,tI],[]⟩
structure z1y_sh(a:Option Addr)(b c:ByteArray)(d e:Int)(f:ByteArray)(g:Sl)(i:Int)(j:ByteArray)(k l:Int)(m:ByteArray)(n:Sl)(o:Int)(K:Pw.Y8)(w):Prop where out:fq (fV z1y_F [] K a b c d e f g i j k l m n o w)
theorem z1y_ok:okP z1y_F 316 z1y_sh:=okN (fun _=>[]) call316 func316 fun _=>hEnd
noncomputable def z0u_F:FD prog:=⟨f317,[kn z2o_ok,kn z2n_ok,kn z2p_ok,kn z5x_ok,kn z0l_ok,kn z6n_ok,kn z0k_ok,kn z1z_ok,kn z1x_ok],aN 0x51410542e32104372c04022cbcb3b0dd41413e03203a0413023c054bb3b426111,[tP],[.g 6,tS,tI,tI,tS,tL,tI],[[tP,tQ,tS]]⟩
structure z0u_k0(a:Option Addr)(b:Addr)(c:ByteArray)(K:Pw.Y8)(w):Prop where out:fq (gV z0u_F 0 [] [] K a b c w)
structure z0u_sh(a:Option Addr)(K:Pw.Y8)(w):Prop where out:fq (fV z0u_F [v0 0 z0u_k0] K a w)
theorem z0u_ok:okP z0u_F 317 z0u_sh:=okN (fun K=>[c0 0 z0u_k0 K]) call317 func317 fun _=>q03 hC0<|hEnd
noncomputable def z1b_F:FD prog:=⟨f294,[kn z2o_ok,kn z2p_ok,kn z36_ok,kn z1y_ok],aV [(Value.agg #[(Value.string (str [])),(Value.int .i64 0),(Value.int .i64 0),(Value.string (str [])),(Value.slice none 0 0),(Value.int .i64 0)])] 0xd1762a650652e04932104374142c013c048bb4b20876210694612020d1b11,[tP,tS,tV],[.g 6,tS,tI,tI,tS,tL,tI],[[tP,tS,tV,tQ,tQ,tS],[tQ,tQ]]⟩
structure z1b_k1(a b:Addr)(K:Pw.Y8)(w):Prop where out:fq (gV z1b_F 1 [] [] K a b w)
def z1b_b0(a:Option Addr)(b:ByteArray)(c:Value)(d e:Addr)(f:ByteArray)(N0:Option Addr->ByteArray->Value->Addr->Addr->ByteArray->World->Prop)(K:Pw.Y8)(w:World):Prop:=fq (gV z1b_F 0 [v0 1 z1b_k1] [nN 0 N0] K a b c d e f w)
structure z1b_l0(a:Option Addr)(b:ByteArray)(c:Value)(d e:Addr)(f:ByteArray)(K:Pw.Y8)(w):Prop where out:fl (lp0 [tP,tS,tV,tQ,tQ,tS] [1,1,1,1,1,0] z1b_b0 K a b c d e f w)
structure z1b_sh(a:Option Addr)(b:ByteArray)(c:Value)(K:Pw.Y8)(w):Prop where out:fq (fV z1b_F [v0 0 z1b_l0] K a b c w)
theorem z1b_ok:okP z1b_F 294 z1b_sh:=okN (fun K=>[c0 0 z1b_l0 K,c0 1 z1b_k1 K]) call294 func294 fun _=>q03 (hL0 [1,1,1,1,1,0] z1b_b0)<|q03 hC0<|hEnd
noncomputable def z20_F:FD prog:=⟨f295,[kn z1b_ok],aN 0x5111,[tP],[.g 6,tS,tI,tI,tS,tL,tI],[]⟩
structure z20_sh(a:Option Addr)(K:Pw.Y8)(w):Prop where out:fq (fV z20_F [] K a w)
theorem z20_ok:okP z20_F 295 z20_sh:=okN (fun _=>[]) call295 func295 fun _=>hEnd
noncomputable def z7a_F:FD prog:=⟨f215,[kn z2o_ok,kn z2n_ok,kn z0l_ok],aN 0xe7504203af04013cfbb6b20918723615432106372415111,[tL],[.g 5,tS,tI,tI,tS,tL],[[tL,tQ,tQ]]⟩
structure z7a_k0(a:Sl)(b c:Addr)(K:ByteArray->Int->Int->ByteArray->Sl->World->Prop)(w):Prop where out:fq (gV z7a_F 0 [] [] K a b c w)
structure z7a_sh(a:Sl)(K:ByteArray->Int->Int->ByteArray->Sl->World->Prop)(w):Prop where out:fq (fV z7a_F [v0 0 z7a_k0] K a w)
theorem z7a_ok:okP z7a_F 215 z7a_sh:=okN (fun K=>[c0 0 z7a_k0 K]) call215 func215 fun _=>q03 hC0<|hEnd
