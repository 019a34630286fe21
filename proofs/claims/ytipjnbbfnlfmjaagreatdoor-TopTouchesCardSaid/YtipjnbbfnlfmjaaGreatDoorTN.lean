/- What the law's sanity does. Conditions: none. -/
import Derived.Test.YtipjnbbfnlfmjaaGreatDoorTK
import Derived.Test.YtipjnbbfnlfmjaaGreatDoorTA
import Derived.Test.YtipjnbbfnlfmjaaGreatDoorTF
namespace Go.Proofs.YtipjnbbfnlfmjaaGreatDoor
open Go Pw Xe
noncomputable instance zcT:Zc:=zcOf plT
theorem cokT {kn:KnT}(hk:KN Tryz.prog kn)(w0:World)(n:Nat):Cok (XT kn) w0 (ex (XT kn) n).cf :=
 cok (XT kn) (fns_ok (kn:=kn) okIT) progMixed w0 (fun g xs h y h' hx ρ w us hr hv=>hk g xs h y h' hx w0 ρ w us hr hv) n
theorem P1_ok:q4q Tryz.prog P1:=q57 (X:=XT kn0) rfl (fun w0=>cokT qlo w0 _) (by kernel_rfl) P1_run
theorem P2_ok:q4q Tryz.prog P2:=q57 (X:=XT kn0) rfl (fun w0=>cokT qlo w0 _) (by kernel_rfl) P2_run
theorem qlp:KN Tryz.prog knA:=.fact P1_ok (.fact P2_ok qlo)
theorem C1_ok:q4q Tryz.prog C1:=q57 (X:=XT knA) rfl (fun w0=>cokT qlp w0 _) (by kernel_rfl) C1_run
theorem C2_ok:q4q Tryz.prog C2:=q57 (X:=XT knA) rfl (fun w0=>cokT qlp w0 _) (by kernel_rfl) C2_run
theorem qlq:KN Tryz.prog knB:=.fact C1_ok (.fact C2_ok qlp)
theorem K1_ok:q4q Tryz.prog K1:=q57 (X:=XT knB) rfl (fun w0=>cokT qlq w0 _) (by kernel_rfl) K1_run
theorem K2_ok:q4q Tryz.prog K2:=q57 (X:=XT knB) rfl (fun w0=>cokT qlq w0 _) (by kernel_rfl) K2_run
theorem knC_ok:KN Tryz.prog knC:=.fact K1_ok (.fact K2_ok qlq)
theorem S_ok:q4q Tryz.prog Xe.S:=q57 (X:=XT knC) rfl (fun w0=>cokT knC_ok w0 _) (by kernel_rfl) S_run
theorem qdn (w:World):Calls Tryz.prog 4 #[] w fun e w'=>e=.returned (.bool true)/\Fr F0 w w':=by
 rcases S_ok w [] w [] ⟨rfl,Fr.refl,fun q hq=>by simp at hq,fun b o h _=>by simp[Xe.S] at h,fun b b' o o' q q' h=>by simp[Xe.S] at h⟩ rfl with⟨_,h2⟩ | ⟨u,w2,h1,_⟩
 ·exact h2.mono fun e w' he=>by
   obtain⟨u,rfl,ρ',hu,_,hr,_⟩:=he
   have hu:u=.bool true:=hu
   subst hu
   exact⟨rfl,hr.fr⟩
 ·have:=Tryz.call4 #[] w
  rw[show(Xe.S).g=4 from rfl] at h1
  rw[show([]:List Value).toArray=#[] from rfl,this] at h1
  cases h1
