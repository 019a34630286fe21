/- strconv.Itoa, Atoi where it reads a number, strings.TrimRight. Conditions: none. -/
import Derived.Test.YtipjnbbfnlfmjaaGreatDoorDM
import Derived.Test.YtipjnbbfnlfmjaaGreatDoorDSH
import Derived.Shelf.Strconv.Itoa4
import Derived.Shelf.Strconv.AtoiAll
import Derived.Shelf.Strings.Trim
import Derived.Lib.ItoaLen
namespace Go.Proofs.YtipjnbbfnlfmjaaGreatDoor
open Go Pw Dp
def GlT (w:World):Prop:=Lib.TabIs Tryz.prog w "internal/strconv.uint64pow10" .u64 Lib.pow10Tab
section
variable {w w' w0:World}
theorem qmp (w:World):∀ k,Fr F0 w (w.drewN k):=fun _=>⟨Nat.le_refl _,fun _ _ _=>rfl,rfl,rfl,rfl⟩
theorem qp9 (w:World)(os:Array Obj):Fr F0 w (Go.Sort.grow w os):=by
 refine⟨by simp[Go.Sort.grow],fun b hb _=>?_,rfl,rfl,rfl⟩
 show(w.heap++os)[b]?=_
 rw[Array.getElem?_append_left hb]
theorem qmq (w:World)(e:TypeId)(t:ByteArray):Fr F0 w (Lib.bytesWorld w e t):=by
 unfold Lib.bytesWorld
 refine⟨by simp[World.freeze],fun b hb _=>?_,rfl,rfl,rfl⟩
 have hne:b≠w.heap.size:=by omega
 simp only[World.freeze]
 rw[if_neg (by decide)]
 simp only
 rw[Array.getElem?_modify,if_neg (Ne.symm hne)]
 show(w.heap.push _)[b]?=_
 rw[Array.getElem?_push,if_neg hne]
theorem GlT.fr (h:GlT w)(hf:Fr F0 w w'):GlT w':=by
 unfold GlT Lib.TabIs World.var? at h ⊢
 cases hg:Program.globalNamed Tryz.prog "internal/strconv.uint64pow10" with
 | none=>rw[hg] at h; cases h
 | some g =>
  rw[hg] at h
  simp only[Option.bind_some] at h ⊢
  have hlt:g<w.heap.size:=by
   rcases Nat.lt_or_ge g w.heap.size with hl | hl
   ·exact hl
   ·rw[Array.getElem?_eq_none hl] at h
    cases h
  rw[hf.2.1 g hlt fun hh=>hh]
  exact h
theorem q2w {n:Int}(h:I64 n):(Lib.itoa n).length<=21:=Lib.itoa_length_le n h.1 (by have:=h.2; omega)
theorem q3z {n:Int}{K:ByteArray->World->Prop}(h:I64 n)(g:GlT w)(hK:∀ w',Fr F0 w w'->K (ofL (Lib.itoa n)) w'):z2e_sh n K w :=
 ⟨(Any.strconv_Itoa Tryz.laysM171 n h.1 (by have:=h.2; omega) w g).mono fun e w' he=>by
  obtain⟨rfl,k,os,rfl⟩:=he
  exact⟨_,rfl,hK _ (Fr0.t (qmp w k) (qp9 _ os))⟩⟩
theorem qje {s:B}{n:Int}{K:Int->Value->World->Prop}(hs:s.length<=2^40)(ha:Lib.atoiAll s=.ok n)(hK:∀ w',Fr F0 w w'->K n .nilIface w'):z2d_sh (ofL s) K w :=
 ⟨(Any.strconv_Atoi_ok Tryz.laysC172 (ofL s) (by rw[q0i]; omega) n (by show Lib.atoiAll (bl (ofL s))=_; rw[q3s]; exact ha) w).mono fun e w' he=>by
  obtain⟨rfl,h⟩:=he
  refine⟨_,_,rfl,hK _ ?_⟩
  rcases h with rfl | ⟨t,rfl⟩
  ·exact Fr.refl
  ·exact qmq _ _ _⟩
theorem q90 {s:B}{K:ByteArray->World->Prop}(hs:s.length<=2^40)(hK:K (ofL (Lib.trimRightB s 48)) w):z14_sh (ofL s) (str [48]) K w :=
 ⟨(Any.strings_TrimRight_one Tryz.lays162 (ofL s) 48 (by decide) w (by rw[q0i]; omega)).mono fun e w' he=>by
  obtain⟨rfl,rfl⟩:=he
  refine⟨_,rfl,?_⟩
  exact hK⟩
end
