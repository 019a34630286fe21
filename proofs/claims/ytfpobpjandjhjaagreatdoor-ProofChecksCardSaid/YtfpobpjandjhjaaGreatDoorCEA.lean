/- What the arguments of the laws are in memory. Conditions: none. -/
import Derived.Test.YtfpobpjandjhjaaGreatDoorPWX
import Derived.SliceStrings
namespace Pw
open Go Go.ChangeShapes Go.WideShapes Go.ChangeAt Go.RowKit
section
variable {H:Type}{enc:TypeId × Value->H}{P:Program}{W:World}
theorem arg_vi {k:IntKind}{r:Reach}{b0:Nat}{t e:TypeId}{v:Value}{d:DataW H}{ps:List MemPlace}(ht:P.underlying t=some (.slice e))(he:P.underlying e=some (.int k))(hc:P.cellsOf e=1)
  (hval:Value.okWide P W r b0 t v) (h:DataW.Trod enc P W 0 (fun _=>true) true t v d ps) :
  ∃ (q:Sl) (l:List Int),v=.slice q.p q.l q.c/\Vw 1 (ie k id) W q l/\(∀ n∈l,(Lit.int k n).wf=true)/\l.length<2^63:=by
 obtain⟨a,len,cap,rfl⟩:=okWide_slice ht hval
 obtain⟨fuel,hf⟩:=h
 rcases open_ints ht he hc hf with⟨hcs,_⟩ | ⟨a',len',cap',zs,hcs,_,hle,hm,hz,_,hcell,hwf⟩
 ·simp only[Value.cells,List.cons.injEq,Value.slice.injEq,and_true] at hcs
  obtain⟨rfl,rfl,rfl⟩:=hcs
  exact⟨⟨none,0,0⟩,[],rfl,Vw.nil,by simp,by simp⟩
 ·simp only[Value.cells,List.cons.injEq,Value.slice.injEq,and_true] at hcs
  obtain⟨rfl,rfl,rfl⟩:=hcs
  simp only[if_true] at hz
  have hlen:(zs.take len).length=len:=by simp; omega
  refine⟨⟨some a',len,cap⟩,zs.take len,rfl,⟨hlen.symm,hle,?_⟩,fun n hn=>hwf n (List.mem_of_mem_take hn),?_⟩
  ·rw[show(zs.take len).flatMap (ie k id)=(zs.take len).map (fun n=>Value.int k n) from q7j (fun n=>Value.int k n) _]
   refine⟨by simp; omega,fun i hi=>?_⟩
   simp at hi
   rw[hcell i (by omega)]
   have:i<zs.length:=by omega
   simp[this]
  ·rw[hlen]
   have:maxLen=2^63-1:=rfl
   omega
end
end Pw
