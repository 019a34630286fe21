/- A slice of ints among the arguments, with what it weighs. Conditions: none. -/
import Derived.Test.YtfpobpjandjhjaaGreatDoorCEA
import Derived.SizedLaws
namespace Pw
open Go Go.ChangeShapes Go.WideShapes Go.ChangeAt Go.RowKit
section
variable {H:Type}{enc:TypeId × Value->H}{P:Program}{W:World}
theorem cell_viR {k:IntKind}{t e:TypeId}{cs:List Value}{x:DataW H × List MemPlace}{fuel:Nat}(ht:P.underlying t=some (.slice e))(he:P.underlying e=some (.int k))(hc:P.cellsOf e=1)
  (h:DataW.trod enc P W 0 (fun _=>true) true fuel t cs=some x) :
  ∃ (q:Sl) (l:List Int),cs=[.slice q.p q.l q.c]/\Vw 1 (ie k id) W q l/\(∀ n∈l,(Lit.int k n).wf=true)/\l.length<2^63/\∀ R b,P.bytesOf e=b->(∀ n∈x.1.weights P t,n<=R)->l.length*b<=R:=by
 rcases open_ints ht he hc h with⟨rfl,_⟩ | ⟨a,len,cap,zs,rfl,_,hle,hm,hz,hx,hcell,hwf⟩
 ·exact⟨⟨none,0,0⟩,[],rfl,Vw.nil,by simp,by simp,fun R b _ _=>by simp⟩
 ·simp only[if_true] at hz
  have hlen:(zs.take len).length=len:=by simp; omega
  refine⟨⟨some a,len,cap⟩,zs.take len,rfl,⟨hlen.symm,hle,?_⟩,fun n hn=>hwf n (List.mem_of_mem_take hn),?_,fun R b hb hw=>?_⟩
  ·rw[show(zs.take len).flatMap (ie k id)=(zs.take len).map (fun n=>Value.int k n) from fm_one (fun n=>Value.int k n) _]
   refine⟨by simp; omega,fun i hi=>?_⟩
   simp at hi
   rw[hcell i (by omega)]
   have:i<zs.length:=by omega
   simp[this]
  ·rw[hlen]
   have:maxLen=2^63-1:=rfl
   omega
  ·rw[hx] at hw
   have:=hw ((lits (H:=H) k (zs.take len)).length*b+(lits (H:=H) k (zs.drop len)).length*b) (by
    simp only[DataW.weights,ht,hb]
    rw[← Nat.add_mul]
    exact List.mem_cons_self ..)
   have e:(lits (H:=H) k (zs.take len)).length=(zs.take len).length:=by simp[lits]
   rw[e] at this
   omega
end
end Pw
