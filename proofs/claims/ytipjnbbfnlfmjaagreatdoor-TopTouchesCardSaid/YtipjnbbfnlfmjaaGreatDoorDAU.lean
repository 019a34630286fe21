/- Lists of four ints among the arguments. Conditions: none. -/
import Derived.Test.YtipjnbbfnlfmjaaGreatDoorUQV
namespace Go.Proofs.YtipjnbbfnlfmjaaGreatDoor
open Go Pw Dp Go.ChangeShapes Go.WideShapes Go.ChangeAt Go.RowKit
section
variable {H:Type}{enc:TypeId × Value->H}{P:Program}{W:World}
theorem qo0 {fuel:Nat}{t e g:TypeId}{cs:List Value}{x:DataW H × List MemPlace}(ht:P.underlying t=some (.slice e))(he:P.underlying e=some (.array 4 g))(hg:P.underlying g=some (.int .i64))(ce:P.cellsOf e=4)(cg:P.cellsOf g=1)
  (h:DataW.trod enc P W 0 (fun _=>true) true fuel t cs=some x):∃ (q:Sl) (l:List (Int × Int × Int × Int)),cs=[.slice q.p q.l q.c]/\Vw 4 encT4 W q l/\∀ a∈l,I64 a.1/\I64 a.2.1/\I64 a.2.2.1/\I64 a.2.2.2 :=
 q26 ht ce encT4_length (by decide) (fun fuel cs y hl h=>by
  obtain⟨l,h1,rfl,h2⟩:=q5u he hg cg hl h
  match l,h1 with
  | [a,b,c,d],_=>exact⟨(a,b,c,d),rfl,h2 a (by simp),h2 b (by simp),h2 c (by simp),h2 d (by simp)⟩) h
theorem arg_l4 {r:Reach}{b0:Nat}{t e g:TypeId}{v:Value}{d:DataW H}{ps:List MemPlace}(ht:P.underlying t=some (.slice e))(he:P.underlying e=some (.array 4 g))(hg:P.underlying g=some (.int .i64))(ce:P.cellsOf e=4)(cg:P.cellsOf g=1)
  (hval:Value.okWide P W r b0 t v) (h:DataW.Trod enc P W 0 (fun _=>true) true t v d ps):∃ (q:Sl) (l:List (Int × Int × Int × Int)),v=.slice q.p q.l q.c/\Vw 4 encT4 W q l/\∀ a∈l,I64 a.1/\I64 a.2.1/\I64 a.2.2.1/\I64 a.2.2.2:=by
 obtain⟨a,len,cap,rfl⟩:=okWide_slice ht hval
 obtain⟨fuel,hf⟩:=h
 obtain⟨q,l,h1,h2,h3⟩:=qo0 ht he hg ce cg hf
 simp only[Value.cells,List.cons.injEq,and_true] at h1
 exact⟨q,l,h1,h2,h3⟩
theorem q95 {w:World}{x:T29}{p:Pn}{bs es:Sl}{bl:List (Int × Int × Int × Int)}{el:List (Int × Int × Int)}{K:Bool->World->Prop}(g:GlT w)(hp:PP w x p)(hf:PFit p)(hb:Vw 4 encT4 w bs bl)(hbi:∀ q∈bl,I64 q.1/\I64 q.2.1/\I64 q.2.2.1/\I64 q.2.2.2)
  (he:Vw 3 q4l w es el) (hei:∀ e∈el,I64 e.1/\I64 e.2.1/\I64 e.2.2) (hK:∀ w',Fr F0 w w'->K true w'):z0d_sh x bs es K w:=qbr ⟨g,hp,hf,hb,hbi,he,hei⟩ hK
end
