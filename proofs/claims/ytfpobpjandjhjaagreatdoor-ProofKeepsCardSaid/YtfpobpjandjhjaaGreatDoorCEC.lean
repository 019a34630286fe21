/- The reference's Spoiled: some problem. Conditions: none. -/
import Derived.Test.YtfpobpjandjhjaaGreatDoorCXZ
namespace Pw
open Go
section
variable {α:Type}{n:Nat}{enc:α->List Value}{w0 w:World}{s:Sl}{l:List α}{L:List (Nat × List Value)}{B:Nat->Prop}{Q:World->Prop}
theorem Sp.nextE {β:Type}{n':Nat}{enc':β->List Value}{e:TypeId}(hn:∀ a,(enc' a).length=n')(h:Sp w0 w L B Q n enc s l) :
  Sp w0 (w.alloc (Obj.cells #[] e)) L (fun b=>B b\/inB s b) (fun w=>Q w/\Ow n enc w s l) n' enc' ⟨some ⟨w.heap.size,0,none⟩,0,0⟩ ([]:List β):=by
 have h0:Sp w0 w L (fun b=>B b\/inB s b) (fun w=>Q w/\Ow n enc w s l) n' enc' ⟨none,0,0⟩ ([]:List β):=h.next
 have h1:=h0.fr (Fr.alloc (o:=Obj.cells #[] e))
 refine⟨h1.m,h1.rs,h1.q,h1.ap,Row.ow hn (l:=([]:List β)) Row.new,fun b ⟨a,ha,hb⟩=>?_⟩
 cases ha
 subst hb
 exact⟨h.m.1.1,fun hB=>by have:=(h0.ap _ hB).1; simp only at this; omega,fun p hp e=>by have:=(h.m.2.1 p hp).lt; simp only at e; omega⟩
end
end Pw
