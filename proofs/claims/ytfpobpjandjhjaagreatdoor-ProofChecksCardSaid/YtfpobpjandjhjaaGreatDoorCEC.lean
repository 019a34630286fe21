/- The reference's Spoiled: some problem. Conditions: none. -/
import Derived.Test.YtfpobpjandjhjaaGreatDoorCXZ
namespace Pw
open Go
section
variable {α:Type}{n:Nat}{enc:α->List Value}{w0 w:World}{s:Sl}{l:List α}{L:List (Nat × List Value)}{B:Nat->Prop}{Q:World->Prop}
theorem Sp.nextE {β:Type}{n':Nat}{enc':β->List Value}{e:TypeId}(hn:∀ a,(enc' a).length=n')(h:Sp w0 w L B Q n enc s l) :
  Sp w0 (w.alloc (Obj.cells #[] e)) L (fun b=>B b\/inB s b) (fun w=>Q w/\Ow n enc w s l) n' enc' ⟨some ⟨w.heap.size,0,none⟩,0,0⟩ ([]:List β):=by
 have h0:Sp w0 w L (fun b=>B b\/inB s b) (fun w=>Q w/\Ow n enc w s l) n' enc' ⟨none,0,0⟩ ([]:List β):=h.next
 have h1:=h0.fr (Fr.alloc (o:=Obj.cells #[] e))
 refine⟨h1.m,h1.rs,h1.q,h1.ap,Row.ow hn (l:=([]:List β)) Row.new,fun b ⟨a,ha,hb⟩=>?_⟩
 cases ha
 subst hb
 exact⟨h.m.1.1,fun hB=>by have:=(h0.ap _ hB).1; simp only at this; omega,fun p hp e=>by have:=(h.m.2.1 p hp).lt; simp only at e; omega⟩
theorem addr0 (b k:Nat):(⟨b,0,none⟩:Addr).add k=⟨b,k,none⟩:=by
 by_cases h0:k=0
 ·subst h0; rfl
 ·simp[Addr.add,h0]
end
open Go
section
variable {α:Type}{n:Nat}{enc:α->List Value}{w0 w u:World}{s:Sl}{l:List α}{L:List (Nat × List Value)}{B:Nat->Prop}{Q:World->Prop}
structure Fa (u:World)(L:List (Nat × List Value))(Q:World->Prop)(n:Nat)(enc:α->List Value)(s:Sl)(l:List α):Prop where
 q:Q u
 ow:Ow n enc u s l
 rs:Rs u L
theorem Sp.far (h:Sp w0 w L B Q n enc s l)(ha:∀ b,w0.heap.size<=b->u.heap[b]?=w.heap[b]?):Fa u L Q n enc s l :=
 ⟨h.rs w u (fun b hb=>ha b (h.ap b hb).2.1) h.q,q1t.ow s l w u (fun b hb=>ha b (h.os b hb).1) h.ow,fun p hp=>by
  have:=h.m.2.1 p hp
  have hb:=h.m.2.2.2 p hp
  unfold Row at this ⊢
  rw[ha _ hb]
  exact this⟩
theorem Fa.row {b:Nat}{vs:List Value}(h:Fa u L Q n enc s l)(j:Nat)(hj:L[j]?=some (b,vs):=by exact rfl):Row u b vs:=h.rs _ (List.mem_of_getElem? hj)
end
end Pw
namespace Go.Proofs.YtfpobpjandjhjaaGreatDoor
open Go Pw
section
variable {w w0 wP:World}{s sL sC sD s0 s1 s2:Sl}{l0:List Int}{l1:List Ch}{dc:List (De × Sl)}{p:Pr}{pb tb qb nb:Nat}{m b n:Int}{L:List (Nat × List Value)}
abbrev IE:Int->List Value:=ie .i64 (id:Int->Int)
theorem toC (h:Sp w0 w L (fun b=>inB sL b\/inB sC b) (fun u=>Ow 1 IE u sL l0/\Ow 4 encC u sC l1) 3 encD sD dc)(hd:∀ b,inB sC b->¬inB sL b) :
  Sp w0 w L (fun b=>inB sL b\/inB sD b) (fun u=>Ow 1 IE u sL l0/\Ow 3 encD u sD dc) 4 encC sC l1:=h.back (q1t.ow sL l0) hd
theorem toL (h:Sp w0 w L (fun b=>inB sL b\/inB sC b) (fun u=>Ow 1 IE u sL l0/\Ow 4 encC u sC l1) 3 encD sD dc)(hd:∀ b,inB sC b->¬inB sL b) :
  Sp w0 w L (fun b=>inB sC b\/inB sD b) (fun u=>Ow 4 encC u sC l1/\Ow 3 encD u sD dc) 1 IE sL l0 :=
 Sp.back (B:=inB sC) (Q:=fun u=>Ow 4 encC u sC l1) (h.say (C:=fun b=>inB sC b\/inB sL b) (Q':=fun u=>Ow 4 encC u sC l1/\Ow 1 IE u sL l0) ((q1t.ow sC l1).and (q1t.ow sL l0)) (fun _ hb=>hb.symm) fun q=>⟨q.2,q.1⟩) (q1t.ow sC l1) fun b hL hC=>hd b hC hL
theorem mkPV (h0:VI w sL l0)(h1:VC w sC l1)(h2:VD w sD dc)(hx:∀ x∈dc,VI w x.2 x.1.lots/\x.1.lots.length<2^40)(k0:l0.length<2^40)(k1:l1.length<2^40)(k2:dc.length<2^40):PV w sL sC sD ⟨l0,l1,dc.map (·.1),m,b⟩ :=
 ⟨h0,h1,⟨dc,h2,rfl,hx⟩,k0,k1,by simpa using k2⟩
theorem Sk1 {α:Type}{k:Nat}{enc:α->List Value}{l:List α}{B:Nat->Prop}{Q:World->Prop}{jp jt:Nat}{v1 v2 v3 v4 v5:Value}{K:Sl->Sl->Sl->Int->Int->World->Prop}(h:Sp w0 w L B Q k enc s l)(hp:L[jp]?=some (pb,prC sL sC sD m b))(ht:L[jt]?=some (tb,[v1,v2,v3,v4,v5]))
  (hK:∀ u,Sp w0 u (L.set jt (tb,prC sL sC sD m b)) B Q k enc s l->K sL sC sD m b u):z0z_k1 ⟨pb,0,none⟩ ⟨tb,0,none⟩ K w:=by
 refine⟨⟨sL,h.ld jp hp rfl,sC,h.ld jp hp rfl,sD,h.ld jp hp rfl,_,h.ld jp hp rfl,_,h.ld jp hp rfl,q6r h jt ht rfl fun u h=>?_⟩⟩
 have hlt:jt<L.length:=(List.getElem?_eq_some_iff.1 ht).1
 have ht':(L.set jt (tb,prC sL sC sD m b))[jt]?=some (tb,prC sL sC sD m b):=by simp[hlt]
 exact⟨sL,h.ld jt ht' rfl,sC,h.ld jt ht' rfl,sD,h.ld jt ht' rfl,_,h.ld jt ht' rfl,_,h.ld jt ht' rfl,hK u h⟩
end
end Go.Proofs.YtfpobpjandjhjaaGreatDoor
