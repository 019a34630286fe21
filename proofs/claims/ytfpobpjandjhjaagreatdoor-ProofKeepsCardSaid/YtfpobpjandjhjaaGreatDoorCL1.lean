/- The lists that the laws make: some list of few numbers. Conditions: none. -/
import Derived.Test.YtfpobpjandjhjaaGreatDoorCXZ
namespace Pw
open Go
section
variable {α β:Type}{n n':Nat}{enc:α->List Value}{enc':β->List Value}{w0 w w':World}{s s':Sl}{l:List α}{l':List β}{L:List (Nat × List Value)}{B:Nat->Prop}{Q:World->Prop}
theorem stN_mono {b:Nat}{K K':World->Prop}:∀ (us:List Value) (i:Nat) (u:World),stN.go ⟨b,0,none⟩ K us i u->(∀ w',(∀ c,c≠b->w'.heap[c]?=u.heap[c]?)->K w'->K' w')->stN.go ⟨b,0,none⟩ K' us i u
 | [],_,u,h,hk=>hk u (fun _ _=>rfl) h
 | v :: us,i,u,h,hk=>⟨h.1,stN_mono us (i+1) _ h.2 fun w' hf=>hk w' fun c hc=>(hf c hc).trans (heap_set_ne (by simpa [add_mk] using Ne.symm hc))⟩
theorem stN_far {w0 w:World}{l:List (Nat × List Value)}{b:Nat}{cs vs:List Value}{K:World->Prop}(m:Mem w0 w l)(j:Nat)(hj:l[j]?=some (b,cs))(hl:cs.length=vs.length)
  (hK:∀ w',Mem w0 w' (l.set j (b,vs))->(∀ c,c≠b->w'.heap[c]?=w.heap[c]?)->K w'):stN w ⟨b,0,none⟩ vs K :=
 stN_mono vs 0 w (stN_at m j hj hl fun _ m=>m) fun w' hf m=>hK w' m hf
theorem Sp.mk' (h:Sp w0 w L B Q n enc s l):Mk w0 n enc w s l:=⟨h.m.1,h.ow,fun b hb=>(h.os b hb).1⟩
theorem Sp.ofMk (m:Mem w0 w L)(h:Mk w n enc w' s l):Sp w0 w' L (fun _=>False) (fun _=>True) n enc s l :=
 ⟨m.fr h.fr0,Rests.top,trivial,fun _ hb=>hb.elim,h.ow,fun b hb=>⟨Nat.le_trans m.1.1 (h.nw b hb),fun h=>h,fun p hp e=>by have:=(m.2.1 p hp).lt; have:=h.nw b hb; omega⟩⟩
theorem Sp.nextMk (h:Sp w0 w L B Q n enc s l)(h':Mk w n' enc' w' s' l'):Sp w0 w' L (fun b=>B b\/inB s b) (fun w=>Q w/\Ow n enc w s l) n' enc' s' l':=by
 have g:=h.fr h'.fr0
 refine⟨g.m,h.rs.and (Rests.ow s l),⟨g.q,g.ow⟩,fun b hb=>?_,h'.ow,fun b hb=>⟨Nat.le_trans h.m.1.1 (h'.nw b hb),fun hc=>?_,fun p hp e=>by have:=(h.m.2.1 p hp).lt; have:=h'.nw b hb; omega⟩⟩
 ·rcases hb with hb | hb
  ·exact g.ap b hb
  ·exact⟨g.ow.lt' hb,(g.os b hb).1,(g.os b hb).2.2⟩
 ·have:=h'.nw b hb
  rcases hc with hc | hc
  ·have:=(h.ap b hc).1; omega
  ·have:=h.ow.lt' hc; omega
end
end Pw
