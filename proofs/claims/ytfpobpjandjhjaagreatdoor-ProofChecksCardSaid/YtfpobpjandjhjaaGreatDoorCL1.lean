/- The lists that the laws make: some list of few numbers. Conditions: none. -/
import Derived.Test.YtfpobpjandjhjaaGreatDoorCXZ
namespace Pw
open Go
section
variable {α β:Type}{n n':Nat}{enc:α->List Value}{enc':β->List Value}{w0 w w':World}{s s':Sl}{l:List α}{l':List β}{L:List (Nat × List Value)}{B:Nat->Prop}{Q:World->Prop}
theorem qfj {b:Nat}{K K':World->Prop}:∀ (us:List Value) (i:Nat) (u:World),stN.go ⟨b,0,none⟩ K us i u->(∀ w',(∀ c,c≠b->w'.heap[c]?=u.heap[c]?)->K w'->K' w')->stN.go ⟨b,0,none⟩ K' us i u
 | [],_,u,h,hk=>hk u (fun _ _=>rfl) h
 | v :: us,i,u,h,hk=>⟨h.1,qfj us (i+1) _ h.2 fun w' hf=>hk w' fun c hc=>(hf c hc).trans (q0r (by simpa [q1q] using Ne.symm hc))⟩
theorem q16 {w0 w:World}{l:List (Nat × List Value)}{b:Nat}{cs vs:List Value}{K:World->Prop}(m:Mem w0 w l)(j:Nat)(hj:l[j]?=some (b,cs))(hl:cs.length=vs.length)
  (hK:∀ w',Mem w0 w' (l.set j (b,vs))->(∀ c,c≠b->w'.heap[c]?=w.heap[c]?)->K w'):stN w ⟨b,0,none⟩ vs K :=
 qfj vs 0 w (q22 m j hj hl fun _ m=>m) fun w' hf m=>hK w' m hf
end
end Pw
