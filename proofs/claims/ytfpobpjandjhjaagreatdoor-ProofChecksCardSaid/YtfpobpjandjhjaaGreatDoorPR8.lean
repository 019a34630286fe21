/- The reference's Mod, Bound and Check. Conditions: none. -/
import Derived.Test.YtfpobpjandjhjaaGreatDoorPXX
import Derived.Test.YtfpobpjandjhjaaGreatDoorPG2
open Bool renaming true_and->J0,false_and->J1,not_true->J2
namespace Go.Proofs.YtfpobpjandjhjaaGreatDoor
open Go Pw
section
variable {w w' w0:World}{s0 s1 s2 s5 t5 ns:Sl}{p:Pr}{f T:List Int}{N:List Nd}{pts bnd dn dd:Int}
theorem q2s {n m:Int}{K:Int->World->Prop}(h0:0<m)(h1:m<2^62)(hK:∀ r,0<=r->r<m->K r w):z2k_sh n m K w:=by
 have a1:=Int.tmod_lt_of_pos n h0
 have a2:=Int.lt_tmod_of_pos n h0
 refine⟨⟨by omega,q01,by omega,hK _ (Int.tmod_nonneg _ (by omega)) (Int.tmod_lt_of_pos _ h0)⟩⟩
theorem qeb {K:Int->World->Prop}(hP:PV w s0 s1 s2 p)(hT:VI w t5 T)(hTl:T.length<2^63)(hN:NV w ns N)(hK:∀ w',Fr F0 w w'->K (chkP p T pts bnd N) w'):z1u_sh s0 s1 s2 p.most p.budget t5 pts bnd ns K w:=by
 refine⟨?_⟩
 intro w1
 have m:Mem w w1 _:=Mem.nil.allocL
 intro w2
 have m:Mem w w2 [(w1.heap.size,rsC t5 pts bnd ns),(w.heap.size,prC s0 s1 s2 p.most p.budget)]:=m.allocL
 refine⟨s0,m.ld 1,s1,m.ld 1,s2,m.ld 1,_,m.ld 1,_,m.ld 1,q47 (hP.fr m.1) fun w8 hf8=>?_⟩
 have m:=m.fr hf8
 cases hr:q0g p with
 | false =>
  have hk:=hK w8 m.1
  unfold chkP at hk
  rw[hr] at hk
  exact hk
 | true =>
 have hno:∀ {u},Fr F0 w u->(q21 p T && (decide (q1r p T=pts) && (decide (bnd=pts) && q5m p N T)))=false->K 41 u:=fun {u} hu h=>by
  have hk:=hK u hu
  unfold chkP at hk
  rw[hr,h] at hk
  exact hk
 have hyes:∀ {u},Fr F0 w u->(q21 p T && (decide (q1r p T=pts) && (decide (bnd=pts) && q5m p N T)))=true->K 0 u:=fun {u} hu h=>by
  have hk:=hK u hu
  unfold chkP at hk
  rw[hr,h] at hk
  exact hk
 show cnd (!true) _ _
 rw[J2,q0h]
 have hPF:∀ {u},Fr F0 w u->PF u s0 s1 s2 t5 p T:=fun hu=>⟨hP.fr hu,hT.fr hu,hTl⟩
 refine⟨s0,m.ld 1,s1,m.ld 1,s2,m.ld 1,_,m.ld 1,_,m.ld 1,t5,m.ld 0,q20 (hPF m.1) fun w16 hf16=>?_⟩
 have m:=m.fr hf16
 rw[hr,J0]
 intro w18
 have m:Mem w w18 _:=m.drew
 refine⟨fun u=>Rs u [(w1.heap.size,rsC t5 pts bnd ns),(w.heap.size,prC s0 s1 s2 p.most p.budget)],m.sub 0,?_⟩
 cases hpt:q21 p T with
 | false=>exact hno m.1 (by rw[hpt,J1])
 | true =>
 rw[hpt,J0] at hno hyes
 show cnd (!true) _ _
 rw[J2,q0h]
 refine⟨s0,fun _ h=>h.ld 1,s1,fun _ h=>h.ld 1,s2,fun _ h=>h.ld 1,_,fun _ h=>h.ld 1,_,fun _ h=>h.ld 1,t5,fun _ h=>h.ld 0,_,fun _ h=>h.ld 0,q5j (hPF m.1) fun w27 hf27=>?_⟩
 have m:=m.fr hf27
 have e:q5y p (q0g p) (q3s p T) T=q1r p T:=by
  unfold q5y
  rw[hr,q3y hpt]
  rfl
 rw[e]
 refine⟨m.sub 0,q0u.2 ⟨fun hne=>hno m.1 (by rw[decide_eq_false hne,J1]),fun heq=>⟨_,fun _ h=>h.ld 0,_,fun _ h=>h.ld 0,q0u.2 ⟨fun hne=>hno m.1 (by rw[decide_eq_false hne,J1,Bool.and_false]),fun heq2=>?_⟩⟩⟩⟩
 rw[decide_eq_true heq,decide_eq_true heq2,J0,J0] at hno hyes
 refine⟨s0,m.ld 1,s1,m.ld 1,s2,m.ld 1,_,m.ld 1,_,m.ld 1,t5,m.ld 0,_,m.ld 0,_,m.ld 0,ns,m.ld 0,qgh (hP.fr m.1) (hT.fr m.1) hTl (hN.fr m.1) fun w40 hf40=>q02.2 ⟨fun hn=>hno (m.1.t hf40) (by simpa using hn),fun hy=>hyes (m.1.t hf40) (by simpa using hy)⟩⟩
end
end Go.Proofs.YtfpobpjandjhjaaGreatDoor
