/- Clauses: which use which, and facts of changes: plain. Conditions: none. -/
import Derived.Test.YtipjnbbfnlfmjaaGreatDoorDP1
open List renaming isPrefixOf_iff_prefix->J0,mem_flatMap->J1,mem_map->J2,mem_cons->J3,mem_append->J4,isPrefixOf->J5,append_cancel_left->J6,mem_singleton->J7,range->J8,mem_filter->J9
namespace Dp
open Go Pw
section
variable {t a b:Td}{c o u:B}
theorem q39 (h:c∈q02 t):c=q0n\/(∃ l∈t.lots,c=lotC l.1)\/(∃ x∈t.crit,c=q0t x.name)\/(∃ k,k<t.reqs.length/\c=reqC k)\/c∈q35:=by
 rcases q28.1 h with h | h
 ·unfold q8x at h
  rcases J3.1 h with h | h
  ·exact .inl h
  rcases J4.1 h with h | h
  ·obtain⟨l,hl,rfl⟩:=J2.1 h
   exact .inr (.inl ⟨l,hl,rfl⟩)
  rcases J4.1 h with h | h
  ·obtain⟨l,hl,rfl⟩:=J2.1 h
   exact .inr (.inr (.inl ⟨l,hl,rfl⟩))
  ·obtain⟨k,hk,rfl⟩:=J2.1 h
   exact .inr (.inr (.inr (.inl ⟨k,by simpa using hk,rfl⟩)))
 ·exact .inr (.inr (.inr (.inr h)))
theorem qch:q1b.isPrefixOf c=true ↔ c=q0t (c.drop 10):=by
 rw[J0]
 constructor
 ·rintro⟨r,rfl⟩
  rfl
 ·intro h
  rw[h]
  exact⟨_,rfl⟩
theorem qci {n m:B}(h:q0t n=q0t m):n=m:=J6 h
theorem qh8 (n:B):(q0t n).drop 10=n:=rfl
theorem q76 {j k:Nat}(hj:j<2^62)(hk:k<2^62)(h:reqC j=reqC k):j=k:=by
 have h:=J6 h
 have h1:=q3v (n:=(j:Int)+1) (by omega) (by omega)
 have h2:=q3v (n:=(k:Int)+1) (by omega) (by omega)
 rw[h,h2] at h1
 injection h1 with h1
 omega
theorem qiy {k:Nat}:∀ w∈[q0n,q0y,q2t,q2u,q1v,q0f,q0o,q16],reqC k≠w:=by
 intro w hw e
 have h1:∀ w∈[q0n,q0y,q2t,q2u,q1v,q0f,q0o,q16],(32:UInt8) ∉ w:=by decide
 exact h1 w hw (e ▸ J4.2 (.inl (by decide)))
theorem noreq (h:wReq.isPrefixOf c=false)(k:Nat):c≠reqC k:=fun e=>by
 subst e
 have:wReq.isPrefixOf (reqC k)=true:=J0.2 ⟨_,rfl⟩
 rw[this] at h
 cases h
theorem qe2 (h:wReq.isPrefixOf c=false):((J8 t.reqs.length).filter (fun k=>decide (c=reqC k))).map (fun k=>q0t ((t.reqs[k]?.map (·.name)).getD []))=[]:=by
 have:(J8 t.reqs.length).filter (fun k=>decide (c=reqC k))=[]:=List.filter_eq_nil_iff.2 fun k _=>by simpa using noreq h k
 rw[this]
 rfl
theorem qmk {k:Nat}(hk:k<t.reqs.length)(hl:t.reqs.length<2^62):(J8 t.reqs.length).find? (fun j=>decide (reqC k=reqC j))=some k:=by
 rw[List.find?_range_eq_some]
 refine⟨by simp,by simpa using hk,fun j hj=>?_⟩
 have:¬reqC k=reqC j:=fun e=>by
  have:=q76 (by omega) (by omega) e
  omega
 simp[this]
theorem q6g {k:Nat}(hk:k<t.reqs.length)(hl:t.reqs.length<2^62):reqF t (reqC k)=some t.reqs[k]:=by
 unfold reqF
 rw[qmk hk hl]
 simp[hk]
def q5k (t:Td)(c o:B):Bool :=
 if wReq.isPrefixOf c then q1b.isPrefixOf o && decide (((reqF t c).map (·.name)).getD []=o.drop 10)
 else if c=q2t then (if o=q0y then decide (q1m∈t.fm.namesR) || decide (wLow∈t.fm.namesR) else q1b.isPrefixOf o && decide (o.drop 10∈t.fm.namesR))
 else if c=q2u then (if o=q0y then decide (q1m∈t.ties) else q1b.isPrefixOf o && decide (o.drop 10∈t.ties))
 else if c=q1v then wLot.isPrefixOf o
 else if c=q0o then wLot.isPrefixOf o || decide (o=q0f)
 else if c=q0f then t.combos.any (fun l=>l.any fun id=>decide (lotC id=o))
 else false
theorem qfu {N:List B}:(q1b.isPrefixOf o && decide (o.drop 10∈N))=true ↔ ∃ n∈N,o=q0t n:=by
 simp only[Bool.and_eq_true,decide_eq_true_eq,qch]
 constructor
 ·rintro⟨h,h'⟩
  exact⟨_,h',h⟩
 ·rintro⟨n,hn,rfl⟩
  exact⟨rfl,hn⟩
theorem qiz (ho:o∈q02 t):wLot.isPrefixOf o=true ↔ o∈t.lots.map (fun l=>lotC l.1):=by
 constructor
 ·intro h
  rcases q39 ho with rfl | ⟨l,hl,rfl⟩ | ⟨x,_,rfl⟩ | ⟨k,_,rfl⟩ | hf
  ·exact absurd h (by decide)
  ·exact J2.2 ⟨l,hl,rfl⟩
  ·exact absurd h (by simp[q0t,wLot,q1b,J5])
  ·exact absurd h (by simp[reqC,wLot,wReq,J5])
  ·have:∀ o∈q35,wLot.isPrefixOf o=false:=by decide
   rw[this o hf] at h
   cases h
 ·intro h
  obtain⟨l,_,rfl⟩:=J2.1 h
  exact J0.2 ⟨_,rfl⟩
theorem q5l (n:B):q0y≠q0t n:=by simp[q0t,q0y,q1b]
theorem qp8 (hl:t.reqs.length<2^62)(hc:c∈q02 t)(ho:o∈q02 t):q5k t c o=decide (o∈qix t c):=by
 rw[Bool.eq_iff_iff,decide_eq_true_eq]
 by_cases hr:wReq.isPrefixOf c=true
 ·obtain⟨k,hk,rfl⟩:∃ k,k<t.reqs.length/\c=reqC k:=by
   rcases q39 hc with rfl | ⟨l,hl,rfl⟩ | ⟨x,_,rfl⟩ | h | hf
   ·exact absurd hr (by decide)
   ·exact absurd hr (by simp[lotC,wLot,wReq,J5])
   ·exact absurd hr (by simp[q0t,wReq,q1b,J5])
   ·exact h
   ·have:∀ o∈q35,wReq.isPrefixOf o=false:=by decide
    rw[this c hf] at hr
    cases hr
  have hn:=qiy (k:=k)
  have hw:qix t (reqC k)=((J8 t.reqs.length).filter (fun j=>decide (reqC k=reqC j))).map (fun j=>q0t ((t.reqs[j]?.map (·.name)).getD [])):=by
   unfold qix
   rw[if_neg (hn _ (by decide)),if_neg (hn _ (by decide)),if_neg (hn _ (by decide)),if_neg (hn _ (by decide)),if_neg (hn _ (by decide)),List.append_nil]
  unfold q5k
  rw[if_pos hr,hw,q6g hk hl]
  simp only[Option.map_some,Option.getD_some,Bool.and_eq_true,decide_eq_true_eq,qch,J2,J9,List.mem_range]
  constructor
  ·rintro⟨h1,h2⟩
   exact⟨k,⟨hk,rfl⟩,by rw[h1,← h2]; simp[hk]⟩
  ·rintro⟨j,⟨hj,e⟩,rfl⟩
   have:=q76 (by omega) (by omega) e
   subst this
   refine⟨rfl,?_⟩
   rw[qh8]
   simp[hk]
 ·have hr:wReq.isPrefixOf c=false:=Bool.eq_false_iff.2 hr
  unfold q5k qix
  rw[qe2 hr,List.nil_append,hr]
  simp only[Bool.false_eq_true,if_false]
  split
  ·split
   ·rename_i h
    subst h
    simp only[Bool.or_eq_true,decide_eq_true_eq,J1,J3,q5l,false_or]
    constructor
    ·rintro (h | h)
     ·exact⟨_,h,by simp⟩
     ·exact⟨_,h,by simp⟩
    ·rintro⟨n,hn,h⟩
     split at h
     ·rename_i hp
      rcases hp with rfl | rfl
      ·exact .inl hn
      ·exact .inr hn
     ·cases h
   ·rename_i hne
    rw[qfu]
    simp only[J1,J3]
    constructor
    ·rintro⟨n,hn,rfl⟩
     exact⟨n,hn,.inl rfl⟩
    ·rintro⟨n,hn,h | h⟩
     ·exact⟨n,hn,h⟩
     ·split at h
      ·exact absurd (J7.1 h) hne
      ·cases h
  ·split
   ·split
    ·rename_i h
     subst h
     simp only[decide_eq_true_eq,J1,J3,q5l,false_or]
     constructor
     ·intro h
      exact⟨_,h,by simp⟩
     ·rintro⟨n,hn,h⟩
      split at h
      ·rename_i hp
       subst hp
       exact hn
      ·cases h
    ·rename_i hne
     rw[qfu]
     simp only[J1,J3]
     constructor
     ·rintro⟨n,hn,rfl⟩
      exact⟨n,hn,.inl rfl⟩
     ·rintro⟨n,hn,h | h⟩
      ·exact⟨n,hn,h⟩
      ·split at h
       ·exact absurd (J7.1 h) hne
       ·cases h
   ·split
    ·exact qiz ho
    ·split
     ·rw[Bool.or_eq_true,qiz ho,J4]
      simp
     ·split
      ·simp only[List.any_eq_true,decide_eq_true_eq,J1,J2]
      ·simp
theorem qe3:c∈q12 a b ↔ c∈both a b/\isCh a b c=true:=J9
end
