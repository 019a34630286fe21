/- proof: a right problem, a prefix. Conditions: none. -/
import Derived.Test.YtfpobpjandjhjaaGreatDoorPG1
import Derived.Test.YtfpobpjandjhjaaGreatDoorCXV
open List renaming set_cons_zero->J0,set_cons_succ->J1,mem_singleton->J2,getElem?_eq_getElem->J3,drop_eq_getElem_cons->J4,take_length->J5,getElem_mem->J6,getD_eq_getElem?_getD->J7,replicate->J8,mem_append->J9,drop_of_length_le->Ja,all_eq_false->Jb,getElem?_replicate->Jc,length_eq_zero_iff->Jd,all_eq_true->Je,take_prefix->Jf,prefix_refl->Jg,length_take->Jh,getElem?_eq_none->Ji,countP_le_length->Jj,length_map->Jk,mem_cons_self->Jl,countP_cons->Jm,map_append->Jn,sum_append->Jo,map_cons->Jp,mem_cons->Jq,all_map->Jr
open Nat renaming le_refl->Js,add_mul->Jt
open Bool renaming true_and->Ju,false_and->Jv,and_eq_false_iff->Jw,eq_false_iff->Jx,eq_iff_iff->Jy,not_true->Jz
open Array renaming getElem?_eq_some_iff->JA
namespace Pw
open Go
theorem qd5 {r:Nat}{K:Nat->Prop}(h:K r):nzm (some r) K:=h
end Pw
namespace Go.Proofs.YtfpobpjandjhjaaGreatDoor
open Go Pw
theorem q9i {α:Type}(n x:Int)(v:α):∀ l:List (Int × α),x∈(mput n v l).map (·.1) ↔ x=n\/x∈l.map (·.1)
 | []=>by simp[mput]
 | p :: l=>by
  by_cases h:p.1=n
  ·simp[mput,h]
  ·simp only[mput,h,if_false,Jp,Jq,q9i n x v l]
   constructor
   ·rintro (h | h | h)<;>simp[h]
   ·rintro (h | h | h)<;>simp[h]
theorem qbt {α:Type}(n:Int)(v:α):∀ l:List (Int × α),(mput n v l).length=if n∈l.map (·.1) then l.length else l.length+1
 | []=>by simp[mput]
 | p :: l=>by
  by_cases h:p.1=n
  ·simp[mput,h]
  ·have h':¬n=p.1:=fun e=>h e.symm
   simp only[mput,h,if_false,List.length_cons,qbt n v l,Jp,Jq,h',false_or]
   split<;>rfl
section
variable {w w' w0:World}{s s0 s1 s2 s5:Sl}{p:Pr}{f:List Int}
theorem q2a {n m:Int}{K:Bool->World->Prop}(hK:K (wiB n m) w):z3k_sh n m K w:=by
 refine⟨?_⟩
 unfold wiB at hK
 refine q00.2 ?_
 constructor
 ·intro h
  rwa [decide_eq_true (by omega:0<=n),Ju] at hK
 ·intro h
  rwa [decide_eq_false (by omega:¬0<=n),Jv] at hK
theorem qaj {l:List Int}{K:Bool->World->Prop}(hv:VI w s l)(hl:l.length<2^62)(hK:∀ w',Fr F0 w w'->K (decide l.Nodup) w'):z2v_sh s K w:=by
 refine⟨?_⟩
 intro w1
 have hf1:Fr F0 w w1:=Fr.alloc
 have hm1:Mp w1 w.heap.size .i64 []:=Mp.made w .i64
 have hlen:=hv.len
 refine⟨⟨fun i w'=>∃ (i':Nat) (m:List (Int × Value)),i=i'/\i'<=l.length/\(∀ x,x∈m.map (·.1) ↔ x∈l.take i')/\m.length<=i'/\(m.length=i' ↔ (l.take i').Nodup)/\Mp w' w.heap.size .i64 m/\Fr F0 w w',fun i _=>l.length-i.toNat,⟨0,[],rfl,by omega,fun x=>by simp,by simp,by simp,hm1,hf1⟩,?_⟩⟩
 rintro i w2 ⟨i,m,rfl,hi,hkey,hle,hnd,hm,hf⟩
 unfold z2v_b0
 refine q00.2 ?_
 constructor
 ·intro hlt
  have hlt:i<l.length:=by omega
  refine VI.ld (hv.fr hf) i rfl hlt ⟨⟨_,hm⟩,?_⟩
  intro w3
  have hf3:Fr F0 w w3:=qi2 hf (Js _)
  have hm3:=hm.set l[i] (.bool true)
  have hm3:Mp w3 w.heap.size .i64 _:=hm3
  have ht:l.take (i+1)=l.take i++[l[i]]:=q08 hlt
  have hn1:(l.take (i+1)).Nodup ↔ (l.take i).Nodup/\l[i] ∉ l.take i:=by
   rw[ht,List.nodup_append]
   constructor
   ·rintro⟨h1,_,h3⟩
    exact⟨h1,fun h=>h3 _ h _ (J2.2 rfl) rfl⟩
   ·rintro⟨h1,h2⟩
    refine⟨h1,by simp,fun a ha b hb=>?_⟩
    rw[J2] at hb
    subst hb
    rintro rfl
    exact h2 ha
  have hlenm:=qbt l[i] (Value.bool true) m
  refine⟨q01,⟨⟨rfl,rfl,rfl,rfl,trivial⟩,i+1,_,by omega,by omega,fun x=>?_,?_,?_,hm3,hf3⟩,by dsimp only; omega⟩
  ·rw[q9i,hkey,ht,J9,J2]
   exact Or.comm
  ·rw[hlenm]; split<;>omega
  ·rw[hlenm,hn1]
   split
   ·rename_i h
    rw[hkey] at h
    exact⟨fun h'=>by omega,fun h'=>absurd h h'.2⟩
   ·rename_i h
    rw[hkey] at h
    rw[← hnd]
    exact⟨fun h'=>⟨by omega,h⟩,fun h'=>by omega⟩
 ·intro hge
  have:i=l.length:=by omega
  subst this
  refine⟨m.length,hm.len,?_⟩
  rw[J5] at hnd
  have hk:=hK w2 hf
  rwa [show decide l.Nodup=((m.length:Int) == (s.l:Int)) from by
   rw[Jy,decide_eq_true_eq,beq_iff_eq,← hnd]
   omega] at hk
def LM (w:World)(lb mb:Nat)(l:List Int):Prop :=
 Row w lb [.map (some mb)]/\∃ m:List (Int × Bool),Mp w mb .i64 (m.map fun q=>(q.1,.bool q.2))/\∀ x,q10 false x m=decide (x∈l)
theorem LM.fr {lb mb:Nat}{l:List Int}(h:LM w lb mb l)(hf:Fr F0 w w'):LM w' lb mb l :=
 ⟨hf.row h.1 fun h=>h,let ⟨m,h1,h2⟩:=h.2; ⟨m,Mp.fr h1 hf,h2⟩⟩
theorem LM.get {lb mb:Nat}{l:List Int}{n:Int}{K:Bool->Prop}(h:LM w lb mb l)(hK:K (decide (n∈l))) :
  nzm (some mb) fun m=>∃ l3:List (Int × Bool),Mp w m .i64 (l3.map fun q=>(q.1,.bool q.2))/\K (q10 false n l3):=by
 obtain⟨m,h1,h2⟩:=h.2
 exact qd5 ⟨m,h1,by rw[h2]; exact hK⟩
theorem qin {lb mb:Nat}{dc:List (De × Sl)}{K:Bool->World->Prop}(hd:VD w s dc)(hd1:∀ x∈dc,VI w x.2 x.1.lots/\x.1.lots.length<2^40)(hl:dc.length<2^40)(hm:LM w lb mb p.lots)
  (hF:∀ w',Fr F0 w w'->(∃ x∈dc,deB p x.1=false)->K false w') (hT:∀ w',Fr F0 w w'->(∀ x∈dc,deB p x.1=true)->K true w'):z3u_l2 ⟨lb,0,none⟩ s s.l 0 K w:=by
 have hlen:=hd.len
 refine⟨⟨fun i w'=>∃ i':Nat,i=i'/\i'<=dc.length/\Fr F0 w w'/\∀ x∈dc.take i',deB p x.1=true,fun i _=>dc.length-i.toNat,⟨0,rfl,by omega,Fr.refl,by simp⟩,?_⟩⟩
 rintro i w1 ⟨i,rfl,hi,hf,hin⟩
 unfold z3u_b2
 refine q00.2<|⟨fun hlt=>?_,fun hge=>?_⟩
 ·have hlt:i<dc.length:=by omega
  have hmem:dc[i]∈dc:=J6 hlt
  obtain⟨hxv,hxl⟩:=hd1 _ hmem
  refine VD.ld (hd.fr hf) i rfl hlt fun a hc=>?_
  obtain⟨c0,c1,c2⟩:=hc w1 Fr.refl
  refine⟨_,c0,_,c1,_,c2,?_⟩
  have hbad:deB p dc[i].1=false->∀ w',Fr F0 w1 w'->K false w':=fun h w' hw=>hF w' (hf.t hw) ⟨_,hmem,h⟩
  refine q19 (w0:=w1) (l:=[]) rfl Mem.nil fun w4 m=>?_
  have el:=hxv.len
  refine⟨dc[i].2,m.ld 0,q09.2 ?_⟩
  refine⟨fun h=>hbad ?_ _ m.1,fun h=>⟨dc[i].2,m.ld 0,qaj (hxv.fr (hf.t m.1)) (by omega) fun w5 hf5=>?_⟩⟩
  ·have:dc[i].1.lots.length=0:=by omega
   unfold deB
   rw[this]
   rfl
  have m:=m.fr hf5
  have hne:0<dc[i].1.lots.length:=by omega
  refine q02.2 ⟨fun h=>hbad ?_ _ m.1,fun h=>⟨_,m.ld 0,q2a ?_⟩⟩
  ·have h':decide dc[i].1.lots.Nodup=false:=by simpa using h
   unfold deB
   rw[h']
   simp
  have hnd:decide dc[i].1.lots.Nodup=true:=by simpa using h
  refine q02.2 ⟨fun h=>hbad ?_ _ m.1,fun h=>⟨dc[i].2,m.ld 0,?_⟩⟩
  ·have h':wiB dc[i].1.off 1000000000=false:=by simpa using h
   unfold deB
   rw[h']
   simp
  have hwi:wiB dc[i].1.off 1000000000=true:=by simpa using h
  refine q3u (f:=fnv (idOf z3a_ok) [lb]) (t:=fun n=>!decide (n∈p.lots)) (hxv.fr (hf.t m.1)) (by omega) (fun n _ w6 hw6 K6 hK6=>?_) fun w6 hf6=>?_
  ·refine q18 z3a_ok ⟨?_⟩
   have hm6:=hm.fr ((hf.t m.1).t hw6)
   exact⟨some mb,hm6.1.at,LM.get (K:=fun b=>K6 (.bool (!b)) w6) hm6 (hK6 w6 Fr.refl)⟩
  ·refine q02.2 ⟨fun h=>hbad ?_ _ (m.1.t hf6),fun h=>⟨q01,⟨⟨rfl,rfl,rfl,trivial⟩,i+1,by omega,by omega,hf.t (m.1.t hf6),?_⟩,by dsimp only; omega⟩⟩
   ·have:dc[i].1.lots.all (fun x=>decide (x∈p.lots))=false:=by
     rw[← q2j,h]; rfl
    unfold deB
    rw[this]
    simp
   ·rw[q08 hlt]
    intro z hz
    rcases J9.1 hz with hz | hz
    ·exact hin z hz
    ·rw[J2] at hz
     subst hz
     have:dc[i].1.lots.all (fun x=>decide (x∈p.lots))=true:=by
      rw[← q2j,h]; rfl
     unfold deB
     rw[this,hnd,hwi]
     simp[hne]
 ·have:i=dc.length:=by omega
  subst this
  rw[J5] at hin
  exact hT w1 hf hin
theorem qio {pb lb mb:Nat}{K:Bool->World->Prop}(h:PV w s0 s1 s2 p)(hr:Row w pb (prC s0 s1 s2 p.most p.budget))(hm:LM w lb mb p.lots)
  (hF:∀ w',Fr F0 w w'->p.ch.all (chB p)=false\/p.de.all (deB p)=false->K false w') (hT:∀ w',Fr F0 w w'->p.ch.all (chB p)=true->p.de.all (deB p)=true->K true w'):z3u_l1 ⟨pb,0,none⟩ ⟨lb,0,none⟩ s1 s1.l 0 K w:=by
 have l1:=h.l1
 have e1:=h.ch.len
 refine⟨⟨fun i w'=>∃ i':Nat,i=i'/\i'<=p.ch.length/\Fr F0 w w'/\∀ c∈p.ch.take i',chB p c=true,fun i _=>p.ch.length-i.toNat,⟨0,rfl,by omega,Fr.refl,by simp⟩,?_⟩⟩
 rintro i w1 ⟨i,rfl,hi,hf,hin⟩
 unfold z3u_b1
 refine q00.2<|⟨fun hlt=>?_,fun hge=>?_⟩
 ·have hlt:i<p.ch.length:=by omega
  have hmem:p.ch[i]∈p.ch:=J6 hlt
  refine VC.ld (h.ch.fr hf) i rfl hlt fun a hc=>?_
  obtain⟨c0,c1,c2,c3⟩:=hc w1 Fr.refl
  refine⟨_,c0,_,c1,_,c2,_,c3,?_⟩
  have hbad:chB p p.ch[i]=false->∀ w',Fr F0 w1 w'->K false w':=fun h w' hw=>hF w' (hf.t hw) (.inl (Jb.2 ⟨_,hmem,by simp[h]⟩))
  refine q19 (w0:=w1) (l:=[]) rfl Mem.nil fun w4 m=>?_
  have hm4:=hm.fr (hf.t m.1)
  refine⟨some mb,hm4.1.at,_,m.ld 0,LM.get (K:=fun b=>cnd (!b) _ _) hm4 ?_⟩
  refine q02.2 ⟨fun h=>hbad ?_ _ m.1,fun h=>⟨_,m.ld 0,q2a ?_⟩⟩
  ·have h':decide (p.ch[i].lot∈p.lots)=false:=by simpa using h
   unfold chB
   rw[h']; rfl
  have h1:decide (p.ch[i].lot∈p.lots)=true:=by simpa using h
  refine q02.2 ⟨fun h=>hbad ?_ _ m.1,fun h=>⟨_,m.ld 0,q2a ?_⟩⟩
  ·have h':wiB p.ch[i].price 1000000000=false:=by simpa using h
   unfold chB
   rw[h']; simp
  have h2:wiB p.ch[i].price 1000000000=true:=by simpa using h
  refine q02.2 ⟨fun h=>hbad ?_ _ m.1,fun h=>⟨q01,⟨⟨rfl,rfl,rfl,rfl,trivial⟩,i+1,by omega,by omega,hf.t m.1,?_⟩,by dsimp only; omega⟩⟩
  ·have h':wiB p.ch[i].pts 1000000=false:=by simpa using h
   unfold chB
   rw[h']; simp
  have h3:wiB p.ch[i].pts 1000000=true:=by simpa using h
  rw[q08 hlt]
  intro z hz
  rcases J9.1 hz with hz | hz
  ·exact hin z hz
  ·rw[J2] at hz
   subst hz
   unfold chB
   rw[h1,h2,h3]; rfl
 ·have:i=p.ch.length:=by omega
  subst this
  rw[J5] at hin
  obtain⟨dc,hd,hdm,hdx⟩:=h.de
  have l2:=h.l2
  have e3:dc.length=p.de.length:=by rw[← hdm,Jk]
  refine⟨s2,(hf.row hr fun h=>h).at rfl,qin (hd.fr hf) (fun x hx=>⟨(hdx x hx).1.fr hf,(hdx x hx).2⟩) (by omega) (hm.fr hf) (fun w' hw hh=>hF w' (hf.t hw) (.inr ?_)) fun w' hw hh=>hT w' (hf.t hw) (Je.2 hin) ?_⟩
  ·obtain⟨x,hx,he⟩:=hh
   rw[← hdm,Jr]
   exact Jb.2 ⟨x,hx,by simp[he]⟩
  ·rw[← hdm,Jr]
   exact Je.2 hh
theorem qip (h:¬q03 p):q0g p=false:=by
 cases hb:q0g p with
 | false=>rfl
 | true=>exact absurd (q0f.1 hb) h
theorem q9j {K:Bool->World->Prop}(h:PV w s0 s1 s2 p)(hK:∀ w',Fr F0 w w'->K (q0g p) w'):z3u_sh s0 s1 s2 p.most p.budget K w:=by
 refine⟨?_⟩
 have l0:=h.l0; have l1:=h.l1; have l2:=h.l2
 have e0:=h.lots.len; have e1:=h.ch.len
 obtain⟨dc,hdv,hdm,hds⟩:=h.de
 have e2:=hdv.len
 have e3:dc.length=p.de.length:=by rw[← hdm,Jk]
 have hno:∀ w',Fr F0 w w'->¬q03 p->K false w':=fun w' hw hn=>by
  have:=hK w' hw
  rwa [qip hn] at this
 intro w1
 have m:Mem w w1 [(w.heap.size,prC s0 s1 s2 p.most p.budget)]:=Mem.nil.alloc
 refine⟨s0,m.ld 0,q01,q2a ?_⟩
 refine q02.2 ⟨fun hc=>hno _ m.1 fun hr=>?_,fun hc=>?_⟩
 ·have:=hr.some; have:=hr.few
  have:wiB ((s0.l:Int)-1) 11=true:=q2k.2 ⟨by omega,by omega⟩
  rw[this] at hc
  cases hc
 have g0:Wi ((s0.l:Int)-1) 11:=q2k.1 (by simpa using hc)
 refine⟨s0,m.ld 0,qaj (h.fr m.1).lots (by omega) fun w2 hf2=>?_⟩
 have m:=m.fr hf2
 refine q02.2 ⟨fun hc=>hno _ m.1 fun hr=>?_,fun hc=>⟨s1,m.ld 0,?_⟩⟩
 ·rw[decide_eq_true hr.diff] at hc
  cases hc
 have g1:p.lots.Nodup:=by simpa using hc
 refine q00.2<|⟨fun hc=>hno _ m.1 fun hr=>?_,fun hc=>⟨s2,m.ld 0,?_⟩⟩
 ·have:=hr.chs; omega
 have g2:p.ch.length<=480:=by omega
 refine q00.2<|⟨fun hc=>hno _ m.1 fun hr=>?_,fun hc=>⟨_,m.ld 0,q2a ?_⟩⟩
 ·have:=hr.des; omega
 have g3:p.de.length<=100:=by omega
 refine q02.2 ⟨fun hc=>hno _ m.1 fun hr=>?_,fun hc=>⟨_,m.ld 0,q2a ?_⟩⟩
 ·rw[q2k.2 hr.most] at hc
  cases hc
 have g4:Wi p.most 1000000000:=q2k.1 (by simpa using hc)
 refine q02.2 ⟨fun hc=>hno _ m.1 fun hr=>?_,fun hc=>?_⟩
 ·rw[q2k.2 hr.budget] at hc
  cases hc
 have g5:Wi p.budget 1000000000:=q2k.1 (by simpa using hc)
 have hwlt:w.heap.size<w2.heap.size:=(m.2.1 _ (J2.2 rfl)).lt
 intro w3
 have hf3:Fr F0 w2 w3:=Fr.alloc
 have hm3:Mp w3 w2.heap.size .i64 []:=Mp.made w2 .i64
 have hsz3:w3.heap.size=w2.heap.size+1:=by simp[w3]
 have m3:=m.fr hf3
 intro w4
 have m4:Mem w w4 [(w3.heap.size,[.map none]),(w.heap.size,prC s0 s1 s2 p.most p.budget)]:=m3.alloc
 have hf4:Fr F0 w3 w4:=Fr.alloc
 refine⟨m4.wr 0,?_⟩
 intro w5
 have m5:Mem w w5 [(w3.heap.size,[.map (some w2.heap.size)]),(w.heap.size,prC s0 s1 s2 p.most p.budget)]:=m4.set 0
 have hf5:Fr (fun b=>b=w3.heap.size) w4 w5:=Fr.set rfl
 have hm5:Mp w5 w2.heap.size .i64 []:=by
  have hm4:=Mp.fr hm3 hf4
  obtain⟨es,clock,h1,h2⟩:=hm4
  refine⟨es,clock,?_,h2⟩
  rw[hf5.2.1 _ (JA.1 h1).1 (by omega)]
  exact h1
 refine⟨s0,m5.ld 1,?_⟩
 have hwf:∀ {w'},Fr (fun b=>b=w2.heap.size) w5 w'->Fr F0 w w':=fun {w'} hf=>m5.1.trans hf fun b hb hlt=>by omega
 refine⟨⟨fun i w'=>∃ (i':Nat) (l:List (Int × Bool)),i=i'/\i'<=p.lots.length/\Mp w' w2.heap.size .i64 (l.map fun q=>(q.1,.bool q.2))/\(∀ x,q10 false x l=decide (x∈p.lots.take i'))/\Fr (fun b=>b=w2.heap.size) w5 w',fun i _=>p.lots.length-i.toNat,
  ⟨0,[],rfl,by omega,hm5,fun x=>by simp[q10],Fr.refl⟩,?_⟩⟩
 rintro i w6 ⟨i,l,rfl,hi,hmp,hget,hf6⟩
 unfold z3u_b0
 have hr6:Row w6 w.heap.size (prC s0 s1 s2 p.most p.budget):=hf6.row (m5.2.1 _ (List.mem_cons_of_mem _ (J2.2 rfl))) (by omega)
 have hl6:Row w6 w3.heap.size [.map (some w2.heap.size)]:=hf6.row (m5.2.1 _ (Jl ..)) (by omega)
 refine q00.2<|⟨fun hlt=>?_,fun hge=>?_⟩
 ·have hlt:i<p.lots.length:=by omega
  refine VI.ld (h.fr (hwf hf6)).lots i rfl hlt ⟨_,hl6.at,qd5 ⟨⟨_,hmp⟩,?_⟩⟩
  intro w7
  have hf7:Fr (fun b=>b=w2.heap.size) w6 w7:=q6o
  have hmp7:=hmp.set p.lots[i] (.bool true)
  rw[q41 Value.bool] at hmp7
  have hmp7:Mp w7 w2.heap.size .i64 _:=hmp7
  refine⟨q01,⟨⟨rfl,rfl,rfl,rfl,trivial⟩,i+1,_,by omega,by omega,hmp7,fun x=>?_,hf6.trans hf7 fun _ h _=>h⟩,by dsimp only; omega⟩
  have hiff:x∈p.lots.take (i+1) ↔ x∈p.lots.take i\/x=p.lots[i]:=by
   rw[q08 hlt,J9,J2]
  rw[q45,hget]
  by_cases h:x=p.lots[i]
  ·rw[if_pos h,decide_eq_true (hiff.2 (.inr h))]
  ·rw[if_neg h]
   exact decide_eq_decide.2 ⟨fun hh=>hiff.2 (.inl hh),fun hh=>(hiff.1 hh).resolve_right h⟩
 ·have:i=p.lots.length:=by omega
  subst this
  rw[J5] at hget
  have hw6:=hwf hf6
  refine⟨s1,hr6.at,qio (h.fr hw6) hr6 ⟨hl6,l,hmp,hget⟩ (fun w' hw hh=>hno w' (hw6.t hw) fun hr=>?_) fun w' hw h1 h2=>?_⟩
  ·have hb:=q0f.2 hr
   unfold q0g at hb
   rcases hh with hh | hh
   ·rw[hh] at hb; simp at hb
   ·rw[hh] at hb; simp at hb
  ·have:=hK w' (hw6.t hw)
   rwa [show q0g p=true from by
    unfold q0g
    rw[h1,h2,q2k.2 g4,q2k.2 g5,decide_eq_true g1,decide_eq_true g2,decide_eq_true g3,decide_eq_true (by have:=g0.1; omega:0<p.lots.length),decide_eq_true (by have:=g0.2; omega:p.lots.length<=12)]
    rfl] at this
theorem q7s {K:Bool->World->Prop}(h:PF w s0 s1 s2 s5 p f)(hK:∀ w',Fr F0 w w'->K (q4f p p.lots f) w'):z3j_sh s0 s1 s2 p.most p.budget s5 K w:=by
 refine⟨?_⟩
 have l0:=h.pv.l0; have l1:=h.pv.l1; have l5:=h.lt
 have e0:=h.pv.lots.len; have e1:=h.pv.ch.len; have e5:=h.tk.len
 intro w1
 have hf1:Fr F0 w w1:=Fr.alloc
 have hr:Row w1 w.heap.size (prC s0 s1 s2 p.most p.budget):=Row.new
 refine⟨s0,hr.at,q00.2 ?_⟩
 refine⟨fun hc=>?_,fun hc=>?_⟩
 ·have:=hK w1 hf1
  rwa [show q4f p p.lots f=false from Jx.2 fun hb=>by have:=q1n (q1b.1 hb); omega] at this
 have hlen:f.length<=p.lots.length:=by omega
 have hbad:∀ {i:Nat} (hi:i<f.length),¬Dec p (p.lots[i]'(by omega)) f[i]->∀ w',Fr F0 w w'->K false w':=fun {i} hi hnd w' hf=>by
  have:=hK w' hf
  rwa [show q4f p p.lots f=false from Jx.2 fun hb=>hnd ((q39 (q1b.1 hb) hi).2)] at this
 refine⟨⟨fun i w'=>∃ i':Nat,i=i'/\i'<=f.length/\(∀ j lot n,j<i'->p.lots[j]?=some lot->f[j]?=some n->Dec p lot n)/\Fr F0 w1 w',fun i _=>f.length-i.toNat,⟨0,rfl,by omega,fun j lot n hj=>by omega,Fr.refl⟩,?_⟩⟩
 rintro i w2 ⟨i,rfl,hi,hall,hf2⟩
 unfold z3j_b0
 refine q00.2<|⟨fun hlt=>?_,fun hge=>?_⟩
 ·have hlt:i<f.length:=by omega
  have hltl:i<p.lots.length:=by omega
  refine VI.ld (h.tk.fr (hf1.t hf2)) i rfl hlt ?_
  intro w3
  have hf3:Fr F0 w1 w3:=hf2.t Fr.drew
  have hr3:=hf3.row hr fun h=>h
  have h3:=h.fr (hf1.t hf3)
  have hb:=hbad hlt
  refine q00.2<|⟨fun hc=>hb (fun hd=>?_) w3 (hf1.t hf3),fun hc=>?_⟩
  ·rcases hd with hd | ⟨c,hd,_⟩
   ·omega
   ·have:=(q1i hd).1; omega
  refine⟨s1,hr3.at,q00.2 ?_⟩
  refine⟨fun hc=>hb (fun hd=>?_) w3 (hf1.t hf3),fun hc2=>?_⟩
  ·rcases hd with hd | ⟨c,hd,_⟩
   ·omega
   ·obtain⟨_,hx,_⟩:=q1i hd; omega
  have hnext:∀ (hd:Dec p p.lots[i] f[i]),inR .i64 ((i:Int)+1)/\((((⟨w.heap.size,0,none⟩:Addr)=⟨w.heap.size,0,none⟩/\s5=s5/\(s5.l:Int)=s5.l/\True)/\∃ i':Nat,(i:Int)+1=i'/\i'<=f.length/\(∀ j lot n,j<i'->p.lots[j]?=some lot->f[j]?=some n->Dec p lot n)/\Fr F0 w1 w3)/\f.length-((i:Int)+1).toNat<f.length-(i:Int).toNat):=fun hd =>
   ⟨q01,⟨⟨rfl,rfl,rfl,trivial⟩,i+1,by omega,by omega,q9s (by omega) hlt hall hd,hf3⟩,by omega⟩
  refine q00.2<|⟨fun hpos=>?_,fun hneg=>hnext (.inl (by omega))⟩
  have hix:f[i].toNat<p.ch.length:=by omega
  refine⟨s1,hr3.at,VC.ld h3.pv.ch f[i].toNat (by omega) hix fun a hc=>⟨_,(hc w3 Fr.refl).1,s0,hr3.at,VI.ld h3.pv.lots i rfl hltl ?_⟩⟩
  refine q0u.2<|⟨fun hne=>hb (fun hd=>?_) w3 (hf1.t hf3),fun he=>hnext (.inr ⟨_,q2n (by omega) hix,he⟩)⟩
  rcases hd with hd | ⟨c,hd,hl⟩
  ·omega
  ·obtain⟨_,_,hx⟩:=q1i hd
   rw[← hx] at hl
   exact hne hl
 ·have:i=f.length:=by omega
  subst this
  have:=hK w2 (hf1.t hf2)
  rwa [q1b.2 ((q57 (by omega)).2 fun j lot n h1 h2=>hall j lot n (List.getElem?_eq_some_iff.1 h2).1 h1 h2)] at this
end
open Go Pw
section
variable {w w' w0:World}{s s0 s1 s2 s5:Sl}{p:Pr}{f:List Int}
def PM (w:World)(mb:Nat)(p:Pr):Prop:=∃ l:List (Int × Int),Mp w mb .i64 (l.map fun q=>(q.1,.int .i64 q.2))/\∀ x∈p.lots,q10 0 x l=(p.lots.idxOf x:Int)
theorem PM.fr {mb:Nat}(h:PM w mb p)(hf:Fr F0 w w'):PM w' mb p:=let ⟨l,h1,h2⟩:=h; ⟨l,Mp.fr h1 hf,h2⟩
theorem qki {pb mb db i:Nat}{x:Sl}{d:De}{sum:Int}{t:Sl}{tl:Int}{N1:Sl->Addr->Nat->Int->Sl->Int->Int->World->Prop}{K:Int->World->Prop}(h:PF w s0 s1 s2 s5 p f)(hd:Decs p p.lots f)(hr:Row w pb (prC s0 s1 s2 p.most p.budget))(hm:PM w mb p)
  (hdr:Row w db (encD (d,x))) (hx:VI w x d.lots) (hxl:d.lots.length<2^40) (hin:∀ y∈d.lots,y∈p.lots) (hi:i<100)
  (hno:∀ w',Fr F0 w w'->d.lots.all (may p f d.bid)=false->N1 s5 ⟨pb,0,none⟩ mb sum t tl ((i:Int)+1) w')
  (hyes:∀ w',Fr F0 w w'->d.lots.all (may p f d.bid)=true->inR .i64 (sum+d.off)/\N1 s5 ⟨pb,0,none⟩ mb (sum+d.off) t tl ((i:Int)+1) w') :
  z45_l2 s5 ⟨pb,0,none⟩ mb sum ⟨db,0,none⟩ t tl i x x.l 0 N1 K w:=by
 have el:=hx.len
 have l0:=h.pv.l0; have l1:=h.pv.l1; have l5:=h.lt
 have e1:=h.pv.ch.len; have e5:=h.tk.len
 refine⟨⟨fun k w'=>∃ k':Nat,k=k'/\k'<=d.lots.length/\Fr F0 w w'/\∀ y∈d.lots.take k',may p f d.bid y=true,fun k _=>d.lots.length-k.toNat,⟨0,rfl,by omega,Fr.refl,by simp⟩,?_⟩⟩
 rintro k w1 ⟨k,rfl,hk,hf,hall⟩
 unfold z45_b2
 refine q00.2<|⟨fun hlt=>?_,fun hge=>?_⟩
 ·have hlt:k<d.lots.length:=by omega
  refine VI.ld (hx.fr hf) k rfl hlt ?_
  intro w2
  have m:Mem w1 w2 [(w1.heap.size,[.int .i64 0])]:=Mem.nil.alloc
  refine⟨m.wr 0,?_⟩
  intro w3
  have m:Mem w1 w3 [(w1.heap.size,[.int .i64 d.lots[k]])]:=m.set 0
  have hf3:=hf.t m.1
  have hl:d.lots[k]∈p.lots:=hin _ (J6 hlt)
  have hix:p.lots.idxOf d.lots[k]<p.lots.length:=List.idxOf_lt_length_of_mem hl
  obtain⟨l,hl1,hl2⟩:=hm.fr hf3
  refine⟨_,m.ld 0,l,hl1,?_⟩
  rw[hl2 _ hl]
  have hbad:∀ w',Fr F0 w w'->may p f d.bid d.lots[k]=false->inR .i64 ((i:Int)+1)/\N1 s5 ⟨pb,0,none⟩ mb sum t tl ((i:Int)+1) w':=fun w' hw hh=>⟨q01,hno w' hw (Jb.2 ⟨_,J6 hlt,by simp[hh]⟩)⟩
  have hgood:∀ w',Fr F0 w w'->may p f d.bid d.lots[k]=true->inR .i64 ((k:Int)+1)/\(((s5=s5/\(⟨pb,0,none⟩:Addr)=⟨pb,0,none⟩/\mb=mb/\sum=sum/\(⟨db,0,none⟩:Addr)=⟨db,0,none⟩/\t=t/\tl=tl/\(i:Int)=i/\x=x/\(x.l:Int)=x.l/\True)/\∃ k':Nat,(k:Int)+1=k'/\k'<=d.lots.length/\Fr F0 w w'/\∀ y∈d.lots.take k',may p f d.bid y=true)/\d.lots.length-((k:Int)+1).toNat<d.lots.length-(k:Int).toNat):=fun w' hw hh =>
   ⟨q01,⟨⟨rfl,rfl,rfl,rfl,rfl,rfl,rfl,rfl,rfl,rfl,trivial⟩,k+1,by omega,by omega,hw,fun y hy=>by
    rw[q08 hlt] at hy
    rcases J9.1 hy with hy | hy
    ·exact hall y hy
    ·rw[J2] at hy
     rw[hy]; exact hh⟩,by omega⟩
  refine q00.2<|⟨fun hlf=>?_,fun hge=>?_⟩
  ·have hlf:p.lots.idxOf d.lots[k]<f.length:=by omega
   have hmay:may p f d.bid d.lots[k]=(match chAt p f[p.lots.idxOf d.lots[k]] with | some c=>c.bid == d.bid | none=>false):=by
    unfold may
    rw[J3 hlf]
    rfl
   intro w4
   have hf4:Fr F0 w w4:=hf3.t Fr.drew
   have h4:=h.fr hf4
   refine VI.ld h4.tk (p.lots.idxOf d.lots[k]) rfl hlf<|q00.2<|⟨fun hneg=>hbad w4 hf4 (by rw[hmay,q24 (by omega)]),fun hpos=>?_⟩
   obtain⟨_,hdi⟩:=q39 hd hlf
   rcases hdi with hdi | ⟨c,hdi,_⟩
   ·omega
   obtain⟨_,hcx,hce⟩:=q1i hdi
   rw[hdi] at hmay
   refine⟨s1,(hf4.row hr fun h=>h).at rfl,VI.ld h4.tk (p.lots.idxOf d.lots[k]) rfl hlf ?_⟩
   refine VC.ld h4.pv.ch f[p.lots.idxOf d.lots[k]].toNat (by omega) hcx fun a hc=>⟨_,(hc w4 Fr.refl).2.1,_,(hf4.row hdr fun h=>h).at rfl,?_⟩
   rw[hce]; refine q0u.2 ?_
   refine⟨fun hne=>hbad w4 hf4 (by rw[hmay]; simpa using hne),fun he=>hgood w4 hf4 (by rw[hmay]; simpa using he)⟩
  ·have hmay:may p f d.bid d.lots[k]=p.ch.any (fun c=>c.lot == d.lots[k] && c.bid == d.bid):=by
    unfold may
    rw[Ji (by omega)]
   refine⟨s1,(hf3.row hr fun h=>h).at rfl,q2d (f:=fnv (idOf z3h_ok) [w1.heap.size,db]) (t:=fun c=>c.lot == d.lots[k] && c.bid == d.bid) (h.fr hf3).pv.ch (by omega) (fun c _ w5 hw5 K5 hK5=>?_) fun w5 hf5=>?_⟩
   ·refine q18 z3h_ok ⟨?_⟩
    intro w6
    have hf6:Fr F0 w5 w6:=Fr.alloc
    have hm6:Row w6 w5.heap.size (encC c):=Row.new
    have m6:=m.fr (hw5.t hf6)
    refine⟨_,hm6.at,_,m6.ld 0,?_⟩
    have hK6:K5 (.bool (c.lot == d.lots[k] && c.bid == d.bid)) w6:=hK5 w6 hf6
    exact q27 (K:=fun b=>K5 (.bool b) w6) hK6 fun _ hK7=>⟨_,hm6.at,_,((hf3.t (hw5.t hf6)).row hdr fun h=>h).at rfl,hK7⟩
   ·refine q02.2 ⟨fun hn=>hbad w5 (hf3.t hf5) (by rw[hmay]; simpa using hn),fun hy=>hgood w5 (hf3.t hf5) (by rw[hmay]; simpa using hy)⟩
 ·have:k=d.lots.length:=by omega
  subst this
  rw[J5] at hall
  obtain⟨h1,h2⟩:=hyes w1 hf (Je.2 hall)
  exact⟨_,(hf.row hdr fun h=>h).at rfl,h1,q01,h2⟩
theorem qkj {pb mb:Nat}{K:Int->World->Prop}(hp:q03 p)(h:PF w s0 s1 s2 s5 p f)(hd:Decs p p.lots f)(hr:Row w pb (prC s0 s1 s2 p.most p.budget))(hm:PM w mb p)(hK:∀ w',Fr F0 w w'->K (offs p f) w') :
  z45_l1 s5 ⟨pb,0,none⟩ mb 0 s2 s2.l 0 K w:=by
 have l2:=h.pv.l2
 obtain⟨dc,hdv,hdm,hds⟩:=h.pv.de
 have e2:=hdv.len
 have e3:dc.length=p.de.length:=by rw[← hdm,Jk]
 have hdes:=hp.des
 refine⟨⟨fun sum i w'=>∃ i':Nat,i=i'/\i'<=dc.length/\sum=((p.de.take i').map (q2z p f)).sum/\Fr F0 w w',fun _ i _=>dc.length-i.toNat,⟨0,rfl,by omega,by simp,Fr.refl⟩,?_⟩⟩
 rintro sum i w2 ⟨i,rfl,hi,rfl,hf2⟩
 unfold z45_b1
 refine q00.2<|⟨fun hlt=>?_,fun hge=>?_⟩
 ·have hlt:i<dc.length:=by omega
  have hx:=J6 hlt
  obtain⟨hdl,hd40⟩:=hds _ hx
  have hdi:p.de[i]'(by omega)=dc[i].1:=by simp[← hdm]
  have hde:=hp.de dc[i].1 (by rw[← hdm]; exact List.mem_map_of_mem hx)
  have hts:p.de.take (i+1)=p.de.take i++[dc[i].1]:=by rw[q08 (by omega),hdi]
  have hsum:((p.de.take (i+1)).map (q2z p f)).sum=((p.de.take i).map (q2z p f)).sum+q2z p f dc[i].1:=by rw[hts]; simp
  have hb1:=q1a (f:=f) hp (Jf i p.de)
  have hb2:=q1a (f:=f) hp (Jf (i+1) p.de)
  have hoff:q2z p f dc[i].1=if dc[i].1.lots.all (may p f dc[i].1.bid) then dc[i].1.off else 0:=rfl
  refine VD.ld (hdv.fr hf2) i rfl hlt fun a hc=>?_
  obtain⟨c0,c1,c2⟩:=hc w2 Fr.refl
  refine⟨_,c0,_,c1,_,c2,q19 rfl Mem.nil fun w3 m3=>?_⟩
  have hf3:=m3.1
  have hr3:Row w3 w2.heap.size (encD dc[i]):=m3.2.1 _ (J2.2 rfl)
  have hf13:=hf2.t hf3
  refine⟨dc[i].2,hr3.at,qki (d:=dc[i].1) (x:=dc[i].2) (h.fr hf13) hd (hf13.row hr fun h=>h) (hm.fr hf13) hr3 (hdl.fr hf13) hd40 hde.2.2.1 (by omega) (fun w4 hf4 hh=>?_) fun w4 hf4 hh=>?_⟩
  ·rw[if_neg (Jx.1 hh)] at hoff
   exact⟨⟨⟨rfl,rfl,rfl,rfl,rfl,trivial⟩,i+1,by omega,by omega,by rw[hsum,hoff,Int.add_zero],hf13.t hf4⟩,by dsimp only; omega⟩
  ·rw[if_pos hh] at hoff
   exact⟨q01,⟨⟨rfl,rfl,rfl,rfl,rfl,trivial⟩,i+1,by omega,by omega,by rw[hsum,hoff],hf13.t hf4⟩,by dsimp only; omega⟩
 ·have:i=p.de.length:=by omega
  subst this
  have:=hK w2 hf2
  unfold offs at this
  rwa [J5]
theorem qak {K:Int->World->Prop}(hp:q03 p)(h:PF w s0 s1 s2 s5 p f)(hd:Decs p p.lots f)(hK:∀ w',Fr F0 w w'->K (offs p f) w'):z45_sh s0 s1 s2 p.most p.budget s5 K w:=by
 refine⟨?_⟩
 have l0:=h.pv.l0
 have e0:=h.pv.lots.len
 intro w1
 have m:Mem w w1 [(w.heap.size,prC s0 s1 s2 p.most p.budget)]:=Mem.nil.alloc
 intro w2
 have hf2:Fr F0 w1 w2:=Fr.alloc
 have hm2:Mp w2 w1.heap.size .i64 []:=Mp.made w1 .i64
 have m2:=m.fr hf2
 have hwlt:w.heap.size<w1.heap.size:=(m.2.1 _ (J2.2 rfl)).lt
 have hr2:Row w2 w.heap.size (prC s0 s1 s2 p.most p.budget):=m2.2.1 _ (J2.2 rfl)
 have hwf:∀ {w'},Fr (fun b=>b=w1.heap.size) w2 w'->Fr F0 w w':=fun {w'} hf=>m2.1.trans hf fun b hb hlt=>by omega
 refine⟨s0,hr2.at,?_⟩
 refine⟨⟨fun i w'=>∃ (i':Nat) (l:List (Int × Int)),i=i'/\i'<=p.lots.length/\Mp w' w1.heap.size .i64 (l.map fun q=>(q.1,.int .i64 q.2))/\(∀ x∈p.lots.take i',q10 0 x l=(p.lots.idxOf x:Int))/\Fr (fun b=>b=w1.heap.size) w2 w',fun i _=>p.lots.length-i.toNat,
  ⟨0,[],rfl,by omega,hm2,fun x hx=>by simp at hx,Fr.refl⟩,?_⟩⟩
 rintro i w6 ⟨i,l,rfl,hi,hmp,hget,hf6⟩
 unfold z45_b0
 have hr6:Row w6 w.heap.size (prC s0 s1 s2 p.most p.budget):=hf6.row hr2 (by omega)
 refine q00.2<|⟨fun hlt=>?_,fun hge=>?_⟩
 ·have hlt:i<p.lots.length:=by omega
  refine VI.ld (h.fr (hwf hf6)).pv.lots i rfl hlt ⟨⟨_,hmp⟩,?_⟩
  intro w7
  have hf7:Fr (fun b=>b=w1.heap.size) w6 w7:=q6o
  have hmp7:=hmp.set p.lots[i] (.int .i64 i)
  rw[q41 (Value.int .i64)] at hmp7
  have hmp7:Mp w7 w1.heap.size .i64 _:=hmp7
  refine⟨q01,⟨⟨rfl,rfl,rfl,rfl,rfl,trivial⟩,i+1,_,by omega,by omega,hmp7,fun x hx=>?_,hf6.trans hf7 fun _ h _=>h⟩,by dsimp only; omega⟩
  rw[q45]
  split
  ·rename_i hxe
   rw[hxe,hp.diff.idxOf_getElem]
  ·rename_i hxe
   rw[q08 hlt,J9,J2] at hx
   exact hget x (hx.resolve_right hxe)
 ·have:i=p.lots.length:=by omega
  subst this
  rw[J5] at hget
  have hw6:=hwf hf6
  exact⟨s2,hr6.at,qkj hp (h.fr hw6) hd hr6 ⟨l,hmp,hget⟩ fun w' hw=>hK w' (hw6.t hw)⟩
theorem pts_bound (hp:q03 p)(hd:Decs p p.lots f):0<=q1r p f/\q1r p f<=12000000:=by
 have:=q6k hp (·.pts) 1000000 (fun c hc=>(hp.ch c hc).2.2) hd (by decide) (Jg (took p f))
 exact⟨this.1,by have:=this.2; unfold q1r; omega⟩
theorem qbu {i:Nat}(hif:i<f.length):q1r p (f.take (i+1))=q1r p (f.take i)+(match chAt p f[i] with | some c=>c.pts | none=>0):=by
 unfold q1r
 rw[q3a hif,Jn,Jo]
 cases chAt p f[i]<;>simp
theorem q7f {K:Int->World->Prop}(hp:q03 p)(h:PF w s0 s1 s2 s5 p f)(hd:Decs p p.lots f)(hK:∀ w',Fr F0 w w'->K (q0i p f) w'):z46_sh s0 s1 s2 p.most p.budget s5 K w:=by
 have el:=h.tk.len
 have hl12:=q1h hp hd
 have e1:=h.pv.ch.len
 refine⟨?_⟩
 intro w1
 have m:Mem w w1 [(w.heap.size,prC s0 s1 s2 p.most p.budget)]:=Mem.nil.alloc
 have hpr:=m.row 0
 refine⟨⟨fun out i w'=>∃ i':Nat,i=i'/\i'<=f.length/\out=q1x p (f.take i')/\Fr F0 w1 w',fun _ i _=>f.length-i.toNat,⟨0,rfl,by omega,by simp[q1x,took],Fr.refl⟩,?_⟩⟩
 rintro out i w2 ⟨i,rfl,hi,rfl,hf⟩
 unfold z46_b0
 have hb1:=q3t hp (q2e _ f i hd)
 have hb2:=q3t hp (q2e _ f (i+1) hd)
 have h2:=h.fr (m.1.t hf)
 have hp2:=hf.row hpr fun h=>h
 refine q00.2<|⟨fun hlt=>?_,fun hge=>?_⟩
 ·have hif:i<f.length:=by omega
  obtain⟨_,hdec⟩:=q39 hd hif
  have hts:q1x p (f.take (i+1))=q1x p (f.take i)+(match chAt p f[i] with | some c=>c.price | none=>0):=by
   unfold q1x
   rw[q3a hif,Jn,Jo]
   cases chAt p f[i]<;>simp
  refine VI.ld h2.tk i rfl hif<|q00.2<|⟨fun h0=>?_,fun h0=>?_⟩
  ·have hci:f[i].toNat<p.ch.length:=qd1 hd hif (by omega)
   rw[q2n (by omega) hci] at hts
   simp only at hts
   refine⟨s1,hp2.at,VC.ld h2.pv.ch f[i].toNat (by omega) hci fun a hc=>?_⟩
   obtain⟨_,_,c2,_⟩:=hc w2 Fr.refl
   exact⟨_,c2,q01,q01,⟨⟨rfl,rfl,rfl,rfl,trivial⟩,i+1,by omega,by omega,hts.symm,hf⟩,by dsimp only; omega⟩
  ·rw[q24 (by omega)] at hts
   simp only at hts
   exact⟨q01,⟨⟨rfl,rfl,rfl,rfl,trivial⟩,i+1,by omega,by omega,by omega,hf⟩,by dsimp only; omega⟩
 ·have:i=f.length:=by omega
  subst this
  rw[J5] at hb1 ⊢
  refine⟨s0,hp2.at,s1,hp2.at,s2,hp2.at,_,hp2.at,_,hp2.at,qak hp h2 hd fun w4 hf4=>?_⟩
  have ho:=q1a (f:=f) hp (Jg p.de)
  have ho:0<=offs p f/\offs p f<=100000000000:=ho
  have hk:=hK w4 ((m.1.t hf).t hf4)
  unfold q0i at hk
  exact⟨q01,hk⟩
theorem q7t {K:Int->World->Prop}(hp:q03 p)(h:PF w s0 s1 s2 s5 p f)(hd:Decs p p.lots f)(hK:∀ w',Fr F0 w w'->K (q1r p f) w'):z3i_sh s0 s1 s2 p.most p.budget s5 K w:=by
 have el:=h.tk.len
 have hl12:=q1h hp hd
 have e1:=h.pv.ch.len
 refine⟨?_⟩
 intro w1
 have m:Mem w w1 [(w.heap.size,prC s0 s1 s2 p.most p.budget)]:=Mem.nil.alloc
 have hpr:=m.row 0
 refine⟨⟨fun out i w'=>∃ i':Nat,i=i'/\i'<=f.length/\out=q1r p (f.take i')/\Fr F0 w1 w',fun _ i _=>f.length-i.toNat,⟨0,rfl,by omega,by simp[q1r,took],Fr.refl⟩,?_⟩⟩
 rintro out i w2 ⟨i,rfl,hi,rfl,hf⟩
 unfold z3i_b0
 have hb1:=pts_bound hp (q2e _ f i hd)
 have hb2:=pts_bound hp (q2e _ f (i+1) hd)
 have h2:=h.fr (m.1.t hf)
 have hp2:=hf.row hpr fun h=>h
 refine q00.2<|⟨fun hlt=>?_,fun hge=>?_⟩
 ·have hif:i<f.length:=by omega
  obtain⟨_,hdec⟩:=q39 hd hif
  have hts:=qbu (p:=p) hif
  refine VI.ld h2.tk i rfl hif<|q00.2<|⟨fun h0=>?_,fun h0=>?_⟩
  ·have hci:f[i].toNat<p.ch.length:=qd1 hd hif (by omega)
   rw[q2n (by omega) hci] at hts
   simp only at hts
   refine⟨s1,hp2.at,VC.ld h2.pv.ch f[i].toNat (by omega) hci fun a hc=>?_⟩
   obtain⟨_,_,_,c3⟩:=hc w2 Fr.refl
   exact⟨_,c3,q01,q01,⟨⟨rfl,rfl,rfl,trivial⟩,i+1,by omega,by omega,hts.symm,hf⟩,by dsimp only; omega⟩
  ·rw[q24 (by omega)] at hts
   simp only at hts
   exact⟨q01,⟨⟨rfl,rfl,rfl,trivial⟩,i+1,by omega,by omega,by omega,hf⟩,by dsimp only; omega⟩
 ·have:i=f.length:=by omega
  subst this
  rw[J5]
  exact hK w2 (m.1.t hf)
theorem q6v {K:Bool->World->Prop}(hp:q03 p)(h:PF w s0 s1 s2 s5 p f)(hd:Decs p p.lots f)(hK:∀ w',Fr F0 w w'->K (q2c p f) w'):z39_sh s0 s1 s2 p.most p.budget s5 K w:=by
 have el:=h.tk.len
 have hl12:=q1h hp hd
 have e1:=h.pv.ch.len
 have hmost:=hp.most
 have ⟨hm0,hm1⟩:0<=p.most/\p.most<=1000000000:=hmost
 refine⟨?_⟩
 intro w1
 have m:Mem w w1 [(w.heap.size,prC s0 s1 s2 p.most p.budget)]:=Mem.nil.alloc
 clear_value w1
 intro w2
 have hf2:Fr F0 w1 w2:=Fr.alloc
 have hm2:Mp w2 w1.heap.size .i64 []:=Mp.made w1 .i64
 clear_value w2
 have m2:=m.fr hf2
 have hwlt:w.heap.size<w1.heap.size:=(m.2.1 _ (J2.2 rfl)).lt
 have hr2:Row w2 w.heap.size (prC s0 s1 s2 p.most p.budget):=m2.2.1 _ (J2.2 rfl)
 have hwf:∀ {w'},Fr (fun b=>b=w1.heap.size) w2 w'->Fr F0 w w':=fun {w'} hf=>m2.1.trans hf fun b hb hlt=>by omega
 refine⟨⟨fun i w'=>∃ (i':Nat) (l:List (Int × Int)),i=i'/\i'<=f.length/\Mp w' w1.heap.size .i64 (l.map fun q=>(q.1,.int .i64 q.2))/\(∀ b,q10 0 b l=cntL (took p (f.take i')) b)/\(0<p.most->∀ b,cntL (took p (f.take i')) b<=p.most)/\Fr (fun b=>b=w1.heap.size) w2 w',fun i _=>f.length-i.toNat,
  ⟨0,[],rfl,by omega,hm2,fun b=>by simp[q10,cntL,took],fun h0 b=>by simp[cntL,took]; omega,Fr.refl⟩,?_⟩⟩
 rintro i w4 ⟨i,l,rfl,hi,hmp,hget,hcnt,hf4⟩
 unfold z39_b0
 have h4:=h.fr (hwf hf4)
 have hr4:Row w4 w.heap.size (prC s0 s1 s2 p.most p.budget):=hf4.row hr2 (by omega)
 refine q00.2<|⟨fun hlt=>?_,fun hge=>?_⟩
 ·have hif:i<f.length:=by omega
  have hts:=q3a (p:=p) hif
  refine VI.ld h4.tk i rfl hif<|q00.2 ?_
  refine⟨fun h0=>?_,fun h0=>?_⟩
  ·have hci:f[i].toNat<p.ch.length:=qd1 hd hif (by omega)
   rw[q2n (by omega) hci] at hts
   simp only at hts
   have hc1:∀ b,cntL (took p (f.take (i+1))) b=cntL (took p (f.take i)) b+if p.ch[f[i].toNat].bid=b then 1 else 0:=by
    intro b
    unfold cntL
    rw[hts,List.countP_append,Jm,List.countP_nil]
    by_cases hb:p.ch[f[i].toNat].bid=b
    ·simp[hb]
    ·simp[hb]
   have hle:∀ b,cntL (took p (f.take i)) b<=12:=by
    intro b
    unfold cntL
    have h1:=Jj (p:=fun c:Ch=>c.bid == b) (l:=took p (f.take i))
    have h2:=q44 (p:=p) (f.take i)
    rw[Jh] at h2
    omega
   have hle0:∀ b,0<=cntL (took p (f.take i)) b:=fun b=>by unfold cntL; omega
   refine⟨s1,hr4.at,VC.ld h4.pv.ch f[i].toNat (by omega) hci fun a hc=>?_⟩
   obtain⟨_,c1,_,_⟩:=hc w4 Fr.refl
   refine⟨_,c1,l,hmp,?_⟩
   rw[hget]
   have hxb:=hle p.ch[f[i].toNat].bid
   have hxb0:=hle0 p.ch[f[i].toNat].bid
   refine⟨q01,⟨_,hmp⟩,?_⟩
   intro w6
   have hf6:Fr (fun b=>b=w1.heap.size) w4 w6:=q6o
   have hmp6:=hmp.set p.ch[f[i].toNat].bid (.int .i64 (cntL (took p (f.take i)) p.ch[f[i].toNat].bid+1))
   rw[q41 (Value.int .i64)] at hmp6
   have hmp6:Mp w6 w1.heap.size .i64 _:=hmp6
   clear_value w6
   intro w7
   have hf7:Fr F0 w6 w7:=Fr.drew
   clear_value w7
   have hmp7:=Mp.fr hmp6 hf7
   have hf27:Fr (fun b=>b=w1.heap.size) w2 w7:=(hf4.trans hf6 fun _ h _=>h).trans hf7 fun _ h _=>h.elim
   have hget7:∀ b,q10 0 b (mput p.ch[f[i].toNat].bid (cntL (took p (f.take i)) p.ch[f[i].toNat].bid+1) l)=cntL (took p (f.take (i+1))) b:=by
    intro b
    rw[q45,hget,hc1]
    by_cases hb:b=p.ch[f[i].toNat].bid
    ·subst hb; rw[if_pos rfl,if_pos rfl]
    ·rw[if_neg hb,if_neg (Ne.symm hb),Int.add_zero]
   have hnext:(0<p.most->∀ b,cntL (took p (f.take (i+1))) b<=p.most)->inR .i64 ((i:Int)+1)/\((((⟨w.heap.size,0,none⟩:Addr)=⟨w.heap.size,0,none⟩/\w1.heap.size=w1.heap.size/\s5=s5/\(s5.l:Int)=s5.l/\True) /\
     ∃ (i':Nat) (l:List (Int × Int)),(i:Int)+1=i'/\i'<=f.length/\Mp w7 w1.heap.size .i64 (l.map fun q=>(q.1,.int .i64 q.2))/\(∀ b,q10 0 b l=cntL (took p (f.take i')) b)/\(0<p.most->∀ b,cntL (took p (f.take i')) b<=p.most)/\Fr (fun b=>b=w1.heap.size) w2 w7) /\
     f.length-((i:Int)+1).toNat<f.length-(i:Int).toNat):=fun hq =>
    ⟨q01,⟨⟨rfl,rfl,rfl,rfl,trivial⟩,i+1,_,by omega,by omega,hmp7,hget7,hq,hf27⟩,by omega⟩
   have hr7:Row w7 w.heap.size (prC s0 s1 s2 p.most p.budget):=hf27.row hr2 (by omega)
   have h7:=h.fr (hwf hf27)
   have hS:Row w7 w.heap.size (prC s0 s1 s2 p.most p.budget)/\VC w7 s1 p.ch:=⟨hr7,h7.pv.ch⟩
   refine⟨fun u=>Row u w.heap.size (prC s0 s1 s2 p.most p.budget)/\VC u s1 p.ch,hS,_,fun u hu=>hu.1.at,?_⟩
   refine q0u.2 ?_
   refine⟨fun hne=>⟨s1,fun u hu=>hu.1.at,?_⟩,fun h0=>hnext fun h1=>by omega⟩
   obtain⟨ad,had,_⟩:=h7.pv.ch.at (fun a=>q2h a) (J3 hci) (by decide)
   refine q0b.2 ⟨ad,had,⟨by omega,by omega⟩,p.ch[f[i].toNat].bid,fun u hu=>?_,_,fun u hu=>hu.1.at,_,hmp7,hS,?_⟩
   ·obtain⟨ad',had',hc'⟩:=hu.2.at (fun a=>q2h a) (J3 hci) (by decide)
    rw[had] at had'
    cases had'
    exact hc' 1 _ rfl
   rw[hget7,q00]
   refine⟨fun hgt=>?_,fun hle'=>hnext fun h1 b=>?_⟩
   ·have hk:=hK w7 (hwf hf27)
    rwa [q12.2 ⟨by omega,p.ch[f[i].toNat].bid,by
     have h1:took p (f.take (i+1)) <+: took p f:=by
      unfold took
      exact(Jf (i+1) f).filterMap _
     have h2:=h1.sublist.countP_le (p:=fun c:Ch=>c.bid == p.ch[f[i].toNat].bid)
     unfold cntL at hgt
     omega⟩] at hk
   ·by_cases hb:p.ch[f[i].toNat].bid=b
    ·subst hb; omega
    ·have:=hc1 b
     rw[if_neg hb] at this
     have:=hcnt h1 b
     omega
  ·rw[q24 (by omega)] at hts
   simp only[List.append_nil] at hts
   refine⟨q01,⟨⟨rfl,rfl,rfl,rfl,trivial⟩,i+1,l,by omega,by omega,hmp,?_,?_,hf4⟩,by dsimp only; omega⟩
   ·rw[hts]; exact hget
   ·rw[hts]; exact hcnt
 ·have:i=f.length:=by omega
  subst this
  rw[J5] at hcnt
  have hk:=hK w4 (hwf hf4)
  rwa [show q2c p f=false from Jx.2 fun hb=>by
   obtain⟨h0,b,hb⟩:=q12.1 hb
   have:=hcnt h0 b
   unfold cntL at this
   omega] at hk
theorem q9k {K:Bool->World->Prop}(hp:q03 p)(h:PF w s0 s1 s2 s5 p f)(hK:∀ w',Fr F0 w w'->K (q21 p f) w'):z2w_sh s0 s1 s2 p.most p.budget s5 K w:=by
 have e0:=h.pv.lots.len
 have el:=h.tk.len
 refine⟨?_⟩
 intro w1
 have m:Mem w w1 [(w.heap.size,prC s0 s1 s2 p.most p.budget)]:=Mem.nil.alloc
 intro w2
 have m:Mem w w2 _:=m.drew
 refine⟨fun u=>Row u w.heap.size (prC s0 s1 s2 p.most p.budget),m.row 0,s0,fun u hu=>hu.at,q09.2 ?_⟩
 unfold q21 q3s at hK
 refine⟨fun he=>?_,fun hne=>?_⟩
 ·rw[decide_eq_true (by omega:f.length=p.lots.length),Ju] at hK
  refine⟨s0,fun u hu=>hu.at,s1,fun u hu=>hu.at,s2,fun u hu=>hu.at,_,fun u hu=>hu.at,_,fun u hu=>hu.at,q7s (h.fr m.1) fun w3 hf=>?_⟩
  have m:=m.fr hf
  refine⟨m.row 0,q02.2 ⟨fun hd=>?_,fun hn=>?_⟩⟩
  ·have hdd:=q1b.1 hd
   rw[hd,Ju] at hK
   refine⟨s0,fun u hu=>hu.at,s1,fun u hu=>hu.at,s2,fun u hu=>hu.at,_,fun u hu=>hu.at,_,fun u hu=>hu.at,_,fun u hu=>hu.at,q7f hp (h.fr m.1) hdd fun w4 hf=>?_⟩
   have m:=m.fr hf
   refine⟨m.row 0,q00.2 ?_⟩
   refine⟨fun hle=>?_,fun hgt=>?_⟩
   ·rw[decide_eq_true hle,Ju] at hK
    refine⟨s0,fun u hu=>hu.at,s1,fun u hu=>hu.at,s2,fun u hu=>hu.at,_,fun u hu=>hu.at,_,fun u hu=>hu.at,q6v hp (h.fr m.1) hdd fun w5 hf=>?_⟩
    have m:=m.fr hf
    exact⟨m.row 0,hK w5 m.1⟩
   ·rw[decide_eq_false hgt,Jv] at hK
    exact hK w4 m.1
  ·have hk:=hK w3 m.1
   rwa [hn,Jv] at hk
 ·have hk:=hK w2 m.1
  rwa [decide_eq_false (by omega:¬f.length=p.lots.length),Jv,Jv] at hk
theorem q9l {K:Int->World->Prop}(hp:q03 p)(h:PF w s0 s1 s2 s5 p f)(hd:Decs p p.lots f)(hK:∀ w',Fr F0 w w'->K (q14 p f) w'):z3w_sh s0 s1 s2 p.most p.budget s5 K w:=by
 have hbu:=hp.budget
 have ⟨b1,b2⟩:0<=p.budget/\p.budget<=1000000000:=hbu
 obtain⟨q1,q2,q3,q4⟩:=q5t hp hd
 refine⟨?_⟩
 intro w1
 have m:Mem w w1 [(w.heap.size,prC s0 s1 s2 p.most p.budget)]:=Mem.nil.alloc
 intro w2
 have m:Mem w w2 _:=m.drew
 refine⟨fun u=>Row u w.heap.size (prC s0 s1 s2 p.most p.budget),m.row 0,s0,fun u hu=>hu.at,s1,fun u hu=>hu.at,s2,fun u hu=>hu.at,_,fun u hu=>hu.at,_,fun u hu=>hu.at,_,fun u hu=>hu.at,q01,s0,fun u hu=>hu.at,s1,fun u hu=>hu.at,s2,fun u hu=>hu.at,_,fun u hu=>hu.at,_,fun u hu=>hu.at,q7t hp (h.fr m.1) hd fun w15 hf=>?_⟩
 have m:=m.fr hf
 refine⟨m.row 0,q01,q7f hp (h.fr m.1) hd fun w17 hf=>?_⟩
 have m:=m.fr hf
 have hk:=hK w17 m.1
 unfold q14 at hk q3 q4
 exact⟨m.row 0,q01,hk⟩
end
open Go Pw
theorem qiq {n d:Int}(h:q04 n d)(hn:I64 n)(hd:I64 d):mulQ n d 1 1=⟨n,d,true⟩:=by
 unfold mulQ
 rw[if_pos ⟨h,q0k 1⟩,q5v,show val n d*((1:Int):Rat)=val n d by grind]
 unfold fitQ
 have e1:=q70 h
 have e2:=q71 h
 unfold I64 at hn hd
 rw[if_pos (by omega),e1,e2]
def rwC (n d:Int)(ok:Bool):List Value:=[.int .i64 n,.int .i64 d,.bool ok]
abbrev PL (sb db pb:Nat)(s:RR)(ok:Bool)(dn dd:Int)(C:List Value):List (Nat × List Value):=[(sb,rwC s.n s.d ok),(db,rrC dn dd),(pb,C)]
section
variable {w w' w0:World}{s0 s1 s2 s5 t1 t2:Sl}{p:Pr}{f:List Int}{bb sb db pb cb xb mb:Nat}{s st x:RR}{dn dd a1 a2 a3 lot:Int}{c:Ch}{i k:Nat}
theorem qir {n d n' d':Int}{K:Int->Int->Bool->World->Prop}(hn:I64 n)(hd:I64 d)(hn':I64 n')(hd':I64 d')
  (hK:∀ w',Fr F0 w w'->K (mulQ n d n' d').n (mulQ n d n' d').d (mulQ n d n' d').ok w'):z4e_sh n d n' d' K w:=qes hn hd hn' hd' hK
theorem q6w {n d n' d':Int}{K:Int->Int->Bool->World->Prop}(hn:I64 n)(hd:I64 d)(hn':I64 n')(hd':I64 d')
  (hK:∀ w',Fr F0 w w'->K (addQ n d n' d').n (addQ n d n' d').d (addQ n d n' d').ok w'):z4c_sh n d n' d' K w:=qer hn hd hn' hd' hK
theorem q1u {n d a b a' b':Int}{ok:Bool}{K:Int->Int->Bool->World->Prop}(hn:I64 n)(hd:I64 d)(ha:I64 a)(hb:I64 b)(ha':I64 a')(hb':I64 b')
  (hK:∀ w',Fr F0 w w'->K (q06 ⟨n,d,ok⟩ (a,b) (a',b')).n (q06 ⟨n,d,ok⟩ (a,b) (a',b')).d (q06 ⟨n,d,ok⟩ (a,b) (a',b')).ok w'):z2m_sh n d ok a b a' b' K w:=by
 have hm:=qbj a b a' b'
 have hfin:∀ {q:Bool} (w':World),Fr F0 w w'->q=(q06 ⟨n,d,ok⟩ (a,b) (a',b')).ok->K (q06 ⟨n,d,ok⟩ (a,b) (a',b')).n (q06 ⟨n,d,ok⟩ (a,b) (a',b')).d q w':=fun w' hf e=>e ▸ hK w' hf
 have m:Mem w w []:=Mem.nil
 refine⟨?_⟩
 intro w1; have m:Mem w w1 _:=m.allocL
 intro w2; have m:Mem w w2 _:=m.allocL
 intro w3; have m:Mem w w3 _:=m.allocL
 intro w4; have m:Mem w w4 _:=m.allocL
 refine⟨_,m.ld 2,⟨_,m.ld 2,⟨_,m.ld 1,⟨_,m.ld 1,?_⟩⟩⟩⟩
 refine qir ha hb ha' hb' fun w9 hf=>?_; have m:=m.fr hf
 intro w12; have m:Mem w w12 _:=m.allocL
 refine⟨m.wr 0,?_⟩
 intro w13; have m:Mem w w13 _:=m.set 0
 refine⟨m.wr 0,?_⟩
 intro w14; have m:Mem w w14 _:=m.set 0
 refine⟨_,m.ld 4,⟨_,m.ld 4,⟨_,m.ld 0,⟨_,m.ld 0,?_⟩⟩⟩⟩
 refine q6w hn hd hm.1 hm.2 fun w19 hf=>?_; have m:=m.fr hf
 intro w22; have m:Mem w w22 _:=m.allocL
 refine⟨m.wr 0,?_⟩
 intro w23; have m:Mem w w23 _:=m.set 0
 refine⟨m.wr 0,?_⟩
 intro w24; have m:Mem w w24 _:=m.set 0
 refine⟨_,m.ld 0,⟨_,m.ld 0,⟨_,m.ld 5,q02.2 ⟨fun hc1=>?_,fun hc1=>?_⟩⟩⟩⟩
 ·refine q02.2 ⟨fun hc2=>?_,fun hc2=>?_⟩
  ·refine q22 m 2 rfl rfl fun w28 m=>?_; skip
   exact⟨_,m.ld 2,⟨_,m.ld 2,⟨_,m.ld 2,hfin _ m.1 (by simp_all [q06])⟩⟩⟩
  ·refine q22 m 2 rfl rfl fun w29 m=>?_; skip
   exact⟨_,m.ld 2,⟨_,m.ld 2,⟨_,m.ld 2,hfin _ m.1 (by simp_all [q06])⟩⟩⟩
 ·refine q22 m 2 rfl rfl fun w30 m=>?_; skip
  exact⟨_,m.ld 2,⟨_,m.ld 2,⟨_,m.ld 2,hfin _ m.1 (by simp_all [q06])⟩⟩⟩
theorem qd6 {C:List Value}{q ok:Bool}{N2:Sl->Addr->Addr->Addr->Int->Int->Addr->Sl->Int->Int->Sl->Int->Int->World->Prop}{N1:Sl->Addr->Addr->Addr->Sl->Int->Int->World->Prop}{K:Int->Bool->World->Prop}
  (m:Mem w0 w ((xb,rwC x.n x.d q) :: (cb,encC c) :: (bb,rrC st.n st.d) :: PL sb db pb s ok dn dd C)) (hk:k<2^40)
  (hN:∀ w',Mem w0 w' ((bb,rrC x.n x.d) :: PL sb db pb s ok dn dd C)->N2 s5 ⟨pb,0,none⟩ ⟨db,0,none⟩ ⟨sb,0,none⟩ i lot ⟨bb,0,none⟩ t1 a1 a2 t2 a3 ((k:Int)+1) w') :
  z3t_k6 s5 ⟨pb,0,none⟩ ⟨db,0,none⟩ ⟨sb,0,none⟩ i lot ⟨bb,0,none⟩ ⟨xb,0,none⟩ t1 a1 a2 t2 a3 k N2 N1 K w:=by
 refine⟨⟨_,m.ld 0,_,m.ld 0,m.wr 2,?_⟩⟩
 intro w1; have m:Mem w0 w1 _:=m.set 2
 refine⟨m.wr 2,?_⟩
 intro w2; have m:Mem w0 w2 _:=m.set 2
 exact⟨q01,hN w2 (m.dr 2)⟩
theorem qd7 {C:List Value}{q:Bool}{N2:Sl->Addr->Addr->Addr->Int->Int->Addr->Sl->Int->Int->Sl->Int->Int->World->Prop}{N1:Sl->Addr->Addr->Addr->Sl->Int->Int->World->Prop}{K:Int->Bool->World->Prop}
  (m:Mem w0 w ((xb,rwC x.n x.d q) :: (cb,encC c) :: (bb,rrC st.n st.d) :: PL sb db pb s x.ok dn dd C)) (hk:k<2^40) (el:s5.l=f.length) (hx:I64 x.n/\I64 x.d) (hst:I64 st.n/\I64 st.d)
  (hN:∀ w' (st':RR),st'=(if i<f.length\/0<cmpQ x.n x.d st.n st.d then x else ⟨st.n,st.d,x.ok⟩)->Mem w0 w' ((bb,rrC st'.n st'.d) :: PL sb db pb s st'.ok dn dd C)->N2 s5 ⟨pb,0,none⟩ ⟨db,0,none⟩ ⟨sb,0,none⟩ i lot ⟨bb,0,none⟩ t1 a1 a2 t2 a3 ((k:Int)+1) w') :
  z3t_k5 s5 ⟨pb,0,none⟩ ⟨db,0,none⟩ ⟨sb,0,none⟩ i lot ⟨bb,0,none⟩ ⟨xb,0,none⟩ t1 a1 a2 t2 a3 k N2 N1 K w:=by
 refine⟨q00.2 ⟨fun h=>qd6 m hk fun w' m'=>hN w' x (if_pos (.inl (by omega))).symm m',fun h=>⟨_,m.ld 0,_,m.ld 0,_,m.ld 2,_,m.ld 2,qet hx.1 hx.2 hst.1 hst.2 fun w1 hf=>?_⟩⟩⟩
 have m:=m.fr hf
 refine q00.2 ⟨fun hc=>qd6 m hk fun w' m'=>hN w' x (if_pos (.inr hc)).symm m',fun hc=>⟨q01,hN w1 ⟨st.n,st.d,x.ok⟩ (if_neg ?_).symm (m.dr 2)⟩⟩
 rintro (q | q)
 ·omega
 ·exact hc q
theorem qis {C:List Value}{q ok:Bool}{N2:Sl->Addr->Addr->Addr->Int->Int->Addr->Sl->Int->Int->Sl->Int->Int->World->Prop}{N1:Sl->Addr->Addr->Addr->Sl->Int->Int->World->Prop}{K:Int->Bool->World->Prop}
  (m:Mem w0 w ((xb,rwC x.n x.d q) :: (cb,encC c) :: (bb,rrC st.n st.d) :: PL sb db pb s ok dn dd C)) (hq:x.ok=(ok && q)) (hk:k<2^40) (el:s5.l=f.length) (hx:I64 x.n/\I64 x.d) (hst:I64 st.n/\I64 st.d)
  (hN:∀ w' (st':RR),st'=(if i<f.length\/0<cmpQ x.n x.d st.n st.d then x else ⟨st.n,st.d,x.ok⟩)->Mem w0 w' ((bb,rrC st'.n st'.d) :: PL sb db pb s st'.ok dn dd C)->N2 s5 ⟨pb,0,none⟩ ⟨db,0,none⟩ ⟨sb,0,none⟩ i lot ⟨bb,0,none⟩ t1 a1 a2 t2 a3 ((k:Int)+1) w') :
  z3t_k4 s5 ⟨pb,0,none⟩ ⟨db,0,none⟩ ⟨sb,0,none⟩ i lot ⟨bb,0,none⟩ ⟨xb,0,none⟩ t1 a1 a2 t2 a3 k N2 N1 K w:=by
 refine⟨⟨_,m.ld 3,q02.2 ⟨fun hc=>⟨_,m.ld 0,m.wr 3,?_⟩,fun hc=>⟨m.wr 3,?_⟩⟩⟩⟩
 ·intro w1; have m:Mem w0 w1 _:=m.set 3
  rw[hc,Ju] at hq
  subst hq
  exact qd7 m hk el hx hst hN
 ·intro w1; have m:Mem w0 w1 _:=m.set 3
  rw[hc,Jv] at hq
  rw[← hq] at m
  exact qd7 m hk el hx hst hN
theorem qit {N2:Sl->Addr->Addr->Addr->Int->Int->Addr->Sl->Int->Int->Sl->Int->Int->World->Prop}{N1:Sl->Addr->Addr->Addr->Sl->Int->Int->World->Prop}{K:Int->Bool->World->Prop}
  (hp:q03 p) (hc:c∈p.ch) (hdn:I64 dn) (hdd:I64 dd) (hst:I64 st.n/\I64 st.d) (el:s5.l=f.length) (hk:k<2^40)
  (m:Mem w0 w ((cb,encC c) :: (bb,rrC st.n st.d) :: PL sb db pb s st.ok dn dd (prC s0 s1 s2 p.most p.budget))) (hx:x=q06 ⟨q3g p c,1,st.ok⟩ (dn,dd) (-c.price,1))
  (hN:∀ w' (st':RR),st'=(if i<f.length\/0<cmpQ x.n x.d st.n st.d then x else ⟨st.n,st.d,x.ok⟩)->Mem w0 w' ((bb,rrC st'.n st'.d) :: PL sb db pb s st'.ok dn dd (prC s0 s1 s2 p.most p.budget))->N2 s5 ⟨pb,0,none⟩ ⟨db,0,none⟩ ⟨sb,0,none⟩ i lot ⟨bb,0,none⟩ t1 a1 a2 t2 a3 ((k:Int)+1) w') :
  z3t_k3 s5 ⟨pb,0,none⟩ ⟨db,0,none⟩ ⟨sb,0,none⟩ i lot ⟨bb,0,none⟩ ⟨cb,0,none⟩ t1 a1 a2 t2 a3 k N2 N1 K w:=by
 refine⟨?_⟩
 unfold z3t_k3d
 have hb:=q4p hp hc
 have hprW:=(hp.ch c hc).2.1
 have hbu:=hp.budget
 have ⟨b1,b2⟩:0<=p.budget/\p.budget<=1000000000:=hbu
 have ⟨p1,p2⟩:0<=c.price/\c.price<=1000000000:=hprW
 have hnet:I64 (c.pts*(p.budget+1)-c.price):=⟨by omega,by omega⟩
 have hpr:I64 (-c.price):=⟨by omega,by omega⟩
 have hone:I64 1:=⟨by decide,by decide⟩
 have hxi:I64 x.n/\I64 x.d:=hx ▸ q13 _ _ _
 have fin:∀ {w' xb},Mem w0 w' ((xb,[.int .i64 (q06 ⟨c.pts*(p.budget+1)-c.price,1,true⟩ (dn,dd) (-c.price,1)).n,.int .i64 (q06 ⟨c.pts*(p.budget+1)-c.price,1,true⟩ (dn,dd) (-c.price,1)).d,.bool (q06 ⟨c.pts*(p.budget+1)-c.price,1,true⟩ (dn,dd) (-c.price,1)).ok]) :: (cb,encC c) :: (bb,rrC st.n st.d) :: PL sb db pb s st.ok dn dd (prC s0 s1 s2 p.most p.budget)) ->
   z3t_k4 s5 ⟨pb,0,none⟩ ⟨db,0,none⟩ ⟨sb,0,none⟩ i lot ⟨bb,0,none⟩ ⟨xb,0,none⟩ t1 a1 a2 t2 a3 k N2 N1 K w':=by
  intro w' xb m'
  have e1:(q06 ⟨c.pts*(p.budget+1)-c.price,1,true⟩ (dn,dd) (-c.price,1)).n=x.n:=by rw[hx]; rfl
  have e2:(q06 ⟨c.pts*(p.budget+1)-c.price,1,true⟩ (dn,dd) (-c.price,1)).d=x.d:=by rw[hx]; rfl
  have e3:x.ok=(st.ok && (q06 ⟨c.pts*(p.budget+1)-c.price,1,true⟩ (dn,dd) (-c.price,1)).ok):=by rw[hx]; simp[q06,q3g]
  rw[e1,e2] at m'
  exact qis m' e3 hk el hxi hst hN
 intro w53; have m:Mem w0 w53 _:=m.drew
 refine⟨fun u=>Rs u _,m.sub 0,⟨_,fun _ h=>h.ld 0,⟨_,fun _ h=>h.ld 4,⟨q01,⟨q01,⟨_,fun _ h=>h.ld 0,⟨q01,⟨_,fun _ h=>h.ld 3,⟨_,fun _ h=>h.ld 3,⟨_,fun _ h=>h.ld 0,⟨q01,⟨?_,?_⟩⟩⟩⟩⟩⟩⟩⟩⟩⟩⟩⟩
 ·refine q0l fun w61 hf=>?_; have m:=m.fr hf
  refine⟨m.sub 0,⟨?_,?_⟩⟩
  ·refine q0l fun w63 hf=>?_; have m:=m.fr hf
   refine⟨m.sub 0,⟨?_,?_⟩⟩
   ·refine q1u hnet hone hdn hdd hpr hone fun w65 hf=>?_; have m:=m.fr hf
    refine⟨m.sub 0,?_⟩
    intro w67; have m:Mem w0 w67 _:=m.allocL
    refine⟨m.sub 1,?_⟩
    refine q22 m 0 rfl rfl fun w68 m=>?_; skip
    exact fin m
   ·intro w69; have m:Mem w0 w69 _:=m.allocL
    refine⟨m.sub 1,?_⟩
    refine q1u hnet hone hdn hdd hpr hone fun w70 hf=>?_; have m:=m.fr hf
    refine⟨m.sub 1,?_⟩
    refine q22 m 0 rfl rfl fun w72 m=>?_; skip
    exact fin m
  ·intro w73; have m:Mem w0 w73 _:=m.allocL
   refine⟨m.sub 1,?_⟩
   refine q0l fun w74 hf=>?_; have m:=m.fr hf
   refine⟨m.sub 1,?_⟩
   refine q1u hnet hone hdn hdd hpr hone fun w76 hf=>?_; have m:=m.fr hf
   refine⟨m.sub 1,?_⟩
   refine q22 m 0 rfl rfl fun w78 m=>?_; skip
   exact fin m
 ·intro w79; have m:Mem w0 w79 _:=m.allocL
  refine⟨m.sub 1,?_⟩
  refine q0l fun w80 hf=>?_; have m:=m.fr hf
  refine⟨m.sub 1,?_⟩
  refine q0l fun w82 hf=>?_; have m:=m.fr hf
  refine⟨m.sub 1,?_⟩
  refine q1u hnet hone hdn hdd hpr hone fun w84 hf=>?_; have m:=m.fr hf
  refine⟨m.sub 1,?_⟩
  refine q22 m 0 rfl rfl fun w86 m=>?_; skip
  exact fin m
theorem qiu {N1:Sl->Addr->Addr->Addr->Sl->Int->Int->World->Prop}{K:Int->Bool->World->Prop}
  (hp:q03 p) (h:PF w0 s0 s1 s2 s5 p f) (hil:i<p.lots.length) (hdn:I64 dn) (hdd:I64 dd) (hs:I64 s.n/\I64 s.d)
  (m:Mem w0 w ((bb,rrC 0 1) :: PL sb db pb s s.ok dn dd (prC s0 s1 s2 p.most p.budget)))
  (hN:∀ w' (s':RR),s'=q4r p f (dn,dd) i p.lots[i] s->Mem w0 w' (PL sb db pb s' s'.ok dn dd (prC s0 s1 s2 p.most p.budget))->N1 s5 ⟨pb,0,none⟩ ⟨db,0,none⟩ ⟨sb,0,none⟩ t1 a1 ((i:Int)+1) w') :
  z3t_l2 s5 ⟨pb,0,none⟩ ⟨db,0,none⟩ ⟨sb,0,none⟩ i p.lots[i] ⟨bb,0,none⟩ t1 a1 i s1 s1.l 0 N1 K w:=by
 have l1:=h.pv.l1; have l5:=h.lt; have l0:=h.pv.l0
 have e1:=h.pv.ch.len; have e5:=h.tk.len
 have hzero:I64 0:=⟨by decide,by decide⟩
 have hone:I64 1:=⟨by decide,by decide⟩
 refine⟨⟨fun j w'=>∃ (j':Nat) (st:RR),j=j'/\j'<=p.ch.length/\(I64 st.n/\I64 st.d)/\q1c p f (dn,dd) i p.lots[i] j' (p.ch.drop j') st=q1c p f (dn,dd) i p.lots[i] 0 p.ch ⟨0,1,s.ok⟩/\Mem w0 w' ((bb,rrC st.n st.d) :: PL sb db pb s st.ok dn dd (prC s0 s1 s2 p.most p.budget)),fun j _=>p.ch.length-j.toNat,
  ⟨0,⟨0,1,s.ok⟩,rfl,by omega,⟨hzero,hone⟩,by simp,m⟩,?_⟩⟩
 rintro j w2 ⟨j,st,rfl,hj,hst,he,m⟩
 unfold z3t_b2
 refine q00.2 ⟨fun hlt=>?_,fun hge=>?_⟩
 ·have hlt:j<p.ch.length:=by omega
  have hcm:=J6 hlt
  rw[J4 hlt,q1c] at he
  refine VC.ld (h.fr m.1).pv.ch j rfl hlt fun a hc=>?_
  obtain⟨c0,c1,c2,c3⟩:=hc w2 Fr.refl
  refine⟨_,c0,_,c1,_,c2,_,c3,q19 rfl m fun w3 m3=>?_⟩
  have m3:Mem w0 w3 ((w2.heap.size,encC p.ch[j]) :: (bb,rrC st.n st.d) :: PL sb db pb s st.ok dn dd (prC s0 s1 s2 p.most p.budget)):=m3
  have hnext:∀ {w4:World} {st':RR},q28 p f (dn,dd) i p.lots[i] st j p.ch[j]=st'->Mem w0 w4 ((bb,rrC st'.n st'.d) :: PL sb db pb s st'.ok dn dd (prC s0 s1 s2 p.most p.budget)) ->
    (((s5=s5/\(⟨pb,0,none⟩:Addr)=⟨pb,0,none⟩/\(⟨db,0,none⟩:Addr)=⟨db,0,none⟩/\(⟨sb,0,none⟩:Addr)=⟨sb,0,none⟩/\(i:Int)=i/\p.lots[i]=p.lots[i]/\(⟨bb,0,none⟩:Addr)=⟨bb,0,none⟩/\t1=t1/\a1=a1/\(i:Int)=i/\s1=s1/\(s1.l:Int)=s1.l/\True) /\
    ∃ (j':Nat) (st:RR),(j:Int)+1=j'/\j'<=p.ch.length/\(I64 st.n/\I64 st.d)/\q1c p f (dn,dd) i p.lots[i] j' (p.ch.drop j') st=q1c p f (dn,dd) i p.lots[i] 0 p.ch ⟨0,1,s.ok⟩/\Mem w0 w4 ((bb,rrC st.n st.d) :: PL sb db pb s st.ok dn dd (prC s0 s1 s2 p.most p.budget)))/\p.ch.length-((j:Int)+1).toNat<p.ch.length-(j:Int).toNat) :=
   fun {w4 st'} hb m4=>⟨⟨⟨rfl,rfl,rfl,rfl,rfl,rfl,rfl,rfl,rfl,rfl,rfl,rfl,trivial⟩,j+1,st',by omega,by omega,hb ▸ q8z hst,by rw[← hb]; exact he,m4⟩,by omega⟩
  have h3:=h.fr m3.1
  refine⟨_,m3.ld 0,?_⟩
  have hgo:∀ {N2:Sl->Addr->Addr->Addr->Int->Int->Addr->Sl->Int->Int->Sl->Int->Int->World->Prop},(∀ w4 st',q28 p f (dn,dd) i p.lots[i] st j p.ch[j]=st'->Mem w0 w4 ((bb,rrC st'.n st'.d) :: PL sb db pb s st'.ok dn dd (prC s0 s1 s2 p.most p.budget))->N2 s5 ⟨pb,0,none⟩ ⟨db,0,none⟩ ⟨sb,0,none⟩ i p.lots[i] ⟨bb,0,none⟩ t1 a1 i s1 s1.l ((j:Int)+1) w4)->¬(p.ch[j].lot≠p.lots[i]\/(i<f.length/\f.getD i 0≠(j:Int)))->z3t_k3 s5 ⟨pb,0,none⟩ ⟨db,0,none⟩ ⟨sb,0,none⟩ i p.lots[i] ⟨bb,0,none⟩ ⟨w2.heap.size,0,none⟩ t1 a1 i s1 s1.l j N2 N1 K w3:=fun {N2} hN2 hn =>
   qit (f:=f) hp hcm hdn hdd hst e5 (by omega) m3 rfl fun w5 st' hst' m5=>hN2 w5 st' (by unfold q28; rw[if_neg hn]; exact hst'.symm) m5
  refine q0u.2 ⟨fun hne=>⟨q01,hnext (st':=st) ?_ (m3.dr 1)⟩,fun hlot=>q00.2 ⟨fun hdec=>?_,fun hdec=>hgo (fun w4 st'=>hnext) ?_⟩⟩
  ·unfold q28
   rw[if_pos (.inl hne)]
  ·have hif:i<f.length:=by omega
   have hg:f.getD i 0=f[i]:=by simp[hif]
   refine VI.ld h3.tk i rfl hif (q0u.2 ⟨fun hne=>⟨q01,hnext (st':=st) ?_ (m3.dr 1)⟩,fun heq=>hgo (fun w4 st'=>hnext) ?_⟩)
   ·unfold q28
    rw[if_pos (.inr ⟨hif,by rw[hg]; exact hne⟩)]
   ·rintro (q | q)
    ·exact q hlot
    ·rw[hg] at q; exact q.2 heq
  ·rintro (q | q)
   ·exact q hlot
   ·omega
 ·have:j=p.ch.length:=by omega
  subst this
  rw[Ja (Js _),q1c] at he
  have hr:q04 st.n st.d:=he ▸ q46 _ _ _ (q0k 0)
  have hls:q4r p f (dn,dd) i p.lots[i] s=q06 ⟨s.n,s.d,st.ok⟩ (st.n,st.d) (1,1):=by
   unfold q4r q06
   rw[← he]
   simp only[q86 hr hst.1 hst.2,qiq hr hst.1 hst.2]
  intro w3; have m:Mem w0 w3 _:=m.drew
  refine⟨fun u=>Rs u _,m.sub 0,⟨_,fun _ h=>h.ld 1,_,fun _ h=>h.ld 1,_,fun _ h=>h.ld 1,_,fun _ h=>h.ld 0,_,fun _ h=>h.ld 0,q0l fun w4 hf=>?_⟩⟩
  have m:=m.fr hf
  refine⟨m.sub 0,q1u hs.1 hs.2 hst.1 hst.2 hone hone fun w5 hf=>?_⟩
  have m:=m.fr hf
  refine q22 m 1 rfl rfl fun w6 m=>?_
  exact⟨q01,hN w6 _ hls.symm (m.dr 1)⟩
theorem qiv {L:RR}{K:Int->Bool->World->Prop}(hp:q03 p)(h:PF w0 s0 s1 s2 s5 p f)(hd:Decs p p.lots f)(hs:I64 s.n/\I64 s.d)(hdn:I64 dn)(hdd:I64 dd)(hdr:q04 dn dd)
  (m:Mem w0 w ((mb,rrC (addQ 1 1 dn dd).n (addQ 1 1 dn dd).d) :: PL sb db pb s s.ok dn dd (prC s0 s1 s2 p.most p.budget))) (hL:s=L)
  (hK:∀ w',Fr F0 w0 w'->K (if (q5u p f L (q3b (dn,dd) L.ok)).ok then q1w (q5u p f L (q3b (dn,dd) L.ok)).n (q5u p f L (q3b (dn,dd) L.ok)).d else 0) (q5u p f L (q3b (dn,dd) L.ok)).ok w') :
  z3t_k7 s5 ⟨pb,0,none⟩ ⟨sb,0,none⟩ ⟨mb,0,none⟩ (addQ 1 1 dn dd).ok K w:=by
 subst hL
 have hone:I64 1:=⟨by decide,by decide⟩
 have hm:=qbi 1 1 dn dd
 have hob:=q1a (f:=f) hp (Jg p.de)
 have ho:I64 (offs p f):=by unfold offs; exact⟨by omega,by omega⟩
 have hbm:∀ ok,q3b (dn,dd) ok=⟨(addQ 1 1 dn dd).n,(addQ 1 1 dn dd).d,ok && (addQ 1 1 dn dd).ok⟩:=fun ok=>by
  unfold q3b q06
  simp only[q86 hdr hdn hdd,Ju]
 have hbl:q5u p f s (q3b (dn,dd) s.ok)=⟨(q06 ⟨s.n,s.d,s.ok⟩ ((addQ 1 1 dn dd).n,(addQ 1 1 dn dd).d) (offs p f,1)).n,(q06 ⟨s.n,s.d,s.ok⟩ ((addQ 1 1 dn dd).n,(addQ 1 1 dn dd).d) (offs p f,1)).d,
   (addQ 1 1 dn dd).ok && (q06 ⟨s.n,s.d,s.ok⟩ ((addQ 1 1 dn dd).n,(addQ 1 1 dn dd).d) (offs p f,1)).ok⟩:=by
  rw[hbm]
  simp only[q5u,q06]
  cases s.ok<;>cases (addQ 1 1 dn dd).ok<;>rfl
 have hr:=q13 ⟨s.n,s.d,s.ok⟩ ((addQ 1 1 dn dd).n,(addQ 1 1 dn dd).d) (offs p f,1)
 have hF:∀ w',Fr F0 w0 w'->((addQ 1 1 dn dd).ok && (q06 ⟨s.n,s.d,s.ok⟩ ((addQ 1 1 dn dd).n,(addQ 1 1 dn dd).d) (offs p f,1)).ok)=false->K 0 false w':=fun w' hf he=>by
  have hk:=hK w' hf
  rw[hbl,he] at hk
  exact hk
 have hT:∀ w',Fr F0 w0 w'->((addQ 1 1 dn dd).ok && (q06 ⟨s.n,s.d,s.ok⟩ ((addQ 1 1 dn dd).n,(addQ 1 1 dn dd).d) (offs p f,1)).ok)=true->K (q1w (q06 ⟨s.n,s.d,s.ok⟩ ((addQ 1 1 dn dd).n,(addQ 1 1 dn dd).d) (offs p f,1)).n (q06 ⟨s.n,s.d,s.ok⟩ ((addQ 1 1 dn dd).n,(addQ 1 1 dn dd).d) (offs p f,1)).d) true w':=fun w' hf he=>by
  have hk:=hK w' hf
  rw[hbl,he] at hk
  exact hk
 refine⟨?_⟩
 intro w139; have m:Mem w0 w139 _:=m.drew
 refine⟨fun u=>Rs u _,m.sub 0,⟨_,fun _ h=>h.ld 1,⟨_,fun _ h=>h.ld 1,⟨_,fun _ h=>h.ld 1,⟨_,fun _ h=>h.ld 0,⟨_,fun _ h=>h.ld 0,⟨_,fun _ h=>h.ld 3,⟨_,fun _ h=>h.ld 3,⟨_,fun _ h=>h.ld 3,⟨_,fun _ h=>h.ld 3,⟨_,fun _ h=>h.ld 3,?_⟩⟩⟩⟩⟩⟩⟩⟩⟩⟩⟩
 refine qak hp (h.fr m.1) hd fun w151 hf=>?_; have m:=m.fr hf
 refine⟨m.sub 0,?_⟩
 refine q0l fun w153 hf=>?_; have m:=m.fr hf
 refine⟨m.sub 0,?_⟩
 refine q1u hs.1 hs.2 hm.1 hm.2 ho hone fun w155 hf=>?_; have m:=m.fr hf
 refine⟨m.sub 0,?_⟩
 refine q22 m 1 rfl rfl fun w157 m=>?_; skip
 refine q02.2 ⟨fun hc1=>?_,fun hc1=>?_⟩
 ·exact hF _ m.1 (by first | exact Jw.2 (.inl (by simpa using hc1)) | exact Jw.2 (.inr (by simpa using hc2)))
 ·refine⟨_,m.ld 1,q02.2 ⟨fun hc2=>?_,fun hc2=>?_⟩⟩
  ·exact hF _ m.1 (by first | exact Jw.2 (.inl (by simpa using hc1)) | exact Jw.2 (.inr (by simpa using hc2)))
  ·refine⟨_,m.ld 1,⟨_,m.ld 1,?_⟩⟩
   refine qa7 hr.1 hr.2 fun w161 hf=>?_; have m:=m.fr hf
   exact hT _ m.1 (Bool.and_eq_true_iff.2 ⟨by simpa using hc1,by simpa using hc2⟩)
theorem qiw {K:Int->Bool->World->Prop}(hp:q03 p)(h:PF w0 s0 s1 s2 s5 p f)(hd:Decs p p.lots f)(hdn:I64 dn)(hdd:I64 dd)(hdr:q04 dn dd)(hs:s=q1j p (dn,dd))
  (m:Mem w0 w (PL sb db pb s s.ok dn dd (prC s0 s1 s2 p.most p.budget)))
  (hK:∀ w',Fr F0 w0 w'->K (if (q0c p f (dn,dd)).ok then q1w (q0c p f (dn,dd)).n (q0c p f (dn,dd)).d else 0) (q0c p f (dn,dd)).ok w') :
  z3t_k0 s5 ⟨pb,0,none⟩ ⟨db,0,none⟩ ⟨sb,0,none⟩ K w:=by
 have e0:=h.pv.lots.len
 have hfew:=hp.few
 have hone:I64 1:=⟨by decide,by decide⟩
 have hzero:I64 0:=⟨by decide,by decide⟩
 refine⟨?_⟩
 refine⟨s0,m.ld 2,⟨⟨fun i w'=>∃ (i':Nat) (s:RR),i=i'/\i'<=p.lots.length/\(I64 s.n/\I64 s.d)/\q1o p f (dn,dd) i' (p.lots.drop i') s=q1o p f (dn,dd) 0 p.lots (q1j p (dn,dd))/\Mem w0 w' (PL sb db pb s s.ok dn dd (prC s0 s1 s2 p.most p.budget)),fun i _=>p.lots.length-i.toNat,
  ⟨0,s,rfl,by omega,hs ▸ q13 _ _ _,by rw[hs,List.drop_zero],m⟩,?_⟩⟩⟩
 rintro i w2 ⟨i,s,rfl,hi,hsi,he,m⟩
 unfold z3t_b1
 refine q00.2 ⟨fun hc1=>?_,fun hc1=>?_⟩
 ·have hil:i<p.lots.length:=by omega
  refine VI.ld (h.fr m.1).pv.lots i rfl hil ?_
  refine q0l fun w37 hf=>?_; have m:=m.fr hf
  intro w39; have m:Mem w0 w39 _:=m.allocL
  refine⟨m.wr 0,?_⟩
  intro w40; have m:Mem w0 w40 _:=m.set 0
  refine⟨m.wr 0,?_⟩
  intro w41; have m:Mem w0 w41 _:=m.set 0
  refine⟨_,m.ld 3,qiu hp h hil hdn hdd hsi m fun w' s' hs' m'=>⟨⟨⟨rfl,rfl,rfl,rfl,rfl,rfl,trivial⟩,i+1,s',by omega,by omega,hs' ▸ q13 _ _ _,?_,m'⟩,by dsimp only; omega⟩⟩
  rw[J4 hil,q1o] at he
  rw[hs']
  exact he
 ·have:i=p.lots.length:=by omega
  subst this
  rw[Ja (Js _),q1o] at he
  have fin:∀ {w' mb},Mem w0 w' ((mb,[.int .i64 (addQ 1 1 dn dd).n,.int .i64 (addQ 1 1 dn dd).d]) :: PL sb db pb s s.ok dn dd (prC s0 s1 s2 p.most p.budget))->z3t_k7 s5 ⟨pb,0,none⟩ ⟨sb,0,none⟩ ⟨mb,0,none⟩ (addQ 1 1 dn dd).ok K w':=fun m=>qiv hp h hd hsi hdn hdd hdr m he hK
  intro w113; have m:Mem w0 w113 _:=m.drew
  refine⟨fun u=>Rs u _,m.sub 0,⟨_,fun _ h=>h.ld 1,⟨_,fun _ h=>h.ld 1,⟨?_,?_⟩⟩⟩⟩
  ·refine q0l fun w117 hf=>?_; have m:=m.fr hf
   refine⟨m.sub 0,⟨?_,?_⟩⟩
   ·refine q6w hone hone hdn hdd fun w119 hf=>?_; have m:=m.fr hf
    refine⟨m.sub 0,?_⟩
    intro w122; have m:Mem w0 w122 _:=m.allocL
    refine⟨m.sub 1,⟨m.wr 0,?_⟩⟩
    intro w123; have m:Mem w0 w123 _:=m.set 0
    refine⟨m.wr 0,?_⟩
    intro w124; have m:Mem w0 w124 _:=m.set 0
    exact fin m
   ·intro w125; have m:Mem w0 w125 _:=m.allocL
    refine⟨m.sub 1,?_⟩
    refine q6w hone hone hdn hdd fun w126 hf=>?_; have m:=m.fr hf
    refine⟨m.wr 0,?_⟩
    intro w129; have m:Mem w0 w129 _:=m.set 0
    refine⟨m.wr 0,?_⟩
    intro w130; have m:Mem w0 w130 _:=m.set 0
    exact fin m
  ·intro w131; have m:Mem w0 w131 _:=m.allocL
   refine⟨m.sub 1,?_⟩
   refine q0l fun w132 hf=>?_; have m:=m.fr hf
   refine⟨m.sub 1,?_⟩
   refine q6w hone hone hdn hdd fun w134 hf=>?_; have m:=m.fr hf
   refine⟨m.wr 0,?_⟩
   intro w137; have m:Mem w0 w137 _:=m.set 0
   refine⟨m.wr 0,?_⟩
   intro w138; have m:Mem w0 w138 _:=m.set 0
   exact fin m
theorem qea {K:Int->Bool->World->Prop}(hp:q03 p)(h:PF w s0 s1 s2 s5 p f)(hd:Decs p p.lots f)(hdn:I64 dn)(hdd:I64 dd)(hdr:q04 dn dd)
  (hK:∀ w',Fr F0 w w'->K (if (q0c p f (dn,dd)).ok then q1w (q0c p f (dn,dd)).n (q0c p f (dn,dd)).d else 0) (q0c p f (dn,dd)).ok w') :
  z3t_sh s0 s1 s2 p.most p.budget s5 dn dd K w:=by
 have ⟨b1,b2⟩:0<=p.budget/\p.budget<=1000000000:=hp.budget
 have hbud:I64 p.budget:=⟨by omega,by omega⟩
 have hone:I64 1:=⟨by decide,by decide⟩
 have hzero:I64 0:=⟨by decide,by decide⟩
 have fin:∀ {w' sb db},Mem w w' [(sb,[.int .i64 (q06 ⟨0,1,true⟩ (dn,dd) (p.budget,1)).n,.int .i64 (q06 ⟨0,1,true⟩ (dn,dd) (p.budget,1)).d,.bool (q06 ⟨0,1,true⟩ (dn,dd) (p.budget,1)).ok]),(db,[.int .i64 dn,.int .i64 dd]),(w.heap.size,prC s0 s1 s2 p.most p.budget)] ->
   z3t_k0 s5 ⟨w.heap.size,0,none⟩ ⟨db,0,none⟩ ⟨sb,0,none⟩ K w':=fun m=>qiw (s:=q06 ⟨0,1,true⟩ (dn,dd) (p.budget,1)) hp h hd hdn hdd hdr rfl m hK
 have m:Mem w w []:=Mem.nil
 refine⟨?_⟩
 unfold z3t_sd
 intro w1; have m:Mem w w1 _:=m.allocL
 intro w2; have m:Mem w w2 _:=m.allocL
 intro w3; have m:Mem w w3 _:=m.drew
 refine⟨fun u=>Rs u _,m.sub 0,⟨_,fun _ h=>h.ld 0,⟨_,fun _ h=>h.ld 0,⟨_,fun _ h=>h.ld 1,⟨?_,?_⟩⟩⟩⟩⟩
 ·refine q0l fun w8 hf=>?_; have m:=m.fr hf
  refine⟨m.sub 0,⟨?_,?_⟩⟩
  ·refine q0l fun w10 hf=>?_; have m:=m.fr hf
   refine⟨m.sub 0,⟨?_,?_⟩⟩
   ·refine q1u hzero hone hdn hdd hbud hone fun w12 hf=>?_; have m:=m.fr hf
    refine⟨m.sub 0,?_⟩
    intro w14; have m:Mem w w14 _:=m.allocL
    refine⟨m.sub 1,?_⟩
    refine q22 m 0 rfl rfl fun w15 m=>?_; skip
    exact fin m
   ·intro w16; have m:Mem w w16 _:=m.allocL
    refine⟨m.sub 1,?_⟩
    refine q1u hzero hone hdn hdd hbud hone fun w17 hf=>?_; have m:=m.fr hf
    refine⟨m.sub 1,?_⟩
    refine q22 m 0 rfl rfl fun w19 m=>?_; skip
    exact fin m
  ·intro w20; have m:Mem w w20 _:=m.allocL
   refine⟨m.sub 1,?_⟩
   refine q0l fun w21 hf=>?_; have m:=m.fr hf
   refine⟨m.sub 1,?_⟩
   refine q1u hzero hone hdn hdd hbud hone fun w23 hf=>?_; have m:=m.fr hf
   refine⟨m.sub 1,?_⟩
   refine q22 m 0 rfl rfl fun w25 m=>?_; skip
   exact fin m
 ·intro w26; have m:Mem w w26 _:=m.allocL
  refine⟨m.sub 1,?_⟩
  refine q0l fun w27 hf=>?_; have m:=m.fr hf
  refine⟨m.sub 1,?_⟩
  refine q0l fun w29 hf=>?_; have m:=m.fr hf
  refine⟨m.sub 1,?_⟩
  refine q1u hzero hone hdn hdd hbud hone fun w31 hf=>?_; have m:=m.fr hf
  refine⟨m.sub 1,?_⟩
  refine q22 m 0 rfl rfl fun w33 m=>?_; skip
  exact fin m
theorem q63 {K:Int->Bool->World->Prop}(h:PF w s0 s1 s2 s5 p f)(hdn:I64 dn)(hdd:I64 dd)(hK:∀ w',Fr F0 w w'->K (upR p f dn dd).1 (upR p f dn dd).2 w'):z3r_sh s0 s1 s2 p.most p.budget s5 dn dd K w:=by
 have hbad:∀ w',Fr F0 w w'->((q0g p && q4f p p.lots f)=true->q04 dn dd/\0<=dn->False)->K 0 false w':=fun w' hf hn=>by
  have hk:=hK w' hf
  have e:upR p f dn dd=(0,false):=by
   unfold upR
   by_cases hg:(q0g p && q4f p p.lots f)=true
   ·rw[if_pos hg]
    unfold upB
    rw[if_neg fun q=>hn hg ⟨q.1,q.2.2.2⟩]
   ·rw[if_neg hg]
  rw[e] at hk
  exact hk
 have m:Mem w w []:=Mem.nil
 refine⟨?_⟩
 intro w1; have m:Mem w w1 _:=m.allocL
 intro w2; have m:Mem w w2 _:=m.allocL
 refine⟨_,m.ld 1,⟨_,m.ld 1,⟨_,m.ld 1,⟨_,m.ld 1,⟨_,m.ld 1,?_⟩⟩⟩⟩⟩
 refine q9j (h.pv.fr m.1) fun w8 hf=>?_; have m:=m.fr hf
 refine q02.2 ⟨fun hc1=>?_,fun hc1=>?_⟩
 ·exact hbad _ m.1 (fun q q2=>by first | (have:=q2.2; omega) | simp_all)
 ·refine⟨_,m.ld 1,⟨_,m.ld 1,⟨_,m.ld 1,⟨_,m.ld 1,⟨_,m.ld 1,?_⟩⟩⟩⟩⟩
  refine q7s (h.fr m.1) fun w15 hf=>?_; have m:=m.fr hf
  refine q02.2 ⟨fun hc2=>?_,fun hc2=>?_⟩
  ·exact hbad _ m.1 (fun q q2=>by first | (have:=q2.2; omega) | simp_all)
  ·refine⟨_,m.ld 0,⟨_,m.ld 0,?_⟩⟩
   refine q56 hdn hdd fun w19 hf=>?_; have m:=m.fr hf
   refine q02.2 ⟨fun hc3=>?_,fun hc3=>?_⟩
   ·exact hbad _ m.1 (fun q q2=>by first | (have:=q2.2; omega) | simp_all)
   ·refine⟨_,m.ld 0,q00.2 ⟨fun hc4=>?_,fun hc4=>?_⟩⟩
    ·exact hbad _ m.1 (fun q q2=>by first | (have:=q2.2; omega) | simp_all)
    ·refine⟨_,m.ld 1,⟨_,m.ld 1,⟨_,m.ld 1,⟨_,m.ld 1,⟨_,m.ld 1,⟨_,m.ld 0,⟨_,m.ld 0,?_⟩⟩⟩⟩⟩⟩⟩
     refine qea (q0f.1 (by simpa using hc1)) (h.fr m.1) (q1b.1 (by simpa using hc2)) hdn hdd (by simpa using hc3) fun w29 hf=>?_; have m:=m.fr hf
     have hp:q03 p:=q0f.1 (by simpa using hc1)
     have hd:Decs p p.lots f:=q1b.1 (by simpa using hc2)
     have hdr:q04 dn dd:=by simpa using hc3
     have eU:upR p f dn dd=(if (q0c p f (dn,dd)).ok then q1w (q0c p f (dn,dd)).n (q0c p f (dn,dd)).d else 0,(q0c p f (dn,dd)).ok):=by
      unfold upR
      rw[if_pos (by rw[q0f.2 hp,q1b.2 hd]; rfl)]
      unfold upB
      rw[if_pos ⟨hdr,hdn,hdd,by omega⟩]
      cases hq:(q0c p f (dn,dd)).ok<;>rfl
     rw[eU] at hK
     exact hK _ m.1
end
open Go Pw
theorem q9m:∀ a b:List Int,a.length=b.length->(q2v a b<0 ↔ gtL b a=true)
 | [],[],_=>by simp[q2v,gtL]
 | [],_ :: _,h=>by simp at h
 | _ :: _,[],h=>by simp at h
 | x :: a,y :: b,h=>by
  have ih:=q9m a b (by simpa using h)
  rw[q2v,gtL]
  by_cases h1:x<y
  ·rw[if_pos h1,if_neg (by omega),decide_eq_true_iff]
   omega
  ·rw[if_neg h1]
   by_cases h2:y<x
   ·rw[if_pos h2,if_neg (by omega),decide_eq_true_iff]
    omega
   ·rw[if_neg h2,if_pos (by omega)]
    exact ih
section
variable {w w' w0:World}{s0 s1 s2 s5 t5:Sl}{p:Pr}{f T:List Int}{db pb:Nat}{dn dd:Int}{K:Bool->World->Prop}
theorem qgi {af:Bool}(h:PF w0 s0 s1 s2 s5 p f)(haf:af=gtL f T)(hdn:I64 dn)(hdd:I64 dd)
  (m:Mem w0 w [(db,rrC dn dd),(pb,prC s0 s1 s2 p.most p.budget)]) (hK:∀ w',Fr F0 w0 w'->K (q4y p f dn dd T) w'):z3g_k0 s5 ⟨pb,0,none⟩ ⟨db,0,none⟩ (q14 p T) af K w:=by
 have hfin:∀ w' (b:Bool),Fr F0 w0 w'->b=q4y p f dn dd T->K b w':=fun w' b hf e=>e ▸ hK w' hf
 unfold q4y at hfin
 refine⟨⟨_,m.ld 1,⟨_,m.ld 1,⟨_,m.ld 1,⟨_,m.ld 1,⟨_,m.ld 1,⟨_,m.ld 0,⟨_,m.ld 0,?_⟩⟩⟩⟩⟩⟩⟩⟩
 refine q63 (h.fr m.1) hdn hdd fun w48 hf=>?_; have m:=m.fr hf
 refine q02.2 ⟨fun hc1=>?_,fun hc1=>?_⟩
 ·refine q00.2 ⟨fun hc2=>?_,fun hc2=>?_⟩
  ·exact hfin _ _ m.1 (by simp_all)
  ·refine q09.2 ⟨fun hc3=>?_,fun hc3=>?_⟩
   ·exact hfin _ _ m.1 (by simp_all)
   ·exact hfin _ _ m.1 (by simp_all)
 ·exact hfin _ _ m.1 (by simp_all)
theorem qd8 (hp:q03 p)(h:PF w s0 s1 s2 s5 p f)(hd:Decs p p.lots f)(hT:PF w s0 s1 s2 t5 p T)(hPT:q21 p T=true)(hdn:I64 dn)(hdd:I64 dd)(hK:∀ w',Fr F0 w w'->K (q0w p f dn dd T) w') :
  z3g_sh s0 s1 s2 p.most p.budget s5 dn dd t5 K w:=by
 have e0:=h.pv.lots.len
 have e5:=h.tk.len
 have et:=hT.tk.len
 have ect:=hT.tk.cap
 have hlt:=h.lt
 have hfT:=q3y hPT
 have hdT:=q33 hfT
 have hTl:T.length=p.lots.length:=(q23.1 hPT).1
 have hfl:=q1n hd
 have hfin:∀ w',Fr F0 w w'->q0w p f dn dd T=true->K true w':=fun w' hf e=>e ▸ hK w' hf
 have hpm:(q2c p f=false/\q0i p f<=p.budget)->f.length=p.lots.length->q21 p f=true:=fun h1 hl=>q23.2 ⟨hl,hd,h1.2,fun hc=>by rw[q12.2 hc] at h1; cases h1.1⟩
 have hbr:(q2c p f=false/\q0i p f<=p.budget)->f.length=p.lots.length->q2m p f T=btB p f T:=fun h1 hl=>by
  unfold q2m
  rw[q0f.2 hp,hpm h1 hl,hPT]
  rfl
 have hfull:∀ w',Fr F0 w w'->(q2c p f=false/\q0i p f<=p.budget)->f.length=p.lots.length->(q14 p f<q14 p T\/q14 p f=q14 p T/\¬q2v f T<0)->K true w':=fun w' hf h1 hl hq=>hfin w' hf (by
  unfold q0w
  rw[hbr h1 hl,decide_eq_true hl,show btB p f T=false from Jx.2 fun hb=>by
   rcases q4q.1 hb with hb | ⟨hb,hg⟩
   ·omega
   ·rcases hq with hq | ⟨_,hq⟩
    ·omega
    ·exact hq ((q9m _ _ (by omega)).2 hg)]
  simp)
 have hbet:(q2c p f=false/\q0i p f<=p.budget)->f.length=p.lots.length->(q14 p T<q14 p f\/q14 p f=q14 p T/\q2v f T<0)->q2m p f T=true:=fun h1 hl hq=>by
  rw[hbr h1 hl]
  exact q4q.2 (hq.imp id fun q=>⟨q.1,(q9m _ _ (by omega)).1 q.2⟩)
 have hk0:∀ {w' db pb} {af:Bool},Mem w w' [(db,rrC dn dd),(pb,prC s0 s1 s2 p.most p.budget)]->(q2c p f=false/\q0i p f<=p.budget)->(f.length=p.lots.length->q2m p f T=true)->af=gtL f T->z3g_k0 s5 ⟨pb,0,none⟩ ⟨db,0,none⟩ (q14 p T) af K w':=fun m h1 h2 haf =>
  qgi h haf hdn hdd m fun w' hf=>by
   have hk:=hK w' hf
   have e:q0w p f dn dd T=q4y p f dn dd T:=by
    unfold q0w
    rw[h1.1,decide_eq_false (by omega)]
    by_cases hl:f.length=p.lots.length
    ·rw[h2 hl]; simp
    ·rw[decide_eq_false hl]; simp
   rw[e] at hk
   exact hk
 have haf:decide (q2v f (T.take (s5.l:Int).toNat)>0)=gtL f T:=by
  rw[show(s5.l:Int).toNat=f.length by omega,← qb7 f T]
  rw[Jy,decide_eq_true_eq]
  exact q6q _ _ (by rw[Jh]; omega)
 have m:Mem w w []:=Mem.nil
 refine⟨?_⟩
 intro w1; have m:Mem w w1 _:=m.allocL
 intro w2; have m:Mem w w2 _:=m.allocL
 intro w3; have m:Mem w w3 _:=m.drew
 refine⟨fun u=>Rs u _,m.sub 0,⟨_,fun _ h=>h.ld 1,⟨_,fun _ h=>h.ld 1,⟨_,fun _ h=>h.ld 1,⟨_,fun _ h=>h.ld 1,⟨_,fun _ h=>h.ld 1,?_⟩⟩⟩⟩⟩⟩
 refine q6v hp (h.fr m.1) hd fun w10 hf=>?_; have m:=m.fr hf
 refine⟨m.sub 0,q02.2 ⟨fun hc1=>?_,fun hc1=>?_⟩⟩
 ·exact hfin _ m.1 (by first | (unfold q0w; rw[hc1]; rfl) | (unfold q0w; rw[decide_eq_true (show p.budget<q0i p f by omega)]; simp; done))
 ·refine⟨_,fun _ h=>h.ld 1,⟨_,fun _ h=>h.ld 1,⟨_,fun _ h=>h.ld 1,⟨_,fun _ h=>h.ld 1,⟨_,fun _ h=>h.ld 1,⟨_,fun _ h=>h.ld 1,?_⟩⟩⟩⟩⟩⟩
  refine q7f hp (h.fr m.1) hd fun w18 hf=>?_; have m:=m.fr hf
  refine⟨m.sub 0,q00.2 ⟨fun hc2=>?_,fun hc2=>?_⟩⟩
  ·exact hfin _ m.1 (by first | (unfold q0w; rw[hc1]; rfl) | (unfold q0w; rw[decide_eq_true (show p.budget<q0i p f by omega)]; simp; done))
  ·intro w20; have m:Mem w w20 _:=m.drew
   refine⟨fun u=>Rs u _,m.sub 0,⟨_,fun _ h=>h.ld 1,⟨_,fun _ h=>h.ld 1,⟨_,fun _ h=>h.ld 1,⟨_,fun _ h=>h.ld 1,⟨_,fun _ h=>h.ld 1,⟨by omega,?_⟩⟩⟩⟩⟩⟩⟩
   refine q9l hp (hT.fr m.1) hdT fun w27 hf=>?_; have m:=m.fr hf
   refine q30 (h.fr m.1).tk ((hT.fr m.1).tk.take (fun a=>q05 _ _ a) (j:=(s5.l:Int).toNat) (by omega)) h.lt (by rw[Jh]; omega)<|⟨m.sub 0,⟨_,m.ld 1,q09.2 ⟨fun hc3=>?_,fun hc3=>?_⟩⟩⟩
   ·refine⟨_,m.ld 1,⟨_,m.ld 1,⟨_,m.ld 1,⟨_,m.ld 1,⟨_,m.ld 1,?_⟩⟩⟩⟩⟩
    refine q9l hp (h.fr m.1) hd fun w37 hf=>?_; have m:=m.fr hf
    refine q00.2 ⟨fun hc4=>?_,fun hc4=>?_⟩
    ·exact hfull _ m.1 ⟨hc1,by omega⟩ (by omega) (.inl hc4)
    ·refine q09.2 ⟨fun hc5=>?_,fun hc5=>?_⟩
     ·refine q30 (h.fr m.1).tk (hT.fr m.1).tk h.lt hT.lt<|q00.2 ⟨fun hc6=>?_,fun hc6=>?_⟩
      ·exact hfull _ m.1 ⟨hc1,by omega⟩ (by omega) (.inr ⟨hc5,by omega⟩)
      ·exact hk0 m ⟨hc1,by omega⟩ (fun hl=>hbet ⟨hc1,by omega⟩ hl (.inr ⟨hc5,by omega⟩)) haf
     ·exact hk0 m ⟨hc1,by omega⟩ (fun hl=>hbet ⟨hc1,by omega⟩ hl (.inl (by omega))) haf
   ·exact hk0 m ⟨hc1,by omega⟩ (fun hl=>absurd (show(s5.l:Int)=s0.l by omega) hc3) haf
end
end Go.Proofs.YtfpobpjandjhjaaGreatDoor
namespace Pw
open Go
section
variable {α:Type}{n:Nat}{enc:α->List Value}{w w' w0:World}{s x:Sl}{l m:List α}
theorem Vw.grow {bytes:Nat}{zero:List Value}{e:Nat}{K:SW}(h:Vw n enc w s l)(hfull:s.c=s.l)(hn:∀ a,(enc a).length=n)(hx:Vw n enc w x m)(h0:0<m.length)(hok:∀ a,∀ v∈enc a,okC v=true)(hz:zero.length=n)
  (hb:(l.length+m.length)*bytes<=2^47) (hm:l.length+m.length<2^63)
  (hK:∀ r w',Mk w n enc w' r (l++m)->K r w'):apS n bytes zero e s x w K:=by
 have h1:=h.len
 have h2:=hx.len
 have hrd:=h.rd
 refine⟨_,hx.rd,fun v hv=>?_,fun hc=>by omega,fun hc=>⟨by rw[h1,h2]; exact hb,by omega,_,hrd,fun cap hcap=>?_⟩⟩
 ·obtain⟨a,_,ha⟩:=List.mem_flatMap.1 hv
  exact hok a v ha
 have hl1:=q0d hn l
 have hl2:=q0d hn m
 have hlen:(l.flatMap enc++m.flatMap enc++rowZ zero ((cap-(s.l+x.l))*zero.length)).length=cap*n:=by
  simp only[List.length_append,q37,hl1,hl2,hz,h1,h2]
  rw[← Jt,← Jt]
  congr 1
  omega
 refine hK _ _ ⟨Fr.trans Fr.drew Fr.alloc fun b hb _=>hb,⟨by simp[q8c,h1,h2],by simp[q8c,hl1,hl2,h1,h2,Jt],.inr ⟨w.heap.size,_,rfl,Row.new (w:=w.drew),by rw[hlen]; rfl,hcap,?_⟩⟩,fun b hb=>?_⟩
 ·rw[List.flatMap_append,List.take_append_of_le_length (by simp)]
  exact List.take_of_length_le (by simp)
 ·obtain⟨a,ha,rfl⟩:=hb
  cases ha
  exact Js _
end
end Pw
namespace Go.Proofs.YtfpobpjandjhjaaGreatDoor
open Go Pw
theorem qal:∀ {l:List Bool} {n:Nat} (h:n<l.length),l[n]=false->(l.set n true).countP id=l.countP id+1
 | b :: l,0,_,hf=>by
  have:b=false:=hf
  subst this
  simp
 | b :: l,n+1,h,hf=>by
  have ih:=qal (l:=l) (n:=n) (by simpa using h) (by simpa using hf)
  simp only[J1,Jm,ih]
  omega
theorem qd9:∀ l:List Bool,(l.countP id=l.length ↔ l.all id=true)
 | []=>by simp
 | b :: l=>by
  have ih:=qd9 l
  have:=Jj (p:=(id:Bool->Bool)) (l:=l)
  cases b
  ·simp; omega
  ·simp[ih]
def SM (w:World)(mb:Nat)(seen:List Bool):Prop :=
 ∃ l:List (Int × Bool),Mp w mb .i64 (l.map fun q=>(q.1,.bool q.2))/\(∀ x,q10 false x l=(decide (0<=x) && seen.getD x.toNat false))/\(∀ x,x∈l.map (·.1) ↔ (0<=x/\seen.getD x.toNat false=true))/\l.length=seen.countP id
section
variable {w w' w0:World}{mb:Nat}{seen:List Bool}
theorem SM.fr (h:SM w mb seen)(hf:Fr F0 w w'):SM w' mb seen:=let ⟨l,h1,h2⟩:=h; ⟨l,Mp.fr h1 hf,h2⟩
theorem SM.made {k:Nat}(h:Mp w mb .i64 []):SM w mb (J8 k false):=by
 refine⟨[],h,fun x=>?_,fun x=>?_,by rw[List.countP_replicate]; rfl⟩
 ·simp[q10,J7,Jc]
  intro _
  split<;>rfl
 ·simp only[List.map_nil,List.not_mem_nil,false_iff,J7,Jc]
  rintro⟨_,h⟩
  split at h<;>cases h
theorem SM.put {n:Nat}(h:SM w mb seen)(hn:n<seen.length)(hf:seen[n]=false):SM (w.mset mb .i64 (n:Int) (.bool true)) mb (seen.set n true):=by
 obtain⟨l,h1,h2,h3,h4⟩:=h
 have hg:∀ x:Int,0<=x->(seen.set n true).getD x.toNat false=if x=n then true else seen.getD x.toNat false:=fun x hx=>by
  simp only[J7,List.getElem?_set]
  by_cases he:x=n
  ·subst he
   simp[hn]
  ·rw[if_neg he,if_neg (by omega)]
 have hnk:(n:Int) ∉ l.map (·.1):=fun hh=>by
  have:=((h3 _).1 hh).2
  simp[hn,hf] at this
 refine⟨mput n true l,?_,fun x=>?_,fun x=>?_,?_⟩
 ·have:=h1.set (n:Int) (.bool true)
  rwa [q41 Value.bool] at this
 ·rw[q45,h2]
  by_cases hx:0<=x
  ·rw[hg x hx]
   by_cases he:x=n
   ·simp[he]
   ·simp[he]
  ·rw[if_neg (by omega)]
   simp[hx]
 ·rw[q9i,h3]
  constructor
  ·rintro (rfl | ⟨h5,h6⟩)
   ·exact⟨by omega,by rw[hg _ (by omega),if_pos rfl]⟩
   ·refine⟨h5,?_⟩
    rw[hg x h5,h6]
    split<;>rfl
  ·rintro⟨h5,h6⟩
   rw[hg x h5] at h6
   by_cases he:x=n
   ·exact .inl he
   ·rw[if_neg he] at h6
    exact .inr ⟨h5,h6⟩
 ·rw[qbt,if_neg hnk,qal hn hf,h4]
end
end Go.Proofs.YtfpobpjandjhjaaGreatDoor
namespace Pw
open Go
theorem qda (p:Option Addr)(m n:Nat):subP p 0 m n=p:=by
 unfold subP
 split
 ·rfl
 ·cases p with
  | none=>rfl
  | some a=>simp[Addr.add]
end Pw
namespace Go.Proofs.YtfpobpjandjhjaaGreatDoor
open Go Pw
def q5d (p:Pr)(lot:Int):Nat->List Int
 | 0=>opts p lot
 | j+1=>q0j lot j (p.ch.drop j)
theorem qgj {p:Pr}{lot:Int}:q5d p lot 0=-1 :: q5d p lot 1:=by simp[q5d,opts]
theorem qix {p:Pr}{lot:Int}{j:Nat}(h:j<p.ch.length)(hl:p.ch[j].lot=lot):q5d p lot (j+1)=(j:Int) :: q5d p lot (j+2):=by
 simp only[q5d]
 rw[J4 h,q0j,if_pos hl]
theorem qgk {p:Pr}{lot:Int}{j:Nat}(h:j<p.ch.length)(hl:p.ch[j].lot≠lot):q5d p lot (j+1)=q5d p lot (j+2):=by
 simp only[q5d]
 rw[J4 h,q0j,if_neg hl]
theorem qiy {p:Pr}{lot:Int}:q5d p lot (p.ch.length+1)=[]:=by simp[q5d,q0j]
section
variable {w w' w0:World}{s0 s1 s2 t5 ns:Sl}{p:Pr}{T:List Int}{N:List Nd}{pts bnd:Int}{rb sb pb wb mb:Nat}
abbrev wfn (rb sb pb wb:Nat):Value:=fnv (idOf z38_ok) [rb,sb,pb,wb]
def qly (w0:World)(p:Pr)(T:List Int)(N:List Nd)(rb sb pb wb mb:Nat)(ls:List Int):Prop :=
 ∀ (ds f:List Int) (n:Int) (seen:List Bool) (w:World) (s5:Sl) (K:Bool->World->Prop),Fr F0 w0 w->Row w sb [.map (some mb)]->Row w wb [wfn rb sb pb wb]->SM w mb seen->seen.length=N.length->p.lots=ds++ls->f.length=ds.length->Decs p p.lots f->VI w s5 f->(∀ b,inB s5 b->b≠mb) ->
  (∀ w',Fr (fun b=>b=mb) w w'->((q0y p N T ls f n seen).1=true->SM w' mb (q0y p N T ls f n seen).2)->K (q0y p N T ls f n seen).1 w') ->
  z38_sh n s5 ⟨rb,0,none⟩ ⟨sb,0,none⟩ ⟨pb,0,none⟩ ⟨wb,0,none⟩ K w
theorem qam (hp:q03 p)(hP0:PV w0 s0 s1 s2 p)(hT0:VI w0 t5 T)(hPT:q21 p T=true)(hN0:NV w0 ns N)(hrb:Row w0 rb (rsC t5 pts bnd ns))(hpb:Row w0 pb (prC s0 s1 s2 p.most p.budget))(hmb:w0.heap.size<=mb)(hsm:sb≠mb)(hwm:wb≠mb)(ls:List Int)
  (hIH:∀ lot ls',ls=lot :: ls'->qly w0 p T N rb sb pb wb mb ls'):qly w0 p T N rb sb pb wb mb ls:=by
 intro ds f n seen w s5 K hw0 hsb hwb hS hsl hlots hfl hd hv hdj hK
 have e0:=hP0.lots.len
 have e1:=hP0.ch.len
 have l1:=hP0.l1
 have e5:=hv.len
 have en:=hN0.len
 have hNl:=hN0.lt
 have hfew:=hp.few
 have hfl12:=q1n hd
 have hTl:T.length<2^63:=by have:=(q23.1 hPT).1; omega
 have h0:∀ {u},Fr (fun b=>b=mb) w u->Fr F0 w0 u:=fun hu=>hw0.trans hu fun b hb hlt=>by omega
 have hendF:∀ {u:World},Fr (fun b=>b=mb) w u->(q0y p N T ls f n seen).1=false->K false u:=fun {u} hu e=>by
  have:=hK u hu (fun h=>by rw[e] at h; cases h)
  rwa [e] at this
 have hendT:∀ {u:World} {sq:List Bool},Fr (fun b=>b=mb) w u->q0y p N T ls f n seen=(true,sq)->SM u mb sq->K true u:=fun {u sq} hu e h=>by
  have:=hK u hu (fun _=>by rw[e]; exact h)
  rwa [e] at this
 refine⟨q00.2 ⟨fun hneg=>hendF Fr.refl ?_,fun hpos=>?_⟩⟩
 ·unfold q0y
  rw[if_neg (by omega)]
 refine⟨ns,(hw0.row hrb fun h=>h).at rfl,q00.2 ⟨fun hge=>hendF Fr.refl ?_,fun hlt=>?_⟩⟩
 ·unfold q0y
  rw[if_pos (by omega),Ji (by omega)]
 obtain⟨n,rfl⟩:=Int.eq_ofNat_of_zero_le (show 0<=n by omega)
 have hnN:n<N.length:=by omega
 have hns:n<seen.length:=by omega
 have hw:q0y p N T ls f (n:Int) seen=if seen[n] then (false,seen) else
   if N[n].next=[] then (q0w p f N[n].num N[n].den T,seen.set n true) else
   match (generalizing:=false) ls with
   | []=>(false,seen.set n true)
   | lot :: ls=>if N[n].lot≠f.length\/N[n].next.length≠(opts p lot).length then (false,seen.set n true)
    else q2r (q0y p N T ls) n f (opts p lot) N[n].next (seen.set n true):=by
  have h0:(0:Int)<=(n:Int):=by omega
  rw[q0y.eq_def]
  simp only[h0,if_true,Int.toNat_natCast,J3 hnN,J7,J3 hns,Option.getD_some]
  cases ls<;>rfl
 obtain⟨l,hl1,hl2,_,_⟩:=id hS
 refine⟨some mb,hsb.at,qd5 ⟨l,hl1,?_⟩⟩
 rw[show q10 false (n:Int) l=seen[n] from by rw[hl2]; simp[hns]]
 refine q02.2 ⟨fun hs=>hendF Fr.refl (by rw[hw,if_pos hs]),fun hs=>?_⟩
 rw[hw,if_neg (by rw[hs]; decide)] at hendF
 have hendT:∀ {u:World} {sq:List Bool},Fr (fun b=>b=mb) w u->_=(true,sq)->SM u mb sq->K true u:=fun {u sq} hu e h=>hendT (sq:=sq) hu (by rw[hw,if_neg (by rw[hs]; decide)]; exact e) h
 refine⟨some mb,hsb.at,qd5 ⟨⟨_,hl1⟩,?_⟩⟩
 intro w7
 have hS7:SM w7 mb (seen.set n true):=hS.put hns hs
 have hF7:Fr (fun b=>b=mb) w w7:=q6o
 have hv7:VI w7 s5 f:=hv.frF hF7 fun b hb he=>hdj b hb he
 refine⟨ns,((h0 hF7).row hrb fun h=>h).at rfl,hN0.ld (h0 hF7) n rfl hnN fun a nx hnx hc=>?_⟩
 obtain⟨c0,c1,c2,c3⟩:=hc
 obtain⟨i1,i2⟩:=hN0.i64 (J6 hnN)
 have enx:=hnx.len
 refine⟨_,c0,_,c1,_,c2,nx,c3,q19 (w0:=w7) (l:=[]) rfl Mem.nil fun w15 m15=>?_⟩
 have hxr:Row w15 w7.heap.size [.int .i64 N[n].lot,.int .i64 N[n].num,.int .i64 N[n].den,.slice nx.p nx.l nx.c]:=m15.row 0
 have hS15:=hS7.fr m15.1
 have hF15:Fr (fun b=>b=mb) w w15:=hF7.comp m15.1.any
 have hv15:=hv7.fr m15.1
 have hw15:=h0 hF15
 have hp15:=hw15.row hpb fun h=>h
 have hr15:=hw15.row hrb fun h=>h
 have pf15:∀ {u},Fr F0 w15 u->PF u s0 s1 s2 s5 p f:=fun hu=>⟨hP0.fr (hw15.t hu),hv15.fr hu,by omega⟩
 refine⟨nx,hxr.at,q09.2 ⟨fun hz=>?_,fun hnz=>?_⟩⟩
 ·have hz':N[n].next=[]:=Jd.1 (by omega)
  refine⟨s0,hp15.at,s1,hp15.at,s2,hp15.at,_,hp15.at,_,hp15.at,_,hxr.at,_,hxr.at,t5,hr15.at,qd8 hp (pf15 Fr.refl) hd ⟨hP0.fr hw15,hT0.fr hw15,hTl⟩ hPT i1 i2 fun w25 hf=>?_⟩
  have hF25:=hF15.comp hf.any
  cases hcb:q0w p f N[n].num N[n].den T with
  | false=>exact hendF hF25 (by rw[if_pos hz',hcb])
  | true=>exact hendT hF25 (by rw[if_pos hz',hcb]) (hS15.fr hf)
 rw[if_neg (fun h=>hnz (by rw[enx,h]; rfl))] at hendF
 have hendT:∀ {u:World} {sq:List Bool},Fr (fun b=>b=mb) w u->_=(true,sq)->SM u mb sq->K true u:=fun {u sq} hu e h=>hendT (sq:=sq) hu (by rw[if_neg (fun h=>hnz (by rw[enx,h]; rfl))]; exact e) h
 have hl2:p.lots.length=ds.length+ls.length:=by rw[hlots]; simp
 refine⟨_,hxr.at,q0u.2 ⟨fun hne=>hendF hF15 ?_,fun hloteq=>⟨s0,hp15.at,q00.2 ⟨fun hge=>hendF hF15 ?_,fun hlt2=>?_⟩⟩⟩⟩
 ·cases ls with
  | nil=>rfl
  | cons lot ls =>
   dsimp only
   rw[if_pos (.inl (by omega))]
 ·have:ls=[]:=Jd.1 (by omega)
  subst this
  rfl
 cases ls with
 | nil=>simp at hl2; omega
 | cons lot ls =>
 have ih:=hIH lot ls rfl
 simp only at hendF hendT
 have hlot:p.lots[f.length]'(by simp at hl2; omega)=lot:=by
  have:p.lots[f.length]?=some lot:=by rw[hlots,hfl]; simp
  rw[J3 (by simp at hl2; omega)] at this
  exact Option.some.inj this
 have hol:=q58 p lot
 have hchs:=hp.chs
 have hrest0:opts p lot=q5d p lot 0:=rfl
 generalize hos:opts p lot=os at *
 generalize hks:N[n].next=ks at *
 have hG:∀ {u:World},Fr (fun b=>b=mb) w u->(ks.length=os.length->(q2r (q0y p N T ls) n f os ks (seen.set n true)).1=false)->K false u:=fun {u} hu hk=>hendF hu (by
  by_cases hq:ks.length=os.length
  ·rw[if_neg (by rintro (h | h)<;>omega)]; exact hk hq
  ·rw[if_pos (.inr hq)])
 have hGT:∀ {u:World} {sq:List Bool},Fr (fun b=>b=mb) w u->ks.length=os.length->q2r (q0y p N T ls) n f os ks (seen.set n true)=(true,sq)->SM u mb sq->K true u:=fun {u sq} hu hq hk h=>hendT hu (by rw[if_neg (by rintro (h | h)<;>omega)]; exact hk) h
 refine⟨⟨fun at' c u=>∃ (a j:Nat) (sq:List Bool),at'=a/\c=(j:Int)-1/\j<=p.ch.length+1/\a<=os.length/\a<=ks.length/\os.drop a=q5d p lot j/\sq.length=N.length/\SM u mb sq/\Fr (fun b=>b=mb) w15 u/\(ks.length=os.length->q2r (q0y p N T ls) n f (os.drop a) (ks.drop a) sq=q2r (q0y p N T ls) n f os ks (seen.set n true)),fun _ c _=>((p.ch.length:Int)-c).toNat,
  ⟨0,0,seen.set n true,rfl,rfl,by omega,by omega,by omega,hrest0,by simp[hsl],hS15,Fr.refl,fun _=>rfl⟩,?_⟩⟩
 rintro at' c u1 ⟨a,j,sq,rfl,rfl,hj,hao,hak,hrest,hsq,hSq,hFq,he⟩
 unfold z38_b0
 have hmlt:mb<w7.heap.size:=by obtain⟨_,⟨es,clk,hh,_⟩,_⟩:=id hS7; exact(JA.1 hh).1
 have hF1:Fr (fun b=>b=mb) w u1:=hF15.comp hFq
 have hp1:=(h0 hF1).row hpb fun h=>h
 have hx1:Row u1 w7.heap.size [.int .i64 N[n].lot,.int .i64 N[n].num,.int .i64 N[n].den,.slice nx.p nx.l nx.c]:=hFq.row hxr (by omega)
 refine⟨s1,hp1.at,q00.2 ⟨fun hc=>?_,fun hc=>⟨nx,hx1.at,?_⟩⟩⟩
 ·intro w30
  have hF30:Fr (fun b=>b=mb) w w30:=hF1.comp Fr.drew
  have hG30:Fr (fun b=>b=mb) w15 w30:=hFq.comp Fr.drew
  have hS30:SM w30 mb sq:=hSq.fr Fr.drew
  have hp30:=(h0 hF30).row hpb fun h=>h
  have hP30:=hP0.fr (h0 hF30)
  have hSS:∀ {u},Fr (fun b=>b=mb) w15 u->Row u w7.heap.size [.int .i64 N[n].lot,.int .i64 N[n].num,.int .i64 N[n].den,.slice nx.p nx.l nx.c]/\Row u wb [wfn rb sb pb wb]/\VI u nx ks:=fun {u} hu =>
   ⟨hu.row hxr (by omega),(hF15.comp hu).row hwb hwm,hnx.fr (h0 (hF15.comp hu))⟩
  have hk1:∀ (N0:Int->Sl->Addr->Addr->Addr->Int->Int->Int->World->Prop),
    (∀ u sq',Fr (fun b=>b=mb) w15 u->SM u mb sq'->sq'.length=N.length->a+1<=os.length->a+1<=ks.length->os.drop (a+1)=q5d p lot (j+1) ->
     (ks.length=os.length->q2r (q0y p N T ls) n f (os.drop (a+1)) (ks.drop (a+1)) sq'=q2r (q0y p N T ls) n f os ks (seen.set n true)) ->
     N0 (n:Int) s5 ⟨pb,0,none⟩ ⟨wb,0,none⟩ ⟨w7.heap.size,0,none⟩ (s5.l:Int) ((a:Int)+1) ((j:Int)-1+1) u) ->
    q5d p lot j=((j:Int)-1) :: q5d p lot (j+1)->z38_k1 (n:Int) s5 ⟨pb,0,none⟩ ⟨wb,0,none⟩ ⟨w7.heap.size,0,none⟩ (s5.l:Int) (a:Int) ((j:Int)-1) N0 K w30:=by
   intro N0 hN hro
   have hro':=hrest.trans hro
   have haos:a<os.length:=by
    rcases Nat.lt_or_ge a os.length with h | h
    ·exact h
    ·rw[Ja h] at hro'; cases hro'
   have hdr:os.drop a=os[a] :: os.drop (a+1):=J4 haos
   rw[hdr] at hro'
   obtain⟨hoa,hdr2⟩:=List.cons.inj hro'
   refine⟨?_⟩
   intro w37
   have hF37:Fr (fun b=>b=mb) w15 w37:=hG30.comp Fr.drew
   have hS37:SM w37 mb sq:=hS30.fr Fr.drew
   refine⟨fun u=>Row u w7.heap.size [.int .i64 N[n].lot,.int .i64 N[n].num,.int .i64 N[n].den,.slice nx.p nx.l nx.c]/\Row u wb [wfn rb sb pb wb]/\VI u nx ks,hSS hF37,nx,fun u hu=>hu.1.at,q00.2 ⟨fun hge=>hG (hF15.comp hF37) fun h=>by omega,fun hlt=>?_⟩⟩
   have hak':a<ks.length:=by omega
   obtain⟨ka,hkp,_⟩:=hnx.at (fun a=>q05 _ _ a) (J3 hak') (by decide)
   have hkc:∀ u,VI u nx ks->u.cell? (ka.add ((a:Int).toNat*1))=some (.int .i64 ks[a]):=fun u hu=>by
    obtain⟨ad',hp'',hc⟩:=hu.at (fun a=>q05 _ _ a) (J3 hak') (by decide)
    rw[hkp] at hp''
    cases hp''
    exact hc 0 _ rfl
   have hde:ks.length=os.length->q2r (q0y p N T ls) n f (((j:Int)-1) :: os.drop (a+1)) (ks[a] :: ks.drop (a+1)) sq=q2r (q0y p N T ls) n f os ks (seen.set n true):=fun hq=>by
    rw[← hoa,← hdr,← J4 hak']
    exact he hq
   refine⟨nx,fun u hu=>hu.1.at,q0b.2 ⟨ka,hkp,⟨by omega,by omega⟩,ks[a],fun u hu=>hkc u hu.2.2,q00.2 ⟨fun hle=>hG (hF15.comp hF37) fun hq=>?_,fun hgt=>?_⟩⟩⟩
   ·rw[← hde hq,q2r,if_pos hle]
   have hcs:s5.l<=s5.c:=hv.cap
   refine⟨_,fun u hu=>hu.2.1.at,nx,fun u hu=>hu.1.at,q0b.2 ⟨ka,hkp,⟨by omega,by omega⟩,ks[a],fun u hu=>hkc u hu.2.2,⟨by omega,by omega,by omega,by omega⟩,?_⟩⟩
   intro w47
   have m47:Mem w37 w47 _:=Mem.nil.allocL
   have hF47:Fr (fun b=>b=mb) w15 w47:=hF37.comp m47.1.any
   have hv47:VI w47 s5 f:=hv.frF (hF15.comp hF47) fun b hb he=>hdj b hb he
   have hvf:Vw 1 (ie .i64 (id:Int->Int)) w47 ⟨subP s5.p 0 (s5.l:Int).toNat 1,(s5.l:Int).toNat-0,(s5.l:Int).toNat-0⟩ f:=by
    rw[qda,Int.toNat_natCast,Nat.sub_zero]
    exact⟨e5,Js _,hv47.rd⟩
   refine⟨hSS hF47,Vw.grow (m:=[(j:Int)-1]) hvf rfl (fun a=>q05 _ _ a) (Ow.row (l:=[(j:Int)-1]) (m47.row 0)).vw (by simp) (q1y _ _) rfl (by simp; omega) (by simp; omega) fun s48 w49 hm=>?_⟩
   have hF49:Fr (fun b=>b=mb) w15 w49:=hF47.comp hm.fr0.any
   refine⟨hSS hF49,q18 z38_ok ?_⟩
   have hdo:Dec p lot ((j:Int)-1):=q3k.1 (by rw[hos,← hoa]; exact J6 haos)
   have hsz:mb<w47.heap.size:=by have:=hF47.1; have:=m15.1.1; omega
   refine ih (ds++[lot]) (f++[(j:Int)-1]) ks[a] sq w49 s48 _ (h0 (hF15.comp hF49)) ((hF15.comp hF49).row hsb hsm) ((hF15.comp hF49).row hwb hwm) ((hS37.fr m47.1).fr hm.fr0) hsq (by rw[hlots]; simp) (by simp[hfl]) (by rw[hlots]; exact q9g (hlots ▸ hd) hfl hdo) hm.vw (fun b hb=>by have:=hm.nw b hb; omega) fun w51 hf51 hs51=>?_
   have hF51:Fr (fun b=>b=mb) w15 w51:=hF49.comp hf51
   refine⟨_,rfl,hSS hF51,q02.2 ⟨fun hnb=>hG (hF15.comp hF51) fun hq=>?_,fun hyb=>⟨q01,q01,?_⟩⟩⟩
   ·rw[← hde hq,q2r,if_neg hgt,if_neg (by intro hh; rw[hh] at hnb; cases hnb)]
   ·have hy:(q0y p N T ls (f++[(j:Int)-1]) ks[a] sq).1=true:=by
     cases hh:(q0y p N T ls (f++[(j:Int)-1]) ks[a] sq).1
     ·rw[hh] at hyb; cases hyb
     ·rfl
    refine hN w51 _ hF51 (hs51 hy) (q6u _ _ _ _ hsq) (by omega) (by omega) hdr2 fun hq=>?_
    rw[← hde hq,q2r,if_neg hgt,if_pos hy]
  refine q00.2 ⟨fun hc0=>?_,fun hc0=>?_⟩
  ·obtain⟨j,rfl⟩:∃ j',j=j'+1:=⟨j-1,by omega⟩
   have hjc:j<p.ch.length:=by omega
   refine⟨s1,hp30.at,VC.ld hP30.ch j (by omega) hjc fun x hcx=>?_⟩
   obtain⟨c0,_,_,_⟩:=hcx w30 Fr.refl
   refine⟨_,c0,s0,hp30.at,VI.ld hP30.lots f.length (by omega) (by simp at hl2; omega) (q0u.2 ⟨fun hne=>?_,fun heq=>?_⟩)⟩
   ·rw[hlot] at hne
    exact⟨q01,⟨⟨rfl,rfl,rfl,rfl,rfl,rfl,trivial⟩,a,j+1+1,sq,rfl,by omega,by omega,hao,hak,hrest.trans (qgk hjc hne),hsq,hS30,hG30,he⟩,by dsimp only; omega⟩
   ·rw[hlot] at heq
    refine hk1 _ (fun u sq' hu hs' hl' ha1 ha2 hd' he'=>⟨⟨⟨rfl,rfl,rfl,rfl,rfl,rfl,trivial⟩,a+1,j+1+1,sq',by omega,by omega,by omega,ha1,ha2,hd',hl',hs',hu,he'⟩,by dsimp only; omega⟩) ?_
    rw[qix hjc heq]
    congr 1
    omega
  ·obtain rfl:j=0:=by omega
   refine hk1 _ (fun u sq' hu hs' hl' ha1 ha2 hd' he'=>⟨⟨⟨rfl,rfl,rfl,rfl,rfl,rfl,trivial⟩,a+1,0+1,sq',by omega,by omega,by omega,ha1,ha2,hd',hl',hs',hu,he'⟩,by dsimp only; omega⟩) qgj
 ·have:j=p.ch.length+1:=by omega
  subst this
  rw[qiy] at hrest
  have haos:a=os.length:=by have:=congrArg List.length hrest; simp at this; omega
  by_cases hq:ks.length=os.length
  ·show K ((a:Int) == (nx.l:Int)) _; rw[show((a:Int) == (nx.l:Int))=true from by rw[beq_iff_eq]; omega]
   refine hGT hF1 hq ?_ hSq
   rw[← he hq,hrest]
   simp[q2r]
  ·show K ((a:Int) == (nx.l:Int)) _; rw[show((a:Int) == (nx.l:Int))=false from by rw[beq_eq_false_iff_ne]; omega]
   exact hG hF1 fun h=>absurd h hq
end
open Go Pw
def chkP (p:Pr)(T:List Int)(pts bnd:Int)(N:List Nd):Int :=
 if q0g p then (if q21 p T && (decide (q1r p T=pts) && (decide (bnd=pts) && q5m p N T)) then 0 else 41) else 1
section
variable {w w' w0:World}{s0 s1 s2 t5 ns:Sl}{p:Pr}{T:List Int}{N:List Nd}{pts bnd:Int}{rb sb pb wb mb:Nat}
theorem qfh (hp:q03 p)(hP0:PV w0 s0 s1 s2 p)(hT0:VI w0 t5 T)(hPT:q21 p T=true)(hN0:NV w0 ns N)(hrb:Row w0 rb (rsC t5 pts bnd ns))(hpb:Row w0 pb (prC s0 s1 s2 p.most p.budget))(hmb:w0.heap.size<=mb)(hsm:sb≠mb)(hwm:wb≠mb):∀ ls,qly w0 p T N rb sb pb wb mb ls
 | []=>qam hp hP0 hT0 hPT hN0 hrb hpb hmb hsm hwm [] fun _ _ h=>by cases h
 | lot :: ls=>qam hp hP0 hT0 hPT hN0 hrb hpb hmb hsm hwm (lot :: ls) fun _ _ h=>by
   cases h
   exact qfh hp hP0 hT0 hPT hN0 hrb hpb hmb hsm hwm ls
theorem q4d {K:Int->World->Prop}(hP:PV w s0 s1 s2 p)(hT:VI w t5 T)(hTl:T.length<2^63)(hN:NV w ns N)(hK:∀ w',Fr F0 w w'->K (chkP p T pts bnd N) w'):z3s_sh s0 s1 s2 p.most p.budget t5 pts bnd ns K w:=by
 have en:=hN.len
 have hNl:=hN.lt
 refine⟨?_⟩
 intro w1
 have m:Mem w w1 _:=Mem.nil.allocL
 intro w2
 have m:Mem w w2 [(w1.heap.size,rsC t5 pts bnd ns),(w.heap.size,prC s0 s1 s2 p.most p.budget)]:=m.allocL
 refine⟨s0,m.ld 1,s1,m.ld 1,s2,m.ld 1,_,m.ld 1,_,m.ld 1,q9j (hP.fr m.1) fun w8 hf8=>?_⟩
 have m:=m.fr hf8
 cases hr:q0g p with
 | false =>
  have hk:=hK w8 m.1
  unfold chkP at hk
  rw[hr] at hk
  exact hk
 | true =>
 have hp:=q0f.1 hr
 have hno:∀ {u},Fr F0 w u->(q21 p T && (decide (q1r p T=pts) && (decide (bnd=pts) && q5m p N T)))=false->K 41 u:=fun {u} hu h=>by
  have hk:=hK u hu
  unfold chkP at hk
  rw[hr,h] at hk
  exact hk
 have hyes:∀ {u},Fr F0 w u->(q21 p T && (decide (q1r p T=pts) && (decide (bnd=pts) && q5m p N T)))=true->K 0 u:=fun {u} hu h=>by
  have hk:=hK u hu
  unfold chkP at hk
  rw[hr,h] at hk
  exact hk
 show cnd (!true) _ _
 rw[Jz,q0h]
 intro w10
 have m:Mem w w10 _:=m.drew
 have hPF:∀ {u},Fr F0 w u->PF u s0 s1 s2 t5 p T:=fun hu=>⟨hP.fr hu,hT.fr hu,hTl⟩
 refine⟨fun u=>Rs u [(w1.heap.size,rsC t5 pts bnd ns),(w.heap.size,prC s0 s1 s2 p.most p.budget)],m.sub 0,s0,fun _ h=>h.ld 1,s1,fun _ h=>h.ld 1,s2,fun _ h=>h.ld 1,_,fun _ h=>h.ld 1,_,fun _ h=>h.ld 1,t5,fun _ h=>h.ld 0,q9k hp (hPF m.1) fun w18 hf18=>?_⟩
 have m:=m.fr hf18
 refine⟨m.sub 0,?_⟩
 cases hpt:q21 p T with
 | false=>exact hno m.1 (by rw[hpt,Jv])
 | true =>
 rw[hpt,Ju] at hno hyes
 have hd:Decs p p.lots T:=q33 (q3y hpt)
 show cnd (!true) _ _
 rw[Jz,q0h]
 refine⟨s0,fun _ h=>h.ld 1,s1,fun _ h=>h.ld 1,s2,fun _ h=>h.ld 1,_,fun _ h=>h.ld 1,_,fun _ h=>h.ld 1,t5,fun _ h=>h.ld 0,_,fun _ h=>h.ld 0,q7t hp (hPF m.1) hd fun w27 hf27=>?_⟩
 have m:=m.fr hf27
 have hm27:=m.1
 refine⟨m.sub 0,q0u.2 ⟨fun hne=>hno m.1 (by rw[decide_eq_false hne,Jv]),fun heq=>⟨_,fun _ h=>h.ld 0,_,fun _ h=>h.ld 0,q0u.2 ⟨fun hne=>hno m.1 (by rw[decide_eq_false hne,Jv,Bool.and_false]),fun heq2=>?_⟩⟩⟩⟩
 rw[decide_eq_true heq,decide_eq_true heq2,Ju,Ju] at hno hyes
 unfold q5m at hno hyes
 rw[hr,hpt,Ju,Ju] at hno hyes
 have hrb:=m.row 0
 have hpb:=m.row 1
 intro w31
 have hmp:Mp w31 w27.heap.size .i64 []:=Mp.made w27 .i64
 have hf31:Fr F0 w27 w31:=Fr.alloc
 have hlt31:w27.heap.size<w31.heap.size:=by obtain⟨es,clk,hh,_⟩:=id hmp; exact(JA.1 hh).1
 intro w32
 have m:Mem w31 w32 _:=Mem.nil.allocL
 refine⟨m.wr 0,?_⟩
 intro w33
 have m:Mem w31 w33 [(w31.heap.size,[Value.map (some w27.heap.size)])]:=m.set 0
 intro w34
 have m:Mem w31 w34 [(w33.heap.size,[Value.nilFunc]),(w31.heap.size,[Value.map (some w27.heap.size)])]:=m.allocL
 have h33:w31.heap.size<=w33.heap.size:=m.2.2.2 _ (Jl ..)
 refine⟨m.wr 0,?_⟩
 intro w35
 have m:Mem w31 w35 [(w33.heap.size,[wfn w1.heap.size w31.heap.size w.heap.size w33.heap.size]),(w31.heap.size,[Value.map (some w27.heap.size)])]:=m.set 0
 have hF35:Fr F0 w27 w35:=hf31.t m.1
 have hSM:SM w35 w27.heap.size (J8 N.length false):=SM.made (Mp.fr hmp m.1)
 refine⟨_,m.ld 0,q18 z38_ok ?_⟩
 refine qfh (w0:=w27) (rb:=w1.heap.size) (sb:=w31.heap.size) (pb:=w.heap.size) (wb:=w33.heap.size) (mb:=w27.heap.size) hp (hP.fr hm27) (hT.fr hm27) hpt (hN.fr hm27) hrb hpb (Js _) (by omega) (by omega) p.lots [] [] 0 (J8 N.length false) w35 ⟨none,0,0⟩ _ hF35 (m.row 1) (m.row 0) hSM (by simp) rfl rfl (qbk _) Vw.nil (fun b ⟨a,ha,_⟩=>by cases ha) fun w38 hf38 hs38=>?_
 have hF38:Fr F0 w w38:=hm27.t (hF35.trans hf38 fun b hb hlt=>by omega)
 refine⟨_,rfl,q02.2 ⟨fun hn=>hno hF38 ?_,fun hy=>?_⟩⟩
 ·rw[show(q0y p N T p.lots [] 0 (J8 N.length false)).1=false by simpa using hn,Jv]
 have hy:(q0y p N T p.lots [] 0 (J8 N.length false)).1=true:=by simpa using hy
 rw[hy,Ju] at hno hyes
 have hlen:=q6u (N:=N) (p:=p) (T:=T) p.lots [] 0 (J8 N.length false) (by simp:_=N.length)
 obtain⟨l,hl1,_,_,hl4⟩:=hs38 hy
 generalize (q0y p N T p.lots [] 0 (J8 N.length false)).2=sq at *
 have hac:=qd9 sq
 refine⟨some w27.heap.size,(hf38.row (m.row 1) (by omega)).at rfl,qd5 ⟨_,hl1.len,ns,((hF35.trans hf38 fun b hb hlt=>by omega).row hrb fun h=>h).at rfl,q0u.2 ⟨fun hne=>hno hF38 ?_,fun heq3=>hyes hF38 ?_⟩⟩⟩
 ·cases hq:sq.all id with
  | false=>rfl
  | true =>
   have:=hac.2 hq
   simp at hne
   omega
 ·apply hac.1
  simp at heq3
  omega
end
end Go.Proofs.YtfpobpjandjhjaaGreatDoor
