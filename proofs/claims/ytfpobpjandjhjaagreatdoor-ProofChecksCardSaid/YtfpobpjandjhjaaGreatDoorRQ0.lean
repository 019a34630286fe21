/- Rational numbers: what the operations answer, as plain laws. Conditions: none. -/
import Derived.Test.YtfpobpjandjhjaaGreatDoorRXZ
namespace Go.Proofs.YtfpobpjandjhjaaGreatDoor
open Go Pw
def q7a (n d:Int):RR:=if d=0 then zr else fitQ (Rat.divInt n d)
theorem qbf (q:Rat):I64 (fitQ q).n/\I64 (fitQ q).d:=by
 unfold fitQ
 split
 ·rename_i h
  refine⟨⟨h.1,h.2.1⟩,?_⟩
  show I64 (q.den:Int)
  exact⟨by omega,by omega⟩
 ·exact⟨⟨by decide,by decide⟩,⟨by decide,by decide⟩⟩
theorem qdx (n d:Int):q04 (q7a n d).n (q7a n d).d/\I64 (q7a n d).n/\I64 (q7a n d).d:=by
 unfold q7a
 split
 ·exact⟨by decide,⟨by decide,by decide⟩,⟨by decide,by decide⟩⟩
 ·exact⟨q54 _,qbf _⟩
theorem rI (n:Int):q04 n 1:=⟨by decide,by simp⟩
theorem qbg {n d:Int}(h:q04 n d):fitQ (val n d)=if -9223372036854775808<=n/\n<9223372036854775808/\d<9223372036854775808 then ⟨n,d,true⟩ else zr:=by
 unfold fitQ
 rw[q70 h]
 have e:=q71 h
 by_cases hc:-9223372036854775808<=n/\n<9223372036854775808/\d<9223372036854775808
 ·rw[if_pos hc,if_pos ⟨hc.1,hc.2.1,by omega⟩,e]
 ·rw[if_neg hc,if_neg (by omega)]
theorem q8x {n d:Int}(h:0<d):val n d=Rat.divInt n d:=by
 have e:d=((d.toNat:Nat):Int):=by omega
 unfold val
 conv=>rhs; rw[e]
 rw[Rat.divInt_ofNat]
theorem qez {n d n' d':Int}(h:q04 n d)(h':q04 n' d'):val n d<val n' d' ↔ n*d'<n'*d:=by
 rw[Rat.lt_iff,q70 h,q70 h',q71 h,q71 h']
theorem qbh {d:Int}:val 0 d=0:=by unfold val; simp
def cmpR (x y:Rat):Int:=if x<y then -1 else if y<x then 1 else 0
theorem qju {n d n' d':Int}(h:q04 n d)(h':q04 n' d'):cmpQ n d n' d'=cmpR (val n d) (val n' d'):=by
 unfold cmpQ cmpR cmpI
 rw[if_pos ⟨h,h'⟩]
 simp only[qez h h',qez h' h]
theorem qf0 {n d n' d':Int}(h:q04 n d)(h':q04 n' d'):addQ n d n' d'=fitQ (val n d+val n' d'):=by unfold addQ; rw[if_pos ⟨h,h'⟩]
theorem qf1 {n d n' d':Int}(h:q04 n d)(h':q04 n' d'):mulQ n d n' d'=fitQ (val n d*val n' d'):=by unfold mulQ; rw[if_pos ⟨h,h'⟩]
theorem zr_right:q04 zr.n zr.d:=⟨by decide,by decide⟩
theorem qg5 (n d n' d':Int):q04 (addQ n d n' d').n (addQ n d n' d').d:=by
 unfold addQ; split
 ·exact q54 _
 ·exact zr_right
theorem qg6 (n d n' d':Int):q04 (mulQ n d n' d').n (mulQ n d n' d').d:=by
 unfold mulQ; split
 ·exact q54 _
 ·exact zr_right
theorem zr_I64:I64 zr.n/\I64 zr.d:=⟨⟨by decide,by decide⟩,⟨by decide,by decide⟩⟩
theorem qbi (n d n' d':Int):I64 (addQ n d n' d').n/\I64 (addQ n d n' d').d:=by
 unfold addQ; split
 ·exact qbf _
 ·exact zr_I64
theorem qbj (n d n' d':Int):I64 (mulQ n d n' d').n/\I64 (mulQ n d n' d').d:=by
 unfold mulQ; split
 ·exact qbf _
 ·exact zr_I64
theorem qjv {n d n' d':Int}(h:q04 n d)(h':q04 n' d')(hok:(addQ n d n' d').ok=true):val (addQ n d n' d').n (addQ n d n' d').d=val n d+val n' d':=by
 rw[qf0 h h'] at hok ⊢
 exact qep hok
theorem qjw {n d n' d':Int}(h:q04 n d)(h':q04 n' d')(hok:(mulQ n d n' d').ok=true):val (mulQ n d n' d').n (mulQ n d n' d').d=val n d*val n' d':=by
 rw[qf1 h h'] at hok ⊢
 exact qep hok
theorem qi3 {n d:Int}(h:q04 n d)(hn:I64 n)(hd:I64 d):fitQ (val n d)=⟨n,d,true⟩:=by
 rw[qbg h,if_pos ⟨hn.1,hn.2,hd.2⟩]
end Go.Proofs.YtfpobpjandjhjaaGreatDoor
