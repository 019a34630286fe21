/- Rational numbers: what the operations answer, as plain laws. Conditions: none. -/
import Derived.Test.YtfpobpjandjhjaaGreatDoorRXZ
namespace Go.Proofs.YtfpobpjandjhjaaGreatDoor
open Go Pw
def makeQ (n d:Int):RR:=if d=0 then zr else fitQ (Rat.divInt n d)
theorem fitQ_I64 (q:Rat):I64 (fitQ q).n/\I64 (fitQ q).d:=by
 unfold fitQ
 split
 ·rename_i h
  refine⟨⟨h.1,h.2.1⟩,?_⟩
  have:=h.2.2
  show I64 (q.den:Int)
  exact⟨by omega,by omega⟩
 ·exact⟨⟨by decide,by decide⟩,⟨by decide,by decide⟩⟩
theorem makeQ_right (n d:Int):rightP (makeQ n d).n (makeQ n d).d/\I64 (makeQ n d).n/\I64 (makeQ n d).d:=by
 unfold makeQ
 split
 ·exact⟨by decide,⟨by decide,by decide⟩,⟨by decide,by decide⟩⟩
 ·exact⟨fitQ_right _,fitQ_I64 _⟩
theorem rI (n:Int):rightP n 1:=⟨by decide,by simp⟩
theorem val_lt {n d n' d':Int}(h:rightP n d)(h':rightP n' d'):val n d<val n' d' ↔ n*d'<n'*d:=by
 rw[Rat.lt_iff,val_num h,val_num h',val_den h,val_den h']
theorem val_zero {d:Int}:val 0 d=0:=by unfold val; simp
def cmpR (x y:Rat):Int:=if x<y then -1 else if y<x then 1 else 0
theorem cmpQ_val {n d n' d':Int}(h:rightP n d)(h':rightP n' d'):cmpQ n d n' d'=cmpR (val n d) (val n' d'):=by
 unfold cmpQ cmpR cmpI
 rw[if_pos ⟨h,h'⟩]
 simp only[val_lt h h',val_lt h' h]
theorem addQ_val {n d n' d':Int}(h:rightP n d)(h':rightP n' d'):addQ n d n' d'=fitQ (val n d+val n' d'):=by unfold addQ; rw[if_pos ⟨h,h'⟩]
theorem mulQ_val {n d n' d':Int}(h:rightP n d)(h':rightP n' d'):mulQ n d n' d'=fitQ (val n d*val n' d'):=by unfold mulQ; rw[if_pos ⟨h,h'⟩]
theorem zr_right:rightP zr.n zr.d:=⟨by decide,by decide⟩
theorem addQ_right (n d n' d':Int):rightP (addQ n d n' d').n (addQ n d n' d').d:=by
 unfold addQ; split
 ·exact fitQ_right _
 ·exact zr_right
theorem mulQ_right (n d n' d':Int):rightP (mulQ n d n' d').n (mulQ n d n' d').d:=by
 unfold mulQ; split
 ·exact fitQ_right _
 ·exact zr_right
theorem zr_I64:I64 zr.n/\I64 zr.d:=⟨⟨by decide,by decide⟩,⟨by decide,by decide⟩⟩
theorem addQ_I64 (n d n' d':Int):I64 (addQ n d n' d').n/\I64 (addQ n d n' d').d:=by
 unfold addQ; split
 ·exact fitQ_I64 _
 ·exact zr_I64
theorem mulQ_I64 (n d n' d':Int):I64 (mulQ n d n' d').n/\I64 (mulQ n d n' d').d:=by
 unfold mulQ; split
 ·exact fitQ_I64 _
 ·exact zr_I64
theorem addQ_fit {n d n' d':Int}(h:rightP n d)(h':rightP n' d')(hok:(addQ n d n' d').ok=true):val (addQ n d n' d').n (addQ n d n' d').d=val n d+val n' d':=by
 rw[addQ_val h h'] at hok ⊢
 exact fitQ_val hok
theorem mulQ_fit {n d n' d':Int}(h:rightP n d)(h':rightP n' d')(hok:(mulQ n d n' d').ok=true):val (mulQ n d n' d').n (mulQ n d n' d').d=val n d*val n' d':=by
 rw[mulQ_val h h'] at hok ⊢
 exact fitQ_val hok
end Go.Proofs.YtfpobpjandjhjaaGreatDoor
