/- strings.Builder, strconv.Itoa, and lines of text. Conditions: none. -/
import Derived.Test.YtfpobpjandjhjaaGreatDoorPE1
import Derived.Test.YtfpobpjandjhjaaGreatDoorPR9
import Derived.Test.YtfpobpjandjhjaaGreatDoorPG3
import Derived.Test.YtfpobpjandjhjaaGreatDoorPSH
import Derived.Shelf.Strconv.Itoa4
import Derived.Lib.ItoaLen
open List renaming length_append->J0,append_assoc->J1,map_append->J2,flatMap_append->J3,take_length->J4,length_cons->J5
namespace Pw
open Go
def NU (w:World)(k:Nat):Prop:=k<w.heap.size/\∀ c f,w.heap[k]?≠some (.cells c 5 f)
section
variable {w w' w0 w2:World}{k b:Nat}
theorem NU.congr (h:NU w k)(hs:w.heap.size<=w'.heap.size)(he:w'.heap[k]?=w.heap[k]?):NU w' k:=⟨Nat.lt_of_lt_of_le h.1 hs,fun c f=>he ▸ h.2 c f⟩
theorem NU.fr (h:NU w k)(hf:Fr F0 w w'):NU w' k:=h.congr hf.1 (hf.2.1 k h.1 fun h=>h)
theorem NU.new {cs:Array Value}{e:TypeId}(he:e≠5):NU (w.alloc (.cells cs e)) w.heap.size:=by
 refine⟨by show _<(w.heap.push _).size; simp,fun c f h=>?_⟩
 have:(w.alloc (.cells cs e)).heap[w.heap.size]?=some (.cells cs e (0,0)):=by show(w.heap.push _)[w.heap.size]?=_; simp
 rw[this] at h
 cases h
 exact he rfl
theorem NU.set {a:Addr}{v:Value}(h:NU w k):NU (w.setCell a v) k:=by
 refine⟨by simpa [World.setCell] using h.1,fun c f hc=>?_⟩
 by_cases ha:a.block=k
 ·simp only[World.setCell,Array.getElem?_modify,if_pos ha] at hc
  cases ho:w.heap[k]? with
  | none=>rw[ho] at hc; cases hc
  | some o =>
   rw[ho] at hc
   cases o with
   | cells c' e' f' =>
    obtain⟨_,rfl,_⟩:=hc
    exact h.2 _ _ ho
   | _=>simp at hc
 ·rw[q0r ha] at hc
  exact h.2 _ _ hc
theorem qkx {a:Addr}:∀ (vs:List Value) (i:Nat) {w:World},NU w k->NU (wrC w a i vs) k
 | [],_,_,h=>h
 | _ :: vs,i,_,h=>qkx vs (i+1) h.set
theorem qkk {size bytes:Nat}{zero:List Value}{e:TypeId}{s:Sl}{n:Nat}{new:List Value}{K K':SW}(h:apG size bytes zero e s n new w K)(hs:∀ b,inB s b->NU w b)(he:e≠5)(hk:∀ r w',K r w'->(∀ b,inB r b->NU w' b)->K' r w'):apG size bytes zero e s n new w K':=by
 refine⟨fun hc=>?_,fun hc=>?_⟩
 ·have h1:=h.1 hc
  cases hp:s.p with
  | none =>
   rw[hp] at h1
   exact hk _ _ h1 fun b ⟨a,ha,_⟩=>by cases ha
  | some a =>
   rw[hp] at h1
   exact⟨h1.1,hk _ _ h1.2 fun b ⟨a',ha',hb⟩=>by cases ha'; exact qkx _ _ (hs b ⟨a,hp,hb⟩)⟩
 ·obtain⟨h1,h2,old,h3,h4⟩:=h.2 hc
  exact⟨h1,h2,old,h3,fun cap hcap=>hk _ _ (h4 cap hcap) fun b ⟨a,ha,hb⟩=>by cases ha; subst hb; exact NU.new (w:=w.drew) he⟩
theorem qbv {size bytes:Nat}{zero:List Value}{e:TypeId}{s x:Sl}{K K':SW}(h:apS size bytes zero e s x w K)(hs:∀ b,inB s b->NU w b)(he:e≠5)(hk:∀ r w',K r w'->(∀ b,inB r b->NU w' b)->K' r w'):apS size bytes zero e s x w K':=by
 obtain⟨new,h1,h2,h3⟩:=h
 exact⟨new,h1,h2,qkk h3 hs he hk⟩
theorem qky {a:Addr}{K K':World->Prop}:∀ (us:List Value) (i:Nat) (u:World),stN.go a K us i u->NU u k->(∀ w',NU w' k->K w'->K' w')->stN.go a K' us i u
 | [],_,_,h,hn,hk=>hk _ hn h
 | _ :: us,i,_,h,hn,hk=>⟨h.1,qky us (i+1) _ h.2 hn.set hk⟩
structure Fb (b:Nat)(w w':World):Prop where
 bel:RowKit.Below b w w'
 oth:∀ k,k≠b->NU w k->w'.heap[k]?=w.heap[k]?
theorem Fb.nu (h:Fb b w w')(hb:k≠b)(hn:NU w k):NU w' k:=hn.congr h.bel.size (h.oth k hb hn)
theorem Fb.t (h:Fb b w w')(h':Fb b w' w2):Fb b w w2:=⟨h.bel.trans h'.bel,fun k hb hn=>(h'.oth k hb (h.nu hb hn)).trans (h.oth k hb hn)⟩
theorem Fb.row {cs:List Value}(h:Fb b w w')(hb:k≠b)(hn:NU w k)(hr:Row w k cs):Row w' k cs:=hr.congr (h.oth k hb hn)
theorem Fb.vw {α:Type}{n:Nat}{enc:α->List Value}{s:Sl}{l:List α}(h:Fb b w w')(hs:∀ k,inB s k->k≠b/\NU w k)(hv:Vw n enc w s l):Vw n enc w' s l :=
 q1t.vw s l w w' (fun k hk=>h.oth k (hs k hk).1 (hs k hk).2) hv
theorem Fb.fr0 (h:Fb b w w')(h0:Fr F0 w0 w)(hb:w0.heap.size<=b):Fr F0 w0 w' :=
 ⟨Nat.le_trans h0.1 h.bel.size,fun k hk _=>(h.bel.block k (by omega)).trans (h0.2.1 k hk fun h=>h),h.bel.os.trans h0.2.2.1,h.bel.output.trans h0.2.2.2.1,h.bel.tape.trans h0.2.2.2.2⟩
theorem qkl (w:World):∀ k,Fr F0 w (w.drewN k):=fun _=>⟨Nat.le_refl _,fun _ _ _=>rfl,rfl,rfl,rfl⟩
theorem qlz (w:World)(os:Array Obj):Fr F0 w (Go.Sort.grow w os):=by
 refine⟨by simp[Go.Sort.grow],fun b hb _=>?_,rfl,rfl,rfl⟩
 show(w.heap++os)[b]?=_
 rw[Array.getElem?_append_left hb]
def encS (s:ByteArray):List Value:=[.string s]
@[simp] theorem encS_length (s:ByteArray):(encS s).length=1:=rfl
theorem qed (s:ByteArray):∀ v∈encS s,okC v=true:=by intro v hv; simp[encS] at hv; subst hv; rfl
theorem qm0 {s:Sl}{l:List ByteArray}{i:Int}{K:ByteArray->Prop}(h:Vw 1 encS w s l)(i':Nat)(hi:i=(i':Int))(h1:i'<l.length)(hK:K l[i']) :
  nz s.p fun a=>(0<=i/\i<(s.l:Nat))/\∃ x:ByteArray,w.cell? (a.add (i.toNat*1))=some (Value.string x)/\K x:=by
 subst hi
 obtain⟨ad,hp,hc⟩:=h.at encS_length (List.getElem?_eq_getElem h1) (by decide)
 have hl:=h.len
 rw[hp]
 exact⟨⟨by omega,by omega⟩,_,hc 0 _ rfl,hK⟩
end
end Pw
namespace Go.Proofs.YtfpobpjandjhjaaGreatDoor
open Go Pw
def GlT (w:World):Prop:=Lib.TabIs Tryz.prog w "internal/strconv.uint64pow10" .u64 Lib.pow10Tab
def Bld (b:Nat)(l:List UInt8)(w:World):Prop:=Lib.IsBuilderF (Tryz.lays169_ren.t 72) 5 b b (Lib.byteCells l) w
section
variable {w w' w0:World}{b:Nat}{l:List UInt8}
theorem GlT.fr (h:GlT w)(hf:Fr F0 w w'):GlT w':=by
 unfold GlT Lib.TabIs World.var? at h ⊢
 cases hg:Program.globalNamed Tryz.prog "internal/strconv.uint64pow10" with
 | none=>rw[hg] at h; cases h
 | some g =>
  rw[hg] at h
  simp only[Option.bind_some] at h ⊢
  have hlt:g<w.heap.size:=by
   rcases Nat.lt_or_ge g w.heap.size with hl | hl
   ·exact hl
   ·rw[Array.getElem?_eq_none hl] at h
    cases h
  rw[hf.2.1 g hlt fun hh=>hh]
  exact h
theorem qdb {n:Int}(h:I64 n):(Lib.itoa n).length<=21:=Lib.itoa_length_le n h.1 (by have:=h.2; omega)
theorem q6x {n:Int}{K:ByteArray->World->Prop}(h:I64 n)(g:GlT w)(hK:∀ w',Fr F0 w w'->K (ofL (Lib.itoa n)) w'):z3o_sh n K w :=
 ⟨(Any.strconv_Itoa Tryz.laysM171 n h.1 (by have:=h.2; omega) w g).mono fun e w' he=>by
  obtain⟨rfl,k,os,rfl⟩:=he
  exact⟨_,rfl,hK _ (Fr0.t (qkl w k) (qlz _ os))⟩⟩
theorem qfi {T:TypeId}{p:Value}{bs:List Value}(h:Lib.BuilderAtF T 5 b b p bs w)(hf:Fr F0 w w'):Lib.BuilderAtF T 5 b b p bs w':=by
 have hlt:=h.lt
 obtain⟨hB,v,hb,hown,hne⟩:=h
 refine⟨hB,v,(hf.2.1 b hlt fun h=>h).trans hb,⟨hown.1,?_⟩,hne⟩
 rcases hown.2 with h1 | ⟨g,cap,cur,fz,h1,h2,h3,h4⟩
 ·exact .inl h1
 ·exact .inr ⟨g,cap,cur,fz,h1,h2,(hf.2.1 g (Array.getElem?_eq_some_iff.1 h3).1 fun h=>h).trans h3,h4⟩
theorem Bld.fr (h:Bld b l w)(hf:Fr F0 w w'):Bld b l w':=h.elim (fun h=>.inl (qfi h hf)) fun h=>.inr (qfi h hf)
theorem Bld.lt (h:Bld b l w):b<w.heap.size:=h.elim (fun h=>h.lt) fun h=>h.lt
theorem Bld.new:Bld w.heap.size [] (w.alloc (.cells #[.pointer none,.slice none 0 0] (Tryz.lays169_ren.t 72))):=Lib.IsBuilderF.of (Lib.fresh_isBuilder (Tryz.lays169_ren.t 72) 5 w)
theorem fb_of (h1:RowKit.Below b w w')(h2:Lib.OthersKept 5 (some b) w w'):Fb b w w' :=
 ⟨h1,fun k hb hn=>by
  obtain⟨hlt,hnc⟩:=hn
  obtain⟨o,ho⟩:∃ o,w.heap[k]?=some o:=⟨_,Array.getElem?_eq_getElem hlt⟩
  rw[ho]
  exact h2 k o ho (fun e=>hb (Option.some.inj e)) fun c f he=>hnc c f (by rw[ho,he])⟩
theorem q2u {s:ByteArray}{K:Int->Value->World->Prop}(h:Bld b l w)(hlen:l.length+s.size<=140737488355328)(hK:∀ r0 r1 w',Bld b (l++bl s) w'->Fb b w w'->K r0 r1 w'):z02_sh (some ⟨b,0,none⟩) s K w :=
 ⟨(Any.Builder_WriteString_k Tryz.lays166 Tryz.Builder_Extra_166 b b (Lib.byteCells l) s w h (by rw[Lib.byteCells_length]; exact hlen) (Nat.le_of_lt h.lt)).mono fun e w' he=>by
  obtain⟨rfl,h1,h2,h3⟩:=he
  refine⟨_,_,rfl,hK _ _ _ (.inr ?_) (fb_of h2 h3)⟩
  rw[Lib.byteCells_append]
  exact h1⟩
theorem qee {K:ByteArray->World->Prop}(h:Bld b l w)(hK:∀ w',Fb b w w'->K (ofL l) w'):z0g_sh (some ⟨b,0,none⟩) K w :=
 ⟨(Any.Builder_String_any_k Tryz.lays169 Tryz.Builder_Extra_169 b b l w h (Nat.le_of_lt h.lt)).mono fun e w' he=>by
  obtain⟨rfl,_,h2,h3⟩:=he
  exact⟨_,rfl,hK _ (fb_of h2 h3)⟩⟩
theorem q5b {s:Sl}{l:List Int}{K:Sl->World->Prop}(hv:VI w s l)(hi:∀ n∈l,I64 n)(hl:l.length<2^43)(g:GlT w)
  (hK:∀ w' r,Mk w 1 encS w' r (l.map fun n=>ofL (Lib.itoa n))->(∀ b,inB r b->NU w' b)->K r w'):z3v_sh s K w:=by
 have el:=hv.len
 refine⟨⟨⟨fun out i u=>∃ i':Nat,i=i'/\i'<=l.length/\Mk w 1 encS u out ((l.take i').map fun n=>ofL (Lib.itoa n))/\∀ b,inB out b->NU u b,fun _ i _=>l.length-i.toNat,⟨0,rfl,by omega,Mk.nil Fr.refl,fun b ⟨a,ha,_⟩=>by cases ha⟩,?_⟩⟩⟩
 rintro out i u ⟨i,rfl,hi',hm,hn⟩
 unfold z3v_b0
 refine q00.2 ⟨fun hlt=>?_,fun hge=>?_⟩
 ·have hil:i<l.length:=by omega
  refine VI.ld (hv.fr hm.fr0) i rfl hil (q6x (hi _ (List.getElem_mem hil)) (g.fr hm.fr0) fun w3 hf3=>?_)
  have hm:=hm.fr hf3
  have hn3:∀ b,inB out b->NU w3 b:=fun b hb=>(hn b hb).fr hf3
  intro w5
  refine qbv (K:=fun r w'=>Mk w 1 encS w' r (((l.take i).map fun n=>ofL (Lib.itoa n))++[ofL (Lib.itoa l[i])])) (hm.push (a:=ofL (Lib.itoa l[i])) rfl rfl qed rfl (by simp; omega) (by simp; omega) fun r w' h _=>h) (fun b hb=>(hn3 b hb).fr Fr.alloc) (by decide) fun r w' h hn'=>⟨q01,⟨⟨rfl,rfl,trivial⟩,i+1,by omega,by omega,?_,hn'⟩,by dsimp only; omega⟩
  rw[q08 hil,J2]
  exact h
 ·have:i=l.length:=by omega
  subst this
  rw[J4] at hm
  exact hK u out hm hn
theorem q7g {word:ByteArray}{s:Sl}{ps:List ByteArray}{K:World->Prop}(h:Bld b l w)(hv:Vw 1 encS w s ps)(hnu:∀ k,inB s k->k≠b/\NU w k)(hlen:l.length+(q4c (bl word) (ps.map bl)).length<=140737488355328)
  (hK:∀ w',Bld b (l++q4c (bl word) (ps.map bl)) w'->Fb b w w'->K w'):z3x_sh (some ⟨b,0,none⟩) word s K w:=by
 have el:=hv.len
 have hll:(q4c (bl word) (ps.map bl)).length=word.size+(((ps.map bl).flatMap (fun s=>32 :: s)).length+1):=by unfold q4c; rw[J0,J0,q4l]; rfl
 have hpl:ps.length<2^62:=by
  have:∀ q:List ByteArray,q.length<=((q.map bl).flatMap (fun s=>32 :: s)).length:=fun q=>by
   induction q with
   | nil=>simp
   | cons x q ih=>simp only[List.map_cons,List.flatMap_cons,J0,J5]; omega
  have:=this ps
  omega
 refine⟨q2u h (by omega) fun _ _ w1 h1 f1=>⟨⟨fun i u=>∃ i':Nat,i=i'/\i'<=ps.length/\Bld b (l++bl word++((ps.take i').map bl).flatMap (fun s=>32 :: s)) u/\Fb b w u,fun i _=>ps.length-i.toNat,⟨0,rfl,by omega,by simpa using h1,f1⟩,?_⟩⟩⟩
 rintro i u ⟨i,rfl,hi,hb,hf⟩
 unfold z3x_b0
 refine q00.2 ⟨fun hlt=>?_,fun hge=>?_⟩
 ·have hil:i<ps.length:=by omega
  have e32:bl (str [32])=[32]:=by rw[q9z]; rfl
  have s32:(str [32]).size=1:=by decide
  have hsplit:((ps.take (i+1)).map bl).flatMap (fun s=>32 :: s)=((ps.take i).map bl).flatMap (fun s=>32 :: s)++32 :: bl ps[i]:=by
   rw[q08 hil,J2,J3]
   simp
  have hle:(((ps.take (i+1)).map bl).flatMap (fun s=>(32:UInt8) :: s)).length<=((ps.map bl).flatMap (fun s=>(32:UInt8) :: s)).length:=by
   have:ps.map bl=(ps.take (i+1)).map bl++(ps.drop (i+1)).map bl:=by rw[← J2,List.take_append_drop]
   rw[this,J3,J0]
   omega
  rw[hsplit,J0,J5,q4l] at hle
  refine qm0 (hf.vw hnu hv) i rfl hil ⟨?_,q2u hb ?_ fun _ _ w6 h6 f6=>⟨q01,⟨⟨rfl,rfl,rfl,trivial⟩,i+1,by omega,by omega,?_,hf.t f6⟩,by dsimp only; omega⟩⟩
  ·rw[s32]; unfold maxI; omega
  ·rw[J0,J0,q4l,ByteArray.size_append,s32]; omega
  ·rw[hsplit,← J1]
   rw[q8g,e32] at h6
   exact h6
 ·have:i=ps.length:=by omega
  subst this
  rw[J4] at hb
  have e10:bl (str [10])=[10]:=by rw[q9z]; rfl
  have s10:(str [10]).size=1:=by decide
  refine q2u hb (by rw[J0,J0,q4l,s10]; omega) fun _ _ w9 h9 f9=>hK w9 ?_ (hf.t f9)
  rw[e10] at h9
  unfold q4c
  rw[← J1,← J1]
  exact h9
end
end Go.Proofs.YtfpobpjandjhjaaGreatDoor
