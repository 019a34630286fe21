/- strings.Builder, strconv.Itoa, and lines of text. Conditions: none. -/
import Derived.Test.YtfpobpjandjhjaaGreatDoorPE1
import Derived.Test.YtfpobpjandjhjaaGreatDoorPR9
import Derived.Test.YtfpobpjandjhjaaGreatDoorPG3
import Derived.Test.YtfpobpjandjhjaaGreatDoorPSH
import Derived.Shelf.Strconv.Itoa4
import Derived.Lib.ItoaLen
import Derived.Test.YtfpobpjandjhjaaGreatDoorPwU
import Derived.Lib.SplitLaws
namespace Pw
open Go
def NU (w:World)(k:Nat):Prop:=k<w.heap.size/\∀ c f,w.heap[k]?≠some (.cells c 5 f)
section
variable {w w' w0 w2:World}{k b:Nat}
theorem NU.congr (h:NU w k)(hs:w.heap.size<=w'.heap.size)(he:w'.heap[k]?=w.heap[k]?):NU w' k:=⟨Nat.lt_of_lt_of_le h.1 hs,fun c f=>he ▸ h.2 c f⟩
theorem NU.fr (h:NU w k)(hf:Fr F0 w w'):NU w' k:=h.congr hf.1 (hf.2.1 k h.1 fun h=>h)
theorem NU.new {cs:Array Value}{e:TypeId}(he:e≠5):NU (w.alloc (.cells cs e)) w.heap.size:=by
 refine⟨by show _<(w.heap.push _).size; simp,fun c f h=>?_⟩
 have:(w.alloc (.cells cs e)).heap[w.heap.size]?=some (.cells cs e (0,0)):=by show(w.heap.push _)[w.heap.size]?=_; simp
 rw[this] at h
 cases h
 exact he rfl
theorem NU.set {a:Addr}{v:Value}(h:NU w k):NU (w.setCell a v) k:=by
 refine⟨by simpa [World.setCell] using h.1,fun c f hc=>?_⟩
 by_cases ha:a.block=k
 ·simp only[World.setCell,Array.getElem?_modify,if_pos ha] at hc
  cases ho:w.heap[k]? with
  | none=>rw[ho] at hc; cases hc
  | some o =>
   rw[ho] at hc
   cases o with
   | cells c' e' f' =>
    simp only[Option.map_some,Option.some.injEq,Obj.cells.injEq] at hc
    obtain⟨_,rfl,_⟩:=hc
    exact h.2 _ _ ho
   | _=>simp at hc
 ·rw[heap_set_ne ha] at hc
  exact h.2 _ _ hc
theorem wrC_nu {a:Addr}:∀ (vs:List Value) (i:Nat) {w:World},NU w k->NU (wrC w a i vs) k
 | [],_,_,h=>h
 | _ :: vs,i,_,h=>wrC_nu vs (i+1) h.set
theorem apG_plus {size bytes:Nat}{zero:List Value}{e:TypeId}{s:Sl}{n:Nat}{new:List Value}{K K':SW}(h:apG size bytes zero e s n new w K)(hs:∀ b,inB s b->NU w b)(he:e≠5)(hk:∀ r w',K r w'->(∀ b,inB r b->NU w' b)->K' r w'):apG size bytes zero e s n new w K':=by
 refine⟨fun hc=>?_,fun hc=>?_⟩
 ·have h1:=h.1 hc
  cases hp:s.p with
  | none =>
   rw[hp] at h1
   exact hk _ _ h1 fun b ⟨a,ha,_⟩=>by cases ha
  | some a =>
   rw[hp] at h1
   exact⟨h1.1,hk _ _ h1.2 fun b ⟨a',ha',hb⟩=>by cases ha'; exact wrC_nu _ _ (hs b ⟨a,hp,hb⟩)⟩
 ·obtain⟨h1,h2,old,h3,h4⟩:=h.2 hc
  exact⟨h1,h2,old,h3,fun cap hcap=>hk _ _ (h4 cap hcap) fun b ⟨a,ha,hb⟩=>by cases ha; subst hb; exact NU.new (w:=w.drew) he⟩
theorem apS_plus {size bytes:Nat}{zero:List Value}{e:TypeId}{s x:Sl}{K K':SW}(h:apS size bytes zero e s x w K)(hs:∀ b,inB s b->NU w b)(he:e≠5)(hk:∀ r w',K r w'->(∀ b,inB r b->NU w' b)->K' r w'):apS size bytes zero e s x w K':=by
 obtain⟨new,h1,h2,h3⟩:=h
 exact⟨new,h1,h2,apG_plus h3 hs he hk⟩
theorem stN_nu {a:Addr}{K K':World->Prop}:∀ (us:List Value) (i:Nat) (u:World),stN.go a K us i u->NU u k->(∀ w',NU w' k->K w'->K' w')->stN.go a K' us i u
 | [],_,_,h,hn,hk=>hk _ hn h
 | _ :: us,i,_,h,hn,hk=>⟨h.1,stN_nu us (i+1) _ h.2 hn.set hk⟩
structure Fb (b:Nat)(w w':World):Prop where
 bel:RowKit.Below b w w'
 oth:∀ k,k≠b->NU w k->w'.heap[k]?=w.heap[k]?
theorem Fb.nu (h:Fb b w w')(hb:k≠b)(hn:NU w k):NU w' k:=hn.congr h.bel.size (h.oth k hb hn)
theorem Fb.t (h:Fb b w w')(h':Fb b w' w2):Fb b w w2:=⟨h.bel.trans h'.bel,fun k hb hn=>(h'.oth k hb (h.nu hb hn)).trans (h.oth k hb hn)⟩
theorem Fb.row {cs:List Value}(h:Fb b w w')(hb:k≠b)(hn:NU w k)(hr:Row w k cs):Row w' k cs:=hr.congr (h.oth k hb hn)
theorem Fb.vw {α:Type}{n:Nat}{enc:α->List Value}{s:Sl}{l:List α}(h:Fb b w w')(hs:∀ k,inB s k->k≠b/\NU w k)(hv:Vw n enc w s l):Vw n enc w' s l :=
 Rests.vw s l w w' (fun k hk=>h.oth k (hs k hk).1 (hs k hk).2) hv
theorem Fb.fr0 (h:Fb b w w')(h0:Fr F0 w0 w)(hb:w0.heap.size<=b):Fr F0 w0 w' :=
 ⟨Nat.le_trans h0.1 h.bel.size,fun k hk _=>(h.bel.block k (by omega)).trans (h0.2.1 k hk fun h=>h),h.bel.os.trans h0.2.2.1,h.bel.output.trans h0.2.2.2.1,h.bel.tape.trans h0.2.2.2.2⟩
theorem drewN_fr (w:World):∀ k,Fr F0 w (w.drewN k):=fun _=>⟨Nat.le_refl _,fun _ _ _=>rfl,rfl,rfl,rfl⟩
theorem grow_fr (w:World)(os:Array Obj):Fr F0 w (Go.Sort.grow w os):=by
 refine⟨by simp[Go.Sort.grow],fun b hb _=>?_,rfl,rfl,rfl⟩
 show(w.heap++os)[b]?=_
 rw[Array.getElem?_append_left hb]
def encS (s:ByteArray):List Value:=[.string s]
@[simp] theorem encS_length (s:ByteArray):(encS s).length=1:=rfl
theorem encS_ok (s:ByteArray):∀ v∈encS s,okC v=true:=by intro v hv; simp[encS] at hv; subst hv; rfl
theorem encS_ld {s:Sl}{l:List ByteArray}{i:Int}{K:ByteArray->Prop}(h:Vw 1 encS w s l)(i':Nat)(hi:i=(i':Int))(h1:i'<l.length)(hK:K l[i']) :
  nz s.p fun a=>(0<=i/\i<(s.l:Nat))/\∃ x:ByteArray,w.cell? (a.add (i.toNat*1))=some (Value.string x)/\K x:=by
 subst hi
 obtain⟨ad,hp,hc⟩:=h.at encS_length (List.getElem?_eq_getElem h1) (by decide)
 have hl:=h.len
 rw[hp]
 exact⟨⟨by omega,by omega⟩,_,hc 0 _ rfl,hK⟩
end
end Pw
namespace Go.Proofs.YtfpobpjandjhjaaGreatDoor
open Go Pw
def GlT (w:World):Prop:=Lib.TabIs Tryz.prog w "internal/strconv.uint64pow10" .u64 Lib.pow10Tab
def Bld (b:Nat)(l:List UInt8)(w:World):Prop:=Lib.IsBuilderF (Tryz.lays169_ren.t 72) 5 b b (Lib.byteCells l) w
section
variable {w w' w0:World}{b:Nat}{l:List UInt8}
theorem GlT.fr (h:GlT w)(hf:Fr F0 w w'):GlT w':=by
 unfold GlT Lib.TabIs World.var? at h ⊢
 cases hg:Program.globalNamed Tryz.prog "internal/strconv.uint64pow10" with
 | none=>rw[hg] at h; cases h
 | some g =>
  rw[hg] at h
  simp only[Option.bind_some] at h ⊢
  have hlt:g<w.heap.size:=by
   rcases Nat.lt_or_ge g w.heap.size with hl | hl
   ·exact hl
   ·rw[Array.getElem?_eq_none hl] at h
    cases h
  rw[hf.2.1 g hlt fun hh=>hh]
  exact h
theorem itoa_len' {n:Int}(h:I64 n):(Lib.itoa n).length<=21:=Lib.itoa_length_le n h.1 (by have:=h.2; omega)
theorem Itoa_spec {n:Int}{K:ByteArray->World->Prop}(h:I64 n)(g:GlT w)(hK:∀ w',Fr F0 w w'->K (ofL (Lib.itoa n)) w'):z48_sh n K w :=
 ⟨(Any.strconv_Itoa Tryz.laysM171 n h.1 (by have:=h.2; omega) w g).mono fun e w' he=>by
  obtain⟨rfl,k,os,rfl⟩:=he
  exact⟨_,rfl,hK _ (Fr0.t (drewN_fr w k) (grow_fr _ os))⟩⟩
theorem bldAt_fr {T:TypeId}{p:Value}{bs:List Value}(h:Lib.BuilderAtF T 5 b b p bs w)(hf:Fr F0 w w'):Lib.BuilderAtF T 5 b b p bs w':=by
 have hlt:=h.lt
 obtain⟨hB,v,hb,hown,hne⟩:=h
 refine⟨hB,v,(hf.2.1 b hlt fun h=>h).trans hb,⟨hown.1,?_⟩,hne⟩
 rcases hown.2 with h1 | ⟨g,cap,cur,fz,h1,h2,h3,h4⟩
 ·exact .inl h1
 ·exact .inr ⟨g,cap,cur,fz,h1,h2,(hf.2.1 g (Array.getElem?_eq_some_iff.1 h3).1 fun h=>h).trans h3,h4⟩
theorem Bld.fr (h:Bld b l w)(hf:Fr F0 w w'):Bld b l w':=h.elim (fun h=>.inl (bldAt_fr h hf)) fun h=>.inr (bldAt_fr h hf)
theorem Bld.lt (h:Bld b l w):b<w.heap.size:=h.elim (fun h=>h.lt) fun h=>h.lt
theorem Bld.new:Bld w.heap.size [] (w.alloc (.cells #[.pointer none,.slice none 0 0] (Tryz.lays169_ren.t 72))):=Lib.IsBuilderF.of (Lib.fresh_isBuilder (Tryz.lays169_ren.t 72) 5 w)
theorem fb_of (h1:RowKit.Below b w w')(h2:Lib.OthersKept 5 (some b) w w'):Fb b w w' :=
 ⟨h1,fun k hb hn=>by
  obtain⟨hlt,hnc⟩:=hn
  obtain⟨o,ho⟩:∃ o,w.heap[k]?=some o:=⟨_,Array.getElem?_eq_getElem hlt⟩
  rw[ho]
  exact h2 k o ho (fun e=>hb (Option.some.inj e)) fun c f he=>hnc c f (by rw[ho,he])⟩
theorem WriteString_spec {s:ByteArray}{K:Int->Value->World->Prop}(h:Bld b l w)(hlen:l.length+s.size<=140737488355328)(hK:∀ r0 r1 w',Bld b (l++bl s) w'->Fb b w w'->K r0 r1 w'):z03_sh (some ⟨b,0,none⟩) s K w :=
 ⟨(Any.Builder_WriteString_k Tryz.lays166 Tryz.Builder_Extra_166 b b (Lib.byteCells l) s w h (by rw[Lib.byteCells_length]; exact hlen) (Nat.le_of_lt h.lt)).mono fun e w' he=>by
  obtain⟨rfl,h1,h2,h3⟩:=he
  refine⟨_,_,rfl,hK _ _ _ (.inr ?_) (fb_of h2 h3)⟩
  rw[Lib.byteCells_append]
  exact h1⟩
theorem String_spec {K:ByteArray->World->Prop}(h:Bld b l w)(hK:∀ w',Fb b w w'->K (ofL l) w'):z0p_sh (some ⟨b,0,none⟩) K w :=
 ⟨(Any.Builder_String_any_k Tryz.lays169 Tryz.Builder_Extra_169 b b l w h (Nat.le_of_lt h.lt)).mono fun e w' he=>by
  obtain⟨rfl,_,h2,h3⟩:=he
  exact⟨_,rfl,hK _ (fb_of h2 h3)⟩⟩
theorem texts_spec {s:Sl}{l:List Int}{K:Sl->World->Prop}(hv:VI w s l)(hi:∀ n∈l,I64 n)(hl:l.length<2^43)(g:GlT w)
  (hK:∀ w' r,Mk w 1 encS w' r (l.map fun n=>ofL (Lib.itoa n))->(∀ b,inB r b->NU w' b)->K r w'):z4f_sh s K w:=by
 have el:=hv.len
 refine⟨?_⟩
 unfold z4f_sd
 refine⟨⟨fun out i u=>∃ i':Nat,i=i'/\i'<=l.length/\Mk w 1 encS u out ((l.take i').map fun n=>ofL (Lib.itoa n))/\∀ b,inB out b->NU u b,fun _ i _=>l.length-i.toNat,⟨0,rfl,by omega,Mk.nil Fr.refl,fun b ⟨a,ha,_⟩=>by cases ha⟩,?_⟩⟩
 rintro out i u ⟨i,rfl,hi',hm,hn⟩
 unfold z4f_b0
 refine cnd_prop.2 ⟨fun hlt=>?_,fun hge=>?_⟩
 ·have hil:i<l.length:=by omega
  refine VI.ld (hv.fr hm.fr0) i rfl hil (Itoa_spec (hi _ (List.getElem_mem hil)) (g.fr hm.fr0) fun w3 hf3=>?_)
  have hm:=hm.fr hf3
  have hn3:∀ b,inB out b->NU w3 b:=fun b hb=>(hn b hb).fr hf3
  intro w5
  refine apS_plus (K:=fun r w'=>Mk w 1 encS w' r (((l.take i).map fun n=>ofL (Lib.itoa n))++[ofL (Lib.itoa l[i])])) (hm.push (a:=ofL (Lib.itoa l[i])) rfl rfl encS_ok rfl (by simp; omega) (by simp; omega) fun r w' h _=>h) (fun b hb=>(hn3 b hb).fr Fr.alloc) (by decide) fun r w' h hn'=>?_
  refine⟨inR64 (by omega) (by omega),⟨⟨rfl,rfl,trivial⟩,i+1,by omega,by omega,?_,hn'⟩,by dsimp only; omega⟩
  rw[take_succ' hil,List.map_append]
  exact h
 ·have:i=l.length:=by omega
  subst this
  rw[List.take_length] at hm
  exact hK u out hm hn
theorem write_spec {word:ByteArray}{s:Sl}{ps:List ByteArray}{K:World->Prop}(h:Bld b l w)(hv:Vw 1 encS w s ps)(hnu:∀ k,inB s k->k≠b/\NU w k)(hlen:l.length+(lineT (bl word) (ps.map bl)).length<=140737488355328)
  (hK:∀ w',Bld b (l++lineT (bl word) (ps.map bl)) w'->Fb b w w'->K w'):z4h_sh (some ⟨b,0,none⟩) word s K w:=by
 have el:=hv.len
 have hll:(lineT (bl word) (ps.map bl)).length=word.size+(((ps.map bl).flatMap (fun s=>32 :: s)).length+1):=by unfold lineT; rw[List.length_append,List.length_append,bl_length]; rfl
 have hpl:ps.length<2^62:=by
  have:∀ q:List ByteArray,q.length<=((q.map bl).flatMap (fun s=>32 :: s)).length:=fun q=>by
   induction q with
   | nil=>simp
   | cons x q ih=>simp only[List.map_cons,List.flatMap_cons,List.length_append,List.length_cons]; omega
  have:=this ps
  omega
 refine⟨?_⟩
 unfold z4h_sd
 refine WriteString_spec h (by omega) fun _ _ w1 h1 f1=>?_
 refine⟨⟨fun i u=>∃ i':Nat,i=i'/\i'<=ps.length/\Bld b (l++bl word++((ps.take i').map bl).flatMap (fun s=>32 :: s)) u/\Fb b w u,fun i _=>ps.length-i.toNat,⟨0,rfl,by omega,by simpa using h1,f1⟩,?_⟩⟩
 rintro i u ⟨i,rfl,hi,hb,hf⟩
 unfold z4h_b0
 refine cnd_prop.2 ⟨fun hlt=>?_,fun hge=>?_⟩
 ·have hil:i<ps.length:=by omega
  have e32:bl (str [32])=[32]:=by rw[bl_str]; rfl
  have s32:(str [32]).size=1:=by decide
  have hsplit:((ps.take (i+1)).map bl).flatMap (fun s=>32 :: s)=((ps.take i).map bl).flatMap (fun s=>32 :: s)++32 :: bl ps[i]:=by
   rw[take_succ' hil,List.map_append,List.flatMap_append]
   simp
  have hle:(((ps.take (i+1)).map bl).flatMap (fun s=>(32:UInt8) :: s)).length<=((ps.map bl).flatMap (fun s=>(32:UInt8) :: s)).length:=by
   have:ps.map bl=(ps.take (i+1)).map bl++(ps.drop (i+1)).map bl:=by rw[← List.map_append,List.take_append_drop]
   rw[this,List.flatMap_append,List.length_append]
   omega
  rw[hsplit,List.length_append,List.length_cons,bl_length] at hle
  refine encS_ld (hf.vw hnu hv) i rfl hil ⟨?_,WriteString_spec hb ?_ fun _ _ w6 h6 f6=>⟨inR64 (by omega) (by omega),⟨⟨rfl,rfl,rfl,trivial⟩,i+1,by omega,by omega,?_,hf.t f6⟩,by dsimp only; omega⟩⟩
  ·rw[s32]; unfold maxI; omega
  ·rw[List.length_append,List.length_append,bl_length,ByteArray.size_append,s32]; omega
  ·rw[hsplit,← List.append_assoc]
   rw[bl_append,e32] at h6
   exact h6
 ·have:i=ps.length:=by omega
  subst this
  rw[List.take_length] at hb
  have e10:bl (str [10])=[10]:=by rw[bl_str]; rfl
  have s10:(str [10]).size=1:=by decide
  refine WriteString_spec hb (by rw[List.length_append,List.length_append,bl_length,s10]; omega) fun _ _ w9 h9 f9=>hK w9 ?_ (hf.t f9)
  rw[e10] at h9
  unfold lineT
  rw[← List.append_assoc,← List.append_assoc]
  exact h9
end
open Go Pw
section
variable {w w' w0:World}{t5 ns:Sl}{T:List Int}{N:List Nd}{pts bnd:Int}{b:Nat}
structure FitR (T:List Int)(pts bnd:Int)(N:List Nd):Prop where
 t:∀ n∈T,I64 n
 pts:I64 pts
 bnd:I64 bnd
 n:∀ x∈N,I64 x.lot/\∀ n∈x.next,I64 n
theorem flat_bound {N:List Nd}{i:Nat}(hi:i<N.length):((N.take i).flatMap nodeT).length+(nodeT N[i]).length<=(N.flatMap nodeT).length:=by
 have e:N.flatMap nodeT=(N.take i).flatMap nodeT++(nodeT N[i]++(N.drop (i+1)).flatMap nodeT):=by
  rw[← List.flatMap_cons,← List.drop_eq_getElem_cons hi,← List.flatMap_append,List.take_append_drop]
 rw[e,List.length_append,List.length_append]
 omega
theorem bl_ofL_map (l:List Int):(l.map fun n=>ofL (Lib.itoa n)).map bl=l.map Lib.itoa:=by
 rw[List.map_map]
 exact List.map_congr_left fun n _=>bl_ofL _
theorem Encode_spec {K:ByteArray->World->Prop}(hT:VI w t5 T)(hN:NV w ns N)(hs:SmR T N)(hx43:∀ x∈N,x.next.length<2^42)(hT43:T.length<2^42)(hF:FitR T pts bnd N)(g:GlT w)(hlen:(encT T pts bnd N).length<=140737488355328)
  (hK:∀ w',Fr F0 w w'->K (ofL (encT T pts bnd N)) w'):z3y_sh t5 pts bnd ns K w:=by
 have e5:=hT.len
 have en:=hN.len
 have hn1:=hs.n
 unfold encT at hlen
 rw[List.length_append,List.length_append] at hlen
 refine⟨?_⟩
 unfold z3y_sd
 intro w1
 have m:Mem w w1 _:=Mem.nil.allocL (cs:=rsC t5 pts bnd ns)
 have n1:NU w1 w.heap.size:=NU.new (by decide)
 clear_value w1
 have hrow:=m.row 0 rfl
 have hwb:w.heap.size<w1.heap.size:=n1.1
 intro w2
 have hb2:Bld w1.heap.size [] w2:=Bld.new
 have hf2:Fr F0 w w2:=m.1.t Fr.alloc
 have hrow:Row w2 w.heap.size (rsC t5 pts bnd ns):=(Fr.alloc:Fr F0 w1 w2).row hrow fun h=>h
 have n1:NU w2 w.heap.size:=n1.fr (Fr.alloc:Fr F0 w1 w2)
 clear_value w2
 refine⟨t5,hrow.at rfl,texts_spec (hT.fr hf2) hF.t (by omega) (g.fr hf2) fun w4 r5 hm5 hn5=>?_⟩
 have hb4:=hb2.fr hm5.fr0
 have hr4:=hm5.fr0.row hrow fun h=>h
 have n4:=n1.fr hm5.fr0
 have hlt2:=hb2.lt
 have hwt:bl (str [116,97,107,101])=takeW:=by rw[bl_str]; rfl
 have hwp:bl (str [112,111,105,110,116,115])=pointsW:=by rw[bl_str]; rfl
 have hwn:bl (str [110,111,100,101])=nodeW:=by rw[bl_str]; rfl
 refine write_spec hb4 hm5.vw (fun k hk=>⟨by have:=hm5.nw k hk; omega,hn5 k hk⟩) (by rw[hwt,bl_ofL_map]; simp only[List.length_nil]; omega) fun w6 hb6 hf6=>?_
 rw[hwt,bl_ofL_map,List.nil_append] at hb6
 have hr6:=hf6.row (by omega) n4 hr4
 have n6:=hf6.nu (by omega) n4
 have hF6:Fr F0 w w6:=hf6.fr0 (hf2.t hm5.fr0) (by omega)
 refine⟨_,hr6.at rfl,_,hr6.at rfl,?_⟩
 intro w9
 have m9:Mem w6 w9 _:=Mem.nil.allocL (cs:=([pts,bnd]:List Int).map (Value.int .i64))
 clear_value w9
 have hF9:Fr F0 w w9:=hF6.t m9.1
 refine texts_spec (l:=[pts,bnd]) (Row.ow (fun a=>ie_length _ _ a) (l:=[pts,bnd]) (m9.row 0 rfl)).vw (fun n hn=>(List.mem_cons.1 hn).elim (fun h=>h ▸ hF.pts) fun h=>(List.mem_singleton.1 h) ▸ hF.bnd) (by simp) (g.fr hF9) fun w10 r11 hm11 hn11=>?_
 have hf10:Fr F0 w6 w10:=m9.1.t hm11.fr0
 have hb10:=hb6.fr hf10
 have hlt6:=hb6.lt
 have hm9s:=m9.1.1
 refine write_spec hb10 hm11.vw (fun k hk=>⟨by have:=hm11.nw k hk; omega,hn11 k hk⟩) (by rw[hwp,bl_ofL_map]; simp only[List.map_cons,List.map_nil]; omega) fun w12 hb12 hf12=>?_
 rw[hwp,bl_ofL_map] at hb12
 simp only[List.map_cons,List.map_nil] at hb12
 have hr12:=hf12.row (by omega) (n6.fr hf10) (hf10.row hr6 fun h=>h)
 have hF12:Fr F0 w w12:=hf12.fr0 (hF6.t hf10) (by omega)
 refine⟨ns,hr12.at rfl,?_⟩
 refine⟨⟨fun i u=>∃ i':Nat,i=i'/\i'<=N.length/\Bld w1.heap.size (lineT takeW (T.map Lib.itoa)++lineT pointsW [Lib.itoa pts,Lib.itoa bnd]++(N.take i').flatMap nodeT) u/\Fr F0 w u,fun i _=>N.length-i.toNat,⟨0,rfl,by omega,by simpa using hb12,hF12⟩,?_⟩⟩
 clear hb12 hF12 hr12 hf12 hb10 hf10 hn11 hm11 m9 hF9 hr6 n6 hF6 hb6 hf6 hr4 n4 hb4 hm5 hn5 hb2 hf2 hrow n1
 rintro i u ⟨i,rfl,hi,hb,hf⟩
 unfold z3y_b0
 refine cnd_prop.2 ⟨fun hlt=>?_,fun hge=>?_⟩
 ·have hiN:i<N.length:=by omega
  obtain⟨i1,i2⟩:=hN.i64 (List.getElem_mem hiN)
  obtain⟨i3,i4⟩:=hF.n _ (List.getElem_mem hiN)
  have hx:=hx43 _ (List.getElem_mem hiN)
  have hfb:=flat_bound hiN
  have hblt:=hb.lt
  refine hN.ld hf i rfl hiN fun a nx hnx hc=>?_
  obtain⟨c0,c1,c2,c3⟩:=hc
  refine⟨_,c0,_,c1,_,c2,nx,c3,?_⟩
  refine stN_nu _ _ _ (K:=fun w20=>Mem u w20 [(u.heap.size,[.int .i64 N[i].lot,.int .i64 N[i].num,.int .i64 N[i].den,.slice nx.p nx.l nx.c])]) (stN_new (w0:=u) (l:=[]) rfl Mem.nil fun w20 m20=>m20) (NU.new (by decide)) fun w20 n20 m20=>?_
  intro w21
  have m:Mem u w21 _:=m20.drew
  have n21:NU w21 u.heap.size:=n20.fr Fr.drew
  clear_value w21
  have hgl:=fun {v:World} (h:Fr F0 u v)=>g.fr (hf.t h)
  have hxs:∀ {v:World},Fr F0 w21 v->Rs v [(u.heap.size,[.int .i64 N[i].lot,.int .i64 N[i].num,.int .i64 N[i].den,.slice nx.p nx.l nx.c])]:=fun h=>(m.fr h).sub 0 rfl
  have l1:=itoa_len' i1
  have l2:=itoa_len' i2
  have e47:bl (str [47])=[47]:=by rw[bl_str]; rfl
  have s47:(str [47]).size=1:=by decide
  have so:∀ l:List UInt8,(ofL l).size=l.length:=fun l=>by rw[← bl_length,bl_ofL]
  have hdual:bl ((ofL (Lib.itoa N[i].num)++str [47])++ofL (Lib.itoa N[i].den))=dualT N[i]:=by
   unfold dualT
   rw[bl_append,bl_append,bl_ofL,bl_ofL,e47,List.append_assoc]
   rfl
  refine⟨fun v=>Rs v [(u.heap.size,[.int .i64 N[i].lot,.int .i64 N[i].num,.int .i64 N[i].den,.slice nx.p nx.l nx.c])],hxs Fr.refl,_,fun _ h=>h.ld 0 rfl rfl,_,fun _ h=>h.ld 0 rfl rfl,?_⟩
  refine Itoa_spec i1 (hgl m.1) fun w25 f25=>⟨hxs f25,?_,Itoa_spec i2 (hgl (m.1.t f25)) fun w27 f27=>⟨hxs (f25.t f27),?_,?_⟩⟩
  ·rw[so,s47]; unfold maxI; omega
  ·rw[ByteArray.size_append,so,so,s47]; unfold maxI; omega
  intro w29
  have f29:Fr F0 w21 w29:=(f25.t f27).t Fr.drew
  clear_value w29
  have hbu:∀ {v:World},Fr F0 w21 v->Bld w1.heap.size (lineT takeW (T.map Lib.itoa)++lineT pointsW [Lib.itoa pts,Lib.itoa bnd]++(N.take i).flatMap nodeT) v:=fun h=>hb.fr (m.1.t h)
  have hfin:∀ {v:World} {s38:Sl} {K':World->Prop},Fr F0 w21 v->Vw 1 encS v s38 (ofL (Lib.itoa N[i].lot) :: ((ofL (Lib.itoa N[i].num)++str [47])++ofL (Lib.itoa N[i].den)) :: N[i].next.map (fun n=>ofL (Lib.itoa n)))->(∀ k,inB s38 k->u.heap.size<=k/\NU v k) ->
    (∀ v',Rs v' [(u.heap.size,[.int .i64 N[i].lot,.int .i64 N[i].num,.int .i64 N[i].den,.slice nx.p nx.l nx.c])]->Bld w1.heap.size (lineT takeW (T.map Lib.itoa)++lineT pointsW [Lib.itoa pts,Lib.itoa bnd]++(N.take (i+1)).flatMap nodeT) v'->Fr F0 w v'->K' v')->z4h_sh (some ⟨w1.heap.size,0,none⟩) (str [110,111,100,101]) s38 K' v:=fun {v s38 K'} hv hvw hk hK'=>by
   have hm:(ofL (Lib.itoa N[i].lot) :: ((ofL (Lib.itoa N[i].num)++str [47])++ofL (Lib.itoa N[i].den)) :: N[i].next.map (fun n=>ofL (Lib.itoa n))).map bl=Lib.itoa N[i].lot :: dualT N[i] :: N[i].next.map Lib.itoa:=by
    rw[List.map_cons,List.map_cons,bl_ofL,hdual,bl_ofL_map]
   refine write_spec (hbu hv) hvw (fun k hk'=>⟨by have:=(hk k hk').1; omega,(hk k hk').2⟩) ?_ fun v' hb' hf'=>hK' v' ?_ ?_ (hf'.fr0 (hf.t (m.1.t hv)) (by omega))
   ·rw[hm,hwn,List.length_append,List.length_append]
    have:(lineT nodeW (Lib.itoa N[i].lot :: dualT N[i] :: N[i].next.map Lib.itoa)).length=(nodeT N[i]).length:=rfl
    omega
   ·intro q hq
    rw[List.mem_singleton] at hq
    subst hq
    exact hf'.row (by omega) (n21.fr hv) (hxs hv _ (List.mem_singleton.2 rfl))
   ·rw[hm,hwn] at hb'
    rw[take_succ' hiN,List.flatMap_append]
    rw[List.append_assoc] at hb'
    simpa [nodeT] using hb'
  have hN0:∀ {v':World},Rs v' [(u.heap.size,[.int .i64 N[i].lot,.int .i64 N[i].num,.int .i64 N[i].den,.slice nx.p nx.l nx.c])]->Bld w1.heap.size (lineT takeW (T.map Lib.itoa)++lineT pointsW [Lib.itoa pts,Lib.itoa bnd]++(N.take (i+1)).flatMap nodeT) v'->Fr F0 w v' ->
    Rs v' [(u.heap.size,[.int .i64 N[i].lot,.int .i64 N[i].num,.int .i64 N[i].den,.slice nx.p nx.l nx.c])]/\inR .i64 ((i:Int)+1)/\(((⟨w1.heap.size,0,none⟩:Addr)=⟨w1.heap.size,0,none⟩/\ns=ns/\(ns.l:Int)=ns.l/\True)/\∃ i':Nat,(i:Int)+1=i'/\i'<=N.length/\Bld w1.heap.size (lineT takeW (T.map Lib.itoa)++lineT pointsW [Lib.itoa pts,Lib.itoa bnd]++(N.take i').flatMap nodeT) v'/\Fr F0 w v')/\N.length-((i:Int)+1).toNat<N.length-(i:Int).toNat :=
   fun h1 h2 h3=>⟨h1,inR64 (by omega) (by omega),⟨⟨rfl,rfl,rfl,trivial⟩,i+1,by omega,by omega,h2,h3⟩,by omega⟩
  refine⟨fun v=>Rs v [(u.heap.size,[.int .i64 N[i].lot,.int .i64 N[i].num,.int .i64 N[i].den,.slice nx.p nx.l nx.c])],hxs f29,_,fun _ h=>h.ld 0 rfl rfl,nx,fun _ h=>h.ld 0 rfl rfl,Itoa_spec i3 (hgl (m.1.t f29)) fun w33 f33=>⟨hxs (f29.t f33),?_,?_⟩⟩
  ·intro w35
   have m35:Mem w33 w35 _:=Mem.nil.allocL (cs:=([ofL (Lib.itoa N[i].lot),(ofL (Lib.itoa N[i].num)++str [47])++ofL (Lib.itoa N[i].den)]:List ByteArray).flatMap encS)
   have n35:NU w35 w33.heap.size:=NU.new (by decide)
   clear_value w35
   have f35:=(f29.t f33).t m35.1
   refine⟨hxs f35,texts_spec (hnx.fr (hf.t (m.1.t f35))) i4 (by omega) (hgl (m.1.t f35)) fun w36 r37 hm37 hn37=>⟨hxs (f35.t hm37.fr0),?_⟩⟩
   have f36:=f35.t hm37.fr0
   have hsl:Mk w33 1 encS w36 ⟨some ⟨w33.heap.size,0,none⟩,2,2⟩ [ofL (Lib.itoa N[i].lot),(ofL (Lib.itoa N[i].num)++str [47])++ofL (Lib.itoa N[i].den)] :=
    ⟨m35.1.t hm37.fr0,(Row.ow encS_length (m35.row 0 rfl)).fr hm37.fr0,fun b ⟨a,ha,hb⟩=>by cases ha; subst hb; exact Nat.le_refl _⟩
   refine apS_plus (K:=fun s w'=>Mk w33 1 encS w' s (([ofL (Lib.itoa N[i].lot),(ofL (Lib.itoa N[i].num)++str [47])++ofL (Lib.itoa N[i].den)]:List ByteArray)++N[i].next.map (fun n=>ofL (Lib.itoa n)))) (hsl.app hm37.vw encS_ok rfl (by simp; omega) (by simp; omega) fun r w' h _=>h) (fun b ⟨a,ha,hb⟩=>by cases ha; subst hb; exact n35.fr hm37.fr0) (by decide) fun s38 w39 h hn=>?_
   have f39:=(f29.t f33).t h.fr0
   have hsz:=(m.1.t (f29.t f33)).1
   exact⟨hxs f39,hfin f39 h.vw (fun k hk=>⟨by have:=h.nw k hk; omega,hn k hk⟩) fun v' h1 h2 h3=>hN0 h1 h2 h3⟩
  ·refine texts_spec (hnx.fr (hf.t (m.1.t (f29.t f33)))) i4 (by omega) (hgl (m.1.t (f29.t f33))) fun w41 r42 hm42 hn42=>⟨hxs ((f29.t f33).t hm42.fr0),?_⟩
   have f41:=(f29.t f33).t hm42.fr0
   intro w43
   have m43:Mem w41 w43 _:=Mem.nil.allocL (cs:=([ofL (Lib.itoa N[i].lot),(ofL (Lib.itoa N[i].num)++str [47])++ofL (Lib.itoa N[i].den)]:List ByteArray).flatMap encS)
   have n43:NU w43 w41.heap.size:=NU.new (by decide)
   clear_value w43
   have f43:=f41.t m43.1
   refine⟨hxs f43,?_⟩
   have hsl:Mk w41 1 encS w43 ⟨some ⟨w41.heap.size,0,none⟩,2,2⟩ [ofL (Lib.itoa N[i].lot),(ofL (Lib.itoa N[i].num)++str [47])++ofL (Lib.itoa N[i].den)] :=
    ⟨m43.1,Row.ow encS_length (m43.row 0 rfl),fun b ⟨a,ha,hb⟩=>by cases ha; subst hb; exact Nat.le_refl _⟩
   refine apS_plus (K:=fun s w'=>Mk w41 1 encS w' s (([ofL (Lib.itoa N[i].lot),(ofL (Lib.itoa N[i].num)++str [47])++ofL (Lib.itoa N[i].den)]:List ByteArray)++N[i].next.map (fun n=>ofL (Lib.itoa n)))) (hsl.app (hm42.vw.fr m43.1) encS_ok rfl (by simp; omega) (by simp; omega) fun r w' h _=>h) (fun b ⟨a,ha,hb⟩=>by cases ha; subst hb; exact n43) (by decide) fun s44 w45 h hn=>?_
   have f45:=f41.t h.fr0
   have hsz:=(m.1.t f41).1
   exact⟨hxs f45,hfin f45 h.vw (fun k hk=>⟨by have:=h.nw k hk; omega,hn k hk⟩) fun v' h1 h2 h3=>hN0 h1 h2 h3⟩
 ·have:i=N.length:=by omega
  subst this
  rw[List.take_length] at hb
  refine String_spec hb fun w47 f47=>?_
  have hk:=hK w47 (f47.fr0 hf (by omega))
  unfold encT at hk
  rw[← List.append_assoc] at hk
  exact hk
end
end Go.Proofs.YtfpobpjandjhjaaGreatDoor
namespace Pw
open Go
def splitC (c:UInt8)(l:List UInt8):List (List UInt8):=Lib.splitK [c] 0 (Lib.count l [c]) l
theorem index_hit {a b:List UInt8}{c:UInt8}(h:c ∉ a):Lib.index (a++c :: b) [c]=(a.length:Nat):=by
 refine Lib.index_first (by simp) ?_ fun j hj=>?_
 ·rw[occ_one]; simp
 ·rw[occ_one,List.getElem?_append_left hj]
  simp only[beq_eq_false_iff_ne,ne_eq]
  intro he
  exact h (List.mem_of_getElem? he)
theorem splitC_miss {a:List UInt8}{c:UInt8}(h:c ∉ a):splitC c a=[a]:=by
 unfold splitC
 rw[Lib.count_one,List.count_eq_zero_of_not_mem h]
 rfl
theorem splitC_hit {a b:List UInt8}{c:UInt8}(h:c ∉ a):splitC c (a++c :: b)=a :: splitC c b:=by
 unfold splitC
 have e:Lib.count (a++c :: b) [c]=Lib.count b [c]+1:=by
  rw[Lib.count_one,Lib.count_one,List.count_append,List.count_eq_zero_of_not_mem h,List.count_cons_self]
  omega
 rw[e]
 conv=>lhs; unfold Lib.splitK
 rw[index_hit h,if_neg (by simp)]
 simp
theorem splitC_parts {c:UInt8}:∀ {w:List UInt8} {ps:List (List UInt8)},c ∉ w->(∀ p∈ps,c ∉ p)->splitC c (w++ps.flatMap fun p=>c :: p)=w :: ps
 | w,[],hw,_=>by simpa using splitC_miss hw
 | w,p :: ps,hw,hp=>by
  rw[List.flatMap_cons,List.cons_append,splitC_hit hw,splitC_parts (hp p (by simp)) fun q hq=>hp q (by simp[hq])]
def readN:List (List UInt8)->Option (List Int)
 | []=>some []
 | s :: r=>match Lib.atoiAll s with
  | .ok n=>(readN r).map (n :: ·)
  | _=>none
theorem readN_map {l:List Int}(h:∀ n∈l,-9223372036854775808<=n/\n<9223372036854775808):readN (l.map Lib.itoa)=some l:=by
 induction l with
 | nil=>rfl
 | cons a l ih =>
  have ha:=h a (by simp)
  simp only[List.map_cons,readN,atoi_itoa ha.1 ha.2,ih fun n hn=>h n (by simp[hn]),Option.map_some]
theorem itoa_in {n:Int}{c:UInt8}(h:c∈Lib.itoa n):c=45\/(48<=c.toNat/\c.toNat<=57):=by
 unfold Lib.itoa at h
 split at h
 ·rcases List.mem_cons.1 h with h | h
  ·exact .inl h
  ·exact .inr (dec_digit _ _ h)
 ·exact .inr (dec_digit _ _ h)
theorem itoa_not {n:Int}{c:UInt8}(h1:c≠45)(h2:c.toNat<48\/57<c.toNat):c ∉ Lib.itoa n:=fun h=>by
 rcases itoa_in h with h | h
 ·exact h1 h
 ·omega
open Go
def listT (l:List Int):List UInt8:=l.flatMap fun n=>32 :: Lib.itoa n
end Pw
namespace Go.Proofs.YtfpobpjandjhjaaGreatDoor
open Go Pw
structure Re where
 T:List Int
 pts:Int
 bnd:Int
 N:List Nd
def Re.txt (r:Re):List UInt8:=encT r.T r.pts r.bnd r.N
def re0:Re:=⟨[],0,0,[]⟩
structure Re.I (r:Re):Prop where
 f:FitR r.T r.pts r.bnd r.N
 n:∀ x∈r.N,I64 x.num/\I64 x.den
theorem re0_I:re0.I:=⟨⟨fun _ h=>by simp[re0] at h,⟨by decide,by decide⟩,⟨by decide,by decide⟩,fun _ h=>by simp[re0] at h⟩,fun _ h=>by simp[re0] at h⟩
theorem encT_eq (r:Re):r.txt=takeW++(listT r.T++10 :: (pointsW++32 :: (Lib.itoa r.pts++32 :: (Lib.itoa r.bnd++10 :: r.N.flatMap nodeT)))):=by
 unfold Re.txt encT lineT listT
 simp[List.flatMap_map]
theorem nodeT_eq (x:Nd)(q:List UInt8):nodeT x++q=nodeW++32 :: (Lib.itoa x.lot++32 :: (Lib.itoa x.num++47 :: (Lib.itoa x.den++(listT x.next++10 :: q)))):=by
 unfold nodeT lineT dualT listT
 simp[List.flatMap_map]
theorem listT_len (l:List Int):l.length<=(listT l).length:=by
 induction l with
 | nil=>simp[listT]
 | cons a l ih =>
  have e:listT (a :: l)=32 :: Lib.itoa a++listT l:=rfl
  rw[e,List.length_append,List.length_cons,List.length_cons]
  omega
open Go Pw
def nodeR:List (List UInt8)->Option Nd
 | a :: b :: ws=>match readN [a,(Lib.cut b [47]).1,(Lib.cut b [47]).2.1],readN ws with
  | some [l,n,d],some nx=>some ⟨l,n,d,nx⟩
  | _,_=>none
 | _=>none
def lineQ (k:Nat)(ws:List (List UInt8))(r:Re):Option Re :=
 if k=0 then (readN ws).map fun T=>{ r with T:=T }
 else if k=1 then (readN ws).map fun l=>match l with
  | [a,b]=>{ r with pts:=a,bnd:=b }
  | _=>r
 else (nodeR ws).map fun x=>{ r with N:=r.N++[x] }
def linesQ:Nat->List (List UInt8)->Re->Option Re
 | _,[],r=>some r
 | k,l :: ls,r=>match lineQ k (splitC 32 l).tail r with
  | some r'=>linesQ (k+1) ls r'
  | none=>none
def decQ (s:List UInt8):Option Re:=linesQ 0 (splitC 10 (Lib.trimSuffix s [10])) re0
def bodyT (w:List UInt8)(ps:List (List UInt8)):List UInt8:=w++ps.flatMap fun s=>32 :: s
theorem lineT_body (w:List UInt8)(ps:List (List UInt8)):lineT w ps=bodyT w ps++[10]:=by
 unfold lineT bodyT
 rw[List.append_assoc]
theorem ends_eq:∀ (a:List UInt8) (l:List (List UInt8)),a++[10]++l.flatMap (fun b=>b++[10])=(a++l.flatMap fun b=>10 :: b)++[10]
 | a,[]=>by simp
 | a,b :: l=>by
  have:=ends_eq b l
  simp only[List.flatMap_cons]
  rw[this]
  simp
theorem txt_body (r:Re):r.txt=(bodyT takeW (r.T.map Lib.itoa)++(bodyT pointsW [Lib.itoa r.pts,Lib.itoa r.bnd] :: r.N.map fun x=>bodyT nodeW (Lib.itoa x.lot :: dualT x :: x.next.map Lib.itoa)).flatMap fun b=>10 :: b)++[10]:=by
 rw[← ends_eq]
 unfold Re.txt encT
 rw[lineT_body,lineT_body,List.flatMap_cons,List.flatMap_map]
 have e:r.N.flatMap nodeT=r.N.flatMap fun x=>bodyT nodeW (Lib.itoa x.lot :: dualT x :: x.next.map Lib.itoa)++[10]:=by
  unfold nodeT
  simp only[lineT_body]
 rw[e]
theorem trim_ten (a:List UInt8):Lib.trimSuffix (a++[10]) [10]=a:=by
 unfold Lib.trimSuffix
 rw[if_pos]
 ·simp
 ·unfold Lib.hasSuffix
  simp
theorem body_no {c:UInt8}{w:List UInt8}{ps:List (List UInt8)}(h32:c≠32)(hw:c ∉ w)(hp:∀ p∈ps,c ∉ p):c ∉ bodyT w ps:=by
 unfold bodyT
 simp only[List.mem_append,List.mem_flatMap,List.mem_cons,not_or,not_exists,not_and]
 exact⟨hw,fun p h=>⟨h32,hp p h⟩⟩
theorem itoas_no {c:UInt8}{l:List Int}(h1:c≠45)(h2:c.toNat<48\/57<c.toNat):∀ p∈l.map Lib.itoa,c ∉ p:=fun p hp=>by
 obtain⟨n,_,rfl⟩:=List.mem_map.1 hp
 exact itoa_not h1 h2
theorem dual_no {c:UInt8}{x:Nd}(h1:c≠45)(h2:c.toNat<48\/57<c.toNat)(h3:c≠47):c ∉ dualT x:=by
 unfold dualT
 simp only[List.mem_append,List.mem_cons,not_or]
 exact⟨itoa_not h1 h2,h3,itoa_not h1 h2⟩
theorem nodeW_no {c:UInt8}{x:Nd}(h1:c≠45)(h2:c.toNat<48\/57<c.toNat)(h3:c≠47):∀ p∈Lib.itoa x.lot :: dualT x :: x.next.map Lib.itoa,c ∉ p:=by
 intro p hp
 rcases List.mem_cons.1 hp with rfl | hp
 ·exact itoa_not h1 h2
 rcases List.mem_cons.1 hp with rfl | hp
 ·exact dual_no h1 h2 h3
 ·exact itoas_no h1 h2 p hp
theorem nodeR_yes {x:Nd}(h:I64 x.lot/\I64 x.num/\I64 x.den/\∀ n∈x.next,I64 n):nodeR (Lib.itoa x.lot :: dualT x :: x.next.map Lib.itoa)=some x:=by
 obtain⟨h1,h2,h3,h4⟩:=h
 have hc:Lib.cut (dualT x) [47]=(Lib.itoa x.num,Lib.itoa x.den,true):=cut_hit (itoa_noslash _)
 have e:[Lib.itoa x.lot,Lib.itoa x.num,Lib.itoa x.den]=[x.lot,x.num,x.den].map Lib.itoa:=rfl
 have e2:readN [Lib.itoa x.lot,Lib.itoa x.num,Lib.itoa x.den]=some [x.lot,x.num,x.den]:=by
  rw[e]
  refine readN_map fun n hn=>?_
  simp only[List.mem_cons,List.not_mem_nil,or_false] at hn
  rcases hn with rfl | rfl | rfl
  ·exact h1
  ·exact h2
  ·exact h3
 unfold nodeR
 simp only[hc,e2,readN_map h4]
theorem linesQ_nodes:∀ {N:List Nd} {k:Nat} {r:Re},(∀ x∈N,I64 x.lot/\I64 x.num/\I64 x.den/\∀ n∈x.next,I64 n)->linesQ (k+2) (N.map fun x=>bodyT nodeW (Lib.itoa x.lot :: dualT x :: x.next.map Lib.itoa)) r=some { r with N:=r.N++N }
 | [],k,r,_=>by simp[linesQ]
 | x :: N,k,r,h=>by
  have hs:splitC 32 (bodyT nodeW (Lib.itoa x.lot :: dualT x :: x.next.map Lib.itoa))=nodeW :: (Lib.itoa x.lot :: dualT x :: x.next.map Lib.itoa):=splitC_parts (by decide) (nodeW_no (by decide) (by decide) (by decide))
  have hl:lineQ (k+2) (Lib.itoa x.lot :: dualT x :: x.next.map Lib.itoa) r=some { r with N:=r.N++[x] }:=by
   unfold lineQ
   rw[if_neg (by omega),if_neg (by omega),nodeR_yes (h x (by simp))]
   rfl
  simp only[List.map_cons,linesQ]
  rw[hs,List.tail_cons,hl]
  simp only
  rw[linesQ_nodes (k:=k+1) fun y hy=>h y (by simp[hy])]
  simp
theorem decQ_yes {r:Re}(h:r.I):decQ r.txt=some r:=by
 have hN:∀ x∈r.N,I64 x.lot/\I64 x.num/\I64 x.den/\∀ n∈x.next,I64 n:=fun x hx=>⟨(h.f.n x hx).1,(h.n x hx).1,(h.n x hx).2,(h.f.n x hx).2⟩
 unfold decQ
 rw[txt_body,trim_ten,splitC_parts]
 ·have s0:splitC 32 (bodyT takeW (r.T.map Lib.itoa))=takeW :: r.T.map Lib.itoa:=splitC_parts (by decide) (itoas_no (by decide) (by decide))
  have s1:splitC 32 (bodyT pointsW [Lib.itoa r.pts,Lib.itoa r.bnd])=pointsW :: [r.pts,r.bnd].map Lib.itoa:=splitC_parts (by decide) (itoas_no (l:=[r.pts,r.bnd]) (by decide) (by decide))
  have r1:readN ([r.pts,r.bnd].map Lib.itoa)=some [r.pts,r.bnd]:=readN_map fun n hn=>by
   simp only[List.mem_cons,List.not_mem_nil,or_false] at hn
   rcases hn with rfl | rfl
   ·exact h.f.pts
   ·exact h.f.bnd
  have l0:lineQ 0 (r.T.map Lib.itoa) re0=some { re0 with T:=r.T }:=by
   unfold lineQ
   rw[if_pos rfl,readN_map h.f.t]
   rfl
  have l1:∀ q:Re,lineQ 1 ([r.pts,r.bnd].map Lib.itoa) q=some { q with pts:=r.pts,bnd:=r.bnd }:=fun q=>by
   unfold lineQ
   rw[if_neg (by decide),if_pos rfl,r1]
   rfl
  simp only[linesQ]
  rw[s0,List.tail_cons,l0]
  simp only
  rw[s1,List.tail_cons,l1]
  simp only
  rw[linesQ_nodes (k:=0) hN]
  simp[re0]
 ·exact body_no (by decide) (by decide) (itoas_no (by decide) (by decide))
 ·intro p hp
  rcases List.mem_cons.1 hp with rfl | hp
  ·exact body_no (by decide) (by decide) (itoas_no (l:=[r.pts,r.bnd]) (by decide) (by decide))
  ·obtain⟨x,_,rfl⟩:=List.mem_map.1 hp
   exact body_no (by decide) (by decide) (nodeW_no (by decide) (by decide) (by decide))
theorem readN_I:∀ {ws:List (List UInt8)} {l:List Int},readN ws=some l->∀ n∈l,I64 n
 | [],l,h=>by
  simp only[readN,Option.some.injEq] at h
  subst h
  intro n hn
  simp at hn
 | s :: ws,l,h=>by
  unfold readN at h
  split at h
  ·rename_i n hn
   obtain⟨m,hm,rfl⟩:=Option.map_eq_some_iff.1 h
   intro k hk
   rcases List.mem_cons.1 hk with rfl | hk
   ·obtain⟨h1,h2⟩:=Lib.atoiAll_bounds hn
    exact⟨h1,by omega⟩
   ·exact readN_I hm k hk
  ·cases h
theorem readN_len:∀ {ws:List (List UInt8)} {l:List Int},readN ws=some l->l.length=ws.length
 | [],l,h=>by
  simp only[readN,Option.some.injEq] at h
  subst h
  rfl
 | s :: ws,l,h=>by
  unfold readN at h
  split at h
  ·obtain⟨m,hm,rfl⟩:=Option.map_eq_some_iff.1 h
   simp[readN_len hm]
  ·cases h
theorem nodeR_I {ws:List (List UInt8)}{x:Nd}(h:nodeR ws=some x):I64 x.lot/\I64 x.num/\I64 x.den/\∀ n∈x.next,I64 n:=by
 unfold nodeR at h
 split at h
 ·split at h
  ·rename_i l n d nx h1 h2
   cases h
   have:=readN_I h1
   exact⟨this l (by simp),this n (by simp),this d (by simp),readN_I h2⟩
  ·cases h
 ·cases h
theorem lineQ_I {k:Nat}{ws:List (List UInt8)}{r r':Re}(hr:r.I)(h:lineQ k ws r=some r'):r'.I:=by
 unfold lineQ at h
 split at h
 ·obtain⟨T,hT,rfl⟩:=Option.map_eq_some_iff.1 h
  exact⟨⟨readN_I hT,hr.f.pts,hr.f.bnd,hr.f.n⟩,hr.n⟩
 ·split at h
  ·obtain⟨l,hl,rfl⟩:=Option.map_eq_some_iff.1 h
   have:=readN_I hl
   split
   ·rename_i a b
    exact⟨⟨hr.f.t,this a (by simp),this b (by simp),hr.f.n⟩,hr.n⟩
   ·exact hr
  ·obtain⟨x,hx,rfl⟩:=Option.map_eq_some_iff.1 h
   obtain⟨h1,h2,h3,h4⟩:=nodeR_I hx
   refine⟨⟨hr.f.t,hr.f.pts,hr.f.bnd,fun y hy=>?_⟩,fun y hy=>?_⟩
   ·rcases List.mem_append.1 hy with hy | hy
    ·exact hr.f.n y hy
    ·rw[List.mem_singleton.1 hy]
     exact⟨h1,h4⟩
   ·rcases List.mem_append.1 hy with hy | hy
    ·exact hr.n y hy
    ·rw[List.mem_singleton.1 hy]
     exact⟨h2,h3⟩
end Go.Proofs.YtfpobpjandjhjaaGreatDoor
