/- strings.Split, strings.Cut, strconv.Atoi. Conditions: none. -/
import Derived.Test.YtfpobpjandjhjaaGreatDoorPXY
import Derived.Test.YtfpobpjandjhjaaGreatDoorPTH
import Derived.Test.YtfpobpjandjhjaaGreatDoorPG7
import Derived.Shelf.Strconv.AtoiAll
import Derived.Shelf.Strings.Cut
import Derived.Shelf.Strings.Split
namespace Pw
open Go
theorem encS_one (l:List ByteArray):l.flatMap encS=l.map Value.string:=fm_one Value.string l
theorem bl_eq_ofL {s:ByteArray}{l:List UInt8}(h:bl s=l):s=ofL l:=bl_inj (by rw[h,bl_ofL])
theorem map_bl {l:List ByteArray}{m:List (List UInt8)}(h:l.map bl=m):l=m.map ofL:=by
 rw[← h,List.map_map]
 conv=>lhs; rw[← List.map_id l]
 exact List.map_congr_left fun s _=>bl_eq_ofL rfl
end Pw
namespace Go.Proofs.YtfpobpjandjhjaaGreatDoor
open Go Pw
structure Gl (w:World):Prop where
 tab:GlT w
 ml:∃ m,w.cell? ⟨Tryz.laysM145_ren.g 1,0,none⟩=some (.int .i64 m)
 ms:∃ m,w.cell? ⟨Tryz.laysM146_ren.g 1,0,none⟩=some (.int .i64 m)
 es:∃ t p,w.cell? ⟨Tryz.laysC172_ren.g 15,0,none⟩=some (.iface t p)
 er:∃ t p,w.cell? ⟨Tryz.laysC172_ren.g 16,0,none⟩=some (.iface t p)
section
variable {w w' w0:World}
theorem cell_fr {w w':World}(hf:Fr F0 w w'){a:Addr}{v:Value}(h:w.cell? a=some v):w'.cell? a=some v:=by
 have hlt:=World.block_lt_of_cell? _ _ h
 have h2:=hf.2.1 a.block hlt fun hh=>hh
 unfold World.cell? at h ⊢
 rw[h2]
 exact h
theorem Gl.fr (h:Gl w)(hf:Fr F0 w w'):Gl w':=by
 obtain⟨h1,⟨m,h2⟩,⟨m',h2'⟩,⟨t,p,h3⟩,⟨t',p',h4⟩⟩:=h
 exact⟨h1.fr hf,⟨m,cell_fr hf h2⟩,⟨m',cell_fr hf h2'⟩,⟨t,p,cell_fr hf h3⟩,⟨t',p',cell_fr hf h4⟩⟩
theorem below_fr {w w':World}(h:RowKit.Below w.heap.size w w'):Fr F0 w w':=⟨h.size,fun b hb _=>h.block b hb,h.os,h.output,h.tape⟩
theorem bytes_fr (w:World)(e:TypeId)(t:ByteArray):Fr F0 w (Lib.bytesWorld w e t):=by
 unfold Lib.bytesWorld
 refine⟨by simp[World.freeze],fun b hb _=>?_,rfl,rfl,rfl⟩
 have hne:b≠w.heap.size:=by omega
 simp only[World.freeze]
 rw[if_neg (by decide)]
 simp only
 rw[Array.getElem?_modify,if_neg (Ne.symm hne)]
 show(w.heap.push _)[b]?=_
 rw[Array.getElem?_push,if_neg hne]
theorem Cut_spec {s sep:ByteArray}{K:ByteArray->ByteArray->Bool->World->Prop}(h:s.size<4294967281)(g:Gl w)
  (hK:∀ w',Fr F0 w w'->K (ofL (Lib.cut (bl s) (bl sep)).1) (ofL (Lib.cut (bl s) (bl sep)).2.1) (Lib.cut (bl s) (bl sep)).2.2 w'):z4l_sh s sep K w:=by
 obtain⟨m,hm⟩:=g.ml
 exact⟨(Any.strings_Cut { Tryz.laysM145 with } s sep m w h hm).mono fun e w' he=>by
  obtain⟨rfl,n,rfl⟩:=he
  exact⟨_,_,_,rfl,hK _ (drewN_fr w n)⟩⟩
theorem Atoi_spec {s:ByteArray}{K:Int->Value->World->Prop}(h:s.size<=281474976710656)(g:Gl w)
  (h1:∀ v w',Lib.atoiAll (bl s)=.ok v->Fr F0 w w'->K v .nilIface w') (h2:∀ v t u w',I64 v->(∀ x,Lib.atoiAll (bl s)≠.ok x)->Fr F0 w w'->K v (.iface t u) w'):z47_sh s K w:=by
 cases ha:Lib.atoiAll (bl s) with
 | ok v =>
  exact⟨(Any.strconv_Atoi_ok Tryz.laysC172 s (by omega) v ha w).mono fun e w' he=>by
   obtain⟨rfl,rfl | ⟨t,rfl⟩⟩:=he
   ·exact⟨_,_,rfl,h1 v _ ha Fr.refl⟩
   ·exact⟨_,_,rfl,h1 v _ ha (bytes_fr _ _ _)⟩⟩
 | range =>
  obtain⟨t,p,hp⟩:=g.er
  exact⟨(Any.strconv_Atoi_range Tryz.laysC172 s h ha _ w hp (.inr ⟨_,_,rfl⟩)).mono fun e w' he=>by
   obtain⟨N,rfl,_,_,hb⟩:=he
   exact⟨_,_,rfl,h2 _ _ _ _ (by have:=Lib.atoiSat_bounds (bl s); exact⟨by show _<=Lib.atoiSat (bl s); omega,by show Lib.atoiSat (bl s)<_; omega⟩) (fun x hx=>by rw[ha] at hx; cases hx) (below_fr hb)⟩⟩
 | _ =>
  obtain⟨t,p,hp⟩:=g.es
  exact⟨(Any.strconv_Atoi_syntax Tryz.laysC172 s h ha _ w hp (.inr ⟨_,_,rfl⟩)).mono fun e w' he=>by
   obtain⟨N,rfl,_,_,hb⟩:=he
   exact⟨_,_,rfl,h2 _ _ _ _ ⟨by decide,by decide⟩ (fun x hx=>by rw[ha] at hx; cases hx) (below_fr hb)⟩⟩
theorem Split_spec {s:List UInt8}{c:UInt8}{K:Sl->World->Prop}(h:s.length<4294967281)(g:Gl w)(hK:∀ w' r,Mk w 1 encS w' r ((splitC c s).map ofL)->K r w'):z3w_sh (ofL s) (ofL [c]) K w:=by
 obtain⟨m,hm⟩:=g.ms
 have so:(ofL s).size=s.length:=by rw[← bl_length,bl_ofL]
 have hc:(ofL [c]).size=1:=by rw[← bl_length,bl_ofL]; rfl
 have e:Lib.splitB (ofL [c]) 0 (Lib.countB (ofL s) (ofL [c])) (ofL s)=(splitC c s).map ofL:=by
  refine map_bl ?_
  have h:=Lib.splitB_data (ofL [c]) 0 (Lib.countB (ofL s) (ofL [c])) (ofL s)
  have e1:(ofL s).data.toList=s:=bl_ofL s
  have e2:(ofL [c]).data.toList=[c]:=bl_ofL [c]
  have e3:Lib.countB (ofL s) (ofL [c])=Lib.count s [c]:=by
   unfold Lib.countB
   rw[e1,e2]
  rw[e1,e2,e3] at h
  rw[e3]
  exact h
 have hl:=Lib.splitB_all (ofL [c]) (by omega) 0 _ (ofL s) rfl
 exact⟨(Any.strings_Split { Tryz.laysM146 with } Tryz.laysM146.i9 (ofL s) (ofL [c]) m w (by omega) hm (by omega)).mono fun e' w' he=>by
  obtain⟨rfl,rfl⟩:=he
  refine⟨⟨some ⟨w.heap.size,0,none⟩,_,_⟩,rfl,hK _ _ ?_⟩
  rw[e] at hl
  rw[e,← encS_one]
  refine⟨Fr.alloc,?_,fun b ⟨a,ha,hb⟩=>by cases ha; subst hb; exact Nat.le_refl _⟩
  have:=Row.ow encS_length (l:=(splitC c s).map ofL) (Row.new (w:=w) (cs:=((splitC c s).map ofL).flatMap encS) (e:=Tryz.laysM146_ren.t 9))
  rw[hl] at this
  exact this⟩
end
end Go.Proofs.YtfpobpjandjhjaaGreatDoor
