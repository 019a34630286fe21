/- Functions of this program that the evaluator need not go into. Conditions: none. -/
import Derived.Test.YtipjnbbfnlfmjaaGreatDoorTF
import Derived.Test.YtipjnbbfnlfmjaaGreatDoorRXX
open Bool renaming and_eq_true->J0
namespace Go.Proofs.YtipjnbbfnlfmjaaGreatDoor
open Go Pw Xe
section
theorem qbp [Zc] {g:Nat}{f:Int->Int->Int->Int->RR}{S:Pw.Spec}(hS:q22 Tryz.prog g S)
  (h:∀ n d n' d' w K,I64 n->I64 d->I64 n'->I64 d'->(∀ w',Fr F0 w w'->Kr (fun a b c w'=>K (.tuple ⟨[.agg ⟨[.int .i64 a,.int .i64 b]⟩,.bool c]⟩) w') (f n d n' d') w')->S [.agg ⟨[.int .i64 n,.int .i64 d]⟩,.agg ⟨[.int .i64 n',.int .i64 d']⟩] w K):q49 Tryz.prog g (nBin f):=by
 refine qdk hS fun xs y hy ρ us w hv K hK=>?_
 unfold nBin at hy
 split at hy
 case h_2=>cases hy
 rename_i n d n' d'
 split at hy
 case h_2=>cases hy
 rename_i hb
 simp only[J0] at hb
 obtain⟨b1,b2,b3,b4⟩:=hb
 split at hy
 rename_i a b ok hf
 cases hy
 obtain⟨u,v,rfl,hu,hv⟩:=qdm hv
 rw[ag2 hu,ag2 hv]
 refine h n d n' d' w K (q3m b1) (q3m b2) (q3m b3) (q3m b4) fun w' hw=>?_
 rw[hf]
 exact hK _ _ ⟨_,rfl,_,_,rfl,⟨_,rfl,_,_,rfl,rfl,_,_,rfl,rfl,rfl⟩,_,_,rfl,rfl,rfl⟩ hw
theorem qqi [Zc]:q49 Tryz.prog 216 (nBin addQ):=qbp z3r_ok fun _ _ _ _ _ _ h1 h2 h3 h4 hK=>qfy h1 h2 h3 h4 hK
theorem qqj [Zc]:q49 Tryz.prog 217 (nBin subQ):=qbp z3v_ok fun _ _ _ _ _ _ h1 h2 h3 h4 hK=>qg0 h1 h2 h3 h4 hK
theorem qqk [Zc]:q49 Tryz.prog 218 (nBin mulQ):=qbp z3t_ok fun _ _ _ _ _ _ h1 h2 h3 h4 hK=>qfz h1 h2 h3 h4 hK
theorem qql [Zc]:q49 Tryz.prog 219 (nBin quoQ):=qbp z3u_ok fun _ _ _ _ _ _ h1 h2 h3 h4 hK=>qg1 h1 h2 h3 h4 hK
theorem qqm [Zc]:q49 Tryz.prog 99 nCmp:=by
 refine qdk z3s_ok fun xs y hy ρ us w hv K hK=>?_
 unfold nCmp at hy
 split at hy
 case h_2=>cases hy
 rename_i n d n' d'
 split at hy
 case h_2=>cases hy
 rename_i hb
 simp only[J0] at hb
 obtain⟨b1,b2,b3,b4⟩:=hb
 cases hy
 obtain⟨u,v,rfl,hu,hv⟩:=qdm hv
 rw[ag2 hu,ag2 hv]
 exact q77 (q3m b1) (q3m b2) (q3m b3) (q3m b4) fun w' hw=>hK _ _ rfl hw
theorem nOf_ok:q49 Tryz.prog 145 nOf:=by
 refine qdk z42_ok fun xs y hy ρ us w hv K hK=>?_
 unfold nOf at hy
 split at hy
 case h_2=>cases hy
 split at hy
 case h_2=>cases hy
 cases hy
 obtain⟨u,rfl,hu⟩:=qdl hv
 cases hu
 exact qj5 fun w' hw=>hK _ _ ⟨_,rfl,_,_,rfl,rfl,_,_,rfl,rfl,rfl⟩ hw
theorem qln:q49 Tryz.prog 215 qlh:=by
 refine qdk z2t_ok fun xs y hy ρ us w hv K hK=>?_
 unfold qlh at hy
 split at hy
 case h_2=>cases hy
 rename_i n d
 split at hy
 case h_2=>cases hy
 rename_i hb
 simp only[J0] at hb
 cases hy
 obtain⟨u,rfl,hu⟩:=qdl hv
 rw[ag2 hu]
 exact q2v (q3m hb.1) (q3m hb.2) fun w' hw=>hK _ _ rfl hw
theorem qnx [Zc]:q49 Tryz.prog 364 qqh:=by
 refine qdk z3g_ok fun xs y hy ρ us w hv K hK=>?_
 unfold qqh at hy
 split at hy
 case h_2=>cases hy
 rename_i n d
 split at hy
 case h_2=>cases hy
 rename_i hb
 simp only[J0] at hb
 split at hy
 rename_i a b ok hf
 cases hy
 obtain⟨u,v,rfl,hu,hv2⟩:=qdm hv
 rw[show u=.int .i64 n from hu,show v=.int .i64 d from hv2]
 refine qj4 (q3m hb.1) (q3m hb.2) fun w' hw=>?_
 show Kr _ (makeQ n d) w'
 rw[hf]
 exact hK _ _ ⟨_,rfl,_,_,rfl,⟨_,rfl,_,_,rfl,rfl,_,_,rfl,rfl,rfl⟩,_,_,rfl,rfl,rfl⟩ hw
theorem nC_ok [Zc]:q49 Tryz.prog 302 qgx:=qlm Tryz.func302 (by kernel_rfl) (by kernel_rfl) (by kernel_rfl) (by kernel_rfl)
theorem nI_ok [Zc]:q49 Tryz.prog 344 qgy:=qll Tryz.func344 (by kernel_rfl) (by kernel_rfl) (by kernel_rfl) (by kernel_rfl)
theorem nE_ok [Zc]:q49 Tryz.prog 304 qbo:=qhw Tryz.func304 (by kernel_rfl) (by kernel_rfl) (by kernel_rfl) (by kernel_rfl)
theorem nZ_ok [Zc] {kn:KnT}(hk:KN Tryz.prog kn):KN Tryz.prog (orZ 330 5 kn):=orZ_ok Tryz.func330 (by kernel_rfl) (by kernel_rfl) (by kernel_rfl) (ps:=#[3]) (t:=103) (by kernel_rfl) (by kernel_rfl) hk
theorem qlo [Zc]:KN Tryz.prog kn0:=.nat qqi (.nat qqj (.nat qqk (.nat qql (.nat qqm (.nat nOf_ok (.nat qln (.nat qnx (.nat nC_ok (.nat nI_ok (.nat nE_ok (nZ_ok .nil)))))))))))
end
