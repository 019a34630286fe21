/- The reference's Made: a formula of numbers. Conditions: none. -/
import Derived.Test.YtfkmpbpkahcogaaGreatDoorDR1
import Derived.Test.YtfkmpbpkahcogaaGreatDoorRXY
import Derived.Test.YtfkmpbpkahcogaaGreatDoorDG3
import Derived.Test.YtfkmpbpkahcogaaGreatDoorPWX
import Derived.SizedLaws
import Derived.Deep.Slices
import Derived.ChangeArms
namespace Pw
open Go
theorem Rests.row {b : Nat} {vs : List Value} : Rests (fun c => c = b) (fun w => Row w b vs) := fun _ _ he h => h.congr (he b rfl)
theorem Sp.bury {α : Type} {n : Nat} {enc : α -> List Value} {w0 w : World} {s : Sl} {l : List α} {L : List (Nat × List Value)} {B : Nat -> Prop} {Q : World -> Prop} {b : Nat} {vs : List Value} (h : Sp w0 w ((b, vs) :: L) B Q n enc s l) :
  Sp w0 w L (fun c => B c \/ c = b) (fun w => Q w /\ Row w b vs) n enc s l := by
 have hp := h.m.2.2.1
 simp only [List.map_cons, List.pairwise_cons, List.mem_map] at hp
 refine ⟨h.m.dr 1 rfl, h.rs.and Rests.row, ⟨h.q, h.row 0 rfl⟩, fun c hc => ?_, h.ow, fun c hc => ⟨(h.os c hc).1, fun hc' => ?_, fun p hp => (h.os c hc).2.2 p (List.mem_cons_of_mem _ hp)⟩⟩
 ·rcases hc with hc | rfl
  ·exact ⟨(h.ap c hc).1, (h.ap c hc).2.1, fun p hp => (h.ap c hc).2.2 p (List.mem_cons_of_mem _ hp)⟩
  ·exact ⟨(h.row 0 rfl).lt, h.m.2.2.2 _ (List.mem_cons_self ..), fun p hp' e => by have := hp.1 p.1 ⟨p, hp', rfl⟩; omega⟩
 ·rcases hc' with hc' | rfl
  ·exact (h.os c hc).2.1 hc'
  ·exact (h.os c hc).2.2 _ (List.mem_cons_self ..) rfl
theorem sub0 (p : Option Addr) (c n : Nat) : subP p 0 c n = p := by
 unfold subP
 split
 ·rfl
 ·cases p with
  | none => rfl
  | some a => simp [Addr.add]
theorem Ow.take {α : Type} {n : Nat} {enc : α -> List Value} {w : World} {s : Sl} {l : List α} (h : Ow n enc w s l) (hn : ∀ a, (enc a).length = n) {j : Nat} (hj : j <= l.length) : Ow n enc w ⟨subP s.p 0 s.c n, j - 0, s.c - 0⟩ (l.take j) := by
 have hl := h.len
 rw [sub0]
 have hlen : ((l.take j).flatMap enc).length = j * n := by rw [fm_length hn]; simp; rw [Nat.min_eq_left hj]
 refine ⟨by simp; omega, by simpa using hlen, ?_⟩
 rcases h.own.2 with ⟨h1, h2, h3⟩ | ⟨b, cs, h1, h2, h3, h4, h5⟩
 ·exact .inl ⟨h1, by simp; omega, by simpa using h3⟩
 ·refine .inr ⟨b, cs, h1, h2, by simpa using h3, by simp; omega, ?_⟩
  have h6 : l.flatMap enc = (l.take j).flatMap enc ++ (l.drop j).flatMap enc := by rw [← List.flatMap_append, List.take_append_drop]
  rw [h6] at h5
  have := congrArg (List.take ((l.take j).flatMap enc).length) h5
  rw [List.take_take, List.take_left, Nat.min_eq_left (by simp)] at this
  exact this
theorem Sp.take {α : Type} {n : Nat} {enc : α -> List Value} {w0 w : World} {s : Sl} {l : List α} {L : List (Nat × List Value)} {B : Nat -> Prop} {Q : World -> Prop} (h : Sp w0 w L B Q n enc s l) (hn : ∀ a, (enc a).length = n) {j : Nat} (hj : j <= l.length) : Sp w0 w L B Q n enc ⟨subP s.p 0 s.c n, j - 0, s.c - 0⟩ (l.take j) :=
 ⟨h.m, h.rs, h.q, h.ap, h.ow.take hn hj, fun b hb => h.os b (by rw [sub0] at hb; exact hb)⟩
end Pw
namespace Dp
open Go Pw
def names4 : List B := [[112, 114, 105, 99, 101], [108, 111, 119], [113, 117, 97, 108, 105, 116, 121], [100, 97, 121, 115]]
def opsB : List B := [[43], [45], [42], [47], wMin, wMax]
def opN (n : Int) : Fin 6 := ⟨(Int.tmod n 6).toNat, by have := Int.tmod_lt_of_pos n (b := 6) (by decide); omega⟩
end Dp
namespace Go.Proofs.YtfkmpbpkahcogaaGreatDoor
open Go Pw Dp
def madeNum (r : Int) : Fm := .num (makeQ (Int.tmod r 13 - 3) (1 + Int.tmod (Int.tdiv r 13) 4)).n (makeQ (Int.tmod r 13 - 3) (1 + Int.tmod (Int.tdiv r 13) 4)).d
def madeOp (st : List Fm) (r : Int) : List Fm :=
 if h : 1 < st.length then st.take (st.length - 2) ++ [.op (opN r) st[st.length - 2] st[st.length - 1]] else st
def madeStep (st : List Fm) (x : Int) : List Fm :=
 let n := modP x 1000
 let r := Int.tdiv n 10
 let c := Int.tmod n 10
 if c = 0 \/ c = 1 then st ++ [madeNum r] else if c = 2 \/ c = 3 \/ c = 4 then st ++ [.name (names4.getD (Int.tmod r 4).toNat [])] else madeOp st r
def madeF (l : List Int) : Fm := match (l.take 80).foldl madeStep [] with
 | [] => .name wPrice
 | e :: r => r.foldl (fun a b => .op 0 a b) e
theorem madeOp_len (st : List Fm) (r : Int) : (madeOp st r).length <= st.length := by
 unfold madeOp
 split
 ·simp; omega
 ·omega
theorem madeStep_len (st : List Fm) (x : Int) : (madeStep st x).length <= st.length + 1 := by
 unfold madeStep
 simp only
 split
 ·simp
 ·split
  ·simp
  ·have := madeOp_len st (Int.tdiv (modP x 1000) 10); omega
theorem foldl_take {α β : Type} (f : β -> α -> β) (b : β) (l : List α) {i : Nat} (hi : i < l.length) : (l.take (i + 1)).foldl f b = f ((l.take i).foldl f b) l[i] := by
 rw [List.take_add_one, List.getElem?_eq_getElem hi, Option.toList_some, List.foldl_append, List.foldl_cons, List.foldl_nil]
theorem made_len (l : List Int) : ∀ st : List Fm, (l.foldl madeStep st).length <= st.length + l.length := by
 induction l with
 | nil => intro st; simp
 | cons x l ih => intro st; have := ih (madeStep st x); have := madeStep_len st x; simp only [List.foldl_cons, List.length_cons]; omega
def XQ (P : Nat -> Prop) (w : World) : Fm -> XC -> Prop
 | .op o a b, c => ∃ ca cb i, (c.op = ofL (opB o) /\ c.n = 0 /\ c.d = 0 /\ c.nm = ofL []) /\ c.a = ⟨some ⟨i, 0, none⟩, 2, 2⟩ /\ Row w i ([ca, cb].flatMap encX) /\ P i /\ XQ P w a ca /\ XQ P w b cb
 | .num n d, c => XP w (.num n d) c
 | .name s, c => XP w (.name s) c
theorem pairX {w : World} {i : Nat} {ca cb : XC} (h : Row w i ([ca, cb].flatMap encX)) : Vw 5 encX w ⟨some ⟨i, 0, none⟩, 2, 2⟩ [ca, cb] := (Row.ow encX_length (l := [ca, cb]) h).vw
section
variable {P P' : Nat -> Prop} {w w' u : World} {s s' : Sl} {x : T43}
theorem XQ.xp : ∀ {e : Fm} {c : XC}, XQ P w e c -> XP w e c
 | .num _ _, _, h => h
 | .name _, _, h => h
 | .op _ _ _, _, ⟨ca, cb, _, h1, h2, h5, _, h3, h4⟩ => ⟨ca, cb, h1, by rw [h2]; exact pairX h5, h3.xp, h4.xp⟩
theorem XQ.mono (hp : ∀ b, P b -> P' b) : ∀ {e : Fm} {c : XC}, XQ P w e c -> XQ P' w e c
 | .num _ _, _, h => h
 | .name _, _, h => h
 | .op _ _ _, _, ⟨ca, cb, i, h1, h2, h5, hi, h3, h4⟩ => ⟨ca, cb, i, h1, h2, h5, hp i hi, h3.mono hp, h4.mono hp⟩
theorem XQ.go (he : ∀ b, P b -> w'.heap[b]? = w.heap[b]?) : ∀ {e : Fm} {c : XC}, XQ P w e c -> XQ P w' e c
 | .num _ _, _, h => h
 | .name _, _, h => h
 | .op _ _ _, _, ⟨ca, cb, i, h1, h2, h5, hi, h3, h4⟩ => ⟨ca, cb, i, h1, h2, h5.congr (he i hi), hi, h3.go he, h4.go he⟩
theorem XQ.rests (e : Fm) (c : XC) : Rests P (fun w => XQ P w e c) := fun _ _ he h => h.go he
def SQ (P : Nat -> Prop) (w : World) (cs : List XC) (es : List Fm) : Prop := cs.length = es.length /\ ∀ i (h : i < cs.length) (h' : i < es.length), XQ P w es[i] cs[i]
theorem SQ.rests (cs : List XC) (es : List Fm) : Rests P (fun w => SQ P w cs es) := fun _ _ he h => ⟨h.1, fun i a b => (h.2 i a b).go he⟩
theorem SQ.mono (hp : ∀ b, P b -> P' b) {cs : List XC} {es : List Fm} (h : SQ P w cs es) : SQ P' w cs es := ⟨h.1, fun i a b => (h.2 i a b).mono hp⟩
theorem SQ.nil : SQ P w [] [] := ⟨rfl, fun i h => absurd h (by simp)⟩
theorem SQ.take {cs : List XC} {es : List Fm} (h : SQ P w cs es) (j : Nat) : SQ P w (cs.take j) (es.take j) :=
 ⟨by rw [List.length_take, List.length_take, h.1], fun i a b => by rw [List.getElem_take, List.getElem_take]; exact h.2 i _ _⟩
theorem SQ.push {cs : List XC} {es : List Fm} {c : XC} {e : Fm} (h : SQ P w cs es) (hx : XQ P w e c) : SQ P w (cs ++ [c]) (es ++ [e]) := by
 refine ⟨by simp [h.1], fun i a b => ?_⟩
 rcases Nat.lt_or_ge i cs.length with hi | hi
 ·rw [List.getElem_append_left hi, List.getElem_append_left (by rw [← h.1]; exact hi)]
  exact h.2 i _ _
 ·have hj : i = cs.length := by simp at a; omega
  subst hj
  have h1 := h.1
  rw [List.getElem_append_right (Nat.le_refl _), List.getElem_append_right (by omega)]
  simpa [h.1] using hx
theorem XQ.nam {s : B} (h : s.length <= 2 ^ 20) : XQ P w (.name s) ⟨ofL wName, 0, 0, ofL s, ⟨none, 0, 0⟩⟩ := ⟨rfl, h⟩
theorem makeQ_I64 (n d : Int) : I64 (makeQ n d).n /\ I64 (makeQ n d).d := by
 unfold makeQ
 split
 ·exact ⟨⟨by decide, by decide⟩, ⟨by decide, by decide⟩⟩
 ·exact fitQ_I64 _
theorem opB_at (o : Fin 6) : opsB[o.val]? = some (opB o) := by
 revert o; decide
def mdL (ob tb : Nat) : List (Nat × List Value) := [(ob, opsB.flatMap encB), (tb, encX ⟨ofL [], 0, 0, ofL [], ⟨none, 0, 0⟩⟩)]
theorem opsMd {ob : Nat} {i : Int} {K : ByteArray -> Prop} {S : World -> Prop} (hS : ∀ u, S u -> Row u ob (opsB.flatMap encB)) (h0 : 0 <= i) (h1 : i < 6) (hK : K (ofL (opB ⟨i.toNat, by omega⟩))) :
  (0 <= i /\ i < ((6 : Nat) : Int)) /\ ∃ x : ByteArray, (∀ w' : World, S w' -> w'.cell? ((⟨ob, 0, none⟩ : Addr).add (i.toNat * 1)) = some (Value.string x)) /\ K x := by
 refine ⟨⟨h0, h1⟩, _, fun u hu => str_at (l := opsB) (n := 6) (hS u hu) h0 rfl h1, ?_⟩
 have := opB_at ⟨i.toNat, by omega⟩
 rw [List.getD_eq_getElem?_getD, this]
 exact hK
section
variable {w0 w : World} {P : Nat -> Prop} {st ls ops : Sl} {cs : List XC} {es : List Fm} {ob tb : Nat} {t2 : Addr} {k r : Int} {N : Sl -> Addr -> Sl -> Sl -> Int -> World -> Prop} {K : ByteArray -> Int -> Int -> ByteArray -> Sl -> World -> Prop}
theorem Made_k1_spec (h : Sp w0 w (mdL ob tb) P (fun u => SQ P u cs es) 5 encX st cs) (hl : cs.length <= 2 ^ 20) (hr : 0 <= r /\ r < 100) (hk : 0 <= k /\ k < 2 ^ 40)
  (hN : ∀ u st' cs' P', Sp w0 u (mdL ob tb) P' (fun u => SQ P' u cs' (es ++ [madeNum r])) 5 encX st' cs' -> N ls t2 st' ops (k + 1) u) : z1f_k1 ls t2 st ops k r N K w := by
 have a1 := Int.tmod_lt_of_pos r (b := 13) (by decide)
 have a2 := Int.tmod_nonneg (a := r) 13 hr.1
 have b1 := Int.tmod_lt_of_pos (Int.tdiv r 13) (b := 4) (by decide)
 have b0 : 0 <= Int.tdiv r 13 := Int.tdiv_nonneg hr.1 (by decide)
 have b3 : Int.tdiv r 13 <= r := Int.tdiv_le_self 13 hr.1
 have b2 := Int.tmod_nonneg (a := Int.tdiv r 13) 4 b0
 refine ⟨?_⟩
 unfold z1f_k1d
 refine ⟨by decide, inR64 (by omega) (by omega), by decide, inR64 (by omega) (by omega), by decide, inR64 (by omega) (by omega), ?_⟩
 refine rMake_spec (by unfold I64; omega) (by unfold I64; omega) fun w7 f7 => ?_
 simp -zeta only [Kr]
 have h := h.fr f7
 intro w10
 have h : Sp w0 w10 ((w7.heap.size, _) :: mdL ob tb) P _ 5 encX st cs := h.allocL (vs := [.int .i64 0, .int .i64 0])
 clear_value w10
 refine ⟨h.wr 0 rfl rfl, ?_⟩
 intro w11
 have h : Sp w0 w11 ((w7.heap.size, [_, _]) :: mdL ob tb) P _ 5 encX st cs := h.set 0 rfl
 clear_value w11
 refine ⟨h.wr 0 rfl rfl, ?_⟩
 intro w12
 have h : Sp w0 w12 ((w7.heap.size, [_, _]) :: mdL ob tb) P _ 5 encX st cs := h.set 0 rfl
 clear_value w12
 refine ⟨_, h.ld 0 rfl rfl, _, h.ld 0 rfl rfl, ?_⟩
 intro w15
 have h := h.dr 1 rfl
 have hI := makeQ_I64 (Int.tmod r 13 - 3) (1 + Int.tmod (Int.tdiv r 13) 4)
 refine h.push (a := ⟨ofL wNum, (makeQ (Int.tmod r 13 - 3) (1 + Int.tmod (Int.tdiv r 13) 4)).n, (makeQ (Int.tmod r 13 - 3) (1 + Int.tmod (Int.tdiv r 13) 4)).d, ofL [], ⟨none, 0, 0⟩⟩) rfl rfl encX_ok rfl (by omega) (by omega) fun s16 w17 h => ?_
 refine ⟨inR64 (by omega) (by omega), hN w17 s16 _ P (h.say (SQ.rests _ _) (fun _ hb => hb) fun hq => hq.push ⟨rfl, hI.1, hI.2⟩)⟩
theorem Made_k3_spec (h : Sp w0 w (mdL ob tb) P (fun u => SQ P u cs es) 5 encX st cs) (hl : cs.length <= 2 ^ 20) (hr : 0 <= r /\ r < 100) (hk : 0 <= k /\ k < 2 ^ 40)
  (hN : ∀ u st' cs' P', Sp w0 u (mdL ob tb) P' (fun u => SQ P' u cs' (es ++ [.name (names4.getD (Int.tmod r 4).toNat [])])) 5 encX st' cs' -> N ls t2 st' ops (k + 1) u) : z1f_k3 ls t2 st ops k r N K w := by
 have b1 := Int.tmod_lt_of_pos r (b := 4) (by decide)
 have b2 := Int.tmod_nonneg (a := r) 4 hr.1
 refine ⟨?_⟩
 unfold z1f_k3d
 refine ⟨?_⟩
 unfold z17_sd
 intro w18
 have h : Sp w0 w18 ((w.heap.size, _) :: mdL ob tb) P _ 5 encX st cs := h.allocL (vs := names4.flatMap encB)
 clear_value w18
 refine ⟨by decide, ⟨b2, b1⟩, _, str_at (h.row 0 rfl) b2 rfl b1, ?_⟩
 intro w22
 have h := h.dr 1 rfl
 have hs : (names4.getD (Int.tmod r 4).toNat []).length <= 2 ^ 20 := by
  have : (Int.tmod r 4).toNat < 4 := by omega
  generalize (Int.tmod r 4).toNat = j at this
  rcases j with _ | _ | _ | _ | j
  iterate 4 decide
  omega
 refine h.push (a := ⟨ofL wName, 0, 0, ofL (names4.getD (Int.tmod r 4).toNat []), ⟨none, 0, 0⟩⟩) rfl rfl encX_ok rfl (by omega) (by omega) fun s16 w17 h => ?_
 exact ⟨inR64 (by omega) (by omega), hN w17 s16 _ P (h.say (SQ.rests _ _) (fun _ hb => hb) fun hq => hq.push (XQ.nam hs))⟩
theorem Made_k4_spec (h : Sp w0 w (mdL ob tb) P (fun u => SQ P u cs es) 5 encX st cs) (hl : cs.length <= 2 ^ 20) (hr : 0 <= r /\ r < 100) (hk : 0 <= k /\ k < 2 ^ 40)
  (hN : ∀ u st' cs' P', Sp w0 u (mdL ob tb) P' (fun u => SQ P' u cs' (madeOp es r)) 5 encX st' cs' -> N ls t2 st' ⟨some ⟨ob, 0, none⟩, 6, 6⟩ (k + 1) u) : z1f_k4 ls t2 st ⟨some ⟨ob, 0, none⟩, 6, 6⟩ k r N K w := by
 have hlen := h.ow.len
 have hq := h.q.1
 refine ⟨?_⟩
 unfold z1f_k4d
 refine cnd_prop.2 ⟨fun h1 => ?_, fun h1 => ?_⟩
 ·have e1 : 1 < es.length := by omega
  have b1 := Int.tmod_lt_of_pos r (b := 6) (by decide)
  have b2 := Int.tmod_nonneg (a := r) 6 hr.1
  refine ⟨inR64 (by omega) (by omega), ldX h.ow.vw (cs.length - 2) (by omega) (by omega) ?_⟩
  intro w31
  have h : Sp w0 w31 ((w.heap.size, _) :: mdL ob tb) P _ 5 encX st cs := h.allocL (vs := encX ⟨ofL [], 0, 0, ofL [], ⟨none, 0, 0⟩⟩)
  clear_value w31
  refine stN_sp h 0 rfl rfl fun w32 h => ?_
  refine ⟨inR64 (by omega) (by omega), ldX h.ow.vw (cs.length - 1) (by omega) (by omega) ?_⟩
  intro w39
  have h : Sp w0 w39 ((w32.heap.size, _) :: (w.heap.size, _) :: mdL ob tb) P _ 5 encX st cs := h.allocL (vs := encX ⟨ofL [], 0, 0, ofL [], ⟨none, 0, 0⟩⟩)
  clear_value w39
  refine stN_sp h 0 rfl rfl fun w40 h => ?_
  intro w41
  have h : Sp w0 w41 ((w32.heap.size, encX cs[cs.length - 1]) :: (w.heap.size, encX cs[cs.length - 2]) :: mdL ob tb) P _ 5 encX st cs := h.drew
  clear_value w41
  refine ⟨fun u => Rs u ((w32.heap.size, encX cs[cs.length - 1]) :: (w.heap.size, encX cs[cs.length - 2]) :: mdL ob tb), h.sub 0 rfl, inR64 (by omega) (by omega), ⟨by decide, by omega, ?_⟩, by decide, ?_⟩
  ·have := h.ow.vw.cap; omega
  refine opsMd (S := fun u => Rs u ((w32.heap.size, encX cs[cs.length - 1]) :: (w.heap.size, encX cs[cs.length - 2]) :: mdL ob tb)) (fun u hu => hu (ob, opsB.flatMap encB) (by simp [mdL])) b2 b1 ?_
  refine ⟨_, fun u hu => hu.ld 1 rfl rfl, _, fun u hu => hu.ld 1 rfl rfl, _, fun u hu => hu.ld 1 rfl rfl, _, fun u hu => hu.ld 1 rfl rfl, cs[cs.length - 2].a, fun u hu => hu.ld 1 rfl rfl, _, fun u hu => hu.ld 0 rfl rfl, _, fun u hu => hu.ld 0 rfl rfl, _, fun u hu => hu.ld 0 rfl rfl, _, fun u hu => hu.ld 0 rfl rfl, cs[cs.length - 1].a, fun u hu => hu.ld 0 rfl rfl, ?_⟩
  intro w55
  have h : Sp w0 w55 ((w41.heap.size, _) :: (w32.heap.size, encX cs[cs.length - 1]) :: (w.heap.size, encX cs[cs.length - 2]) :: mdL ob tb) P _ 5 encX st cs := h.allocL (vs := [cs[cs.length - 2], cs[cs.length - 1]].flatMap encX)
  clear_value w55
  refine ⟨h.sub 1 rfl, ?_⟩
  intro w56
  refine ⟨(h.fr Fr.alloc).sub 1 rfl, ?_⟩
  have h2 := h.take encX_length (j := cs.length - 2) (by omega)
  have ej : ((st.l : Int) - 2).toNat = cs.length - 2 := by omega
  rw [ej]
  refine h2.push (a := ⟨ofL (opB ⟨(Int.tmod r 6).toNat, by omega⟩), 0, 0, ofL [], ⟨some ⟨w41.heap.size, 0, none⟩, 2, 2⟩⟩) rfl rfl encX_ok rfl (by simp; omega) (by simp; omega) fun s57 w58 h => ?_
  refine ⟨h.sub 1 rfl, inR64 (by omega) (by omega), hN w58 s57 _ _ ((h.bury.dr 2 rfl).say (SQ.rests _ _) (fun _ hb => hb) fun ⟨hQ, hR⟩ => ?_)⟩
  have eM : madeOp es r = es.take (cs.length - 2) ++ [.op (opN r) (es[cs.length - 2]'(by omega)) (es[cs.length - 1]'(by omega))] := by
   unfold madeOp
   rw [dif_pos e1]
   simp only [hq]
  rw [eM]
  refine SQ.push ((SQ.mono (fun b hb => .inl hb) hQ).take _) ⟨_, _, w41.heap.size, ⟨rfl, rfl, rfl, rfl⟩, rfl, hR, .inr rfl, ?_, ?_⟩
  ·have := hQ.2 (cs.length - 2) (by omega) (by omega)
   exact XQ.mono (fun b hb => .inl hb) this
  ·have := hQ.2 (cs.length - 1) (by omega) (by omega)
   exact XQ.mono (fun b hb => .inl hb) this
 ·refine ⟨inR64 (by omega) (by omega), hN w st cs P ?_⟩
  have : madeOp es r = es := by unfold madeOp; rw [dif_neg (by omega)]
  rw [this]
  exact h
end
end
end Go.Proofs.YtfkmpbpkahcogaaGreatDoor
namespace Go.Proofs.YtfkmpbpkahcogaaGreatDoor
open Go Pw Dp
theorem madeStep_num (st : List Fm) {x : Int} (hc : Int.tmod (modP x 1000) 10 = 0 \/ Int.tmod (modP x 1000) 10 = 1) : madeStep st x = st ++ [madeNum (Int.tdiv (modP x 1000) 10)] := if_pos hc
theorem madeStep_name (st : List Fm) {x : Int} (hc : ¬ (Int.tmod (modP x 1000) 10 = 0 \/ Int.tmod (modP x 1000) 10 = 1)) (h3 : Int.tmod (modP x 1000) 10 = 2 \/ Int.tmod (modP x 1000) 10 = 3 \/ Int.tmod (modP x 1000) 10 = 4) : madeStep st x = st ++ [.name (names4.getD (Int.tmod (Int.tdiv (modP x 1000) 10) 4).toNat [])] := (if_neg hc).trans (if_pos h3)
theorem madeStep_op (st : List Fm) {x : Int} (hc : ¬ (Int.tmod (modP x 1000) 10 = 0 \/ Int.tmod (modP x 1000) 10 = 1)) (h3 : ¬ (Int.tmod (modP x 1000) 10 = 2 \/ Int.tmod (modP x 1000) 10 = 3 \/ Int.tmod (modP x 1000) 10 = 4)) : madeStep st x = madeOp st (Int.tdiv (modP x 1000) 10) := (if_neg hc).trans (if_neg h3)
section
variable {w0 w : World} {P : Nat -> Prop} {st ls ops : Sl} {cs : List XC} {es : List Fm} {ob tb : Nat} {t2 : Addr} {k r : Int} {N : Sl -> Addr -> Sl -> Sl -> Int -> World -> Prop} {K : ByteArray -> Int -> Int -> ByteArray -> Sl -> World -> Prop}
theorem Made_k2_spec {c : Int} (h3 : c = 2 \/ c = 3 \/ c = 4 -> z1f_k3 ls t2 st ops k r N K w) (h4 : ¬ (c = 2 \/ c = 3 \/ c = 4) -> z1f_k4 ls t2 st ops k r N K w) : z1f_k2 ls t2 st ops k r c N K w := by
 refine ⟨?_⟩
 unfold z1f_k2d
 refine cnd_beq.2 ⟨fun h => cnd_beq.2 ⟨fun _ => h3 (.inl h), fun h' => absurd h h'⟩, fun h2 => cnd_beq.2 ⟨fun h => cnd_beq.2 ⟨fun _ => h3 (.inr (.inl h)), fun h' => absurd h h'⟩, fun h3' => cnd_beq.2 ⟨fun h => h3 (.inr (.inr h)), fun h4' => h4 (by omega)⟩⟩⟩
theorem Made_l6_spec {eb : Nat} {e0 : Fm} {er : List Fm} {c0 : XC} {cr : List XC} (h : Sp w0 w [(eb, encX c0), (tb, encX ⟨ofL [], 0, 0, ofL [], ⟨none, 0, 0⟩⟩)] P (fun u => SQ P u (c0 :: cr) (e0 :: er)) 5 encX st (c0 :: cr)) (hl : cr.length <= 2 ^ 20)
  (hK : ∀ w' c, Fr F0 w0 w' -> XQ (fun b => w0.heap.size <= b /\ b < w'.heap.size) w' (er.foldl (fun a b => .op 0 a b) e0) c -> K c.op c.n c.d c.nm c.a w') : z1f_l6 ⟨tb, 0, none⟩ st ⟨eb, 0, none⟩ 1 K w := by
 have hlen := h.ow.len
 have hq := h.q.1
 simp only [List.length_cons] at hlen hq
 refine ⟨⟨fun i u => ∃ (i' : Nat) (P' : Nat -> Prop) (c : XC), i = ((i' + 1 : Nat) : Int) /\ i' <= er.length /\ Sp w0 u [(eb, encX c), (tb, encX ⟨ofL [], 0, 0, ofL [], ⟨none, 0, 0⟩⟩)] P' (fun u => SQ P' u (c0 :: cr) (e0 :: er) /\ XQ P' u ((er.take i').foldl (fun a b => .op 0 a b) e0) c) 5 encX st (c0 :: cr), fun i _ => er.length + 1 - i.toNat, ⟨0, P, c0, rfl, by omega, h.say (fun u u' he hq => ⟨SQ.rests _ _ u u' he hq.1, XQ.rests _ _ u u' he hq.2⟩) (fun _ hb => hb) fun hq => ⟨hq, hq.2 0 (by simp) (by simp)⟩⟩, ?_⟩⟩
 rintro i u ⟨i, P', c, rfl, hi, h⟩
 unfold z1f_b6
 refine cnd_prop.2 ⟨fun hlt => ?_, fun hge => ?_⟩
 ·have hie : i < er.length := by omega
  intro w73
  have h := h.drew
  have hd : Sp w0 w73 _ _ _ 5 encX st (c0 :: cr) := h
  clear_value w73
  refine ⟨fun v => v = w73, rfl, ?_⟩
  refine ⟨_, fun v hv => by rw [hv]; exact hd.ld (i := 0) 0 rfl rfl, _, fun v hv => by rw [hv, add_mk]; exact hd.ld (i := 1) 0 rfl rfl, _, fun v hv => by rw [hv, add_mk]; exact hd.ld (i := 2) 0 rfl rfl, _, fun v hv => by rw [hv, add_mk]; exact hd.ld (i := 3) 0 rfl rfl, c.a, fun v hv => by rw [hv, add_mk]; exact hd.ld (i := 4) 0 rfl rfl, ?_⟩
  have hi1 : i + 1 < (c0 :: cr).length := by simp; omega
  refine Vw.go encX_length (by decide) hd.ow.vw (i + 1) rfl hi1 fun a hc => ⟨_, fun v hv => by rw [hv]; exact hc 0 _ rfl, _, fun v hv => by rw [hv]; exact hc 1 _ rfl, _, fun v hv => by rw [hv]; exact hc 2 _ rfl, _, fun v hv => by rw [hv]; exact hc 3 _ rfl, (c0 :: cr)[i + 1].a, fun v hv => by rw [hv]; exact hc 4 _ rfl, ?_⟩
  intro w86
  have h2 : Sp w0 w86 ((w73.heap.size, _) :: _) _ _ 5 encX st (c0 :: cr) := hd.allocL (vs := [c, (c0 :: cr)[i + 1]].flatMap encX)
  clear_value w86
  refine stN_sp h2 1 rfl (vs := encX ⟨ofL (opB 0), 0, 0, ofL [], ⟨some ⟨w73.heap.size, 0, none⟩, 2, 2⟩⟩) rfl fun w87 h => ?_
  refine ⟨inR64 (by omega) (by omega), ⟨⟨rfl, rfl, rfl, trivial⟩, i + 1, fun b => P' b \/ b = w73.heap.size, ⟨ofL (opB 0), 0, 0, ofL [], ⟨some ⟨w73.heap.size, 0, none⟩, 2, 2⟩⟩, by omega, by omega, ?_⟩, by dsimp only; omega⟩
  refine h.bury.say (fun u u' he hq => ⟨SQ.rests _ _ u u' he hq.1, XQ.rests _ _ u u' he hq.2⟩) (fun _ hb => hb) fun ⟨⟨hQ, hX⟩, hR⟩ => ⟨SQ.mono (fun b hb => .inl hb) hQ, ?_⟩
  rw [foldl_take _ _ _ hie]
  exact ⟨_, _, w73.heap.size, ⟨rfl, rfl, rfl, rfl⟩, rfl, hR, .inr rfl, XQ.mono (fun b hb => .inl hb) hX, XQ.mono (fun b hb => .inl hb) (hQ.2 (i + 1) hi1 (by simp; omega))⟩
 ·have hie : i = er.length := by omega
  refine ⟨_, h.ld (i := 0) 0 rfl rfl, _, by rw [add_mk]; exact h.ld (i := 1) 0 rfl rfl, _, by rw [add_mk]; exact h.ld (i := 2) 0 rfl rfl, _, by rw [add_mk]; exact h.ld (i := 3) 0 rfl rfl, c.a, by rw [add_mk]; exact h.ld (i := 4) 0 rfl rfl, ?_⟩
  refine stN_sp h 1 rfl rfl fun w93 h => ?_
  refine ⟨_, h.ld (i := 0) 1 rfl rfl, _, by rw [add_mk]; exact h.ld (i := 1) 1 rfl rfl, _, by rw [add_mk]; exact h.ld (i := 2) 1 rfl rfl, _, by rw [add_mk]; exact h.ld (i := 3) 1 rfl rfl, c.a, by rw [add_mk]; exact h.ld (i := 4) 1 rfl rfl, ?_⟩
  have hX := h.q.2
  rw [hie, List.take_length] at hX
  exact hK w93 c h.m.1 (hX.mono fun b hb => ⟨(h.ap b hb).2.1, (h.ap b hb).1⟩)
theorem Made_k5_spec (h : Sp w0 w (mdL ob tb) P (fun u => SQ P u cs es) 5 encX st cs) (hl : cs.length <= 2 ^ 20)
  (hK : ∀ w' c, Fr F0 w0 w' -> XQ (fun b => w0.heap.size <= b /\ b < w'.heap.size) w' (match es with | [] => .name wPrice | e :: r => r.foldl (fun a b => .op 0 a b) e) c -> K c.op c.n c.d c.nm c.a w') : z1f_k5 ⟨tb, 0, none⟩ st K w := by
 have hlen := h.ow.len
 have hq := h.q.1
 refine ⟨?_⟩
 unfold z1f_k5d
 refine cnd_beq.2 ⟨fun h0 => ?_, fun h0 => ?_⟩
 ·refine stN_sp h 1 rfl (vs := encX ⟨ofL wName, 0, 0, ofL wPrice, ⟨none, 0, 0⟩⟩) rfl fun w93 h => ?_
  refine ⟨_, h.ld (i := 0) 1 rfl rfl, _, by rw [add_mk]; exact h.ld (i := 1) 1 rfl rfl, _, by rw [add_mk]; exact h.ld (i := 2) 1 rfl rfl, _, by rw [add_mk]; exact h.ld (i := 3) 1 rfl rfl, ⟨none, 0, 0⟩, by rw [add_mk]; exact h.ld (i := 4) 1 rfl rfl, ?_⟩
  have he : es = [] := List.eq_nil_of_length_eq_zero (by omega)
  subst he
  exact hK w93 ⟨ofL wName, 0, 0, ofL wPrice, ⟨none, 0, 0⟩⟩ h.m.1 (XQ.nam (by decide))
 ·obtain ⟨c0, cr, rfl⟩ : ∃ c0 cr, cs = c0 :: cr := by
   cases cs with
   | nil => simp at hlen; omega
   | cons a b => exact ⟨a, b, rfl⟩
  obtain ⟨e0, er, rfl⟩ : ∃ e0 er, es = e0 :: er := by
   cases es with
   | nil => simp at hq
   | cons a b => exact ⟨a, b, rfl⟩
  refine ldX h.ow.vw 0 rfl (by simp) ?_
  intro w71
  have h : Sp w0 w71 ((w.heap.size, _) :: mdL ob tb) P _ 5 encX st (c0 :: cr) := h.allocL (vs := encX ⟨ofL [], 0, 0, ofL [], ⟨none, 0, 0⟩⟩)
  clear_value w71
  refine stN_sp h 0 rfl (vs := encX c0) rfl fun w72 h => ?_
  have hs : Sp w0 w72 [(w.heap.size, encX c0), (tb, encX ⟨ofL [], 0, 0, ofL [], ⟨none, 0, 0⟩⟩)] P _ 5 encX st (c0 :: cr) :=
   ⟨h.m.subl (by simp [mdL]), h.rs, h.q, fun b hb => ⟨(h.ap b hb).1, (h.ap b hb).2.1, fun p hp => (h.ap b hb).2.2 p (by simp [mdL] at hp ⊢; rcases hp with rfl | rfl <;> simp)⟩, h.ow, fun b hb => ⟨(h.os b hb).1, (h.os b hb).2.1, fun p hp => (h.os b hb).2.2 p (by simp [mdL] at hp ⊢; rcases hp with rfl | rfl <;> simp)⟩⟩
  exact Made_l6_spec hs (by simp at hl; omega) hK
theorem Made_spec {l : List Int} (hv : Vw 1 encI w ls l) (hK : ∀ w' c, Fr F0 w w' -> XQ (fun b => w.heap.size <= b /\ b < w'.heap.size) w' (madeF l) c -> K c.op c.n c.d c.nm c.a w') : z1f_sh ls K w := by
 have el := hv.len
 refine ⟨?_⟩
 unfold z1f_sd
 intro w1
 have m : Mem w w1 [(w.heap.size, _)] := Mem.nil.allocL (cs := encX ⟨ofL [], 0, 0, ofL [], ⟨none, 0, 0⟩⟩)
 clear_value w1
 intro w2
 have m : Mem w w2 (mdL w1.heap.size w.heap.size) := m.allocL (cs := opsB.flatMap encB)
 clear_value w2
 generalize w1.heap.size = ob at m
 generalize w.heap.size = tb at m
 refine ⟨⟨fun st i u => ∃ (i' : Nat) (P : Nat -> Prop) (cs : List XC), i = i' /\ i' <= (l.take 80).length /\ Sp w u (mdL ob tb) P (fun u => SQ P u cs (((l.take 80).take i').foldl madeStep [])) 5 encX st cs, fun _ i _ => (l.take 80).length - i.toNat,
  ⟨0, _, [], rfl, by omega, (Sp.start m).say (SQ.rests _ _) (fun _ hb => hb) fun _ => SQ.nil⟩, ?_⟩⟩
 rintro st i u ⟨i, P, cs, rfl, hi, h⟩
 have hq := h.q.1
 have hel := made_len ((l.take 80).take i) []
 simp only [List.length_take, List.length_nil] at hi hel
 have hend : ¬ (i < l.length /\ i < 80) -> z1f_k5 ⟨tb, 0, none⟩ st K u := fun hn => by
  refine Made_k5_spec h (by omega) fun w' c hf hX => hK w' c hf ?_
  have : (l.take 80).take i = l.take 80 := List.take_of_length_le (by simp; omega)
  rw [this] at hX
  exact hX
 unfold z1f_b0
 refine cnd_prop.2 ⟨fun h1 => cnd_prop.2 ⟨fun h2 => ?_, fun h2 => hend (by omega)⟩, fun h1 => hend (by omega)⟩
 refine ldI (hv.fr h.m.1) i rfl (by omega) (Mod_spec (by decide) (by decide) ?_)
 have hm := modP_in (l[i]'(by omega)) (m := 1000) (by decide)
 have hil : i < (l.take 80).length := by simp; omega
 have hstep := foldl_take madeStep [] (l.take 80) hil
 have hx : (l.take 80)[i] = l[i]'(by omega) := by simp
 rw [hx] at hstep
 generalize l[i]'(by omega) = xi at hm hstep
 have d0 : 0 <= Int.tdiv (modP xi 1000) 10 := Int.tdiv_nonneg hm.1 (by decide)
 have d1 : Int.tdiv (modP xi 1000) 10 < 100 := by
  obtain ⟨v, hv⟩ := Int.eq_ofNat_of_zero_le hm.1
  rw [hv] at hm ⊢
  have : Int.tdiv (v : Int) 10 = ((v / 10 : Nat) : Int) := rfl
  rw [this]
  omega
 have go : ∀ {es' : List Fm}, madeStep (((l.take 80).take i).foldl madeStep []) xi = es' -> ∀ u st' cs' P', Sp w u (mdL ob tb) P' (fun u => SQ P' u cs' es') 5 encX st' cs' -> _ := fun he u st' cs' P' hS => show ((ls = ls /\ (⟨tb, 0, none⟩ : Addr) = ⟨tb, 0, none⟩ /\ (⟨some ⟨ob, 0, none⟩, 6, 6⟩ : Sl) = ⟨some ⟨ob, 0, none⟩, 6, 6⟩ /\ True) /\ ∃ (i' : Nat) (P : Nat -> Prop) (cs : List XC), (i : Int) + 1 = i' /\ i' <= (l.take 80).length /\ Sp w u (mdL ob tb) P (fun u => SQ P u cs (((l.take 80).take i').foldl madeStep [])) 5 encX st' cs) /\ (l.take 80).length - ((i : Int) + 1).toNat < (l.take 80).length - (i : Int).toNat from
  ⟨⟨⟨rfl, rfl, rfl, trivial⟩, i + 1, P', cs', by omega, by omega, by rw [hstep, he]; exact hS⟩, by omega⟩
 have k1 := fun (hc : Int.tmod (modP xi 1000) 10 = 0 \/ Int.tmod (modP xi 1000) 10 = 1) => go (madeStep_num _ hc)
 have k3 := fun (hc : ¬ (Int.tmod (modP xi 1000) 10 = 0 \/ Int.tmod (modP xi 1000) 10 = 1)) h3 => go (madeStep_name _ hc h3)
 have k4 := fun (hc : ¬ (Int.tmod (modP xi 1000) 10 = 0 \/ Int.tmod (modP xi 1000) 10 = 1)) h3 => go (madeStep_op _ hc h3)
 refine ⟨by decide, inR64 (by omega) (by omega), by decide, cnd_beq.2 ⟨fun hc => cnd_beq.2 ⟨fun _ => Made_k1_spec h (by omega) ⟨d0, d1⟩ (by omega) (k1 (.inl hc)), fun hc' => absurd hc hc'⟩, fun hc0 => cnd_beq.2 ⟨fun hc => Made_k1_spec h (by omega) ⟨d0, d1⟩ (by omega) (k1 (.inr hc)), fun hc => Made_k2_spec (fun h3 => Made_k3_spec h (by omega) ⟨d0, d1⟩ (by omega) (k3 (by omega) h3)) fun h4 => Made_k4_spec h (by omega) ⟨d0, d1⟩ (by omega) (k4 (by omega) h4)⟩⟩⟩
end
end Go.Proofs.YtfkmpbpkahcogaaGreatDoor
namespace Go.Proofs.YtfkmpbpkahcogaaGreatDoor
open Go Pw Dp
structure Pn where
 lots : List (Int × Int)
 crit : List (Int × Int × Int × Int)
 reqs : List (Int × Int × Int)
 form : List Int
 ties : List Int
 combos : List (List Int)
 o0 : Int
 o1 : Int
 o2 : Int
 o3 : Int
 o4 : Int
 o5 : Int
 o6 : Int
 o7 : Int
 o8 : Int
 o9 : Int
def relsB : List B := [[60, 61], [62, 61]]
def lotQ (l : Int × Int) : Int × Int := (modP l.1 4, l.2)
def critQ (c : Int × Int × Int × Int) : Cr := ⟨namP c.1, modP c.2.1 3, c.2.2.1, c.2.2.2, Int.tmod c.2.2.2 2 != 0⟩
def reqQ (r : Int × Int × Int) : Rq := ⟨namP r.1, relsB.getD (modP r.2.1 2).toNat [], r.2.2⟩
def tdP (p : Pn) : Td := ⟨Lib.itoa p.o9, (p.lots.take 5).map lotQ, (p.crit.take 5).map critQ, (p.reqs.take 4).map reqQ, p.o0, p.o1, madeF p.form, (p.ties.take 4).map namP, p.o2, (p.combos.take 3).map (List.take 4), p.o3, p.o4, p.o5, p.o6, p.o7, p.o8⟩
def encT3 (x : Int × Int × Int) : List Value := [.int .i64 x.1, .int .i64 x.2.1, .int .i64 x.2.2]
@[simp] theorem encT3_length (x : Int × Int × Int) : (encT3 x).length = 3 := rfl
def encT4 (x : Int × Int × Int × Int) : List Value := [.int .i64 x.1, .int .i64 x.2.1, .int .i64 x.2.2.1, .int .i64 x.2.2.2]
@[simp] theorem encT4_length (x : Int × Int × Int × Int) : (encT4 x).length = 4 := rfl
structure PP (w : World) (x : T29) (p : Pn) : Prop where
 lots : Vw 2 encL w x.f0 p.lots
 crit : Vw 4 encT4 w x.f1 p.crit
 reqs : Vw 3 encT3 w x.f2 p.reqs
 form : Vw 1 encI w x.f3 p.form
 ties : Vw 1 encI w x.f4 p.ties
 combos : CP w x.f5 p.combos
 o0 : x.f6 = p.o0
 o1 : x.f7 = p.o1
 o2 : x.f8 = p.o2
 o3 : x.f9 = p.o3
 o4 : x.f10 = p.o4
 o5 : x.f11 = p.o5
 o6 : x.f12 = p.o6
 o7 : x.f13 = p.o7
 o8 : x.f14 = p.o8
 o9 : x.f15 = p.o9
theorem PP.fr {w w' : World} {x : T29} {p : Pn} (h : PP w x p) (hf : Fr F0 w w') : PP w' x p :=
 { h with lots := h.lots.fr hf, crit := h.crit.fr hf, reqs := h.reqs.fr hf, form := h.form.fr hf, ties := h.ties.fr hf, combos := h.combos.fr hf }
def tbx (p : Pn) (c : XC) (s1 s2 s3 s11 s13 : Sl) : T43 := ⟨ofL (Lib.itoa p.o9), s1, s2, s3, p.o0, p.o1, c.op, c.n, c.d, c.nm, c.a, s11, p.o2, s13, p.o3, p.o4, p.o5, p.o6, p.o7, p.o8⟩
section
variable {w0 w : World} {x : T29} {p : Pn} {c : XC} {s1 s2 s3 s11 s13 : Sl} {B : Nat -> Prop} {Q : World -> Prop} {b1 b2 b3 : Nat} {K : T43 -> World -> Prop}
def tnL (b1 b2 b3 : Nat) (y : T43) (x : T29) : List (Nat × List Value) := [(b3, y.cs), (b2, zT), (b1, x.cs)]
theorem encL_ok (a : Int × Int) : ∀ v ∈ encL a, okC v = true := by intro v hv; simp [encL] at hv; rcases hv with rfl | rfl <;> rfl
theorem encC_ok (a : Cr) : ∀ v ∈ encC a, okC v = true := by intro v hv; simp [encC] at hv; rcases hv with rfl | rfl | rfl | rfl | rfl <;> rfl
theorem encR_ok (a : Rq) : ∀ v ∈ encR a, okC v = true := by intro v hv; simp [encR] at hv; rcases hv with rfl | rfl | rfl <;> rfl
theorem take_succ_map {α β : Type} (f : α -> β) (l : List α) {i : Nat} (hi : i < l.length) : (l.take (i + 1)).map f = (l.take i).map f ++ [f l[i]] := by
 rw [List.take_add_one, List.getElem?_eq_getElem hi, Option.toList_some, List.map_append, List.map_cons, List.map_nil]
theorem Tender_l1 (hp : PP w0 x p) (h : Sp w0 w (tnL b1 b2 b3 (tbx p c s1 s2 s3 s11 s13) x) B Q 2 encL s1 [])
  (hK : ∀ u s, Sp w0 u (tnL b1 b2 b3 (tbx p c s s2 s3 s11 s13) x) B Q 2 encL s ((p.lots.take 5).map lotQ) -> z03_k2 ⟨b1, 0, none⟩ ⟨b2, 0, none⟩ ⟨b3, 0, none⟩ K u) : z03_l1 ⟨b1, 0, none⟩ ⟨b2, 0, none⟩ ⟨b3, 0, none⟩ 0 K w := by
 have el := hp.lots.len
 refine ⟨⟨fun i u => ∃ (i' : Nat) (s : Sl), i = i' /\ i' <= (p.lots.take 5).length /\ Sp w0 u (tnL b1 b2 b3 (tbx p c s s2 s3 s11 s13) x) B Q 2 encL s (((p.lots.take 5).take i').map lotQ), fun i _ => (p.lots.take 5).length - i.toNat, ⟨0, s1, rfl, by omega, h⟩, ?_⟩⟩
 rintro i u ⟨i, s, rfl, hi, h⟩
 simp only [List.length_take] at hi
 have hend : ¬ (i < p.lots.length /\ i < 5) -> z03_k2 ⟨b1, 0, none⟩ ⟨b2, 0, none⟩ ⟨b3, 0, none⟩ K u := fun hn => hK u s (by
  have : (p.lots.take 5).take i = p.lots.take 5 := List.take_of_length_le (by simp; omega)
  rw [this] at h
  exact h)
 unfold z03_b1
 refine ⟨x.f0, h.ld (i := 0) 2 rfl rfl, cnd_prop.2 ⟨fun h1 => cnd_prop.2 ⟨fun h2 => ?_, fun h2 => hend (by omega)⟩, fun h1 => hend (by omega)⟩⟩
 intro w34
 have h : Sp w0 w34 (tnL b1 b2 b3 (tbx p c s s2 s3 s11 s13) x) B Q 2 encL s (((p.lots.take 5).take i).map lotQ) := h.drew
 clear_value w34
 have hil : i < p.lots.length := by omega
 have hit : i < (p.lots.take 5).length := by simp; omega
 have hS : Rs w34 (tnL b1 b2 b3 (tbx p c s s2 s3 s11 s13) x) /\ Vw 2 encL w34 x.f0 p.lots := ⟨h.sub 0 rfl, hp.lots.fr h.m.1⟩
 refine ⟨fun u => Rs u (tnL b1 b2 b3 (tbx p c s s2 s3 s11 s13) x) /\ Vw 2 encL u x.f0 p.lots, hS, s, fun u hu => by rw [add_mk]; exact hu.1.ld (i := 1) 0 rfl rfl, x.f0, fun u hu => hu.1.ld (i := 0) 2 rfl rfl, ?_⟩
 refine Vw.goS encL_length (by decide) hS (fun u hu => hu.2) i rfl hil fun a hc => ⟨⟨by decide, by decide⟩, _, hc 0 _ rfl, x.f0, fun u hu => hu.1.ld (i := 0) 2 rfl rfl, ?_⟩
 refine Vw.goS encL_length (by decide) hS (fun u hu => hu.2) i rfl hil fun a hc => ⟨⟨by decide, by decide⟩, _, hc 1 _ rfl, ?_⟩
 refine Mod_spec (by decide) (by decide) ⟨hS, ?_⟩
 intro w45
 have h' := h.fr (Fr.alloc (o := Obj.cells (encL (lotQ p.lots[i])).toArray 66))
 refine ⟨⟨h'.sub 0 rfl, hp.lots.fr h'.m.1⟩, h.push (a := lotQ p.lots[i]) rfl rfl encL_ok rfl (by simp; omega) (by simp; omega) fun s46 w47 h => ⟨⟨h.sub 0 rfl, hp.lots.fr h.m.1⟩, ?_⟩⟩
 rw [add_mk]
 refine ⟨h.wr 0 rfl rfl, ?_⟩
 refine ⟨inR64 (by omega) (by omega), ⟨⟨rfl, rfl, rfl, trivial⟩, i + 1, s46, by omega, by omega, ?_⟩, by dsimp only; omega⟩
 have := h.set (i := 1) (v := .slice s46.p s46.l s46.c) 0 rfl
 rw [take_succ_map _ _ hit, List.getElem_take]
 exact this
theorem Tender_l3 (hp : PP w0 x p) (h : Sp w0 w (tnL b1 b2 b3 (tbx p c s1 s2 s3 s11 s13) x) B Q 5 encC s2 [])
  (hK : ∀ u s, Sp w0 u (tnL b1 b2 b3 (tbx p c s1 s s3 s11 s13) x) B Q 5 encC s ((p.crit.take 5).map critQ) -> z03_k4 ⟨b1, 0, none⟩ ⟨b2, 0, none⟩ ⟨b3, 0, none⟩ K u) : z03_l3 ⟨b1, 0, none⟩ ⟨b2, 0, none⟩ ⟨b3, 0, none⟩ 0 K w := by
 have el := hp.crit.len
 refine ⟨⟨fun i u => ∃ (i' : Nat) (s : Sl), i = i' /\ i' <= (p.crit.take 5).length /\ Sp w0 u (tnL b1 b2 b3 (tbx p c s1 s s3 s11 s13) x) B Q 5 encC s (((p.crit.take 5).take i').map critQ), fun i _ => (p.crit.take 5).length - i.toNat, ⟨0, s2, rfl, by omega, h⟩, ?_⟩⟩
 rintro i u ⟨i, s, rfl, hi, h⟩
 simp only [List.length_take] at hi
 have hend : ¬ (i < p.crit.length /\ i < 5) -> z03_k4 ⟨b1, 0, none⟩ ⟨b2, 0, none⟩ ⟨b3, 0, none⟩ K u := fun hn => hK u s (by
  have : (p.crit.take 5).take i = p.crit.take 5 := List.take_of_length_le (by simp; omega)
  rw [this] at h
  exact h)
 unfold z03_b3
 have x1 : ∀ {v : World}, Sp w0 v (tnL b1 b2 b3 (tbx p c s1 s s3 s11 s13) x) B Q 5 encC s (((p.crit.take 5).take i).map critQ) -> v.cell? ((⟨b1, 0, none⟩ : Addr).add 1) = some (Value.slice x.f1.p x.f1.l x.f1.c) := fun h => by rw [add_mk]; exact h.ld (i := 1) 2 rfl rfl
 refine ⟨x.f1, x1 h, cnd_prop.2 ⟨fun h1 => cnd_prop.2 ⟨fun h2 => ?_, fun h2 => hend (by omega)⟩, fun h1 => hend (by omega)⟩⟩
 have hil : i < p.crit.length := by omega
 have hit : i < (p.crit.take 5).length := by simp; omega
 refine ⟨x.f1, x1 h, Vw.go encT4_length (by decide) (hp.crit.fr h.m.1) i rfl hil fun a hc => ⟨_, hc 0 _ rfl, _, hc 1 _ rfl, _, hc 2 _ rfl, _, hc 3 _ rfl, ?_⟩⟩
 generalize ecr : p.crit[i] = cr
 intro w56
 have h : Sp w0 w56 ((u.heap.size, _) :: tnL b1 b2 b3 (tbx p c s1 s s3 s11 s13) x) B Q 5 encC s _ := h.allocL (vs := [.int .i64 0, .int .i64 0, .int .i64 0, .int .i64 0])
 clear_value w56
 refine stN_sp h 0 rfl (vs := encT4 cr) rfl fun w57 h => ?_
 intro w58
 have h : Sp w0 w58 ((u.heap.size, encT4 cr) :: tnL b1 b2 b3 (tbx p c s1 s s3 s11 s13) x) B Q 5 encC s _ := h.drew
 clear_value w58
 refine ⟨fun v => Rs v ((u.heap.size, encT4 cr) :: tnL b1 b2 b3 (tbx p c s1 s s3 s11 s13) x), h.sub 0 rfl, s, fun v hv => by rw [add_mk]; exact hv.ld (i := 2) 1 rfl rfl, ?_⟩
 refine ⟨⟨by decide, by decide⟩, _, fun v hv => by rw [add_mk]; exact hv.ld (i := 0) 0 rfl rfl, ⟨by decide, by decide⟩, _, fun v hv => by rw [add_mk]; exact hv.ld (i := 1) 0 rfl rfl, ⟨by decide, by decide⟩, _, fun v hv => by rw [add_mk]; exact hv.ld (i := 2) 0 rfl rfl, ⟨by decide, by decide⟩, _, fun v hv => by rw [add_mk]; exact hv.ld (i := 3) 0 rfl rfl, ⟨by decide, by decide⟩, _, fun v hv => by rw [add_mk]; exact hv.ld (i := 3) 0 rfl rfl, by decide, ?_⟩
 refine Name_spec fun w66 hf => ?_
 have h := h.fr hf
 refine ⟨h.sub 0 rfl, Mod_spec (by decide) (by decide) ⟨h.sub 0 rfl, ?_⟩⟩
 intro w70
 have h' := h.fr (Fr.alloc (o := Obj.cells (encC (critQ cr)).toArray 64))
 refine ⟨h'.sub 0 rfl, h.push (a := critQ cr) rfl rfl encC_ok rfl (by simp; omega) (by simp; omega) fun s46 w47 h => ⟨h.sub 0 rfl, ?_⟩⟩
 rw [add_mk]
 refine ⟨h.wr 1 rfl rfl, ?_⟩
 refine ⟨inR64 (by omega) (by omega), ⟨⟨rfl, rfl, rfl, trivial⟩, i + 1, s46, by omega, by omega, ?_⟩, by dsimp only; omega⟩
 have := (h.set (i := 2) (v := .slice s46.p s46.l s46.c) 1 rfl).dr 1 rfl
 rw [take_succ_map _ _ hit, List.getElem_take, ecr]
 exact this
theorem Tender_l7 (hp : PP w0 x p) (h : Sp w0 w (tnL b1 b2 b3 (tbx p c s1 s2 s3 s11 s13) x) B Q 1 encB s11 [])
  (hK : ∀ u s, Sp w0 u (tnL b1 b2 b3 (tbx p c s1 s2 s3 s s13) x) B Q 1 encB s ((p.ties.take 4).map namP) -> z03_k8 ⟨b1, 0, none⟩ ⟨b2, 0, none⟩ ⟨b3, 0, none⟩ K u) : z03_l7 ⟨b1, 0, none⟩ ⟨b2, 0, none⟩ ⟨b3, 0, none⟩ 0 K w := by
 have el := hp.ties.len
 refine ⟨⟨fun i u => ∃ (i' : Nat) (s : Sl), i = i' /\ i' <= (p.ties.take 4).length /\ Sp w0 u (tnL b1 b2 b3 (tbx p c s1 s2 s3 s s13) x) B Q 1 encB s (((p.ties.take 4).take i').map namP), fun i _ => (p.ties.take 4).length - i.toNat, ⟨0, s11, rfl, by omega, h⟩, ?_⟩⟩
 rintro i u ⟨i, s, rfl, hi, h⟩
 simp only [List.length_take] at hi
 have hend : ¬ (i < p.ties.length /\ i < 4) -> z03_k8 ⟨b1, 0, none⟩ ⟨b2, 0, none⟩ ⟨b3, 0, none⟩ K u := fun hn => hK u s (by
  have : (p.ties.take 4).take i = p.ties.take 4 := List.take_of_length_le (by simp; omega)
  rw [this] at h
  exact h)
 unfold z03_b7
 refine ⟨x.f4, by rw [add_mk]; exact h.ld (i := 4) 2 rfl rfl, cnd_prop.2 ⟨fun h1 => cnd_prop.2 ⟨fun h2 => ?_, fun h2 => hend (by omega)⟩, fun h1 => hend (by omega)⟩⟩
 intro w34
 have h : Sp w0 w34 (tnL b1 b2 b3 (tbx p c s1 s2 s3 s s13) x) B Q 1 encB s (((p.ties.take 4).take i).map namP) := h.drew
 clear_value w34
 have hil : i < p.ties.length := by omega
 have hit : i < (p.ties.take 4).length := by simp; omega
 have hS : Rs w34 (tnL b1 b2 b3 (tbx p c s1 s2 s3 s s13) x) /\ Vw 1 encI w34 x.f4 p.ties := ⟨h.sub 0 rfl, hp.ties.fr h.m.1⟩
 refine ⟨fun u => Rs u (tnL b1 b2 b3 (tbx p c s1 s2 s3 s s13) x) /\ Vw 1 encI u x.f4 p.ties, hS, s, fun u hu => by rw [add_mk]; exact hu.1.ld (i := 11) 0 rfl rfl, x.f4, fun u hu => by rw [add_mk]; exact hu.1.ld (i := 4) 2 rfl rfl, ?_⟩
 refine Vw.goS encI_length (by decide) hS (fun u hu => hu.2) i rfl hil fun a hc => ⟨_, hc 0 _ rfl, ?_⟩
 refine Name_spec fun w66 hf => ?_
 have h := h.fr hf
 refine ⟨⟨h.sub 0 rfl, hp.ties.fr h.m.1⟩, ?_⟩
 intro w70
 have h' := h.fr (Fr.alloc (o := Obj.cells (encB (namP p.ties[i])).toArray 9))
 refine ⟨⟨h'.sub 0 rfl, hp.ties.fr h'.m.1⟩, h.push (a := namP p.ties[i]) rfl rfl encB_ok rfl (by simp; omega) (by simp; omega) fun s46 w47 h => ⟨⟨h.sub 0 rfl, hp.ties.fr h.m.1⟩, ?_⟩⟩
 rw [add_mk]
 refine ⟨h.wr 0 rfl rfl, ?_⟩
 refine ⟨inR64 (by omega) (by omega), ⟨⟨rfl, rfl, rfl, trivial⟩, i + 1, s46, by omega, by omega, ?_⟩, by dsimp only; omega⟩
 have := h.set (i := 11) (v := .slice s46.p s46.l s46.c) 0 rfl
 rw [take_succ_map _ _ hit, List.getElem_take]
 exact this
theorem Tender_l5_fin {rb cb i : Nat} {s : Sl} {cr : Int × Int × Int} {K : World -> Prop} {hi : i < (p.reqs.take 4).length} {hcr : (p.reqs.take 4)[i] = cr}
  (h : Sp w0 w ((rb, relsB.flatMap encB) :: (cb, encT3 cr) :: tnL b1 b2 b3 (tbx p c s1 s2 s s11 s13) x) B Q 3 encR s (((p.reqs.take 4).take i).map reqQ))
  (hK : ∀ s46 w47, Sp w0 w47 (tnL b1 b2 b3 (tbx p c s1 s2 s46 s11 s13) x) B Q 3 encR s46 (((p.reqs.take 4).take (i + 1)).map reqQ) -> K w47) :
  ∃ S : World -> Prop, S w /\ (∀ u : World, S u -> Rs u ((cb, encT3 cr) :: tnL b1 b2 b3 (tbx p c s1 s2 s s11 s13) x)) /\ (0 <= modP cr.2.1 2 /\ modP cr.2.1 2 < (2 : Nat)) /\ ∃ x1 : ByteArray, (∀ w' : World, S w' -> w'.cell? ((Addr.mk rb 0 none).add ((modP cr.2.1 2).toNat * 1)) = some (Value.string x1)) /\
   let w' : World := w.alloc (Obj.cells #[(Value.string (ofL (namP cr.1))), (Value.string x1), (Value.int .i64 cr.2.2)] 73)
   S w' /\ apS 3 40 [(Value.string (str [])), (Value.string (str [])), (Value.int .i64 (0 : Int))] 73 s (Sl.mk (some (Addr.mk w.heap.size 0 none)) 1 1) w' fun (s97 : Sl) (w98 : World) => S w98 /\ wrOk w98 ((Addr.mk b3 0 none).add 3) /\ let w99 : World := w98.setCell ((Addr.mk b3 0 none).add 3) (Value.slice s97.p s97.l s97.c)
    K w99 := by
 simp only [List.length_take] at hi
 have hm := modP_in cr.2.1 (m := 2) (by decide)
 refine ⟨fun u => Rs u ((rb, relsB.flatMap encB) :: (cb, encT3 cr) :: tnL b1 b2 b3 (tbx p c s1 s2 s s11 s13) x), h.sub 0 rfl, fun u hu p hp => hu p (List.mem_cons_of_mem _ hp), hm, _, fun v hv => str_at (l := relsB) (hv (rb, relsB.flatMap encB) (List.mem_cons_self ..)) hm.1 rfl hm.2, ?_⟩
 intro w96
 have h' := h.fr (Fr.alloc (o := Obj.cells (encR (reqQ cr)).toArray 73))
 refine ⟨h'.sub 0 rfl, h.push (a := reqQ cr) rfl rfl encR_ok rfl (by simp; omega) (by simp; omega) fun s46 w47 h => ⟨h.sub 0 rfl, ?_⟩⟩
 rw [add_mk]
 refine ⟨h.wr 2 rfl rfl, hK s46 _ ?_⟩
 have := (h.set (i := 3) (v := .slice s46.p s46.l s46.c) 2 rfl).dr 2 rfl
 rw [take_succ_map _ _ (by simp; omega), hcr]
 exact this
theorem Tender_b5 {i : Nat} {s : Sl} {N : Addr -> Addr -> Addr -> Int -> World -> Prop} {u : World} (hp : PP w0 x p) (h : Sp w0 u (tnL b1 b2 b3 (tbx p c s1 s2 s s11 s13) x) B Q 3 encR s (((p.reqs.take 4).take i).map reqQ))
  (hN : i < (p.reqs.take 4).length -> ∀ s v, Sp w0 v (tnL b1 b2 b3 (tbx p c s1 s2 s s11 s13) x) B Q 3 encR s (((p.reqs.take 4).take (i + 1)).map reqQ) -> N ⟨b1, 0, none⟩ ⟨b2, 0, none⟩ ⟨b3, 0, none⟩ ((i : Int) + 1) v)
  (hend : ¬ (i < p.reqs.length /\ i < 4) -> z03_k6 ⟨b1, 0, none⟩ ⟨b2, 0, none⟩ ⟨b3, 0, none⟩ K u) : z03_b5 ⟨b1, 0, none⟩ ⟨b2, 0, none⟩ ⟨b3, 0, none⟩ i N K u := by
 have el := hp.reqs.len
 unfold z03_b5
 have x1 : ∀ {v : World}, Sp w0 v (tnL b1 b2 b3 (tbx p c s1 s2 s s11 s13) x) B Q 3 encR s (((p.reqs.take 4).take i).map reqQ) -> v.cell? ((⟨b1, 0, none⟩ : Addr).add 2) = some (Value.slice x.f2.p x.f2.l x.f2.c) := fun h => by rw [add_mk]; exact h.ld (i := 2) 2 rfl rfl
 refine ⟨x.f2, x1 h, cnd_prop.2 ⟨fun h1 => cnd_prop.2 ⟨fun h2 => ?_, fun h2 => hend (by omega)⟩, fun h1 => hend (by omega)⟩⟩
 have hil : i < p.reqs.length := by omega
 have hit : i < (p.reqs.take 4).length := by simp; omega
 refine ⟨x.f2, x1 h, Vw.go encT3_length (by decide) (hp.reqs.fr h.m.1) i rfl hil fun a hc => ⟨_, hc 0 _ rfl, _, hc 1 _ rfl, _, hc 2 _ rfl, ?_⟩⟩
 generalize ecr : p.reqs[i] = cr
 intro w80
 have h : Sp w0 w80 ((u.heap.size, _) :: tnL b1 b2 b3 (tbx p c s1 s2 s s11 s13) x) B Q 3 encR s _ := h.allocL (vs := [.int .i64 0, .int .i64 0, .int .i64 0])
 clear_value w80
 refine stN_sp h 0 rfl (vs := encT3 cr) rfl fun w57 h => ?_
 intro w82
 have h : Sp w0 w82 ((u.heap.size, encT3 cr) :: tnL b1 b2 b3 (tbx p c s1 s2 s s11 s13) x) B Q 3 encR s _ := h.drew
 clear_value w82
 refine ⟨fun v => Rs v ((u.heap.size, encT3 cr) :: tnL b1 b2 b3 (tbx p c s1 s2 s s11 s13) x), h.sub 0 rfl, s, fun v hv => by rw [add_mk]; exact hv.ld (i := 3) 1 rfl rfl, ?_⟩
 refine ⟨⟨by decide, by decide⟩, _, fun v hv => by rw [add_mk]; exact hv.ld (i := 0) 0 rfl rfl, ⟨by decide, by decide⟩, _, fun v hv => by rw [add_mk]; exact hv.ld (i := 1) 0 rfl rfl, ⟨by decide, by decide⟩, _, fun v hv => by rw [add_mk]; exact hv.ld (i := 2) 0 rfl rfl, ?_⟩
 refine ⟨Name_spec fun w88 hf => ⟨(h.fr hf).sub 0 rfl, ?_, Mod_spec (by decide) (by decide) ⟨(h.fr hf).sub 0 rfl, ?_⟩⟩, ?_⟩
 ·intro w90
  have h1 : Sp w0 w90 ((w88.heap.size, _) :: (u.heap.size, encT3 cr) :: tnL b1 b2 b3 (tbx p c s1 s2 s s11 s13) x) B Q 3 encR s _ := (h.fr hf).allocL (vs := relsB.flatMap encB)
  clear_value w90
  refine ⟨h1.sub 1 rfl, Mod_spec (by decide) (by decide) ?_⟩
  generalize w88.heap.size = rb at h1 ⊢
  refine Tender_l5_fin (K := fun v => inR .i64 ((i : Int) + 1) /\ N ⟨b1, 0, none⟩ ⟨b2, 0, none⟩ ⟨b3, 0, none⟩ ((i : Int) + 1) v) (hi := hit) (hcr := by rw [List.getElem_take]; exact ecr) h1 ?_
  exact fun s46 w47 h => ⟨inR64 (by omega) (by omega), hN hit s46 w47 h⟩
 ·intro w103
  have h1 : Sp w0 w103 ((w88.heap.size, _) :: (u.heap.size, encT3 cr) :: tnL b1 b2 b3 (tbx p c s1 s2 s s11 s13) x) B Q 3 encR s _ := (h.fr hf).allocL (vs := relsB.flatMap encB)
  clear_value w103
  generalize w88.heap.size = rb at h1 ⊢
  refine Tender_l5_fin (K := fun v => inR .i64 ((i : Int) + 1) /\ N ⟨b1, 0, none⟩ ⟨b2, 0, none⟩ ⟨b3, 0, none⟩ ((i : Int) + 1) v) (hi := hit) (hcr := by rw [List.getElem_take]; exact ecr) h1 ?_
  exact fun s46 w47 h => ⟨inR64 (by omega) (by omega), hN hit s46 w47 h⟩
 ·intro w110
  have h1 : Sp w0 w110 ((w82.heap.size, _) :: (u.heap.size, encT3 cr) :: tnL b1 b2 b3 (tbx p c s1 s2 s s11 s13) x) B Q 3 encR s _ := h.allocL (vs := relsB.flatMap encB)
  clear_value w110
  refine ⟨h1.sub 1 rfl, Name_spec fun w111 hf => ?_⟩
  have h1 := h1.fr hf
  refine ⟨h1.sub 1 rfl, Mod_spec (by decide) (by decide) ?_⟩
  generalize w82.heap.size = rb at h1 ⊢
  refine Tender_l5_fin (K := fun v => inR .i64 ((i : Int) + 1) /\ N ⟨b1, 0, none⟩ ⟨b2, 0, none⟩ ⟨b3, 0, none⟩ ((i : Int) + 1) v) (hi := hit) (hcr := by rw [List.getElem_take]; exact ecr) h1 ?_
  exact fun s46 w47 h => ⟨inR64 (by omega) (by omega), hN hit s46 w47 h⟩
theorem Tender_l5 (hp : PP w0 x p) (h : Sp w0 w (tnL b1 b2 b3 (tbx p c s1 s2 s3 s11 s13) x) B Q 3 encR s3 [])
  (hK : ∀ u s, Sp w0 u (tnL b1 b2 b3 (tbx p c s1 s2 s s11 s13) x) B Q 3 encR s ((p.reqs.take 4).map reqQ) -> z03_k6 ⟨b1, 0, none⟩ ⟨b2, 0, none⟩ ⟨b3, 0, none⟩ K u) : z03_l5 ⟨b1, 0, none⟩ ⟨b2, 0, none⟩ ⟨b3, 0, none⟩ 0 K w := by
 have el := hp.reqs.len
 refine ⟨⟨fun i u => ∃ (i' : Nat) (s : Sl), i = i' /\ i' <= (p.reqs.take 4).length /\ Sp w0 u (tnL b1 b2 b3 (tbx p c s1 s2 s s11 s13) x) B Q 3 encR s (((p.reqs.take 4).take i').map reqQ), fun i _ => (p.reqs.take 4).length - i.toNat, ⟨0, s3, rfl, by omega, h⟩, ?_⟩⟩
 rintro i u ⟨i, s, rfl, hi, h⟩
 simp only [List.length_take] at hi
 have hend : ¬ (i < p.reqs.length /\ i < 4) -> z03_k6 ⟨b1, 0, none⟩ ⟨b2, 0, none⟩ ⟨b3, 0, none⟩ K u := fun hn => hK u s (by
  have : (p.reqs.take 4).take i = p.reqs.take 4 := List.take_of_length_le (by simp; omega)
  rw [this] at h
  exact h)
 refine Tender_b5 hp h (fun hit s46 w47 h => ⟨⟨⟨rfl, rfl, rfl, trivial⟩, i + 1, s46, by omega, by omega, h⟩, by dsimp only; omega⟩) hend
end
end Go.Proofs.YtfkmpbpkahcogaaGreatDoor
namespace Pw
open Go
theorem Sp.nextRow {α β : Type} {n n' : Nat} {enc : α -> List Value} {enc' : β -> List Value} {w0 w : World} {s : Sl} {l : List α} {L : List (Nat × List Value)} {B : Nat -> Prop} {Q : World -> Prop} {b : Nat} {l' : List β} (hn : ∀ a, (enc' a).length = n') (h : Sp w0 w ((b, l'.flatMap enc') :: L) B Q n enc s l) :
  Sp w0 w L (fun b => B b \/ inB s b) (fun w => Q w /\ Ow n enc w s l) n' enc' ⟨some ⟨b, 0, none⟩, l'.length, l'.length⟩ l' := by
 have h2 := (h.next (β := β) (n' := n') (enc' := enc'))
 have hp := h.m.2.2.1
 simp only [List.map_cons, List.pairwise_cons, List.mem_map] at hp
 refine ⟨h.m.dr 1 rfl, h2.rs, h2.q, fun c hc => ⟨(h2.ap c hc).1, (h2.ap c hc).2.1, fun p hp => (h2.ap c hc).2.2 p (List.mem_cons_of_mem _ hp)⟩, ?_, fun c ⟨a, ha, hb⟩ => ?_⟩
 ·refine ⟨rfl, by simp [fm_length hn], .inr ⟨b, _, rfl, h.row 0 rfl, by simp [fm_length hn], Nat.le_refl _, List.take_of_length_le (Nat.le_refl _)⟩⟩
 ·cases ha
  subst hb
  exact ⟨h.m.2.2.2 _ (List.mem_cons_self ..), fun hB => (h2.ap _ hB).2.2 _ (List.mem_cons_self ..) rfl, fun p hp' e => by have := hp.1 p.1 ⟨p, hp', rfl⟩; simp only at e; omega⟩
theorem stN5 {α : Type} {n : Nat} {enc : α -> List Value} {w0 w : World} {s : Sl} {l : List α} {L : List (Nat × List Value)} {B : Nat -> Prop} {Q : World -> Prop} {b o j : Nat} {cs : List Value} {v0 v1 v2 v3 v4 : Value} {K : World -> Prop} (h : Sp w0 w L B Q n enc s l) (hj : L[j]? = some (b, cs)) (ho : o + 5 <= cs.length)
  (hK : ∀ w', Sp w0 w' (L.set j (b, (((((cs.set o v0).set (o + 1) v1).set (o + 2) v2).set (o + 3) v3).set (o + 4) v4))) B Q n enc s l -> K w') : stN w ⟨b, o, none⟩ [v0, v1, v2, v3, v4] K := by
 have hl : j < L.length := (List.getElem?_eq_some_iff.1 hj).1
 have sj : ∀ (M : List (Nat × List Value)) (p : Nat × List Value), M.length = L.length -> (M.set j p)[j]? = some p := fun M p h => List.getElem?_set_self (by omega)
 have e : ∀ k : Nat, (⟨b, o, none⟩ : Addr).add k = ⟨b, o + k, none⟩ := fun k => add_mk b o k
 have h1 := h.set (i := o) (v := v0) j hj
 have h2 := h1.set (i := o + 1) (v := v1) j (sj _ _ rfl)
 have h3 := h2.set (i := o + 2) (v := v2) j (sj _ _ (by simp))
 have h4 := h3.set (i := o + 3) (v := v3) j (sj _ _ (by simp))
 have h5 := h4.set (i := o + 4) (v := v4) j (sj _ _ (by simp))
 have w0' := h.wr j hj (i := o) (by simp [Nat.blt_eq]; omega)
 have w1' := h1.wr j (sj _ _ rfl) (i := o + 1) (by simp [Nat.blt_eq]; omega)
 have w2' := h2.wr j (sj _ _ (by simp)) (i := o + 2) (by simp [Nat.blt_eq]; omega)
 have w3' := h3.wr j (sj _ _ (by simp)) (i := o + 3) (by simp [Nat.blt_eq]; omega)
 have w4' := h4.wr j (sj _ _ (by simp)) (i := o + 4) (by simp [Nat.blt_eq]; omega)
 rw [List.set_set, List.set_set, List.set_set, List.set_set] at h5
 have hk := hK _ h5
 unfold stN stN.go stN.go stN.go stN.go stN.go stN.go
 rw [e, e, e, e, e]
 exact ⟨w0', w1', w2', w3', w4', hk⟩
end Pw
namespace Go.Proofs.YtfkmpbpkahcogaaGreatDoor
open Go Pw Dp
def InZ (w : World) (Z : List Sl) (L : List (List Int)) : Prop := Z.length = L.length /\ ∀ i (h : i < Z.length) (h' : i < L.length), Vw 1 encI w Z[i] L[i]
def IoZ (w : World) (Z : List Sl) (L : List (List Int)) : Prop := Z.length = L.length /\ ∀ i (h : i < Z.length) (h' : i < L.length), Ow 1 encI w Z[i] L[i]
theorem IoZ.inz {w : World} {Z : List Sl} {L : List (List Int)} (h : IoZ w Z L) : InZ w Z L := ⟨h.1, fun i a b => (h.2 i a b).vw⟩
theorem IoZ.push {w : World} {Z : List Sl} {L : List (List Int)} {s : Sl} {l : List Int} (h : IoZ w Z L) (hv : Ow 1 encI w s l) : IoZ w (Z ++ [s]) (L ++ [l]) := by
 refine ⟨by simp [h.1], fun i a b => ?_⟩
 rcases Nat.lt_or_ge i Z.length with hi | hi
 ·rw [List.getElem_append_left hi, List.getElem_append_left (by rw [← h.1]; exact hi)]
  exact h.2 i _ _
 ·have hj : i = Z.length := by simp at a; omega
  subst hj
  have h1 := h.1
  rw [List.getElem_append_right (Nat.le_refl _), List.getElem_append_right (by omega)]
  simpa [h.1] using hv
theorem IoZ.pop {w : World} {Z : List Sl} {L : List (List Int)} {s : Sl} {l : List Int} (h : IoZ w (Z ++ [s]) (L ++ [l])) : IoZ w Z L /\ Ow 1 encI w s l := by
 obtain ⟨h1, h2⟩ := h
 simp only [List.length_append, List.length_cons, List.length_nil] at h1
 refine ⟨⟨by omega, fun i a b => ?_⟩, ?_⟩
 ·have := h2 i (by simp; omega) (by simp; omega)
  rw [List.getElem_append_left a, List.getElem_append_left b] at this
  exact this
 ·have := h2 Z.length (by simp) (by simp; omega)
  rw [List.getElem_append_right (Nat.le_refl _), List.getElem_append_right (by omega)] at this
  have e : Z.length = L.length := by omega
  simpa [e] using this
theorem encZ_ok (a : Sl) : ∀ v ∈ encZ a, okC v = true := by intro v hv; simp [encZ] at hv; subst hv; rfl
theorem encI_ok (a : Int) : ∀ v ∈ encI a, okC v = true := by intro v hv; simp [encI] at hv; subst hv; rfl
section
variable {w0 w : World} {x : T29} {p : Pn} {c : XC} {s1 s2 s3 s11 s13 : Sl} {B : Nat -> Prop} {Q : World -> Prop} {b1 b2 b3 : Nat} {K : T43 -> World -> Prop}
theorem Tender_l9 (hp : PP w0 x p) (h : Sp w0 w (tnL b1 b2 b3 (tbx p c s1 s2 s3 s11 s13) x) B Q 1 encZ s13 [])
  (hK : ∀ u s B' Z, (∀ b, B b -> B' b) -> Sp w0 u (tnL b1 b2 b3 (tbx p c s1 s2 s3 s11 s) x) B' (fun u => Q u /\ IoZ u Z ((p.combos.take 3).map (List.take 4))) 1 encZ s Z -> z03_k10 ⟨b2, 0, none⟩ ⟨b3, 0, none⟩ K u) : z03_l9 ⟨b1, 0, none⟩ ⟨b2, 0, none⟩ ⟨b3, 0, none⟩ 0 K w := by
 obtain ⟨Z0, hZ, hZl, hZi⟩ := hp.combos
 have el := hZ.len
 refine ⟨⟨fun i u => ∃ (i' : Nat) (s : Sl) (B' : Nat -> Prop) (Z : List Sl), i = i' /\ i' <= (p.combos.take 3).length /\ (∀ b, B b -> B' b) /\ Sp w0 u (tnL b1 b2 b3 (tbx p c s1 s2 s3 s11 s) x) B' (fun u => Q u /\ IoZ u Z (((p.combos.take 3).take i').map (List.take 4))) 1 encZ s Z, fun i _ => (p.combos.take 3).length - i.toNat,
  ⟨0, s13, B, [], rfl, by omega, fun _ h => h, h.say (fun u u' he hq => ⟨h.rs u u' he hq.1, hq.2.1, fun i h => absurd h (by simp)⟩) (fun _ h => h) fun hq => ⟨hq, rfl, fun i h => absurd h (by simp)⟩⟩, ?_⟩⟩
 rintro i u ⟨i, s, B', Z, rfl, hi, hB, h⟩
 simp only [List.length_take] at hi
 have hend : ¬ (i < p.combos.length /\ i < 3) -> z03_k10 ⟨b2, 0, none⟩ ⟨b3, 0, none⟩ K u := fun hn => hK u s B' Z hB (by
  have : (p.combos.take 3).take i = p.combos.take 3 := List.take_of_length_le (by simp; omega)
  rw [this] at h
  exact h)
 have hzl := h.q.2.1
 simp only [List.length_map, List.length_take] at hzl
 unfold z03_b9
 refine ⟨x.f5, by rw [add_mk]; exact h.ld (i := 5) 2 rfl rfl, cnd_prop.2 ⟨fun h1 => cnd_prop.2 ⟨fun h2 => ?_, fun h2 => hend (by omega)⟩, fun h1 => hend (by omega)⟩⟩
 intro w136
 have h : Sp w0 w136 (tnL b1 b2 b3 (tbx p c s1 s2 s3 s11 s) x) B' (fun u => Q u /\ IoZ u Z (((p.combos.take 3).take i).map (List.take 4))) 1 encZ s Z := h.drew
 clear_value w136
 have hil : i < p.combos.length := by omega
 have hiz : i < Z0.length := by omega
 have hit : i < (p.combos.take 3).length := by simp; omega
 have hS : Rs w136 (tnL b1 b2 b3 (tbx p c s1 s2 s3 s11 s) x) /\ Vw 1 encZ w136 x.f5 Z0 := ⟨h.sub 0 rfl, hZ.fr h.m.1⟩
 refine ⟨fun u => Rs u (tnL b1 b2 b3 (tbx p c s1 s2 s3 s11 s) x) /\ Vw 1 encZ u x.f5 Z0, hS, s, fun u hu => by rw [add_mk]; exact hu.1.ld (i := 13) 0 rfl rfl, x.f5, fun u hu => by rw [add_mk]; exact hu.1.ld (i := 5) 2 rfl rfl, ?_⟩
 refine Vw.goS encZ_length (by decide) hS (fun u hu => hu.2) i rfl hiz fun a hc => ⟨Z0[i], hc 0 _ rfl, x.f5, fun u hu => by rw [add_mk]; exact hu.1.ld (i := 5) 2 rfl rfl, ?_⟩
 refine Vw.goS encZ_length (by decide) hS (fun u hu => hu.2) i rfl hiz fun a hc => ⟨Z0[i], hc 0 _ rfl, ?_⟩
 have hv := (hZi i hiz hil).fr h.m.1
 have hvl := hv.len
 have hvc := hv.cap
 refine ⟨⟨by decide, by omega, by omega⟩, ?_⟩
 intro w145
 have h1 : Sp w0 w145 ((w136.heap.size, ([] : List Int).flatMap encI) :: tnL b1 b2 b3 (tbx p c s1 s2 s3 s11 s) x) B' _ 1 encZ s Z := h.allocL (vs := [])
 have f1 : Fr F0 w136 w145 := Fr.alloc
 clear_value w145
 have hrs := h.rs
 have hos := fun b hb => (h.os b hb).2.1
 have ej : (min (Z0[i].l : Int) 4).toNat = min p.combos[i].length 4 := by omega
 rw [ej]
 refine ⟨⟨h1.sub 1 rfl, hZ.fr h1.m.1⟩, (h1.nextRow encI_length).app (m := p.combos[i].take (min p.combos[i].length 4)) ((hv.fr f1).take encI_length (by omega)) encI_ok rfl (by simp; omega) (by simp; omega) fun s146 w147 h => ⟨⟨h.sub 0 rfl, hZ.fr h.m.1⟩, ?_⟩⟩
 have etk : p.combos[i].take (min p.combos[i].length 4) = p.combos[i].take 4 := by
  rcases Nat.le_total p.combos[i].length 4 with h | h
  ·rw [Nat.min_eq_left h, List.take_of_length_le (Nat.le_refl _), List.take_of_length_le h]
  ·rw [Nat.min_eq_right h]
 rw [List.nil_append, etk] at h
 have h := h.back hrs hos
 have h' := h.fr (Fr.alloc (o := Obj.cells (encZ s146).toArray 25))
 refine ⟨⟨h'.sub 0 rfl, hZ.fr h'.m.1⟩, h.push (a := s146) rfl rfl encZ_ok rfl (by omega) (by omega) fun s149 w150 h => ⟨⟨h.sub 0 rfl, hZ.fr h.m.1⟩, ?_⟩⟩
 rw [add_mk]
 refine ⟨h.wr 0 rfl rfl, ?_⟩
 refine ⟨inR64 (by omega) (by omega), ⟨⟨rfl, rfl, rfl, trivial⟩, i + 1, s149, fun b => B' b \/ inB s146 b, Z ++ [s146], by omega, by omega, fun b hb => .inl (hB b hb), ?_⟩, by dsimp only; omega⟩
 have := h.set (i := 13) (v := .slice s149.p s149.l s149.c) 0 rfl
 rw [take_succ_map _ _ hit, List.getElem_take]
 refine this.say (C := fun b => B' b \/ inB s146 b) (fun u u' he hq => ?_) (fun _ h => h) fun hq => ⟨hq.1.1, hq.1.2.push hq.2⟩
 obtain ⟨hq, hz⟩ := hq
 obtain ⟨hz, hv⟩ := hz.pop
 obtain ⟨a1, a2⟩ := hrs u u' (fun b hb => he b (.inl hb)) ⟨hq, hz⟩
 exact ⟨a1, a2.push (Rests.ow _ _ u u' (fun b hb => he b (.inr hb)) hv)⟩
end
end Go.Proofs.YtfkmpbpkahcogaaGreatDoor
namespace Go.Proofs.YtfkmpbpkahcogaaGreatDoor
open Go Pw Dp
structure TP0 (w : World) (x : T43) (t : Td) : Prop where
 name : x.f0 = ofL t.name
 lots : Vw 2 encL w x.f1 t.lots
 crit : Vw 5 encC w x.f2 t.crit
 reqs : Vw 3 encR w x.f3 t.reqs
 low : x.f4 = t.low
 high : x.f5 = t.high
 fm : XP w t.fm ⟨x.f6, x.f7, x.f8, x.f9, x.f10⟩
 ties : Vw 1 encB w x.f11 t.ties
 most : x.f12 = t.most
 budget : x.f14 = t.budget
 t1 : x.f15 = t.t1
 t2 : x.f16 = t.t2
 t3 : x.f17 = t.t3
 t4 : x.f18 = t.t4
 t5 : x.f19 = t.t5
theorem TP0.tp {w : World} {x : T43} {t : Td} (h : TP0 w x t) (hc : CP w x.f13 t.combos) : TP w x t := { h with combos := hc }
structure TW (w : World) (x : T43) (t : Td) (Z : List Sl) : Prop where
 tp : TP0 w x t
 o1 : Ow 2 encL w x.f1 t.lots
 o2 : Ow 5 encC w x.f2 t.crit
 o3 : Ow 3 encR w x.f3 t.reqs
 o4 : Ow 1 encB w x.f11 t.ties
 fm : ∃ P, XQ P w t.fm ⟨x.f6, x.f7, x.f8, x.f9, x.f10⟩
 ne : ∀ s ∈ t.ties, s ≠ []
 io : IoZ w Z t.combos
structure PFit (p : Pn) : Prop where
 lots : ∀ l ∈ p.lots, I64 l.2
 crit : ∀ l ∈ p.crit, I64 l.2.2.1 /\ I64 l.2.2.2
 reqs : ∀ l ∈ p.reqs, I64 l.2.2
 combos : ∀ l ∈ p.combos, ∀ i ∈ l, I64 i
 o0 : I64 p.o0
 o1 : I64 p.o1
 o2 : I64 p.o2
 o3 : I64 p.o3
 o4 : I64 p.o4
 o5 : I64 p.o5
 o6 : I64 p.o6
 o7 : I64 p.o7
 o8 : I64 p.o8
 o9 : I64 p.o9
theorem parts_fold : ∀ (l : List Fm) (e : Fm) (N : Nat), (∀ x ∈ l, x.parts <= N) -> (l.foldl (fun a b => Fm.op 0 a b) e).parts <= e.parts + l.length * (N + 1)
 | [], e, N, _ => by simp
 | x :: l, e, N, h => by
  have h1 := parts_fold l (.op 0 e x) N fun y hy => h y (List.mem_cons_of_mem _ hy)
  have h2 := h x (List.mem_cons_self ..)
  simp only [List.foldl_cons, List.length_cons, Fm.parts, Nat.add_mul] at h1 ⊢
  omega
def sumP (st : List Fm) : Nat := (st.map Fm.parts).sum
theorem sumP_app (a b : List Fm) : sumP (a ++ b) = sumP a + sumP b := by simp [sumP]
theorem sumP_step (st : List Fm) (x : Int) : sumP (madeStep st x) <= sumP st + 1 := by
 have one : ∀ e : Fm, sumP [e] = e.parts := fun e => by simp [sumP]
 unfold madeStep
 simp only
 split
 ·rw [sumP_app, one]; exact Nat.le_refl _
 ·split
  ·rw [sumP_app, one]; exact Nat.le_refl _
  ·unfold madeOp
   split
   ·rename_i h
    rw [sumP_app, one]
    have e : st = st.take (st.length - 2) ++ [st[st.length - 2], st[st.length - 1]] := by
     apply List.ext_getElem
     ·simp; omega
     ·intro i h1 h2
      rw [List.getElem_append]
      split
      ·rw [List.getElem_take]
      ·rename_i h3
       simp only [List.length_take] at h3
       rcases (show i = st.length - 2 \/ i = st.length - 1 by omega) with rfl | rfl
       ·simp [Nat.min_eq_left (show st.length - 2 <= st.length by omega)]
       ·have : st.length - 1 - (st.length - 2) = 1 := by omega
        simp [Nat.min_eq_left (show st.length - 2 <= st.length by omega), this]
    have h2 := congrArg sumP e
    rw [sumP_app] at h2
    have h3 : sumP [st[st.length - 2], st[st.length - 1]] = st[st.length - 2].parts + st[st.length - 1].parts := by simp [sumP]
    simp only [Fm.parts]
    omega
   ·omega
theorem sumP_made (l : List Int) : ∀ st : List Fm, sumP (l.foldl madeStep st) <= sumP st + l.length := by
 induction l with
 | nil => intro st; simp
 | cons x l ih => intro st; have := ih (madeStep st x); have := sumP_step st x; simp only [List.foldl_cons, List.length_cons]; omega
theorem sumP_mem {st : List Fm} : ∀ {e : Fm}, e ∈ st -> e.parts <= sumP st := by
 induction st with
 | nil => intro e h; cases h
 | cons a st ih =>
  intro e h
  have : sumP (a :: st) = a.parts + sumP st := by simp [sumP]
  rcases List.mem_cons.1 h with rfl | h
  ·omega
  ·have := ih h; omega
theorem made_parts (l : List Int) : (madeF l).parts <= 10000 := by
 unfold madeF
 have h1 := sumP_made (l.take 80) []
 have h2 := made_len (l.take 80) []
 have h3 : (l.take 80).length <= 80 := by simp; omega
 have h0 : sumP [] = 0 := rfl
 simp only [List.length_nil] at h2
 split
 ·simp [Fm.parts]
 ·rename_i e r he
  rw [he] at h1 h2
  have ha := sumP_mem (st := e :: r) (List.mem_cons_self ..)
  have hb := parts_fold r e 80 fun x hx => by have := sumP_mem (st := e :: r) (List.mem_cons_of_mem _ hx); omega
  simp only [List.length_cons] at h2
  have : r.length * (80 + 1) <= 80 * 81 := Nat.mul_le_mul (by omega) (by omega)
  omega
theorem namP_len (n : Int) : (namP n).length <= 7 := by
 have hm := modP_in n (m := 5) (by decide)
 unfold namP
 have : (modP n 5).toNat < 5 := by omega
 generalize (modP n 5).toNat = j at this
 rcases j with _ | _ | _ | _ | _ | j
 iterate 5 decide
 omega
theorem namP_ne (n : Int) : namP n ≠ [] := by
 have hm := modP_in n (m := 5) (by decide)
 unfold namP
 have : (modP n 5).toNat < 5 := by omega
 generalize (modP n 5).toNat = j at this
 rcases j with _ | _ | _ | _ | _ | j
 iterate 5 decide
 omega
theorem modP_I64 (n : Int) {m : Int} (h0 : 0 < m) (h1 : m < 2 ^ 62) : I64 (modP n m) := by
 have := modP_in n h0
 unfold I64; omega
theorem tdP_fit {p : Pn} (h : PFit p) : Fit (tdP p) := by
 refine ⟨?_, ?_, ?_, ?_, ?_, ?_, ?_, ?_, ?_, ?_, ?_, ?_, h.o0, h.o1, h.o2, h.o3, h.o4, h.o5, h.o6, h.o7, h.o8⟩
 ·have := made_parts p.form; simp only [tdP]; omega
 ·have := Lib.itoa_length_le p.o9 h.o9.1 (by have := h.o9.2; omega); simp only [tdP]; omega
 ·simp [tdP]; omega
 ·simp [tdP]; omega
 ·simp [tdP]; omega
 ·simp [tdP]; omega
 ·simp [tdP]; omega
 ·intro l hl
  obtain ⟨a, ha, rfl⟩ := List.mem_map.1 hl
  exact ⟨modP_I64 _ (by decide) (by decide), h.lots a (List.mem_of_mem_take ha)⟩
 ·intro l hl
  obtain ⟨a, ha, rfl⟩ := List.mem_map.1 hl
  exact ⟨Nat.le_trans (namP_len _) (by decide), modP_I64 _ (by decide) (by decide), h.crit a (List.mem_of_mem_take ha)⟩
 ·intro l hl
  obtain ⟨a, ha, rfl⟩ := List.mem_map.1 hl
  refine ⟨Nat.le_trans (namP_len _) (by decide), ?_, h.reqs a (List.mem_of_mem_take ha)⟩
  show (relsB.getD (modP a.2.1 2).toNat []).length <= _
  have hm := modP_in a.2.1 (m := 2) (by decide)
  have : (modP a.2.1 2).toNat < 2 := by omega
  generalize (modP a.2.1 2).toNat = j at this
  rcases j with _ | _ | j
  iterate 2 decide
  omega
 ·intro l hl
  obtain ⟨a, ha, rfl⟩ := List.mem_map.1 hl
  exact Nat.le_trans (namP_len _) (by decide)
 ·intro l hl
  obtain ⟨a, ha, rfl⟩ := List.mem_map.1 hl
  exact ⟨by simp; omega, fun i hi => h.combos a (List.mem_of_mem_take ha) i (List.mem_of_mem_take hi)⟩
section
variable {w0 w : World} {x : T29} {p : Pn} {c : XC} {B : Nat -> Prop} {Q : World -> Prop} {b1 b2 b3 : Nat} {K : T43 -> World -> Prop}
theorem Tender_k0 {P : Nat -> Prop} (hp : PP w0 x p) (h : Sp w0 w [(b3, (T43.mk (ofL (Lib.itoa p.o9)) ⟨none, 0, 0⟩ ⟨none, 0, 0⟩ ⟨none, 0, 0⟩ p.o0 p.o1 c.op c.n c.d c.nm c.a ⟨none, 0, 0⟩ p.o2 ⟨none, 0, 0⟩ p.o3 0 0 0 0 0).cs), (b2, zT), (b1, x.cs)] P (fun u => XQ P u (madeF p.form) c) 2 encL ⟨none, 0, 0⟩ [])
  (hK : ∀ w' y B Q Z, Sp w0 w' [] B Q 1 encZ y.f13 Z -> (∀ u, Q u -> TW u y (tdP p) Z) -> K y w') : z03_k0 ⟨b1, 0, none⟩ ⟨b2, 0, none⟩ ⟨b3, 0, none⟩ K w := by
 have L : ∀ {k j : Nat} {i : Int} {v : Value}, i.toNat * 1 = j -> x.cs[6 + j]? = some v -> w.cell? (((⟨b1, 0, none⟩ : Addr).add 6).add (i.toNat * 1)) = some v := fun {k j i v} e hv => by
  rw [e, add_mk, add_mk]
  exact h.ld (i := 0 + 6 + j) 2 rfl (by simpa using hv)
 refine ⟨?_⟩
 unfold z03_k0d
 refine ⟨⟨by decide, by decide⟩, _, L (k := 0) (j := 4) rfl rfl, ⟨by decide, by decide⟩, _, L (k := 0) (j := 5) rfl rfl, ⟨by decide, by decide⟩, _, L (k := 0) (j := 6) rfl rfl, ⟨by decide, by decide⟩, _, L (k := 0) (j := 7) rfl rfl, ⟨by decide, by decide⟩, _, L (k := 0) (j := 8) rfl rfl, ?_⟩
 rw [add_mk, hp.o4, hp.o5, hp.o6, hp.o7, hp.o8]
 refine stN5 h (j := 0) rfl (by show 0 + 15 + 5 <= 20; decide) fun w1 h => ?_
 have h : Sp w0 w1 (tnL b1 b2 b3 (tbx p c ⟨none, 0, 0⟩ ⟨none, 0, 0⟩ ⟨none, 0, 0⟩ ⟨none, 0, 0⟩ ⟨none, 0, 0⟩) x) P _ 2 encL ⟨none, 0, 0⟩ [] := h
 refine Tender_l1 hp h fun w2 s1 h => ⟨?_⟩
 refine Tender_l3 hp h.next fun w3 s2 h => ⟨?_⟩
 refine Tender_l5 hp h.next fun w4 s3 h => ⟨?_⟩
 refine Tender_l7 hp h.next fun w5 s11 h => ⟨?_⟩
 refine Tender_l9 hp h.next fun w6 s13 B' Z _ h => ⟨?_⟩
 refine T43.ld_row (h.row 0 rfl) (stN_sp h 1 rfl rfl fun w7 h => T43.ld_row (h.row 1 rfl) (hK w7 _ B' _ Z (h.dr 3 rfl) fun u hq => ?_))
 obtain ⟨⟨⟨⟨⟨hX, h1⟩, h2⟩, h3⟩, h4⟩, hz⟩ := hq
 exact ⟨⟨rfl, h1.vw, h2.vw, h3.vw, rfl, rfl, hX.xp, h4.vw, rfl, rfl, rfl, rfl, rfl, rfl, rfl⟩, h1, h2, h3, h4, ⟨_, hX⟩, fun s hs => by obtain ⟨a, _, rfl⟩ := List.mem_map.1 hs; exact namP_ne a, hz⟩
theorem TenderQ_spec (hp : PP w x p) (hf : PFit p) (hK : ∀ w' y B Q Z, Sp w w' [] B Q 1 encZ y.f13 Z -> (∀ u, Q u -> TW u y (tdP p) Z) -> K y w') : z03_sh x K w := by
 refine ⟨?_⟩
 unfold z03_sd
 intro w1
 have m : Mem w w1 [(w.heap.size, x.cs)] := Mem.nil.allocL
 clear_value w1
 intro w2
 have m : Mem w w2 [(w1.heap.size, zT), (w.heap.size, x.cs)] := m.allocL
 clear_value w2
 intro w3
 have m : Mem w w3 [(w1.heap.size, zT), (w.heap.size, x.cs)] := m.drew
 clear_value w3
 have k1 := (m.row 0 rfl).lt
 have k0 := (m.row 1 rfl).lt
 have kw := m.1.1
 have R : ∀ {u : World}, Fr F0 w3 u -> Mem w u [(w1.heap.size, zT), (w.heap.size, x.cs)] := fun h => m.fr h
 have L : ∀ {i : Int} {j : Nat} {v : Value}, i.toNat * 1 = j -> x.cs[6 + j]? = some v -> ∀ u, Fr F0 w3 u -> u.cell? ((⟨w.heap.size, 6, none⟩ : Addr).add (i.toNat * 1)) = some v := fun e hv u hu => by
  rw [e, add_mk]
  exact (R hu).ld 1 rfl hv
 have pv : ∀ {u : World}, Fr F0 w3 u -> Vw 1 encI u x.f3 p.form := fun h => hp.form.fr (m.1.t h)
 refine ⟨fun u => Fr F0 w3 u, Fr.refl, ⟨by decide, by decide⟩, _, L (j := 9) rfl rfl, ⟨by decide, by decide⟩, _, L (j := 0) rfl rfl, ⟨by decide, by decide⟩, _, L (j := 1) rfl rfl, ⟨by decide, by decide⟩, _, L (j := 2) rfl rfl, ⟨by decide, by decide⟩, _, L (j := 3) rfl rfl, x.f3, fun u hu => (R hu).ld 1 rfl rfl, ?_⟩
 rw [hp.o9, hp.o0, hp.o1, hp.o2, hp.o3]
 have fin : ∀ (u : World) (b3 lo hi : Nat) (c : XC), Mem w u [(b3, zT), (w1.heap.size, zT), (w.heap.size, x.cs)] -> XQ (fun b => lo <= b /\ b < hi) u (madeF p.form) c -> w3.heap.size <= lo -> hi <= u.heap.size -> (b3 < lo \/ hi <= b3) ->
   stN u ⟨b3, 0, none⟩ (T43.mk (ofL (Lib.itoa p.o9)) ⟨none, 0, 0⟩ ⟨none, 0, 0⟩ ⟨none, 0, 0⟩ p.o0 p.o1 c.op c.n c.d c.nm c.a ⟨none, 0, 0⟩ p.o2 ⟨none, 0, 0⟩ p.o3 0 0 0 0 0).cs fun w16 => z03_k0 ⟨w.heap.size, 0, none⟩ ⟨w1.heap.size, 0, none⟩ ⟨b3, 0, none⟩ K w16 := by
  intro u b3 lo hi c m hX h1 h2 h3
  have h : Sp w u [(b3, zT), (w1.heap.size, zT), (w.heap.size, x.cs)] (fun b => lo <= b /\ b < hi) (fun u => XQ (fun b => lo <= b /\ b < hi) u (madeF p.form) c) 2 encL ⟨none, 0, 0⟩ ([] : List (Int × Int)) := by
   refine ⟨m, XQ.rests _ _, hX, fun b hb => ⟨by omega, by omega, fun p hp => ?_⟩, ⟨rfl, by simpa using OwnV.nil⟩, fun b ⟨a, ha, _⟩ => by cases ha⟩
   simp only [List.mem_cons, List.not_mem_nil, or_false] at hp
   rcases hp with rfl | rfl | rfl <;> simp only <;> omega
  exact stN_sp h 0 rfl rfl fun w16 h => Tender_k0 hp h hK
 refine ⟨rdecimal_spec hf.o9 fun w11 f11 => ⟨f11, Made_spec (pv f11) fun w13 c f13 hX => ⟨f11.t f13, ?_⟩, ?_⟩, ?_⟩
 ·intro w15
  have m15 : Mem w w15 [(w13.heap.size, zT), _, _] := (R (f11.t f13)).allocL
  have f15 : Fr F0 w13 w15 := Fr.alloc
  have s15 : w13.heap.size <= w15.heap.size := f15.1
  clear_value w15
  exact ⟨f11.t (f13.t f15), fin w15 _ _ _ c m15 (hX.go fun b hb => f15.2.1 b hb.2 fun h => h) f11.1 s15 (.inr (Nat.le_refl _))⟩
 ·intro w17
  have m17 : Mem w w17 [(w11.heap.size, zT), _, _] := (R f11).allocL
  have f17 : Fr F0 w11 w17 := Fr.alloc
  have s17 : w11.heap.size < w17.heap.size := (m17.row 0 rfl).lt
  clear_value w17
  have t1 := f11.1
  refine ⟨f11.t f17, Made_spec (pv (f11.t f17)) fun w18 c f18 hX => ⟨f11.t (f17.t f18), fin w18 _ _ _ c (m17.fr f18) hX (by omega) (Nat.le_refl _) (.inl s17)⟩⟩
 ·intro w21
  have m21 : Mem w w21 [(w3.heap.size, zT), _, _] := m.allocL
  have f21 : Fr F0 w3 w21 := Fr.alloc
  have s21 : w3.heap.size < w21.heap.size := (m21.row 0 rfl).lt
  clear_value w21
  refine ⟨f21, rdecimal_spec hf.o9 fun w22 f22 => ⟨f21.t f22, Made_spec (pv (f21.t f22)) fun w24 c f24 hX => ⟨f21.t (f22.t f24), ?_⟩⟩⟩
  have t2 := f22.1
  exact fin w24 _ _ _ c (m21.fr (f22.t f24)) hX (by omega) (Nat.le_refl _) (.inl (by omega))
theorem TenderW_spec (hp : PP w x p) (hf : PFit p) (hK : ∀ w' y Z, Fr F0 w w' -> TW w' y (tdP p) Z -> Ow 1 encZ w' y.f13 Z -> K y w') : z03_sh x K w :=
 TenderQ_spec hp hf fun w' y _ _ Z h hq => hK w' y Z h.m.1 (hq w' h.q) h.ow
end
end Go.Proofs.YtfkmpbpkahcogaaGreatDoor

namespace Go.Proofs.YtfkmpbpkahcogaaGreatDoor
open Go Pw Dp Go.ChangeShapes Go.WideShapes Go.ChangeAt Go.RowKit
section
variable {H : Type} {enc : TypeId × Value -> H} {P : Program} {W : World}
theorem cell_arr {n fuel : Nat} {e g : TypeId} {cs : List Value} {y : DataW H × List MemPlace} (he : P.underlying e = some (.array n g)) (hg : P.underlying g = some (.int .i64)) (hc : P.cellsOf g = 1) (hl : cs.length = n)
  (h : DataW.trod enc P W 0 (fun _ => true) true fuel e cs = some y) : ∃ l : List Int, l.length = n /\ cs = l.map (Value.int .i64) /\ ∀ i ∈ l, I64 i := by
 obtain ⟨xs, m, _, _, _, hx, hat⟩ := DataW.trod_array he h
 have key : ∀ i (hi : i < cs.length), ∃ x : Int, cs[i] = Value.int .i64 x /\ (Lit.int .i64 x).wf = true := by
  intro i hi
  have h0 := hat i (by omega)
  rw [hc, Nat.mul_one] at h0
  have hxi : i < xs.length := by omega
  rw [List.getElem?_eq_getElem hxi] at h0
  obtain ⟨x, hx', _, hw⟩ := DataW.trod_int hg h0
  refine ⟨x, ?_, hw⟩
  rw [List.drop_eq_getElem_cons hi, List.take_succ_cons, List.take_zero] at hx'
  exact (List.cons.inj hx').1
 refine ⟨cs.map fun v => match v with | .int _ x => x | _ => 0, by simp [hl], ?_, ?_⟩
 ·apply List.ext_getElem
  ·simp
  ·intro i h1 h2
   obtain ⟨x, hx', _⟩ := key i h1
   simp [hx']
 ·intro x hx
  simp only [List.mem_map] at hx
  obtain ⟨v, hv, rfl⟩ := hx
  obtain ⟨i, hi, rfl⟩ := List.getElem_of_mem hv
  obtain ⟨y, hy, hw⟩ := key i hi
  rw [hy]
  exact wf_i64 hw
theorem cell_slice {α : Type} {encA : α -> List Value} {n fuel : Nat} {F : α -> Prop} {t e : TypeId} {cs : List Value} {x : DataW H × List MemPlace} (ht : P.underlying t = some (.slice e)) (hc : P.cellsOf e = n) (hn : ∀ a, (encA a).length = n) (hn0 : 0 < n)
  (hop : ∀ fuel cs y, cs.length = n -> DataW.trod enc P W 0 (fun _ => true) true fuel e cs = some y -> ∃ a, cs = encA a /\ F a)
  (h : DataW.trod enc P W 0 (fun _ => true) true fuel t cs = some x) : ∃ (q : Sl) (l : List α), cs = [.slice q.p q.l q.c] /\ Vw n encA W q l /\ ∀ a ∈ l, F a := by
 rcases Go.Deep.open_slice ht h with ⟨rfl, _⟩ | ⟨a', len, cap, m, n', D, Pl, rfl, _, hle, _, hm, hx, hel⟩
 ·exact ⟨⟨none, 0, 0⟩, [], rfl, Vw.nil, fun a h => by cases h⟩
 ·simp only [if_true] at hm
  subst hm
  rw [hc] at hel
  have key : ∀ i, i < len -> ∃ q : α, F q /\ ∀ j, j < n -> W.cell? ((a'.add (i * n)).add j) = (encA q)[j]? := fun i hi => by
   obtain ⟨cs', g1, g2⟩ := hel i (by omega)
   obtain ⟨_, hlen, hcell⟩ := World.cells?_some g1
   obtain ⟨q, rfl, hq⟩ := hop _ _ _ hlen g2
   exact ⟨q, hq, hcell⟩
  let qs := (List.range len).pmap (fun i (hi : i < len) => Classical.choose (key i hi)) (fun i hi => List.mem_range.1 hi)
  have hql : qs.length = len := by simp [qs]
  have hq : ∀ i (hi : i < qs.length), F qs[i] /\ ∀ j, j < n -> W.cell? ((a'.add (i * n)).add j) = (encA qs[i])[j]? := fun i hi => by
   have hi' : i < len := by omega
   have e : qs[i] = Classical.choose (key i hi') := by simp [qs]
   rw [e]
   exact Classical.choose_spec (key i hi')
  clear_value qs
  refine ⟨⟨some a', len, m⟩, qs, rfl, ⟨hql.symm, hle, ?_⟩, fun a ha => ?_⟩
  ·refine ⟨by rw [fm_length hn]; simp [hql], fun i hi => ?_⟩
   rw [fm_length hn] at hi
   have hin : i / n < qs.length := Nat.div_lt_of_lt_mul (by rw [Nat.mul_comm]; exact hi)
   have hmod := Nat.mod_lt i hn0
   have h2 := (hq (i / n) hin).2 (i % n) hmod
   have h3 := fm_at hn qs (i / n) (i % n) qs[i / n] (List.getElem?_eq_getElem hin) hmod
   rw [add_add] at h2
   have e : i / n * n + i % n = i := by rw [Nat.mul_comm]; exact Nat.div_add_mod i n
   rw [e] at h2 h3
   rw [h2, ← h3]
   exact List.getElem?_eq_getElem _
  ·obtain ⟨i, hi, rfl⟩ := List.mem_iff_getElem.1 ha
   exact (hq i hi).1
theorem cell_ints {fuel : Nat} {t e : TypeId} {cs : List Value} {x : DataW H × List MemPlace} (ht : P.underlying t = some (.slice e)) (he : P.underlying e = some (.int .i64)) (hc : P.cellsOf e = 1)
  (h : DataW.trod enc P W 0 (fun _ => true) true fuel t cs = some x) : ∃ (q : Sl) (l : List Int), cs = [.slice q.p q.l q.c] /\ Vw 1 (fun n => [Value.int .i64 n]) W q l /\ ∀ a ∈ l, I64 a :=
 cell_slice ht hc (fun _ => rfl) (by decide) (fun fuel cs y _ h => by
  obtain ⟨a, ha, _, w⟩ := DataW.trod_int he h
  exact ⟨a, ha, wf_i64 w⟩) h
theorem cell_l2 {fuel : Nat} {t e g : TypeId} {cs : List Value} {x : DataW H × List MemPlace} (ht : P.underlying t = some (.slice e)) (he : P.underlying e = some (.array 2 g)) (hg : P.underlying g = some (.int .i64)) (ce : P.cellsOf e = 2) (cg : P.cellsOf g = 1)
  (h : DataW.trod enc P W 0 (fun _ => true) true fuel t cs = some x) : ∃ (q : Sl) (l : List (Int × Int)), cs = [.slice q.p q.l q.c] /\ Vw 2 encL W q l /\ ∀ a ∈ l, I64 a.2 :=
 cell_slice ht ce encL_length (by decide) (fun fuel cs y hl h => by
  obtain ⟨l, h1, rfl, h2⟩ := cell_arr he hg cg hl h
  match l, h1 with
  | [a, b], _ => exact ⟨(a, b), rfl, h2 b (by simp)⟩) h
theorem cell_l3 {fuel : Nat} {t e g : TypeId} {cs : List Value} {x : DataW H × List MemPlace} (ht : P.underlying t = some (.slice e)) (he : P.underlying e = some (.array 3 g)) (hg : P.underlying g = some (.int .i64)) (ce : P.cellsOf e = 3) (cg : P.cellsOf g = 1)
  (h : DataW.trod enc P W 0 (fun _ => true) true fuel t cs = some x) : ∃ (q : Sl) (l : List (Int × Int × Int)), cs = [.slice q.p q.l q.c] /\ Vw 3 encT3 W q l /\ ∀ a ∈ l, I64 a.1 /\ I64 a.2.1 /\ I64 a.2.2 :=
 cell_slice ht ce encT3_length (by decide) (fun fuel cs y hl h => by
  obtain ⟨l, h1, rfl, h2⟩ := cell_arr he hg cg hl h
  match l, h1 with
  | [a, b, c], _ => exact ⟨(a, b, c), rfl, h2 a (by simp), h2 b (by simp), h2 c (by simp)⟩) h
theorem cell_l4 {fuel : Nat} {t e g : TypeId} {cs : List Value} {x : DataW H × List MemPlace} (ht : P.underlying t = some (.slice e)) (he : P.underlying e = some (.array 4 g)) (hg : P.underlying g = some (.int .i64)) (ce : P.cellsOf e = 4) (cg : P.cellsOf g = 1)
  (h : DataW.trod enc P W 0 (fun _ => true) true fuel t cs = some x) : ∃ (q : Sl) (l : List (Int × Int × Int × Int)), cs = [.slice q.p q.l q.c] /\ Vw 4 encT4 W q l /\ ∀ a ∈ l, I64 a.2.2.1 /\ I64 a.2.2.2 :=
 cell_slice ht ce encT4_length (by decide) (fun fuel cs y hl h => by
  obtain ⟨l, h1, rfl, h2⟩ := cell_arr he hg cg hl h
  match l, h1 with
  | [a, b, c, d], _ => exact ⟨(a, b, c, d), rfl, h2 c (by simp), h2 d (by simp)⟩) h
theorem cell_cp {fuel : Nat} {t e g : TypeId} {cs : List Value} {x : DataW H × List MemPlace} (ht : P.underlying t = some (.slice e)) (he : P.underlying e = some (.slice g)) (hg : P.underlying g = some (.int .i64)) (ce : P.cellsOf e = 1) (cg : P.cellsOf g = 1)
  (h : DataW.trod enc P W 0 (fun _ => true) true fuel t cs = some x) : ∃ (q : Sl) (l : List (List Int)), cs = [.slice q.p q.l q.c] /\ CP W q l /\ ∀ a ∈ l, ∀ i ∈ a, I64 i := by
 obtain ⟨q, l, h1, h2, h3⟩ := cell_slice (α := Sl × List Int) (encA := fun z => encZ z.1) (F := fun z => Vw 1 encI W z.1 z.2 /\ ∀ i ∈ z.2, I64 i) ht ce (fun _ => rfl) (by decide) (fun fuel cs y _ h => by
  obtain ⟨q, l, h1, h2, h3⟩ := cell_ints he hg cg h
  exact ⟨(q, l), h1, h2, h3⟩) h
 refine ⟨q, l.map (·.2), h1, ⟨l.map (·.1), ⟨by rw [h2.len]; simp, h2.cap, ?_⟩, by simp, fun i a b => ?_⟩, fun a ha => ?_⟩
 ·have e : (l.map (·.1)).flatMap encZ = l.flatMap fun z => encZ z.1 := by rw [List.flatMap_map]
  rw [e]
  exact h2.rd
 ·simp only [List.getElem_map]
  exact (h3 _ (List.getElem_mem (by simpa using a))).1
 ·obtain ⟨z, hz, rfl⟩ := List.mem_map.1 ha
  exact (h3 z hz).2
theorem arg_plan {r : Reach} {b0 : Nat} {t : TypeId} {a2 a3 a4 g s1 : TypeId} {f0 f1 f2 f3 f4 f5 f6 : Field} {v : Value} {d : DataW H} {ps : List MemPlace} (ht : P.underlying t = some (.struct #[f0, f1, f2, f3, f4, f5, f6]))
  (u0 : P.underlying f0.type = some (.slice a2)) (u1 : P.underlying f1.type = some (.slice a4)) (u2 : P.underlying f2.type = some (.slice a3)) (u3 : P.underlying f3.type = some (.slice g)) (u4 : P.underlying f4.type = some (.slice g)) (u5 : P.underlying f5.type = some (.slice s1)) (u6 : P.underlying f6.type = some (.array 10 g))
  (w2 : P.underlying a2 = some (.array 2 g)) (w4 : P.underlying a4 = some (.array 4 g)) (w3 : P.underlying a3 = some (.array 3 g)) (ws : P.underlying s1 = some (.slice g)) (wg : P.underlying g = some (.int .i64))
  (o : f0.offset = 0 /\ f1.offset = 1 /\ f2.offset = 2 /\ f3.offset = 3 /\ f4.offset = 4 /\ f5.offset = 5 /\ f6.offset = 6) (c : P.cellsOf f0.type = 1 /\ P.cellsOf f1.type = 1 /\ P.cellsOf f2.type = 1 /\ P.cellsOf f3.type = 1 /\ P.cellsOf f4.type = 1 /\ P.cellsOf f5.type = 1 /\ P.cellsOf f6.type = 10)
  (k : P.cellsOf t = 16 /\ P.cellsOf a2 = 2 /\ P.cellsOf a4 = 4 /\ P.cellsOf a3 = 3 /\ P.cellsOf s1 = 1 /\ P.cellsOf g = 1) (hval : Value.okWide P W r b0 t v) (h : DataW.Trod enc P W 0 (fun _ => true) true t v d ps) :
  ∃ (x : T29) (p : Pn), v = .agg x.cs.toArray /\ PP W x p /\ PFit p := by
 obtain ⟨o0, o1, o2, o3, o4, o5, o6⟩ := o
 obtain ⟨c0, c1, c2, c3, c4, c5, c6⟩ := c
 obtain ⟨k0, k1, k2, k3, k4, k5⟩ := k
 unfold Value.okWide at hval
 rw [ht] at hval
 obtain ⟨cs, rfl, hsz, _⟩ := hval
 obtain ⟨fuel, hf⟩ := h
 obtain ⟨xs, n, _, _, hl, hlen, hx⟩ := DataW.trod_struct ht hf
 rw [k0] at hsz
 have at' : ∀ (j : Nat) (f : Field), #[f0, f1, f2, f3, f4, f5, f6][j]? = some f -> ∃ y, DataW.trod enc P W 0 (fun _ => true) true n f.type ((cs.toList.drop f.offset).take (P.cellsOf f.type)) = some y := by
  intro j f hj
  have hj' := (Array.getElem?_eq_some_iff.1 hj).1
  have hj2 : j < xs.length := by rw [hlen]; simpa using hj'
  have := hx j f hj
  rw [List.getElem?_eq_getElem hj2] at this
  exact ⟨_, this⟩
 obtain ⟨y0, q0⟩ := at' 0 f0 rfl
 obtain ⟨y1, q1⟩ := at' 1 f1 rfl
 obtain ⟨y2, q2⟩ := at' 2 f2 rfl
 obtain ⟨y3, q3⟩ := at' 3 f3 rfl
 obtain ⟨y4, q4⟩ := at' 4 f4 rfl
 obtain ⟨y5, q5⟩ := at' 5 f5 rfl
 obtain ⟨y6, q6⟩ := at' 6 f6 rfl
 rw [o0, c0] at q0
 rw [o1, c1] at q1
 rw [o2, c2] at q2
 rw [o3, c3] at q3
 rw [o4, c4] at q4
 rw [o5, c5] at q5
 rw [o6, c6] at q6
 obtain ⟨z0, l0, e0, v0, i0⟩ := cell_l2 u0 w2 wg k1 k5 q0
 obtain ⟨z1, l1, e1, v1, i1⟩ := cell_l4 u1 w4 wg k2 k5 q1
 obtain ⟨z2, l2, e2, v2, i2⟩ := cell_l3 u2 w3 wg k3 k5 q2
 obtain ⟨z3, l3, e3, v3, i3⟩ := cell_ints u3 wg k5 q3
 obtain ⟨z4, l4, e4, v4, i4⟩ := cell_ints u4 wg k5 q4
 obtain ⟨z5, l5, e5, v5, i5⟩ := cell_cp u5 ws wg k4 k5 q5
 obtain ⟨l6, n6, e6, i6⟩ := cell_arr u6 wg k5 (by simp [hsz]) q6
 obtain ⟨o0, o1, o2, o3, o4, o5, o6, o7, o8, o9, rfl⟩ : ∃ a b c d e f g h i j, l6 = [a, b, c, d, e, f, g, h, i, j] := by
  match l6, n6 with
  | [a, b, c, d, e, f, g, h, i, j], _ => exact ⟨a, b, c, d, e, f, g, h, i, j, rfl⟩
 refine ⟨⟨z0, z1, z2, z3, z4, z5, o0, o1, o2, o3, o4, o5, o6, o7, o8, o9⟩, ⟨l0, l1, l2, l3, l4, l5, o0, o1, o2, o3, o4, o5, o6, o7, o8, o9⟩, ?_, ⟨v0, v1, v2, v3, v4, v5, rfl, rfl, rfl, rfl, rfl, rfl, rfl, rfl, rfl, rfl⟩, ⟨i0, i1, fun l hl => (i2 l hl).2.2, i5, i6 _ (by simp), i6 _ (by simp), i6 _ (by simp), i6 _ (by simp), i6 _ (by simp), i6 _ (by simp), i6 _ (by simp), i6 _ (by simp), i6 _ (by simp), i6 _ (by simp)⟩⟩
 congr 1
 rcases cs with ⟨cs⟩
 congr 1
 simp only at e0 e1 e2 e3 e4 e5 e6 hsz
 have hs16 : cs.length = 16 := hsz
 match cs, hs16 with
 | [d0, d1, d2, d3, d4, d5, d6, d7, d8, d9, d10, d11, d12, d13, d14, d15], _ =>
  simp at e0 e1 e2 e3 e4 e5 e6
  obtain ⟨r6, r7, r8, r9, r10, r11, r12, r13, r14, r15⟩ := e6
  subst e0 e1 e2 e3 e4 e5 r6 r7 r8 r9 r10 r11 r12 r13 r14 r15
  rfl
theorem arg_l3 {r : Reach} {b0 : Nat} {t e g : TypeId} {v : Value} {d : DataW H} {ps : List MemPlace} (ht : P.underlying t = some (.slice e)) (he : P.underlying e = some (.array 3 g)) (hg : P.underlying g = some (.int .i64)) (ce : P.cellsOf e = 3) (cg : P.cellsOf g = 1)
  (hval : Value.okWide P W r b0 t v) (h : DataW.Trod enc P W 0 (fun _ => true) true t v d ps) : ∃ (q : Sl) (l : List (Int × Int × Int)), v = .slice q.p q.l q.c /\ Vw 3 encT3 W q l /\ ∀ a ∈ l, I64 a.1 /\ I64 a.2.1 /\ I64 a.2.2 := by
 obtain ⟨a, len, cap, rfl⟩ := okWide_slice ht hval
 obtain ⟨fuel, hf⟩ := h
 obtain ⟨q, l, h1, h2, h3⟩ := cell_l3 ht he hg ce cg hf
 simp only [Value.cells, List.cons.injEq, and_true] at h1
 exact ⟨q, l, h1, h2, h3⟩
end
end Go.Proofs.YtfkmpbpkahcogaaGreatDoor
namespace Pw
open Go
theorem fm_set {α : Type} {n : Nat} {enc : α -> List Value} (hn : ∀ a, (enc a).length = n) : ∀ (l : List α) (i k : Nat) (a a' : α) (v : Value), l[i]? = some a -> k < n -> enc a' = (enc a).set k v -> (l.flatMap enc).set (i * n + k) v = (l.set i a').flatMap enc
 | [], i, k, a, a', v, h, _, _ => by simp at h
 | b :: l, 0, k, a, a', v, h, hk, he => by
  simp at h
  subst h
  simp only [List.flatMap_cons, Nat.zero_mul, Nat.zero_add, List.set_cons_zero, he]
  rw [List.set_append_left _ _ (by rw [hn]; exact hk)]
 | b :: l, i + 1, k, a, a', v, h, hk, he => by
  simp only [List.getElem?_cons_succ] at h
  have := fm_set hn l i k a a' v h hk he
  simp only [List.flatMap_cons, List.set_cons_succ]
  rw [List.set_append_right _ _ (by rw [hn, Nat.add_mul]; omega), hn, ← this]
  congr 2
  rw [Nat.add_mul]; omega
theorem Ow.put {α : Type} {n : Nat} {enc : α -> List Value} {w : World} {s : Sl} {l : List α} (h : Ow n enc w s l) (hn : ∀ a, (enc a).length = n) {i k : Nat} {a' : α} {v : Value} (hi : i < l.length) (hk : k < n) (he : enc a' = (enc l[i]).set k v) :
  ∃ ad, s.p = some ad /\ wrOk w ((ad.add (i * n)).add k) /\ Ow n enc (w.setCell ((ad.add (i * n)).add k) v) s (l.set i a') /\ Fr (inB s) w (w.setCell ((ad.add (i * n)).add k) v) := by
 have hl := h.len
 rcases h.own.2 with ⟨h1, h2, h3⟩ | ⟨b, cs, h1, h2, h3, h4, h5⟩
 ·omega
 ·have hlen := fm_length hn l
  have hlt : i * n + k < l.length * n := by
   have := Nat.mul_le_mul_right n (show i + 1 <= l.length by omega)
   rw [Nat.add_mul] at this
   omega
  have hcs : l.length * n <= cs.length := by
   rw [h3]
   exact Nat.mul_le_mul_right n (by omega)
  refine ⟨_, h1, ?_⟩
  simp only [add_mk, Nat.zero_add]
  refine ⟨h2.wr (by omega), ⟨by simp [hl], by simp [fm_length hn, hl], .inr ⟨b, _, h1, h2.set (i * n + k) v, by simp [h3], h4, ?_⟩⟩, Fr.set ⟨_, h1, rfl⟩⟩
  rw [← fm_set hn l i k l[i] a' v (List.getElem?_eq_getElem hi) hk he, List.length_set, List.take_set, h5]
end Pw
namespace Go.Proofs.YtfkmpbpkahcogaaGreatDoor
open Go Pw Dp
def wr64 (n : Int) : Int := IntKind.wrap .i64 n
theorem wr64_I (n : Int) : I64 (wr64 n) := by unfold wr64 I64; simp [IntKind.wrap, IntKind.bits, IntKind.signed]; omega
def editC (t : Td) (n : Nat) (q : Int) : Int -> Td
 | 0 => { t with lots := if h : n < t.lots.length then t.lots.set n (t.lots[n].1, wr64 (t.lots[n].2 + q)) else t.lots }
 | 1 => { t with crit := if h : n < t.crit.length then t.crit.set n { t.crit[n] with high := wr64 (t.crit[n].high + q) } else t.crit }
 | 2 => { t with reqs := if h : n < t.reqs.length then t.reqs.set n { t.reqs[n] with val := wr64 (t.reqs[n].val + q) } else t.reqs }
 | 3 => { t with high := wr64 (t.high + q) }
 | 4 => { t with fm := .op 0 t.fm (.name (namP q)) }
 | 5 => { t with ties := t.ties ++ [namP q] }
 | 6 => { t with most := wr64 (t.most + q) }
 | 7 => { t with combos := t.combos ++ [[(n : Int), q]] }
 | 8 => { t with budget := wr64 (t.budget + q) }
 | 9 => { t with t2 := wr64 (t.t2 + q) }
 | 10 => { t with lots := t.lots ++ [((n : Int), q)] }
 | 11 => { t with crit := if n < t.crit.length then t.crit.take n ++ t.crit.drop (n + 1) else t.crit }
 | _ => t
def editP (t : Td) (q0 q1 q2 : Int) : Td := editC t (modP q1 7).toNat q2 (modP q0 12)
structure FitK (k : Nat) (t : Td) : Prop where
 fp : t.fm.parts + 2 * k <= 2 ^ 29
 name : t.name.length <= 2 ^ 20
 lots : t.lots.length + k <= 2 ^ 19
 crit : t.crit.length <= 2 ^ 19
 reqs : t.reqs.length <= 2 ^ 19
 ties : t.ties.length + k <= 2 ^ 19
 combos : t.combos.length + k <= 2 ^ 19
 lot : ∀ l ∈ t.lots, I64 l.1 /\ I64 l.2
 cr : ∀ c ∈ t.crit, c.name.length <= 2 ^ 20 /\ I64 c.kind /\ I64 c.low /\ I64 c.high
 rq : ∀ r ∈ t.reqs, r.name.length <= 2 ^ 20 /\ r.rel.length <= 2 ^ 20 /\ I64 r.val
 tie : ∀ s ∈ t.ties, s.length <= 2 ^ 20
 combo : ∀ l ∈ t.combos, l.length <= 2 ^ 20 /\ ∀ i ∈ l, I64 i
 low : I64 t.low
 high : I64 t.high
 most : I64 t.most
 budget : I64 t.budget
 t1 : I64 t.t1
 t2 : I64 t.t2
 t3 : I64 t.t3
 t4 : I64 t.t4
 t5 : I64 t.t5
theorem FitK.fit {k : Nat} {t : Td} (h : FitK k t) : Fit t :=
 { h with fp := by have := h.fp; omega, lots := by have := h.lots; omega, crit := by have := h.crit; omega, reqs := by have := h.reqs; omega, ties := by have := h.ties; omega, combos := by have := h.combos; omega }
theorem tdP_fitK {p : Pn} (h : PFit p) : FitK 100 (tdP p) := by
 have hF := tdP_fit h
 have := made_parts p.form
 exact { hF with fp := by simp only [tdP]; omega, lots := by simp [tdP]; omega, crit := by simp [tdP]; omega, reqs := by simp [tdP]; omega, ties := by simp [tdP]; omega, combos := by simp [tdP]; omega }
theorem edit_fit {k : Nat} {t : Td} (h : FitK (k + 1) t) {q0 q1 q2 : Int} (hq : I64 q2) : FitK k (editP t q0 q1 q2) := by
 have hn := modP_in q1 (m := 7) (by decide)
 have hc := modP_in q0 (m := 12) (by decide)
 have h1 := h.fp; have h2 := h.lots; have h3 := h.crit; have h4 := h.reqs; have h5 := h.ties; have h6 := h.combos
 have hnI : I64 ((modP q1 7).toNat : Int) := by unfold I64; omega
 have h0 : FitK k t := { h with fp := by omega, lots := by omega, ties := by omega, combos := by omega }
 unfold editP
 generalize (modP q1 7).toNat = n at hnI
 rcases (show modP q0 12 = 0 \/ modP q0 12 = 1 \/ modP q0 12 = 2 \/ modP q0 12 = 3 \/ modP q0 12 = 4 \/ modP q0 12 = 5 \/ modP q0 12 = 6 \/ modP q0 12 = 7 \/ modP q0 12 = 8 \/ modP q0 12 = 9 \/ modP q0 12 = 10 \/ modP q0 12 = 11 by omega) with e | e | e | e | e | e | e | e | e | e | e | e <;> rw [e] <;> unfold editC <;> clear e
 ·by_cases hl : n < t.lots.length
  ·refine { h0 with lots := by simp [hl]; omega, lot := fun l hm => ?_ }
   simp only [hl, dif_pos] at hm
   rcases List.mem_or_eq_of_mem_set hm with hm | rfl
   ·exact h.lot l hm
   ·exact ⟨(h.lot _ (List.getElem_mem hl)).1, wr64_I _⟩
  ·simp only [hl, dif_neg, not_false_iff]
   exact h0
 ·by_cases hl : n < t.crit.length
  ·refine { h0 with crit := by simp [hl]; omega, cr := fun l hm => ?_ }
   simp only [hl, dif_pos] at hm
   rcases List.mem_or_eq_of_mem_set hm with hm | rfl
   ·exact h.cr l hm
   ·have := h.cr _ (List.getElem_mem hl)
    exact ⟨this.1, this.2.1, this.2.2.1, wr64_I _⟩
  ·simp only [hl, dif_neg, not_false_iff]
   exact h0
 ·by_cases hl : n < t.reqs.length
  ·refine { h0 with reqs := by simp [hl]; omega, rq := fun l hm => ?_ }
   simp only [hl, dif_pos] at hm
   rcases List.mem_or_eq_of_mem_set hm with hm | rfl
   ·exact h.rq l hm
   ·have := h.rq _ (List.getElem_mem hl)
    exact ⟨this.1, this.2.1, wr64_I _⟩
  ·simp only [hl, dif_neg, not_false_iff]
   exact h0
 ·exact { h0 with high := wr64_I _ }
 ·exact { h0 with fp := by simp only [Fm.parts]; omega }
 ·refine { h0 with ties := by simp; omega, tie := fun s hs => ?_ }
  rcases List.mem_append.1 hs with hs | hs
  ·exact h.tie s hs
  ·rw [List.mem_singleton.1 hs]
   exact Nat.le_trans (namP_len _) (by decide)
 ·exact { h0 with most := wr64_I _ }
 ·refine { h0 with combos := by simp; omega, combo := fun s hs => ?_ }
  rcases List.mem_append.1 hs with hs | hs
  ·exact h.combo s hs
  ·rw [List.mem_singleton.1 hs]
   refine ⟨by show (2 : Nat) <= _; decide, fun i hi => ?_⟩
   simp only [List.mem_cons, List.not_mem_nil, or_false] at hi
   rcases hi with rfl | rfl
   ·exact hnI
   ·exact hq
 ·exact { h0 with budget := wr64_I _ }
 ·exact { h0 with t2 := wr64_I _ }
 ·refine { h0 with lots := by simp; omega, lot := fun s hs => ?_ }
  rcases List.mem_append.1 hs with hs | hs
  ·exact h.lot s hs
  ·rw [List.mem_singleton.1 hs]
   exact ⟨hnI, hq⟩
 ·by_cases hl : n < t.crit.length
  ·refine { h0 with crit := by simp [hl]; omega, cr := fun l hm => ?_ }
   simp only [hl, if_pos] at hm
   rcases List.mem_append.1 hm with hm | hm
   ·exact h.cr l (List.mem_of_mem_take hm)
   ·exact h.cr l (List.mem_of_mem_drop hm)
  ·simp only [hl, if_false]
   exact h0
end Go.Proofs.YtfkmpbpkahcogaaGreatDoor
namespace Go.Proofs.YtfkmpbpkahcogaaGreatDoor
open Go Pw Dp
structure RS0 (w : World) (x : T43) (t : Td) (Z : List Sl) : Prop where
 name : x.f0 = ofL t.name
 low : x.f4 = t.low
 high : x.f5 = t.high
 fm : ∃ P, XQ P w t.fm ⟨x.f6, x.f7, x.f8, x.f9, x.f10⟩
 most : x.f12 = t.most
 combos : Ow 1 encZ w x.f13 Z
 io : IoZ w Z t.combos
 budget : x.f14 = t.budget
 t1 : x.f15 = t.t1
 t2 : x.f16 = t.t2
 t3 : x.f17 = t.t3
 t4 : x.f18 = t.t4
 t5 : x.f19 = t.t5
theorem XQ.frE {P : Nat -> Prop} {w w' : World} (hf : Fr F0 w w') : ∀ {e : Fm} {c : XC}, XQ P w e c -> XQ P w' e c
 | .num _ _, _, h => h
 | .name _, _, h => h
 | .op _ _ _, _, ⟨ca, cb, i, h1, h2, h5, hi, h3, h4⟩ => ⟨ca, cb, i, h1, h2, hf.row h5 fun h => h, hi, h3.frE hf, h4.frE hf⟩
theorem IoZ.fr {w w' : World} {Z : List Sl} {L : List (List Int)} (h : IoZ w Z L) (hf : Fr F0 w w') : IoZ w' Z L := ⟨h.1, fun i a b => (h.2 i a b).fr hf⟩
theorem RS0.fr {w w' : World} {x : T43} {t : Td} {Z : List Sl} (h : RS0 w x t Z) (hf : Fr F0 w w') : RS0 w' x t Z := { h with fm := h.fm.imp fun _ hx => hx.frE hf, combos := h.combos.fr hf, io := h.io.fr hf }
structure TE (lo : Nat) (w : World) (x : T43) (t : Td) (Z : List Sl) : Prop where
 tw : TW w x t Z
 oz : Ow 1 encZ w x.f13 Z
 nw : ∀ b, inB x.f1 b \/ inB x.f2 b \/ inB x.f3 b \/ inB x.f11 b -> lo <= b
theorem TE.of {lo : Nat} {w : World} {x : T43} {t : Td} {Z : List Sl} (R : RS0 w x t Z) (o1 : Ow 2 encL w x.f1 t.lots) (o2 : Ow 5 encC w x.f2 t.crit) (o3 : Ow 3 encR w x.f3 t.reqs) (o4 : Ow 1 encB w x.f11 t.ties) (ne : ∀ s ∈ t.ties, s ≠ []) (nw : ∀ b, inB x.f1 b \/ inB x.f2 b \/ inB x.f3 b \/ inB x.f11 b -> lo <= b) : TE lo w x t Z := by
 obtain ⟨P, hx⟩ := R.fm
 exact ⟨⟨⟨R.name, o1.vw, o2.vw, o3.vw, R.low, R.high, hx.xp, o4.vw, R.most, R.budget, R.t1, R.t2, R.t3, R.t4, R.t5⟩, o1, o2, o3, o4, ⟨P, hx⟩, ne, R.io⟩, R.combos, nw⟩
theorem TE.tp {lo : Nat} {w : World} {x : T43} {t : Td} {Z : List Sl} (h : TE lo w x t Z) : TP w x t := h.tw.tp.tp ⟨Z, h.oz.vw, h.tw.io.inz⟩
structure EO (w0 w : World) (z : T43) (bt bq b4 : Nat) (qs : List Value) (t : Td) : Prop where
 m : Mem w0 w [(b4, zT), (bq, qs), (bt, z.cs)]
 o1 : Ow 2 encL w z.f1 t.lots
 o2 : Ow 5 encC w z.f2 t.crit
 o3 : Ow 3 encR w z.f3 t.reqs
 o4 : Ow 1 encB w z.f11 t.ties
 n : ∀ b, inB z.f1 b \/ inB z.f2 b \/ inB z.f3 b \/ inB z.f11 b -> w0.heap.size <= b /\ b ≠ b4 /\ b ≠ bq /\ b ≠ bt
 d1 : ∀ b, inB z.f1 b -> ¬ inB z.f2 b /\ ¬ inB z.f3 b /\ ¬ inB z.f11 b
 d2 : ∀ b, inB z.f2 b -> ¬ inB z.f3 b /\ ¬ inB z.f11 b
 d3 : ∀ b, inB z.f3 b -> ¬ inB z.f11 b
 ne : ∀ s ∈ t.ties, s ≠ []
section
variable {w0 w u : World} {z z' : T43} {t t' : Td} {bt bq b4 : Nat} {qs : List Value} {K : T43 -> World -> Prop} {Z Z' : List Sl}
theorem EO.fr (h : EO w0 w z bt bq b4 qs t) (hf : Fr F0 w u) : EO w0 u z bt bq b4 qs t :=
 { h with m := h.m.fr hf, o1 := h.o1.fr hf, o2 := h.o2.fr hf, o3 := h.o3.fr hf, o4 := h.o4.fr hf }
theorem Edit_k0_spec {L : List (Nat × List Value)} (m : Mem w0 u L) (h4 : (b4, zT) ∈ L) (ht : (bt, z'.cs) ∈ L) (hT : ∀ u', Fr (fun b => b = b4) u u' -> Fr F0 w0 u' -> TE w0.heap.size u' z' t' Z') (hK : ∀ w' z Z, Fr F0 w0 w' -> TE w0.heap.size w' z t' Z -> K z w') : z1i_k0 ⟨bt, 0, none⟩ ⟨b4, 0, none⟩ K u := by
 refine ⟨?_⟩
 unfold z1i_k0d
 refine T43.ld_row (m.2.1 _ ht) (stN_fr (m.2.1 _ h4) rfl fun w' hf hr' => ?_)
 have f0 : Fr F0 w0 w' := m.1.trans hf fun b hb hlt => by have := m.2.2.2 _ h4; simp only at this; omega
 exact T43.ld_row hr' (hK w' z' Z' f0 (hT w' hf f0))
theorem EO.tp (h : EO w0 w z bt bq b4 qs t) (hf : Fr (fun b => b = bt \/ b = b4) w u) (R : RS0 u z' t' Z') (e1 : z'.f1 = z.f1) (e2 : z'.f2 = z.f2) (e3 : z'.f3 = z.f3) (e4 : z'.f11 = z.f11) (g1 : t'.lots = t.lots) (g2 : t'.crit = t.crit) (g3 : t'.reqs = t.reqs) (g4 : t'.ties = t.ties) : TE w0.heap.size u z' t' Z' := by
 have hn := h.n
 refine TE.of R ?_ ?_ ?_ ?_ (by rw [g4]; exact h.ne) (by rw [e1, e2, e3, e4]; exact fun b hb => (hn b hb).1)
 ·rw [e1, g1]; exact h.o1.frF hf fun b hb hF => by have := hn b (.inl hb); omega
 ·rw [e2, g2]; exact h.o2.frF hf fun b hb hF => by have := hn b (.inr (.inl hb)); omega
 ·rw [e3, g3]; exact h.o3.frF hf fun b hb hF => by have := hn b (.inr (.inr (.inl hb))); omega
 ·rw [e4, g4]; exact h.o4.frF hf fun b hb hF => by have := hn b (.inr (.inr (.inr hb))); omega
theorem Edit_num {i : Nat} {v : Value} (h : EO w0 w z bt bq b4 qs t) (hi : i < 20) (R : ∀ u, Fr F0 w0 u -> RS0 u z' t' Z) (hz : z.cs.set i v = z'.cs) (e1 : z'.f1 = z.f1) (e2 : z'.f2 = z.f2) (e3 : z'.f3 = z.f3) (e4 : z'.f11 = z.f11) (g1 : t'.lots = t.lots) (g2 : t'.crit = t.crit) (g3 : t'.reqs = t.reqs) (g4 : t'.ties = t.ties)
  (hK : ∀ w' z Z, Fr F0 w0 w' -> TE w0.heap.size w' z t' Z -> K z w') : wrOk w ⟨bt, i, none⟩ /\ z1i_k0 ⟨bt, 0, none⟩ ⟨b4, 0, none⟩ K (w.setCell ⟨bt, i, none⟩ v) := by
 have hm := h.m.set (i := i) (v := v) 2 rfl
 rw [hz] at hm
 refine ⟨h.m.wr 2 rfl (by rw [Nat.blt_eq]; exact hi), Edit_k0_spec (Z' := Z) hm (z' := z') (by simp) (by simp) (fun u' hf f0 => ?_) hK⟩
 exact h.tp ((Fr.set (F := fun b => b = bt \/ b = b4) (.inl rfl)).trans hf fun b hb _ => .inr hb) (R u' f0) e1 e2 e3 e4 g1 g2 g3 g4
theorem Edit_no (h : EO w0 w z bt bq b4 qs t) (R : ∀ u, Fr F0 w0 u -> RS0 u z t Z) (hK : ∀ w' z Z, Fr F0 w0 w' -> TE w0.heap.size w' z t Z -> K z w') : z1i_k0 ⟨bt, 0, none⟩ ⟨b4, 0, none⟩ K w := by
 exact Edit_k0_spec (z' := z) (Z' := Z) h.m (by simp) (by simp) (fun u' hf f0 => h.tp (hf.mono fun b hb => .inr hb) (R u' f0) rfl rfl rfl rfl rfl rfl rfl rfl) hK
end
end Go.Proofs.YtfkmpbpkahcogaaGreatDoor
namespace Pw
open Go
theorem Vw.drop {α : Type} {n : Nat} {enc : α -> List Value} {w : World} {s : Sl} {l : List α} (h : Vw n enc w s l) (hn : ∀ a, (enc a).length = n) {j : Nat} (hj : j <= l.length) : Vw n enc w ⟨subP s.p j s.c n, s.l - j, s.c - j⟩ (l.drop j) := by
 have hl := h.len
 have hc := h.cap
 obtain ⟨h1, h2⟩ := h.rd
 refine ⟨by simp; omega, by simp; omega, by rw [fm_length hn, List.length_drop, hl], ?_⟩
 simp only
 have hd : ∀ i, i < ((l.drop j).flatMap enc).length -> ((l.drop j).flatMap enc)[i]? = (l.flatMap enc)[j * n + i]? := by
  intro i hi
  have e : l.flatMap enc = (l.take j).flatMap enc ++ (l.drop j).flatMap enc := by rw [← List.flatMap_append, List.take_append_drop]
  have hlen : ((l.take j).flatMap enc).length = j * n := by rw [fm_length hn]; simp; rw [Nat.min_eq_left hj]
  rw [e, List.getElem?_append_right (by omega), hlen]
  congr 1; omega
 have hlen : ((l.drop j).flatMap enc).length = (l.length - j) * n := by rw [fm_length hn, List.length_drop]
 unfold subP
 cases hp : s.p with
 | none =>
  rw [hp] at h2
  simp only at h2
  have : (if s.c = j then (none : Option Addr) else Option.map (fun x : Addr => x.add (j * n)) none) = none := by split <;> rfl
  rw [this]
  simp only
  have := Nat.mul_le_mul_right n (show s.l - j <= s.l by omega)
  omega
 | some a =>
  rw [hp] at h2
  simp only at h2
  by_cases hcj : s.c = j
  ·rw [if_pos hcj]
   simp only
   intro i hi
   have : l.length - j = 0 := by omega
   rw [this] at hlen
   omega
  ·rw [if_neg hcj]
   simp only [Option.map_some]
   intro i hi
   have h3 := hd i hi
   rw [List.getElem?_eq_getElem hi] at h3
   obtain ⟨h4, h5⟩ := List.getElem?_eq_some_iff.1 h3.symm
   rw [add_add, h2 _ h4, h5]
end Pw
namespace Go.Proofs.YtfkmpbpkahcogaaGreatDoor
open Go Pw Dp
section
variable {w0 w u : World} {z z' : T43} {t t' : Td} {bt bq b4 : Nat} {qs : List Value} {K : T43 -> World -> Prop} {Z Z' : List Sl}
theorem EO.tp1 (h : EO w0 w z bt bq b4 qs t) (hf : Fr (fun b => inB z.f1 b \/ b = bt \/ b = b4) w u) (R : RS0 u z' t' Z') (hv : Ow 2 encL u z'.f1 t'.lots) (e2 : z'.f2 = z.f2) (e3 : z'.f3 = z.f3) (e4 : z'.f11 = z.f11) (g2 : t'.crit = t.crit) (g3 : t'.reqs = t.reqs) (g4 : t'.ties = t.ties) (nv : ∀ b, inB z'.f1 b -> w0.heap.size <= b) : TE w0.heap.size u z' t' Z' := by
 have hn := h.n
 refine TE.of R hv ?_ ?_ ?_ (by rw [g4]; exact h.ne) (fun b hb => by rcases hb with hb | hb | hb | hb; exact nv b hb; exact (hn b (.inr (.inl (e2 ▸ hb)))).1; exact (hn b (.inr (.inr (.inl (e3 ▸ hb))))).1; exact (hn b (.inr (.inr (.inr (e4 ▸ hb))))).1)
 ·rw [e2, g2]; exact h.o2.frF hf fun b hb hF => hF.elim (fun h1 => (h.d1 b h1).1 hb) fun _ => by have := hn b (.inr (.inl hb)); omega
 ·rw [e3, g3]; exact h.o3.frF hf fun b hb hF => hF.elim (fun h1 => (h.d1 b h1).2.1 hb) fun _ => by have := hn b (.inr (.inr (.inl hb))); omega
 ·rw [e4, g4]; exact h.o4.frF hf fun b hb hF => hF.elim (fun h1 => (h.d1 b h1).2.2 hb) fun _ => by have := hn b (.inr (.inr (.inr hb))); omega
theorem EO.tp2 (h : EO w0 w z bt bq b4 qs t) (hf : Fr (fun b => inB z.f2 b \/ b = bt \/ b = b4) w u) (R : RS0 u z' t' Z') (hv : Ow 5 encC u z'.f2 t'.crit) (e1 : z'.f1 = z.f1) (e3 : z'.f3 = z.f3) (e4 : z'.f11 = z.f11) (g1 : t'.lots = t.lots) (g3 : t'.reqs = t.reqs) (g4 : t'.ties = t.ties) (nv : ∀ b, inB z'.f2 b -> w0.heap.size <= b) : TE w0.heap.size u z' t' Z' := by
 have hn := h.n
 refine TE.of R ?_ hv ?_ ?_ (by rw [g4]; exact h.ne) (fun b hb => by rcases hb with hb | hb | hb | hb; exact (hn b (.inl (e1 ▸ hb))).1; exact nv b hb; exact (hn b (.inr (.inr (.inl (e3 ▸ hb))))).1; exact (hn b (.inr (.inr (.inr (e4 ▸ hb))))).1)
 ·rw [e1, g1]; exact h.o1.frF hf fun b hb hF => hF.elim (fun h1 => (h.d1 b hb).1 h1) fun _ => by have := hn b (.inl hb); omega
 ·rw [e3, g3]; exact h.o3.frF hf fun b hb hF => hF.elim (fun h1 => (h.d2 b h1).1 hb) fun _ => by have := hn b (.inr (.inr (.inl hb))); omega
 ·rw [e4, g4]; exact h.o4.frF hf fun b hb hF => hF.elim (fun h1 => (h.d2 b h1).2 hb) fun _ => by have := hn b (.inr (.inr (.inr hb))); omega
theorem EO.tp3 (h : EO w0 w z bt bq b4 qs t) (hf : Fr (fun b => inB z.f3 b \/ b = bt \/ b = b4) w u) (R : RS0 u z' t' Z') (hv : Ow 3 encR u z'.f3 t'.reqs) (e1 : z'.f1 = z.f1) (e2 : z'.f2 = z.f2) (e4 : z'.f11 = z.f11) (g1 : t'.lots = t.lots) (g2 : t'.crit = t.crit) (g4 : t'.ties = t.ties) (nv : ∀ b, inB z'.f3 b -> w0.heap.size <= b) : TE w0.heap.size u z' t' Z' := by
 have hn := h.n
 refine TE.of R ?_ ?_ hv ?_ (by rw [g4]; exact h.ne) (fun b hb => by rcases hb with hb | hb | hb | hb; exact (hn b (.inl (e1 ▸ hb))).1; exact (hn b (.inr (.inl (e2 ▸ hb)))).1; exact nv b hb; exact (hn b (.inr (.inr (.inr (e4 ▸ hb))))).1)
 ·rw [e1, g1]; exact h.o1.frF hf fun b hb hF => hF.elim (fun h1 => (h.d1 b hb).2.1 h1) fun _ => by have := hn b (.inl hb); omega
 ·rw [e2, g2]; exact h.o2.frF hf fun b hb hF => hF.elim (fun h1 => (h.d2 b hb).1 h1) fun _ => by have := hn b (.inr (.inl hb)); omega
 ·rw [e4, g4]; exact h.o4.frF hf fun b hb hF => hF.elim (fun h1 => h.d3 b h1 hb) fun _ => by have := hn b (.inr (.inr (.inr hb))); omega
theorem EO.tp4 (h : EO w0 w z bt bq b4 qs t) (hf : Fr (fun b => inB z.f11 b \/ b = bt \/ b = b4) w u) (R : RS0 u z' t' Z') (hv : Ow 1 encB u z'.f11 t'.ties) (e1 : z'.f1 = z.f1) (e2 : z'.f2 = z.f2) (e3 : z'.f3 = z.f3) (g1 : t'.lots = t.lots) (g2 : t'.crit = t.crit) (g3 : t'.reqs = t.reqs) (ne : ∀ s ∈ t'.ties, s ≠ []) (nv : ∀ b, inB z'.f11 b -> w0.heap.size <= b) : TE w0.heap.size u z' t' Z' := by
 have hn := h.n
 refine TE.of R ?_ ?_ ?_ hv ne (fun b hb => by rcases hb with hb | hb | hb | hb; exact (hn b (.inl (e1 ▸ hb))).1; exact (hn b (.inr (.inl (e2 ▸ hb)))).1; exact (hn b (.inr (.inr (.inl (e3 ▸ hb))))).1; exact nv b hb)
 ·rw [e1, g1]; exact h.o1.frF hf fun b hb hF => hF.elim (fun h1 => (h.d1 b hb).2.2 h1) fun _ => by have := hn b (.inl hb); omega
 ·rw [e2, g2]; exact h.o2.frF hf fun b hb hF => hF.elim (fun h1 => (h.d2 b hb).2 h1) fun _ => by have := hn b (.inr (.inl hb)); omega
 ·rw [e3, g3]; exact h.o3.frF hf fun b hb hF => hF.elim (fun h1 => h.d3 b hb h1) fun _ => by have := hn b (.inr (.inr (.inl hb))); omega
theorem Edit_put1 {n k : Nat} {a' : Int × Int} {v : Value} (h : EO w0 w z bt bq b4 qs t) (R : ∀ u, Fr F0 w0 u -> RS0 u z { t with lots := t.lots.set n a' } Z) (hn : n < t.lots.length) (hk : k < 2) (he : encL a' = (encL t.lots[n]).set k v) (hK : ∀ w' z Z, Fr F0 w0 w' -> TE w0.heap.size w' z { t with lots := t.lots.set n a' } Z -> K z w') :
  nz z.f1.p fun a => (0 <= (n : Int) /\ (n : Int) < (z.f1.l : Nat)) /\ wrOk w ((a.add ((n : Int).toNat * 2)).add k) /\ z1i_k0 ⟨bt, 0, none⟩ ⟨b4, 0, none⟩ K (w.setCell ((a.add ((n : Int).toNat * 2)).add k) v) := by
 obtain ⟨ad, hp, hw, ho, hf⟩ := h.o1.put encL_length hn hk he
 have hl := h.o1.len
 rw [hp]
 refine ⟨⟨by omega, by omega⟩, hw, Edit_k0_spec (z' := z) (Z' := Z) (h.m.frF hf (fun p hp' hb => ?_) fun b hb => (h.n b (.inl hb)).1) (by simp) (by simp) (fun u' hf' f0 => ?_) hK⟩
 ·have := h.n p.1 (.inl hb)
  simp only [List.mem_cons, List.not_mem_nil, or_false] at hp'
  rcases hp' with rfl | rfl | rfl <;> simp at this
 ·exact h.tp1 ((hf.mono fun b hb => .inl hb).trans hf' fun b hb _ => .inr (.inr hb)) (R u' f0) (ho.frF hf' fun b hb e => (h.n b (.inl hb)).2.1 e) rfl rfl rfl rfl rfl rfl (fun b hb => (h.n b (.inl hb)).1)
theorem Edit_put2 {n k : Nat} {a' : Cr} {v : Value} (h : EO w0 w z bt bq b4 qs t) (R : ∀ u, Fr F0 w0 u -> RS0 u z { t with crit := t.crit.set n a' } Z) (hn : n < t.crit.length) (hk : k < 5) (he : encC a' = (encC t.crit[n]).set k v) (hK : ∀ w' z Z, Fr F0 w0 w' -> TE w0.heap.size w' z { t with crit := t.crit.set n a' } Z -> K z w') :
  nz z.f2.p fun a => (0 <= (n : Int) /\ (n : Int) < (z.f2.l : Nat)) /\ wrOk w ((a.add ((n : Int).toNat * 5)).add k) /\ z1i_k0 ⟨bt, 0, none⟩ ⟨b4, 0, none⟩ K (w.setCell ((a.add ((n : Int).toNat * 5)).add k) v) := by
 obtain ⟨ad, hp, hw, ho, hf⟩ := h.o2.put encC_length hn hk he
 have hl := h.o2.len
 rw [hp]
 refine ⟨⟨by omega, by omega⟩, hw, Edit_k0_spec (z' := z) (Z' := Z) (h.m.frF hf (fun p hp' hb => ?_) fun b hb => (h.n b (.inr (.inl hb))).1) (by simp) (by simp) (fun u' hf' f0 => ?_) hK⟩
 ·have := h.n p.1 (.inr (.inl hb))
  simp only [List.mem_cons, List.not_mem_nil, or_false] at hp'
  rcases hp' with rfl | rfl | rfl <;> simp at this
 ·exact h.tp2 ((hf.mono fun b hb => .inl hb).trans hf' fun b hb _ => .inr (.inr hb)) (R u' f0) (ho.frF hf' fun b hb e => (h.n b (.inr (.inl hb))).2.1 e) rfl rfl rfl rfl rfl rfl (fun b hb => (h.n b (.inr (.inl hb))).1)
theorem Edit_put3 {n k : Nat} {a' : Rq} {v : Value} (h : EO w0 w z bt bq b4 qs t) (R : ∀ u, Fr F0 w0 u -> RS0 u z { t with reqs := t.reqs.set n a' } Z) (hn : n < t.reqs.length) (hk : k < 3) (he : encR a' = (encR t.reqs[n]).set k v) (hK : ∀ w' z Z, Fr F0 w0 w' -> TE w0.heap.size w' z { t with reqs := t.reqs.set n a' } Z -> K z w') :
  nz z.f3.p fun a => (0 <= (n : Int) /\ (n : Int) < (z.f3.l : Nat)) /\ wrOk w ((a.add ((n : Int).toNat * 3)).add k) /\ z1i_k0 ⟨bt, 0, none⟩ ⟨b4, 0, none⟩ K (w.setCell ((a.add ((n : Int).toNat * 3)).add k) v) := by
 obtain ⟨ad, hp, hw, ho, hf⟩ := h.o3.put encR_length hn hk he
 have hl := h.o3.len
 rw [hp]
 refine ⟨⟨by omega, by omega⟩, hw, Edit_k0_spec (z' := z) (Z' := Z) (h.m.frF hf (fun p hp' hb => ?_) fun b hb => (h.n b (.inr (.inr (.inl hb)))).1) (by simp) (by simp) (fun u' hf' f0 => ?_) hK⟩
 ·have := h.n p.1 (.inr (.inr (.inl hb)))
  simp only [List.mem_cons, List.not_mem_nil, or_false] at hp'
  rcases hp' with rfl | rfl | rfl <;> simp at this
 ·exact h.tp3 ((hf.mono fun b hb => .inl hb).trans hf' fun b hb _ => .inr (.inr hb)) (R u' f0) (ho.frF hf' fun b hb e => (h.n b (.inr (.inr (.inl hb)))).2.1 e) rfl rfl rfl rfl rfl rfl (fun b hb => (h.n b (.inr (.inr (.inl hb)))).1)
theorem Edit_set1 {w1 : World} {s : Sl} {l : List (Int × Int)} (h : EO w0 w z bt bq b4 qs t) (R : ∀ u, Fr F0 w0 u -> RS0 u { z with f1 := s } { t with lots := l } Z) (hf : Fr (inB z.f1) w w1) (ho : Ow 2 encL w1 s l) (hs : ∀ b, inB s b -> inB z.f1 b \/ w.heap.size <= b) (hK : ∀ w' z Z, Fr F0 w0 w' -> TE w0.heap.size w' z { t with lots := l } Z -> K z w') :
  wrOk w1 ⟨bt, 1, none⟩ /\ z1i_k0 ⟨bt, 0, none⟩ ⟨b4, 0, none⟩ K (w1.setCell ⟨bt, 1, none⟩ (.slice s.p s.l s.c)) := by
 have hm : Mem w0 w1 [(b4, zT), (bq, qs), (bt, z.cs)] := h.m.frF hf (fun p hp' hb => by
  have := h.n p.1 (.inl hb)
  simp only [List.mem_cons, List.not_mem_nil, or_false] at hp'
  rcases hp' with rfl | rfl | rfl <;> simp at this) fun b hb => (h.n b (.inl hb)).1
 have hb4 := (h.m.row 0 rfl).lt
 have hbt := (h.m.row 2 rfl).lt
 have hne : ∀ b, inB s b -> b ≠ b4 /\ b ≠ bt := fun b hb => by
  rcases hs b hb with hb | hb
  ·exact ⟨(h.n b (.inl hb)).2.1, (h.n b (.inl hb)).2.2.2⟩
  ·exact ⟨by omega, by omega⟩
 refine ⟨hm.wr 2 rfl rfl, Edit_k0_spec (Z' := Z) (z' := { z with f1 := s }) (hm.set (i := 1) (v := .slice s.p s.l s.c) 2 rfl) (by simp) (List.mem_of_getElem? (i := 2) rfl) (fun u' hf' f0 => ?_) hK⟩
 have fs : Fr (fun b => b = bt) w1 (w1.setCell ⟨bt, 1, none⟩ (.slice s.p s.l s.c)) := Fr.set rfl
 exact h.tp1 (((hf.mono fun b hb => .inl hb).trans fs fun b hb _ => .inr (.inl hb)).trans hf' fun b hb _ => .inr (.inr hb)) (R u' f0) ((ho.frF fs fun b hb e => (hne b hb).2 e).frF hf' fun b hb e => (hne b hb).1 e) rfl rfl rfl rfl rfl rfl (fun b hb => (hs b hb).elim (fun hb => (h.n b (.inl hb)).1) fun hb => Nat.le_trans h.m.1.1 hb)
theorem Edit_set2 {w1 : World} {s : Sl} {l : List (Cr)} (h : EO w0 w z bt bq b4 qs t) (R : ∀ u, Fr F0 w0 u -> RS0 u { z with f2 := s } { t with crit := l } Z) (hf : Fr (inB z.f2) w w1) (ho : Ow 5 encC w1 s l) (hs : ∀ b, inB s b -> inB z.f2 b \/ w.heap.size <= b) (hK : ∀ w' z Z, Fr F0 w0 w' -> TE w0.heap.size w' z { t with crit := l } Z -> K z w') :
  wrOk w1 ⟨bt, 2, none⟩ /\ z1i_k0 ⟨bt, 0, none⟩ ⟨b4, 0, none⟩ K (w1.setCell ⟨bt, 2, none⟩ (.slice s.p s.l s.c)) := by
 have hm : Mem w0 w1 [(b4, zT), (bq, qs), (bt, z.cs)] := h.m.frF hf (fun p hp' hb => by
  have := h.n p.1 (.inr (.inl hb))
  simp only [List.mem_cons, List.not_mem_nil, or_false] at hp'
  rcases hp' with rfl | rfl | rfl <;> simp at this) fun b hb => (h.n b (.inr (.inl hb))).1
 have hb4 := (h.m.row 0 rfl).lt
 have hbt := (h.m.row 2 rfl).lt
 have hne : ∀ b, inB s b -> b ≠ b4 /\ b ≠ bt := fun b hb => by
  rcases hs b hb with hb | hb
  ·exact ⟨(h.n b (.inr (.inl hb))).2.1, (h.n b (.inr (.inl hb))).2.2.2⟩
  ·exact ⟨by omega, by omega⟩
 refine ⟨hm.wr 2 rfl rfl, Edit_k0_spec (Z' := Z) (z' := { z with f2 := s }) (hm.set (i := 2) (v := .slice s.p s.l s.c) 2 rfl) (by simp) (List.mem_of_getElem? (i := 2) rfl) (fun u' hf' f0 => ?_) hK⟩
 have fs : Fr (fun b => b = bt) w1 (w1.setCell ⟨bt, 2, none⟩ (.slice s.p s.l s.c)) := Fr.set rfl
 exact h.tp2 (((hf.mono fun b hb => .inl hb).trans fs fun b hb _ => .inr (.inl hb)).trans hf' fun b hb _ => .inr (.inr hb)) (R u' f0) ((ho.frF fs fun b hb e => (hne b hb).2 e).frF hf' fun b hb e => (hne b hb).1 e) rfl rfl rfl rfl rfl rfl (fun b hb => (hs b hb).elim (fun hb => (h.n b (.inr (.inl hb))).1) fun hb => Nat.le_trans h.m.1.1 hb)
theorem Edit_set4 {w1 : World} {s : Sl} {l : List (B)} (h : EO w0 w z bt bq b4 qs t) (R : ∀ u, Fr F0 w0 u -> RS0 u { z with f11 := s } { t with ties := l } Z) (hf : Fr (inB z.f11) w w1) (ho : Ow 1 encB w1 s l) (ne : ∀ s ∈ l, s ≠ []) (hs : ∀ b, inB s b -> inB z.f11 b \/ w.heap.size <= b) (hK : ∀ w' z Z, Fr F0 w0 w' -> TE w0.heap.size w' z { t with ties := l } Z -> K z w') :
  wrOk w1 ⟨bt, 11, none⟩ /\ z1i_k0 ⟨bt, 0, none⟩ ⟨b4, 0, none⟩ K (w1.setCell ⟨bt, 11, none⟩ (.slice s.p s.l s.c)) := by
 have hm : Mem w0 w1 [(b4, zT), (bq, qs), (bt, z.cs)] := h.m.frF hf (fun p hp' hb => by
  have := h.n p.1 (.inr (.inr (.inr hb)))
  simp only [List.mem_cons, List.not_mem_nil, or_false] at hp'
  rcases hp' with rfl | rfl | rfl <;> simp at this) fun b hb => (h.n b (.inr (.inr (.inr hb)))).1
 have hb4 := (h.m.row 0 rfl).lt
 have hbt := (h.m.row 2 rfl).lt
 have hne : ∀ b, inB s b -> b ≠ b4 /\ b ≠ bt := fun b hb => by
  rcases hs b hb with hb | hb
  ·exact ⟨(h.n b (.inr (.inr (.inr hb)))).2.1, (h.n b (.inr (.inr (.inr hb)))).2.2.2⟩
  ·exact ⟨by omega, by omega⟩
 refine ⟨hm.wr 2 rfl rfl, Edit_k0_spec (Z' := Z) (z' := { z with f11 := s }) (hm.set (i := 11) (v := .slice s.p s.l s.c) 2 rfl) (by simp) (List.mem_of_getElem? (i := 2) rfl) (fun u' hf' f0 => ?_) hK⟩
 have fs : Fr (fun b => b = bt) w1 (w1.setCell ⟨bt, 11, none⟩ (.slice s.p s.l s.c)) := Fr.set rfl
 exact h.tp4 (((hf.mono fun b hb => .inl hb).trans fs fun b hb _ => .inr (.inl hb)).trans hf' fun b hb _ => .inr (.inr hb)) (R u' f0) ((ho.frF fs fun b hb e => (hne b hb).2 e).frF hf' fun b hb e => (hne b hb).1 e) rfl rfl rfl rfl rfl rfl ne (fun b hb => (hs b hb).elim (fun hb => (h.n b (.inr (.inr (.inr hb)))).1) fun hb => Nat.le_trans h.m.1.1 hb)
end
end Go.Proofs.YtfkmpbpkahcogaaGreatDoor
namespace Pw
open Go
theorem copy_spec {α : Type} {n : Nat} {enc : α -> List Value} {v : World} {x : Sl} {l : List α} {bytes e e' : Nat} {zero : List Value} {K : SW} (hx : Vw n enc v x l) (hok : ∀ a, ∀ v ∈ enc a, okC v = true) (hz : zero.length = n) (hb : l.length * bytes <= 2 ^ 47) (hm : l.length < 2 ^ 63)
  (hK : ∀ s u, Mk v n enc u s l -> K s u) : apS n bytes zero e ⟨some ⟨v.heap.size, 0, none⟩, 0, 0⟩ x (v.alloc (Obj.cells #[] e')) K := by
 have f : Fr F0 v (v.alloc (Obj.cells #[] e')) := Fr.alloc
 have r : Row (v.alloc (Obj.cells #[] e')) v.heap.size [] := Row.new (cs := [])
 have h0 : Mk v n enc (v.alloc (Obj.cells #[] e')) ⟨some ⟨v.heap.size, 0, none⟩, 0, 0⟩ ([] : List α) :=
  ⟨f, ⟨rfl, by simp, .inr ⟨_, _, rfl, r, by simp, Nat.le_refl _, rfl⟩⟩, fun b ⟨a, ha, hb⟩ => by cases ha; subst hb; exact Nat.le_refl _⟩
 exact h0.app (hx.fr f) hok hz (by simpa using hb) (by simpa using hm) fun s u h _ => hK s u (by simpa using h)
theorem copy0 {α : Type} {n : Nat} {enc : α -> List Value} {v : World} {b : Nat} {x : Sl} {l : List α} {bytes e : Nat} {zero : List Value} {K : SW} (hn : ∀ a, (enc a).length = n) (hr : Row v b []) (hx : Vw n enc v x l) (hok : ∀ a, ∀ v ∈ enc a, okC v = true) (hz : zero.length = n) (hb : l.length * bytes <= 2 ^ 47) (hm : l.length < 2 ^ 63)
  (hK : ∀ s u, Ow n enc u s l -> Fr F0 v u -> (∀ c, inB s c -> c = b \/ v.heap.size <= c) -> K s u) : apS n bytes zero e ⟨some ⟨b, 0, none⟩, 0, 0⟩ x v K := by
 have hl := hx.len
 have hlen : (l.flatMap enc).length = l.length * n := fm_length hn l
 refine ⟨l.flatMap enc, hx.rd, fun v hv => ?_, fun hc => ?_, fun hc => ⟨by simpa [hl] using hb, by simpa [hl] using hm, [], ⟨by simp, fun i hi => absurd hi (by simp)⟩, fun cap hcap => ?_⟩⟩
 ·obtain ⟨a, _, ha⟩ := List.mem_flatMap.1 hv
  exact hok a v ha
 ·have h0 : l = [] := List.eq_nil_of_length_eq_zero (by simp only at hc; omega)
  subst h0
  have h0 : x.l = 0 := by simpa using hl
  rw [h0]
  refine ⟨fun i hi => absurd hi (by simp), hK _ _ ⟨rfl, by simp, .inr ⟨b, [], rfl, hr, by simp, Nat.le_refl _, rfl⟩⟩ Fr.refl fun c ⟨a, ha, hc⟩ => ?_⟩
  cases ha
  exact .inl hc.symm
 ·simp only [Nat.zero_add] at hcap ⊢
  refine hK _ _ ⟨by simp [newSl, hl], by simp [newSl, hl, hlen], .inr ⟨v.heap.size, _, rfl, Row.new (w := v.drew), ?_, hcap, ?_⟩⟩ (Fr.drew.trans (Fr.alloc (F := F0)) fun _ h _ => h) fun c ⟨a, ha, hc⟩ => ?_
  ·simp [rowZ_length, hlen, hz, newSl, hl]
   rw [← Nat.add_mul]
   congr 1
   omega
  ·simp
  ·cases ha
   exact .inr (by rw [← hc]; exact Nat.le_refl _)
theorem stN5M {w0 w : World} {L : List (Nat × List Value)} {b o j : Nat} {cs : List Value} {v0 v1 v2 v3 v4 : Value} {K : World -> Prop} (h : Mem w0 w L) (hj : L[j]? = some (b, cs)) (ho : o + 5 <= cs.length)
  (hK : ∀ w', Mem w0 w' (L.set j (b, (((((cs.set o v0).set (o + 1) v1).set (o + 2) v2).set (o + 3) v3).set (o + 4) v4))) -> Fr (fun c => c = b) w w' -> K w') : stN w ⟨b, o, none⟩ [v0, v1, v2, v3, v4] K := by
 have hl : j < L.length := (List.getElem?_eq_some_iff.1 hj).1
 have sj : ∀ (M : List (Nat × List Value)) (p : Nat × List Value), M.length = L.length -> (M.set j p)[j]? = some p := fun M p h => List.getElem?_set_self (by omega)
 have e : ∀ k : Nat, (⟨b, o, none⟩ : Addr).add k = ⟨b, o + k, none⟩ := fun k => add_mk b o k
 have h1 := h.set (i := o) (v := v0) j hj
 have h2 := h1.set (i := o + 1) (v := v1) j (sj _ _ rfl)
 have h3 := h2.set (i := o + 2) (v := v2) j (sj _ _ (by simp))
 have h4 := h3.set (i := o + 3) (v := v3) j (sj _ _ (by simp))
 have h5 := h4.set (i := o + 4) (v := v4) j (sj _ _ (by simp))
 have w0' := h.wr j hj (i := o) (by simp [Nat.blt_eq]; omega)
 have w1' := h1.wr j (sj _ _ rfl) (i := o + 1) (by simp [Nat.blt_eq]; omega)
 have w2' := h2.wr j (sj _ _ (by simp)) (i := o + 2) (by simp [Nat.blt_eq]; omega)
 have w3' := h3.wr j (sj _ _ (by simp)) (i := o + 3) (by simp [Nat.blt_eq]; omega)
 have w4' := h4.wr j (sj _ _ (by simp)) (i := o + 4) (by simp [Nat.blt_eq]; omega)
 rw [List.set_set, List.set_set, List.set_set, List.set_set] at h5
 have fs : ∀ {u : World} {k : Nat} {v : Value}, Fr (fun c => c = b) u (u.setCell ⟨b, k, none⟩ v) := Fr.set rfl
 have ft : ∀ {u u' u2 : World}, Fr (fun c => c = b) u u' -> Fr (fun c => c = b) u' u2 -> Fr (fun c => c = b) u u2 := fun a c => a.trans c fun _ h _ => h
 have hk := hK _ h5 (ft (ft (ft (ft fs fs) fs) fs) fs)
 unfold stN stN.go stN.go stN.go stN.go stN.go stN.go
 rw [e, e, e, e, e]
 exact ⟨w0', w1', w2', w3', w4', hk⟩
end Pw
namespace Go.Proofs.YtfkmpbpkahcogaaGreatDoor
open Go Pw Dp
section
variable {w0 w u : World} {z z' : T43} {t t' : Td} {bt bq b4 : Nat} {qs : List Value} {K : T43 -> World -> Prop} {Z : List Sl}
theorem EO.lts (h : EO w0 w z bt bq b4 qs t) : b4 < w.heap.size /\ bt < w.heap.size /\ bt < b4 := by
 have := h.m.2.2.1
 simp at this
 exact ⟨(h.m.row 0 rfl).lt, (h.m.row 2 rfl).lt, this.1.2⟩
theorem Edit_fin7 {s : Sl} {ib n : Nat} {q : Int} (h : EO w0 w z bt bq b4 qs t) (R : RS0 w0 z t Z) (hm : Mk w 1 encZ u s (Z ++ [⟨some ⟨ib, 0, none⟩, 2, 2⟩])) (hi : w.heap.size <= ib) (hr : Row u ib [.int .i64 n, .int .i64 q])
  (hK : ∀ w' z Z, Fr F0 w0 w' -> TE w0.heap.size w' z { t with combos := t.combos ++ [[(n : Int), q]] } Z -> K z w') : wrOk u ⟨bt, 13, none⟩ /\ z1i_k0 ⟨bt, 0, none⟩ ⟨b4, 0, none⟩ K (u.setCell ⟨bt, 13, none⟩ (.slice s.p s.l s.c)) := by
 obtain ⟨l4, lt, l5⟩ := h.lts
 have m := h.m.fr hm.fr0
 refine ⟨m.wr 2 rfl rfl, Edit_k0_spec (Z' := Z ++ [⟨some ⟨ib, 0, none⟩, 2, 2⟩]) (z' := { z with f13 := s }) (m.set (i := 13) (v := .slice s.p s.l s.c) 2 rfl) (by simp) (List.mem_of_getElem? (i := 2) rfl) (fun u' hf' f0 => ?_) hK⟩
 have fs : Fr (fun b => b = bt \/ b = b4) u u' := (Fr.set (F := fun b => b = bt \/ b = b4) (.inl rfl)).trans hf' fun b hb _ => .inr hb
 have hr' := fs.row hr (by omega)
 have ho := hm.ow.frF fs fun b hb e => by have := hm.nw b hb; omega
 have Rf := R.fr f0
 have hz2 := Rf.io.push (s := ⟨some ⟨ib, 0, none⟩, 2, 2⟩) (l := [(n : Int), q]) (Row.ow encI_length (l := [(n : Int), q]) hr')
 exact h.tp ((hm.fr0.mono fun _ h => h.elim).trans fs fun b hb _ => hb) { Rf with combos := ho, io := hz2 } rfl rfl rfl rfl rfl rfl rfl rfl
theorem combo_push {v : World} {s : Sl} {ib eb n : Nat} {q : Int} {K : SW} (hs : Mk w 1 encZ v s Z) (hr : Row v ib [.int .i64 n, .int .i64 q]) (he : Row v eb [.slice (some ⟨ib, 0, none⟩) 2 2]) (hd : ∀ b, inB s b -> b ≠ ib) (hl : Z.length <= 2 ^ 20)
  (hK : ∀ r u, Mk w 1 encZ u r (Z ++ [⟨some ⟨ib, 0, none⟩, 2, 2⟩]) -> Row u ib [.int .i64 n, .int .i64 q] -> K r u) : apS 1 24 [(Value.slice none 0 0)] 25 s ⟨some ⟨eb, 0, none⟩, 1, 1⟩ v K :=
 hs.app (m := [⟨some ⟨ib, 0, none⟩, 2, 2⟩]) (Row.ow encZ_length (l := [(⟨some ⟨ib, 0, none⟩, 2, 2⟩ : Sl)]) he).vw encZ_ok rfl (by simp; omega) (by simp; omega) fun r u h hf => hK r u h (hf.row hr fun hb => hd _ hb rfl)
end
end Go.Proofs.YtfkmpbpkahcogaaGreatDoor
namespace Go.Proofs.YtfkmpbpkahcogaaGreatDoor
open Go Pw Dp
section
variable {w0 w u : World} {z z' y : T43} {t t' : Td} {bt bq b4 : Nat} {qs : List Value} {K : T43 -> World -> Prop} {Z : List Sl}
theorem FitK.small {k : Nat} (h : FitK k t) : t.lots.length <= 2 ^ 20 /\ t.crit.length <= 2 ^ 20 /\ t.reqs.length <= 2 ^ 20 /\ t.ties.length <= 2 ^ 20 /\ t.combos.length <= 2 ^ 20 := by
 have h1 := h.lots; have h2 := h.crit; have h3 := h.reqs; have h4 := h.ties; have h5 := h.combos
 omega
theorem Edit_c4 {q q0 q1 : Int} (h : EO w0 w z bt bq b4 [.int .i64 q0, .int .i64 q1, .int .i64 q] t) (R : RS0 w0 z t Z) (hK : ∀ w' z Z, Fr F0 w0 w' -> TE w0.heap.size w' z { t with fm := .op 0 t.fm (.name (namP q)) } Z -> K z w') :
  z1j_sh q (fun r w71 => Rs w71 [(b4, zT), (bq, [.int .i64 q0, .int .i64 q1, .int .i64 q]), (bt, z.cs)] /\ let w73 : World := w71.alloc (Obj.cells #[(Value.string z.f6), (Value.int .i64 z.f7), (Value.int .i64 z.f8), (Value.string z.f9), (Value.slice z.f10.p z.f10.l z.f10.c), (Value.string (str [110, 97, 109, 101])), (Value.int .i64 (0 : Int)), (Value.int .i64 (0 : Int)), (Value.string r), (Value.slice none 0 0)] 38)
   Rs w73 [(b4, zT), (bq, [.int .i64 q0, .int .i64 q1, .int .i64 q]), (bt, z.cs)] /\ stN w73 ⟨bt, 6, none⟩ [(Value.string (str [43])), (Value.int .i64 (0 : Int)), (Value.int .i64 (0 : Int)), (Value.string (str [])), (Value.slice (some (Addr.mk w71.heap.size 0 none)) 2 2)] fun (w74 : World) => z1i_k0 ⟨bt, 0, none⟩ ⟨b4, 0, none⟩ K w74) w := by
 refine Name_spec fun w71 hf => ?_
 have h := h.fr hf
 obtain ⟨l4, lt, l5⟩ := h.lts
 refine ⟨h.m.2.1, ?_⟩
 intro w73
 have hr : Row w73 w71.heap.size ([(⟨z.f6, z.f7, z.f8, z.f9, z.f10⟩ : XC), ⟨ofL wName, 0, 0, ofL (namP q), ⟨none, 0, 0⟩⟩].flatMap encX) := Row.new
 have f : Fr F0 w71 w73 := Fr.alloc
 clear_value w73
 have h' := h.fr f
 refine ⟨h'.m.2.1, stN5M h'.m (j := 2) rfl (by show 6 + 5 <= 20; decide) fun w74 m fs => ?_⟩
 refine Edit_k0_spec (Z' := Z) (z' := { z with f6 := ofL (opB 0), f7 := 0, f8 := 0, f9 := ofL [], f10 := ⟨some ⟨w71.heap.size, 0, none⟩, 2, 2⟩ }) m (by simp) (List.mem_of_getElem? (i := 2) rfl) (fun u' hf' f0 => ?_) hK
 have fu : Fr (fun b => b = bt \/ b = b4) w73 u' := (fs.mono fun b hb => .inl hb).trans hf' fun b hb _ => .inr hb
 have Rf := R.fr f0
 have hr := fu.row hr (by omega)
 obtain ⟨P, hx⟩ := Rf.fm
 exact h'.tp fu { Rf with fm := ⟨fun b => P b \/ b = w71.heap.size, _, _, w71.heap.size, ⟨rfl, rfl, rfl, rfl⟩, rfl, hr, .inr rfl, hx.mono (fun b hb => .inl hb), rfl, Nat.le_trans (namP_len _) (by decide)⟩ } rfl rfl rfl rfl rfl rfl rfl rfl
theorem Edit_spec {k lo : Nat} {q0 q1 q2 : Int} (hy' : TE lo w y t Z) (hF : FitK k t) (hK : ∀ w' z Z, Fr F0 w w' -> TE w.heap.size w' z (editP t q0 q1 q2) Z -> K z w') : z1i_sh y q0 q1 q2 K w := by
 have hy := hy'.tp
 obtain ⟨s1, s2, s3, s4, s5⟩ := hF.small
 refine ⟨?_⟩
 unfold z1i_sd
 intro w1
 have m : Mem w w1 [(w.heap.size, y.cs)] := Mem.nil.allocL
 clear_value w1
 intro w2
 have m : Mem w w2 [(w1.heap.size, [.int .i64 q0, .int .i64 q1, .int .i64 q2]), (w.heap.size, y.cs)] := m.allocL
 clear_value w2
 intro w3
 have m : Mem w w3 [(w2.heap.size, zT), (w1.heap.size, [.int .i64 q0, .int .i64 q1, .int .i64 q2]), (w.heap.size, y.cs)] := m.allocL
 clear_value w3
 have kk := m.2.2.1
 simp only [List.map_cons, List.map_nil, List.pairwise_cons, List.mem_cons, List.not_mem_nil, or_false, forall_eq_or_imp, forall_eq, gt_iff_lt] at kk
 have k4 := (m.row 0 rfl).lt
 generalize ebt : w.heap.size = bt at m kk k4
 generalize w1.heap.size = bq at m kk
 generalize w2.heap.size = b4 at m kk k4
 refine ⟨⟨by decide, by decide⟩, _, by rw [add_mk]; exact m.ld (i := 1) 1 rfl rfl, Mod_spec (by decide) (by decide) ?_⟩
 intro w7
 refine ⟨y.f1, (m.fr Fr.alloc).ld 2 rfl rfl, copy_spec (hy.lots.fr m.1) encL_ok rfl (by omega) (by omega) fun s9 w10 h1 => ?_⟩
 have m := m.fr h1.fr0
 refine ⟨m.wr 2 rfl rfl, ?_⟩
 intro w11
 have m : Mem w w11 [(b4, zT), (bq, [.int .i64 q0, .int .i64 q1, .int .i64 q2]), (bt, T43.cs { y with f1 := s9 })] := m.set 2 rfl
 have f : Fr (fun b => b = bt) w10 w11 := Fr.set rfl
 have a1 : ∀ b, inB s9 b -> w3.heap.size <= b /\ b < w10.heap.size := fun b hb => ⟨h1.nw b hb, h1.ow.lt' hb⟩
 have g1 := h1.fr0.1
 have g2 := f.1
 have h1 := h1.ow.frF f fun b hb e => by have := a1 b hb; omega
 clear_value w11
 intro w12
 refine ⟨y.f2, (m.fr Fr.alloc).ld 2 rfl rfl, copy_spec (hy.crit.fr m.1) encC_ok rfl (by omega) (by omega) fun s14 w15 h2 => ?_⟩
 have m := m.fr h2.fr0
 have h1 := h1.fr h2.fr0
 refine ⟨m.wr 2 rfl rfl, ?_⟩
 intro w16
 have m : Mem w w16 [(b4, zT), (bq, [.int .i64 q0, .int .i64 q1, .int .i64 q2]), (bt, T43.cs { y with f1 := s9, f2 := s14 })] := m.set 2 rfl
 have f : Fr (fun b => b = bt) w15 w16 := Fr.set rfl
 have a2 : ∀ b, inB s14 b -> w11.heap.size <= b /\ b < w15.heap.size := fun b hb => ⟨h2.nw b hb, h2.ow.lt' hb⟩
 have g3 := h2.fr0.1
 have g4 := f.1
 have h1 := h1.frF f fun b hb e => by have := a1 b hb; omega
 have h2 := h2.ow.frF f fun b hb e => by have := a2 b hb; omega
 clear_value w16
 intro w17
 refine ⟨y.f3, (m.fr Fr.alloc).ld 2 rfl rfl, copy_spec (hy.reqs.fr m.1) encR_ok rfl (by omega) (by omega) fun s19 w20 h3 => ?_⟩
 have m := m.fr h3.fr0
 have h1 := h1.fr h3.fr0
 have h2 := h2.fr h3.fr0
 refine ⟨m.wr 2 rfl rfl, ?_⟩
 intro w21
 have m : Mem w w21 [(b4, zT), (bq, [.int .i64 q0, .int .i64 q1, .int .i64 q2]), (bt, T43.cs { y with f1 := s9, f2 := s14, f3 := s19 })] := m.set 2 rfl
 have f : Fr (fun b => b = bt) w20 w21 := Fr.set rfl
 have a3 : ∀ b, inB s19 b -> w16.heap.size <= b /\ b < w20.heap.size := fun b hb => ⟨h3.nw b hb, h3.ow.lt' hb⟩
 have g5 := h3.fr0.1
 have g6 := f.1
 have h1 := h1.frF f fun b hb e => by have := a1 b hb; omega
 have h2 := h2.frF f fun b hb e => by have := a2 b hb; omega
 have h3 := h3.ow.frF f fun b hb e => by have := a3 b hb; omega
 clear_value w21
 intro w22
 refine ⟨y.f11, (m.fr Fr.alloc).ld 2 rfl rfl, copy_spec (hy.ties.fr m.1) encB_ok rfl (by omega) (by omega) fun s24 w25 h4 => ?_⟩
 have m := m.fr h4.fr0
 have h1 := h1.fr h4.fr0
 have h2 := h2.fr h4.fr0
 have h3 := h3.fr h4.fr0
 refine ⟨m.wr 2 rfl rfl, ?_⟩
 intro w26
 have m : Mem w w26 [(b4, zT), (bq, [.int .i64 q0, .int .i64 q1, .int .i64 q2]), (bt, T43.cs { y with f1 := s9, f2 := s14, f3 := s19, f11 := s24 })] := m.set 2 rfl
 have f : Fr (fun b => b = bt) w25 w26 := Fr.set rfl
 have a4 : ∀ b, inB s24 b -> w21.heap.size <= b /\ b < w25.heap.size := fun b hb => ⟨h4.nw b hb, h4.ow.lt' hb⟩
 have h1 := h1.frF f fun b hb e => by have := a1 b hb; omega
 have h2 := h2.frF f fun b hb e => by have := a2 b hb; omega
 have h3 := h3.frF f fun b hb e => by have := a3 b hb; omega
 have h4 := h4.ow.frF f fun b hb e => by have := a4 b hb; omega
 clear_value w26
 have E : EO w w26 { y with f1 := s9, f2 := s14, f3 := s19, f11 := s24 } bt bq b4 [.int .i64 q0, .int .i64 q1, .int .i64 q2] t :=
  ⟨m, h1, h2, h3, h4, fun b hb => by rcases hb with hb | hb | hb | hb; (have := a1 b hb; omega); (have := a2 b hb; omega); (have := a3 b hb; omega); (have := a4 b hb; omega),
   fun b hb => ⟨fun hc => by have := a1 b hb; have := a2 b hc; omega, fun hc => by have := a1 b hb; have := a3 b hc; omega, fun hc => by have := a1 b hb; have := a4 b hc; omega⟩,
   fun b hb => ⟨fun hc => by have := a2 b hb; have := a3 b hc; omega, fun hc => by have := a2 b hb; have := a4 b hc; omega⟩,
   fun b hb hc => by have := a3 b hb; have := a4 b hc; omega, hy'.tw.ne⟩
 have R : RS0 w { y with f1 := s9, f2 := s14, f3 := s19, f11 := s24 } t Z := ⟨hy.name, hy.low, hy.high, hy'.tw.fm, hy.most, hy'.oz, hy'.tw.io, hy.budget, hy.t1, hy.t2, hy.t3, hy.t4, hy.t5⟩
 refine ⟨⟨by decide, by decide⟩, _, by rw [add_mk]; exact m.ld (i := 0) 1 rfl rfl, Mod_spec (by decide) (by decide) ?_⟩
 have hc := modP_in q0 (m := 12) (by decide)
 have hn := modP_in q1 (m := 7) (by decide)
 have hKc : ∀ {c : Int}, modP q0 12 = c -> ∀ w' z Z, Fr F0 w w' -> TE w.heap.size w' z (editC t (modP q1 7).toNat q2 c) Z -> K z w' := by rintro _ rfl; exact hK
 clear hK m h1 h2 h3 h4 a1 a2 a3 a4
 generalize modP q0 12 = c at hc hKc
 obtain ⟨n, en⟩ := Int.eq_ofNat_of_zero_le hn.1
 rw [en] at hn hKc ⊢
 rw [Int.toNat_natCast] at hKc
 have hq2 : ∀ {v : World}, Rs v [(b4, zT), (bq, [.int .i64 q0, .int .i64 q1, .int .i64 q2]), (bt, T43.cs { y with f1 := s9, f2 := s14, f3 := s19, f11 := s24 })] -> v.cell? ((⟨bq, 0, none⟩ : Addr).add ((2 : Int).toNat * 1)) = some (.int .i64 q2) := fun h => by rw [add_mk]; exact h.ld (i := 2) 1 rfl rfl
 have l1 : s9.l = t.lots.length := E.o1.len
 have l2 : s14.l = t.crit.length := E.o2.len
 have l3 : s19.l = t.reqs.length := E.o3.len
 refine cnd_beq.2 ⟨fun e => ?_, fun n0 => cnd_beq.2 ⟨fun e => ?_, fun n1 => cnd_beq.2 ⟨fun e => ?_, fun n2 => cnd_beq.2 ⟨fun e => ?_, fun n3 => cnd_beq.2 ⟨fun e => ?_, fun n4 => cnd_beq.2 ⟨fun e => ?_, fun n5 => cnd_beq.2 ⟨fun e => ?_, fun n6 => cnd_beq.2 ⟨fun e => ?_, fun n7 => cnd_beq.2 ⟨fun e => ?_, fun n8 => cnd_beq.2 ⟨fun e => ?_, fun n9 => cnd_beq.2 ⟨fun e => ?_, fun n10 => cnd_beq.2 ⟨fun e => ?_, fun n11 => by omega⟩⟩⟩⟩⟩⟩⟩⟩⟩⟩⟩⟩
 ·have hK : ∀ w' z Z, Fr F0 w w' -> TE w.heap.size w' z { t with lots := if h : n < t.lots.length then t.lots.set n (t.lots[n].1, wr64 (t.lots[n].2 + q2)) else t.lots } Z -> K z w' := hKc e
  refine ⟨s9, E.m.ld (i := 1) 2 rfl rfl, cnd_prop.2 ⟨fun hl => ?_, fun hl => ?_⟩⟩
  ·have hl : n < t.lots.length := by omega
   simp only [hl, dif_pos] at hK
   intro w31
   have E := E.fr (Fr.drew (F := F0))
   have E : EO w w31 _ bt bq b4 _ t := E
   clear_value w31
   refine ⟨fun v => v = w31, rfl, s9, fun v hv => by rw [hv]; exact E.m.ld (i := 1) 2 rfl rfl, s9, fun v hv => by rw [hv]; exact E.m.ld (i := 1) 2 rfl rfl, ?_⟩
   refine Vw.go encL_length (by decide) E.o1.vw n rfl hl fun a hc => ⟨_, fun v hv => by rw [hv]; exact hc 1 _ rfl, ⟨by decide, by decide⟩, _, fun v hv => by rw [hv]; exact hq2 E.m.2.1, ?_⟩
   exact Edit_put1 E (fun u h => let R := R.fr h; ⟨R.name, R.low, R.high, R.fm, R.most, R.combos, R.io, R.budget, R.t1, R.t2, R.t3, R.t4, R.t5⟩) hl (by decide) rfl hK
  ·have hl : ¬ n < t.lots.length := by omega
   simp only [hl, dif_neg, not_false_iff] at hK
   exact Edit_no E (fun u h => R.fr h) hK
 ·have hK : ∀ w' z Z, Fr F0 w w' -> TE w.heap.size w' z { t with crit := if h : n < t.crit.length then t.crit.set n { t.crit[n] with high := wr64 (t.crit[n].high + q2) } else t.crit } Z -> K z w' := hKc e
  refine ⟨s14, E.m.ld (i := 2) 2 rfl rfl, cnd_prop.2 ⟨fun hl => ?_, fun hl => ?_⟩⟩
  ·have hl : n < t.crit.length := by omega
   simp only [hl, dif_pos] at hK
   intro w31
   have E := E.fr (Fr.drew (F := F0))
   have E : EO w w31 _ bt bq b4 _ t := E
   clear_value w31
   refine ⟨fun v => v = w31, rfl, s14, fun v hv => by rw [hv]; exact E.m.ld (i := 2) 2 rfl rfl, s14, fun v hv => by rw [hv]; exact E.m.ld (i := 2) 2 rfl rfl, ?_⟩
   refine Vw.go encC_length (by decide) E.o2.vw n rfl hl fun a hc => ⟨_, fun v hv => by rw [hv]; exact hc 3 _ rfl, ⟨by decide, by decide⟩, _, fun v hv => by rw [hv]; exact hq2 E.m.2.1, ?_⟩
   exact Edit_put2 E (fun u h => let R := R.fr h; ⟨R.name, R.low, R.high, R.fm, R.most, R.combos, R.io, R.budget, R.t1, R.t2, R.t3, R.t4, R.t5⟩) hl (by decide) rfl hK
  ·have hl : ¬ n < t.crit.length := by omega
   simp only [hl, dif_neg, not_false_iff] at hK
   exact Edit_no E (fun u h => R.fr h) hK
 ·have hK : ∀ w' z Z, Fr F0 w w' -> TE w.heap.size w' z { t with reqs := if h : n < t.reqs.length then t.reqs.set n { t.reqs[n] with val := wr64 (t.reqs[n].val + q2) } else t.reqs } Z -> K z w' := hKc e
  refine ⟨s19, E.m.ld (i := 3) 2 rfl rfl, cnd_prop.2 ⟨fun hl => ?_, fun hl => ?_⟩⟩
  ·have hl : n < t.reqs.length := by omega
   simp only [hl, dif_pos] at hK
   intro w31
   have E := E.fr (Fr.drew (F := F0))
   have E : EO w w31 _ bt bq b4 _ t := E
   clear_value w31
   refine ⟨fun v => v = w31, rfl, s19, fun v hv => by rw [hv]; exact E.m.ld (i := 3) 2 rfl rfl, s19, fun v hv => by rw [hv]; exact E.m.ld (i := 3) 2 rfl rfl, ?_⟩
   refine Vw.go encR_length (by decide) E.o3.vw n rfl hl fun a hc => ⟨_, fun v hv => by rw [hv]; exact hc 2 _ rfl, ⟨by decide, by decide⟩, _, fun v hv => by rw [hv]; exact hq2 E.m.2.1, ?_⟩
   exact Edit_put3 E (fun u h => let R := R.fr h; ⟨R.name, R.low, R.high, R.fm, R.most, R.combos, R.io, R.budget, R.t1, R.t2, R.t3, R.t4, R.t5⟩) hl (by decide) rfl hK
  ·have hl : ¬ n < t.reqs.length := by omega
   simp only [hl, dif_neg, not_false_iff] at hK
   exact Edit_no E (fun u h => R.fr h) hK
 ·have hK : ∀ w' z Z, Fr F0 w w' -> TE w.heap.size w' z { t with high := wr64 (t.high + q2) } Z -> K z w' := hKc e
  refine ⟨_, E.m.ld (i := 5) 2 rfl rfl, ⟨by decide, by decide⟩, _, hq2 E.m.2.1, ?_⟩
  exact Edit_num (t' := { t with high := wr64 (t.high + q2) }) (z' := { y with f1 := s9, f2 := s14, f3 := s19, f11 := s24, f5 := wr64 (y.f5 + q2) }) E (by decide) (fun u h => let R := R.fr h; ⟨R.name, R.low, by show wr64 _ = _; rw [hy.high], R.fm, R.most, R.combos, R.io, R.budget, R.t1, R.t2, R.t3, R.t4, R.t5⟩) rfl rfl rfl rfl rfl rfl rfl rfl rfl hK
 ·have hK : ∀ w' z Z, Fr F0 w w' -> TE w.heap.size w' z { t with fm := .op 0 t.fm (.name (namP q2)) } Z -> K z w' := hKc e
  intro w63
  have E := E.fr (Fr.drew (F := F0))
  have E : EO w w63 _ bt bq b4 _ t := E
  clear_value w63
  refine ⟨fun v => Rs v [(b4, zT), (bq, [.int .i64 q0, .int .i64 q1, .int .i64 q2]), (bt, T43.cs { y with f1 := s9, f2 := s14, f3 := s19, f11 := s24 })], E.m.2.1, ?_⟩
  refine ⟨_, fun v hv => hv.ld (i := 6) 2 rfl rfl, _, fun v hv => hv.ld (i := 7) 2 rfl rfl, _, fun v hv => hv.ld (i := 8) 2 rfl rfl, _, fun v hv => hv.ld (i := 9) 2 rfl rfl, y.f10, fun v hv => hv.ld (i := 10) 2 rfl rfl, ⟨by decide, by decide⟩, _, fun v hv => hq2 hv, Edit_c4 E R hK⟩
 ·have hK : ∀ w' z Z, Fr F0 w w' -> TE w.heap.size w' z { t with ties := t.ties ++ [namP q2] } Z -> K z w' := hKc e
  intro w75
  have E := E.fr (Fr.drew (F := F0))
  have E : EO w w75 _ bt bq b4 _ t := E
  clear_value w75
  refine ⟨fun v => Rs v [(b4, zT), (bq, [.int .i64 q0, .int .i64 q1, .int .i64 q2]), (bt, T43.cs { y with f1 := s9, f2 := s14, f3 := s19, f11 := s24 })], E.m.2.1, s24, fun v hv => hv.ld (i := 11) 2 rfl rfl, ⟨by decide, by decide⟩, _, fun v hv => hq2 hv, ?_⟩
  refine Name_spec fun w79 hf => ⟨(E.fr hf).m.2.1, ?_⟩
  have E := E.fr hf
  intro w81
  have E' := E.fr (Fr.alloc (o := Obj.cells (encB (namP q2)).toArray 9))
  refine ⟨E'.m.2.1, E'.o4.app (m := [namP q2]) (Vw.new rfl rfl) encB_ok rfl (by simp; omega) (by simp; omega) fun s82 w83 ho hfr hs => ⟨?_, ?_⟩⟩
  ·exact (E'.m.frF hfr (fun p hp' hb => by
    have := E'.n p.1 (.inr (.inr (.inr hb)))
    simp only [List.mem_cons, List.not_mem_nil, or_false] at hp'
    rcases hp' with rfl | rfl | rfl <;> simp at this) fun b hb => (E'.n b (.inr (.inr (.inr hb)))).1).2.1
  ·exact Edit_set4 (l := t.ties ++ [namP q2]) E' (fun u h => let R := R.fr h; ⟨R.name, R.low, R.high, R.fm, R.most, R.combos, R.io, R.budget, R.t1, R.t2, R.t3, R.t4, R.t5⟩) hfr ho (fun s hs => (List.mem_append.1 hs).elim (hy'.tw.ne s) fun h => by rw [List.mem_singleton.1 h]; exact namP_ne q2) hs hK
 ·have hK : ∀ w' z Z, Fr F0 w w' -> TE w.heap.size w' z { t with most := wr64 (t.most + q2) } Z -> K z w' := hKc e
  refine ⟨_, E.m.ld (i := 12) 2 rfl rfl, ⟨by decide, by decide⟩, _, hq2 E.m.2.1, ?_⟩
  exact Edit_num (t' := { t with most := wr64 (t.most + q2) }) (z' := { y with f1 := s9, f2 := s14, f3 := s19, f11 := s24, f12 := wr64 (y.f12 + q2) }) E (by decide) (fun u h => let R := R.fr h; ⟨R.name, R.low, R.high, R.fm, by show wr64 _ = _; rw [hy.most], R.combos, R.io, R.budget, R.t1, R.t2, R.t3, R.t4, R.t5⟩) rfl rfl rfl rfl rfl rfl rfl rfl rfl hK
 ·have hK : ∀ w' z Z, Fr F0 w w' -> TE w.heap.size w' z { t with combos := t.combos ++ [[(n : Int), q2]] } Z -> K z w' := hKc e
  have hZ := hy'.oz.vw
  have hZl := hy'.tw.io.1
  have hZ2 : Z.length <= 2 ^ 20 := by omega
  intro w88
  have E := E.fr (Fr.drew (F := F0))
  have E : EO w w88 _ bt bq b4 _ t := E
  clear_value w88
  have hS : ∀ {v : World}, Fr F0 w88 v -> v.cell? (⟨bt, 13, none⟩ : Addr) = some (.slice y.f13.p y.f13.l y.f13.c) := fun f => (E.fr f).m.ld (i := 13) 2 rfl rfl
  have zv : ∀ {v : World}, Fr F0 w88 v -> Vw 1 encZ v y.f13 Z := fun f => hZ.fr (E.m.1.t f)
  have fin := fun {s : Sl} {ib : Nat} {u : World} (hm : Mk w88 1 encZ u s (Z ++ [⟨some ⟨ib, 0, none⟩, 2, 2⟩])) (hi : w88.heap.size <= ib) (hr : Row u ib [.int .i64 n, .int .i64 q2]) => Edit_fin7 E R hm hi hr hK
  refine ⟨fun v => Fr F0 w88 v, Fr.refl, y.f13, fun v hv => hS hv, ⟨by decide, by decide⟩, _, fun v hv => hq2 (E.fr hv).m.2.1, ?_, ?_⟩
  ·intro w92
   refine ⟨Fr.alloc, copy_spec (zv Fr.refl) encZ_ok rfl (by omega) (by omega) fun s93 w94 h1 => ⟨h1.fr0, ?_⟩, ?_⟩
   ·intro w95
    have r1 : Row w95 w94.heap.size [.int .i64 n, .int .i64 q2] := Row.new
    have f1 : Fr F0 w94 w95 := Fr.alloc
    have k1 := h1.fr0.1
    clear_value w95
    refine ⟨h1.fr0.t f1, ?_⟩
    intro w96
    have r2 : Row w96 w95.heap.size [.slice (some ⟨w94.heap.size, 0, none⟩) 2 2] := Row.new
    have f2 : Fr F0 w95 w96 := Fr.alloc
    clear_value w96
    refine ⟨h1.fr0.t (f1.t f2), combo_push (h1.fr (f1.t f2)) (f2.row r1 fun h => h) r2 (fun b hb e => by have := h1.ow.lt' hb; omega) hZ2 fun s97 w98 h2 hr => ⟨h2.fr0, fin h2 k1 hr⟩⟩
   ·intro w100
    have r0 : Row w92 w88.heap.size [] := Row.new (cs := [])
    have f0 : Fr F0 w88 w92 := Fr.alloc
    have r1 : Row w100 w92.heap.size [.int .i64 n, .int .i64 q2] := Row.new
    have f1 : Fr F0 w92 w100 := Fr.alloc
    have k0 := r0.lt
    have k1 := f1.1
    clear_value w100 w92
    refine ⟨f0.t f1, fun u u' h hs => hs.t h.f0, ⟨fun u => ExtL.alloc, trivial⟩, fun w101 e101 => ?_⟩
    have f2 := f0.t (f1.t e101.f0)
    have g2 := f2.1
    refine copy0 encZ_length ((f1.t e101.f0).row r0 fun h => h) (zv f2) encZ_ok rfl (by omega) (by omega) fun s102 w103 h1 f3 hs => ⟨f3.ext, fun w104 e104 w105 e105 _ g105 => ?_⟩
    have f4 := f3.t e104.f0
    have g3 := (f1.t e101.f0).1
    have hm : Mk w88 1 encZ w104 s102 Z := ⟨f2.t f4, h1.fr e104.f0, fun b hb => by rcases hs b hb with h | h <;> omega⟩
    have g4 := e101.f0.1
    have k4 := r1.lt
    refine combo_push hm ((e101.f0.t f4).row r1 fun h => h) (g105.f0.row (Row.new (cs := [.slice (some ⟨w92.heap.size, 0, none⟩) 2 2])) fun h => h) (fun b hb e => by rcases hs b hb with h | h <;> omega) hZ2 fun s97 w98 h2 hr => ⟨h2.fr0, fin h2 f0.1 hr⟩
  ·intro w109
   have r1 : Row w109 w88.heap.size [.int .i64 n, .int .i64 q2] := Row.new
   have f1 : Fr F0 w88 w109 := Fr.alloc
   have k0 := r1.lt
   clear_value w109
   refine ⟨f1, ?_, ?_⟩
   ·intro w110
    have r0 : Row w110 w109.heap.size [] := Row.new (cs := [])
    have f0 : Fr F0 w109 w110 := Fr.alloc
    have k1 := f0.1
    clear_value w110
    refine ⟨f1.t f0, fun u u' h hs => hs.t h.f0, ⟨fun u => ExtL.alloc, trivial⟩, fun w111 e111 => ?_⟩
    have f2 := f1.t (f0.t e111.f0)
    have g2 := f2.1
    refine copy0 encZ_length (e111.f0.row r0 fun h => h) (zv f2) encZ_ok rfl (by omega) (by omega) fun s112 w113 h1 f3 hs => ⟨f3.ext, fun w114 e114 w115 e115 _ g115 => ?_⟩
    have f4 := f3.t e114.f0
    have g4 := (f0.t e111.f0).1
    have hm : Mk w88 1 encZ w114 s112 Z := ⟨f2.t f4, h1.fr e114.f0, fun b hb => by rcases hs b hb with h | h <;> omega⟩
    refine combo_push hm ((f0.t (e111.f0.t f4)).row r1 fun h => h) (g115.f0.row (Row.new (cs := [.slice (some ⟨w88.heap.size, 0, none⟩) 2 2])) fun h => h) (fun b hb e => by rcases hs b hb with h | h <;> omega) hZ2 fun s97 w98 h2 hr => ⟨h2.fr0, fin h2 (Nat.le_refl _) hr⟩
   ·intro w119
    have r2 : Row w119 w109.heap.size [.slice (some ⟨w88.heap.size, 0, none⟩) 2 2] := Row.new
    have f2 : Fr F0 w109 w119 := Fr.alloc
    have k2 := f2.1
    clear_value w119
    refine ⟨f1.t f2, ?_⟩
    intro w120
    have f3 : Fr F0 w119 w120 := Fr.alloc
    refine ⟨f1.t (f2.t f3), copy_spec (zv (f1.t f2)) encZ_ok rfl (by omega) (by omega) fun s121 w122 h1 => ?_⟩
    have f5 := f2.t h1.fr0
    have hm : Mk w88 1 encZ w122 s121 Z := ⟨f1.t f5, h1.ow, fun b hb => by have := h1.nw b hb; omega⟩
    refine ⟨f1.t f5, combo_push hm (f5.row r1 fun h => h) (h1.fr0.row r2 fun h => h) (fun b hb e => by have := h1.nw b hb; omega) hZ2 fun s97 w98 h2 hr => ⟨h2.fr0, fin h2 (Nat.le_refl _) hr⟩⟩
 ·have hK : ∀ w' z Z, Fr F0 w w' -> TE w.heap.size w' z { t with budget := wr64 (t.budget + q2) } Z -> K z w' := hKc e
  refine ⟨_, E.m.ld (i := 14) 2 rfl rfl, ⟨by decide, by decide⟩, _, hq2 E.m.2.1, ?_⟩
  exact Edit_num (t' := { t with budget := wr64 (t.budget + q2) }) (z' := { y with f1 := s9, f2 := s14, f3 := s19, f11 := s24, f14 := wr64 (y.f14 + q2) }) E (by decide) (fun u h => let R := R.fr h; ⟨R.name, R.low, R.high, R.fm, R.most, R.combos, R.io, by show wr64 _ = _; rw [hy.budget], R.t1, R.t2, R.t3, R.t4, R.t5⟩) rfl rfl rfl rfl rfl rfl rfl rfl rfl hK
 ·have hK : ∀ w' z Z, Fr F0 w w' -> TE w.heap.size w' z { t with t2 := wr64 (t.t2 + q2) } Z -> K z w' := hKc e
  refine ⟨_, E.m.ld (i := 16) 2 rfl rfl, ⟨by decide, by decide⟩, _, hq2 E.m.2.1, ?_⟩
  exact Edit_num (t' := { t with t2 := wr64 (t.t2 + q2) }) (z' := { y with f1 := s9, f2 := s14, f3 := s19, f11 := s24, f16 := wr64 (y.f16 + q2) }) E (by decide) (fun u h => let R := R.fr h; ⟨R.name, R.low, R.high, R.fm, R.most, R.combos, R.io, R.budget, R.t1, by show wr64 _ = _; rw [hy.t2], R.t3, R.t4, R.t5⟩) rfl rfl rfl rfl rfl rfl rfl rfl rfl hK
 ·have hK : ∀ w' z Z, Fr F0 w w' -> TE w.heap.size w' z { t with lots := t.lots ++ [((n : Int), q2)] } Z -> K z w' := hKc e
  refine ⟨s9, E.m.ld (i := 1) 2 rfl rfl, ⟨by decide, by decide⟩, _, hq2 E.m.2.1, ?_⟩
  have E' := E.fr (Fr.alloc (o := Obj.cells (encL ((n : Int), q2)).toArray 66))
  exact E'.o1.app (m := [((n : Int), q2)]) (Vw.new rfl rfl) encL_ok rfl (by simp; omega) (by simp; omega) fun s82 w83 ho hfr hs =>
   Edit_set1 (l := t.lots ++ [((n : Int), q2)]) E' (fun u h => let R := R.fr h; ⟨R.name, R.low, R.high, R.fm, R.most, R.combos, R.io, R.budget, R.t1, R.t2, R.t3, R.t4, R.t5⟩) hfr ho hs hK
 ·have hK : ∀ w' z Z, Fr F0 w w' -> TE w.heap.size w' z { t with crit := if n < t.crit.length then t.crit.take n ++ t.crit.drop (n + 1) else t.crit } Z -> K z w' := hKc e
  refine ⟨s14, E.m.ld (i := 2) 2 rfl rfl, cnd_prop.2 ⟨fun hl => ?_, fun hl => ?_⟩⟩
  ·have hl : n < t.crit.length := by omega
   simp only [hl, if_true] at hK
   intro w139
   have E := E.fr (Fr.drew (F := F0))
   have E : EO w w139 _ bt bq b4 _ t := E
   clear_value w139
   have cap := E.o2.vw.cap
   have ew : IntKind.wrap .i64 ((n : Int) + 1) = ((n + 1 : Nat) : Int) := by rw [wrap64_in (by omega) (by omega)]; omega
   rw [ew]
   refine ⟨fun v => Rs v [(b4, zT), (bq, [.int .i64 q0, .int .i64 q1, .int .i64 q2]), (bt, T43.cs { y with f1 := s9, f2 := s14, f3 := s19, f11 := s24 })], E.m.2.1, s14, fun v hv => hv.ld (i := 2) 2 rfl rfl, ⟨by decide, by omega, by simp only at cap l2 ⊢; omega⟩, s14, fun v hv => hv.ld (i := 2) 2 rfl rfl, ⟨by omega, by simp only at cap l2 ⊢; omega⟩, ?_⟩
   intro w143
   have E' := E.fr (Fr.alloc (o := Obj.cells #[] 64))
   refine ⟨E'.m.2.1, copy_spec (E.o2.vw.take encC_length (j := n) (by omega)) encC_ok rfl (by simp; omega) (by simp; omega) fun s144 w145 h5 => ⟨(E.fr h5.fr0).m.2.1, ?_⟩⟩
   refine h5.app ((E.fr h5.fr0).o2.vw.drop encC_length (j := n + 1) (by omega)) encC_ok rfl (by simp; omega) (by simp; omega) fun s146 w147 h6 _ => ⟨(E.fr h6.fr0).m.2.1, ?_⟩
   exact Edit_set2 (l := t.crit.take n ++ t.crit.drop (n + 1)) E (fun u h => let R := R.fr h; ⟨R.name, R.low, R.high, R.fm, R.most, R.combos, R.io, R.budget, R.t1, R.t2, R.t3, R.t4, R.t5⟩) (h6.fr0.mono fun _ h => h.elim) h6.ow (fun b hb => .inr (h6.nw b hb)) hK
  ·have hl : ¬ n < t.crit.length := by omega
   simp only [hl, if_false] at hK
   exact Edit_no E (fun u h => R.fr h) hK
end
end Go.Proofs.YtfkmpbpkahcogaaGreatDoor
namespace Go.Proofs.YtfkmpbpkahcogaaGreatDoor
open Go Pw Dp
section
variable {w w' u : World} {x y : T43} {t : Td} {F : Nat -> Prop} {Z : List Sl}
theorem Ow.frY {α : Type} {n : Nat} {enc : α -> List Value} {s : Sl} {l : List α} (h : Ow n enc w s l) (hn : ∀ a, (enc a).length = n) (hF : ∀ b, F b -> ∃ y : T43, Row w b y.cs /\ ∀ a ∈ l, enc a ≠ y.cs.take n) (hF' : ∀ b, F b -> ∃ y : T43, Row w' b y.cs) (hf : Fr F w w') : Ow n enc w' s l := by
 cases l with
 | nil =>
  refine ⟨h.len, by simpa using h.own.1, ?_⟩
  rcases h.own.2 with h1 | ⟨b, cs, h1, h2, h3, h4, h5⟩
  ·exact .inl h1
  ·by_cases hb : F b
   ·obtain ⟨y, hy, _⟩ := hF b hb
    obtain ⟨y', hy'⟩ := hF' b hb
    have := h2.uniq2 hy
    exact .inr ⟨b, y'.cs, h1, hy', by rw [← h3, this]; rfl, h4, rfl⟩
   ·exact .inr ⟨b, cs, h1, hf.row h2 hb, h3, h4, h5⟩
 | cons a l =>
  refine h.frF hf fun b hb hFb => ?_
  obtain ⟨y, hy, hc⟩ := hF b hFb
  rcases h.own.2 with ⟨h1, _, _⟩ | ⟨b', cs, h1, h2, _, _, h5⟩
  ·obtain ⟨ad, ha, _⟩ := hb
   rw [h1] at ha
   cases ha
  ·obtain ⟨ad, ha, rfl⟩ := hb
   rw [h1] at ha
   cases ha
   have := h2.uniq hy
   subst this
   refine hc a (List.mem_cons_self ..) ?_
   have h6 := congrArg (List.take n) h5
   rw [List.take_take, Nat.min_eq_left (by rw [fm_length hn]; simp only [List.length_cons, Nat.add_mul]; omega)] at h6
   rw [h6, List.flatMap_cons, ← hn a, List.take_left]
theorem XQ.frY {P : Nat -> Prop} (hF : ∀ b, F b -> ∃ y : T43, Row w b y.cs) (hf : Fr F w w') : ∀ {e : Fm} {c : XC}, XQ P w e c -> XQ P w' e c
 | .num _ _, _, h => h
 | .name _, _, h => h
 | .op _ _ _, _, ⟨ca, cb, i, h1, h2, h5, hi, h3, h4⟩ => ⟨ca, cb, i, h1, h2, hf.row h5 fun hb => by
   obtain ⟨y, hy⟩ := hF _ hb
   exact absurd (hy.uniq2 h5) (by show ¬ (20 : Nat) = 10; decide), hi, h3.frY hF hf, h4.frY hF hf⟩
theorem TP0.fr (h : TP0 w x t) (hf : Fr F0 w w') : TP0 w' x t :=
 { h with lots := h.lots.fr hf, crit := h.crit.fr hf, reqs := h.reqs.fr hf, fm := h.fm.fr hf, ties := h.ties.fr hf }
theorem TW.fr (h : TW w x t Z) (hf : Fr F0 w w') : TW w' x t Z :=
 ⟨h.tp.fr hf, h.o1.fr hf, h.o2.fr hf, h.o3.fr hf, h.o4.fr hf, h.fm.imp fun _ hx => hx.frE hf, h.ne, h.io.fr hf⟩
theorem TE.fr {lo : Nat} (h : TE lo w x t Z) (hf : Fr F0 w w') : TE lo w' x t Z := ⟨h.tw.fr hf, h.oz.fr hf, h.nw⟩
theorem TW.ro (h : TW w x t Z) (ho : Ow 1 encZ w x.f13 Z) : RS0 w x t Z :=
 ⟨h.tp.name, h.tp.low, h.tp.high, h.fm, h.tp.most, ho, h.io, h.tp.budget, h.tp.t1, h.tp.t2, h.tp.t3, h.tp.t4, h.tp.t5⟩
theorem RS0.frY (h : RS0 w x t Z) (hF : ∀ b, F b -> ∃ y : T43, Row w b y.cs) (hF' : ∀ b, F b -> ∃ y : T43, Row w' b y.cs) (hf : Fr F w w') : RS0 w' x t Z :=
 { h with
  fm := h.fm.imp fun _ hx => hx.frY hF hf
  combos := Ow.frY h.combos encZ_length (fun b hb => let ⟨y, hy⟩ := hF b hb; ⟨y, hy, fun a _ e => by simp [encZ, T43.cs] at e⟩) hF' hf
  io := ⟨h.io.1, fun i a b => Ow.frY (h.io.2 i a b) encI_length (fun b hb => let ⟨y, hy⟩ := hF b hb; ⟨y, hy, fun a _ e => by simp [encI, T43.cs] at e⟩) hF' hf⟩ }
theorem TE.frB {lo : Nat} (h : TE lo w x t Z) (hlo : ∀ b, F b -> b < lo) (hF : ∀ b, F b -> ∃ y : T43, Row w b y.cs) (hF' : ∀ b, F b -> ∃ y : T43, Row w' b y.cs) (hf : Fr F w w') : TE lo w' x t Z := by
 have hn := h.nw
 refine TE.of ((h.tw.ro h.oz).frY hF hF' hf) (h.tw.o1.frF hf fun b hb e => ?_) (h.tw.o2.frF hf fun b hb e => ?_) (h.tw.o3.frF hf fun b hb e => ?_) (h.tw.o4.frF hf fun b hb e => ?_) h.tw.ne hn
 ·have := hn b (.inl hb); have := hlo b e; omega
 ·have := hn b (.inr (.inl hb)); have := hlo b e; omega
 ·have := hn b (.inr (.inr (.inl hb))); have := hlo b e; omega
 ·have := hn b (.inr (.inr (.inr hb))); have := hlo b e; omega
def zR : T43 := ⟨ofL [], ⟨none, 0, 0⟩, ⟨none, 0, 0⟩, ⟨none, 0, 0⟩, 0, 0, ofL [], 0, 0, ofL [], ⟨none, 0, 0⟩, ⟨none, 0, 0⟩, 0, ⟨none, 0, 0⟩, 0, 0, 0, 0, 0, 0⟩
theorem TW.frZ (h : TW w x t Z) (ho : Ow 1 encZ w x.f13 Z) (hF : ∀ b, F b -> Row w b zT) (hF' : ∀ b, F b -> ∃ y : T43, Row w' b y.cs) (hf : Fr F w w') : TE 0 w' x t Z := by
 have hY : ∀ b, F b -> ∃ y : T43, Row w b y.cs := fun b hb => ⟨zR, hF b hb⟩
 refine TE.of ((h.ro ho).frY hY hF' hf) (Ow.frY h.o1 encL_length (fun b hb => ⟨zR, hF b hb, fun a _ e => ?_⟩) hF' hf) (Ow.frY h.o2 encC_length (fun b hb => ⟨zR, hF b hb, fun a _ e => ?_⟩) hF' hf)
  (Ow.frY h.o3 encR_length (fun b hb => ⟨zR, hF b hb, fun a _ e => ?_⟩) hF' hf) (Ow.frY h.o4 encB_length (fun b hb => ⟨zR, hF b hb, fun a ha e => ?_⟩) hF' hf) h.ne fun _ _ => Nat.zero_le _
 ·simp [encL, T43.cs] at e
 ·simp [encC, T43.cs] at e
 ·simp [encR, T43.cs] at e
 ·simp [encB, zR, T43.cs] at e
  exact h.ne a ha (ofL_inj.1 e)
structure TD (D : Nat -> Prop) (w : World) (x : T43) (t : Td) (Z : List Sl) : Prop where
 tw : TW w x t Z
 oz : Ow 1 encZ w x.f13 Z
 dv : ∀ b, D b -> (t.lots ≠ [] -> ¬ inB x.f1 b) /\ (t.crit ≠ [] -> ¬ inB x.f2 b) /\ (t.reqs ≠ [] -> ¬ inB x.f3 b) /\ (t.ties ≠ [] -> ¬ inB x.f11 b)
theorem TD.te {D : Nat -> Prop} (h : TD D w x t Z) : TE 0 w x t Z := ⟨h.tw, h.oz, fun _ _ => Nat.zero_le _⟩
theorem TD.tp {D : Nat -> Prop} (h : TD D w x t Z) : TP w x t := h.te.tp
theorem TD.fr {D : Nat -> Prop} (h : TD D w x t Z) (hf : Fr F0 w w') : TD D w' x t Z := ⟨h.tw.fr hf, h.oz.fr hf, h.dv⟩
theorem Ow.frD {α : Type} {n : Nat} {enc : α -> List Value} {s : Sl} {l : List α} (h : Ow n enc w s l) (hn : ∀ a, (enc a).length = n) (hd : l ≠ [] -> ∀ b, F b -> ¬ inB s b) (hF : ∀ b, F b -> ∃ y : T43, Row w b y.cs) (hF' : ∀ b, F b -> ∃ y : T43, Row w' b y.cs) (hf : Fr F w w') : Ow n enc w' s l := by
 cases l with
 | nil => exact Ow.frY h hn (fun b hb => let ⟨y, hy⟩ := hF b hb; ⟨y, hy, fun a ha => by cases ha⟩) hF' hf
 | cons a l => exact h.frF hf fun b hb hFb => hd (by simp) b hFb hb
theorem TD.frB {D : Nat -> Prop} (h : TD D w x t Z) (hD : ∀ b, F b -> D b) (hF : ∀ b, F b -> ∃ y : T43, Row w b y.cs) (hF' : ∀ b, F b -> ∃ y : T43, Row w' b y.cs) (hf : Fr F w w') : TD D w' x t Z := by
 have k := TE.of (lo := 0) ((h.tw.ro h.oz).frY hF hF' hf) (Ow.frD h.tw.o1 encL_length (fun hl b hb => (h.dv b (hD b hb)).1 hl) hF hF' hf) (Ow.frD h.tw.o2 encC_length (fun hl b hb => (h.dv b (hD b hb)).2.1 hl) hF hF' hf)
  (Ow.frD h.tw.o3 encR_length (fun hl b hb => (h.dv b (hD b hb)).2.2.1 hl) hF hF' hf) (Ow.frD h.tw.o4 encB_length (fun hl b hb => (h.dv b (hD b hb)).2.2.2 hl) hF hF' hf) h.tw.ne fun _ _ => Nat.zero_le _
 exact ⟨k.tw, k.oz, h.dv⟩
theorem Ow.noZ {α : Type} {n b : Nat} {enc : α -> List Value} {s : Sl} {l : List α} (h : Ow n enc w s l) (hn : ∀ a, (enc a).length = n) (hc : ∀ a ∈ l, enc a ≠ zT.take n) (hr : Row w b zT) (hl : l ≠ []) : ¬ inB s b := by
 intro hb
 cases l with
 | nil => exact hl rfl
 | cons a l =>
  rcases h.own.2 with ⟨h1, _, _⟩ | ⟨b', cs, h1, h2, _, _, h5⟩
  ·obtain ⟨ad, ha, _⟩ := hb
   rw [h1] at ha
   cases ha
  ·obtain ⟨ad, ha, rfl⟩ := hb
   rw [h1] at ha
   cases ha
   have := h2.uniq hr
   subst this
   refine hc a (List.mem_cons_self ..) ?_
   have h6 := congrArg (List.take n) h5
   rw [List.take_take, Nat.min_eq_left (by rw [fm_length hn]; simp only [List.length_cons, Nat.add_mul]; omega)] at h6
   rw [h6, List.flatMap_cons, ← hn a, List.take_left]
theorem TW.dvZ (h : TW w x t Z) {b : Nat} (hr : Row w b zT) : (t.lots ≠ [] -> ¬ inB x.f1 b) /\ (t.crit ≠ [] -> ¬ inB x.f2 b) /\ (t.reqs ≠ [] -> ¬ inB x.f3 b) /\ (t.ties ≠ [] -> ¬ inB x.f11 b) := by
 refine ⟨Ow.noZ h.o1 encL_length (fun a _ e => ?_) hr, Ow.noZ h.o2 encC_length (fun a _ e => ?_) hr, Ow.noZ h.o3 encR_length (fun a _ e => ?_) hr, Ow.noZ h.o4 encB_length (fun a ha e => ?_) hr⟩
 ·simp [encL, zT, T43.cs] at e
 ·simp [encC, zT, T43.cs] at e
 ·simp [encR, zT, T43.cs] at e
 ·simp [encB, zT, T43.cs] at e
  exact h.ne a ha (ofL_inj.1 e)
theorem two_box {b1 b2 : Nat} {r1 r2 : T43} {t1 t2 : Td} {Z1 Z2 : List Sl} {S J : World -> Prop} (h1 : Row w b1 zT) (h2 : Row w b2 zT) (hne : b1 ≠ b2) (T1 : TW w r1 t1 Z1) (O1 : Ow 1 encZ w r1.f13 Z1) (T2 : TW w r2 t2 Z2) (O2 : Ow 1 encZ w r2.f13 Z2)
  (hS : ∀ u, Fr (fun c => c = b1) w u -> S u) (hJ : ∀ u, Fr (fun c => c = b1 \/ c = b2) w u -> Row u b1 r1.cs -> Row u b2 r2.cs -> TD (fun c => c = b1 \/ c = b2) u r1 t1 Z1 -> TD (fun c => c = b1 \/ c = b2) u r2 t2 Z2 -> J u) : stN w ⟨b1, 0, none⟩ r1.cs fun w18 => S w18 /\ stN w18 ⟨b2, 0, none⟩ r2.cs J := by
 refine stN_fr h1 rfl fun w18 f18 q1 => ⟨hS w18 f18, ?_⟩
 refine stN_fr (f18.row h2 fun e => hne e.symm) rfl fun w19 f19 q2 => ?_
 have f : Fr (fun c => c = b1 \/ c = b2) w w19 := (f18.mono fun _ h => .inl h).trans f19 fun _ h _ => .inr h
 have hF : ∀ b, b = b1 \/ b = b2 -> Row w b zT := by rintro b (rfl | rfl) <;> assumption
 have q1 := f19.row q1 hne
 have hF' : ∀ b, b = b1 \/ b = b2 -> ∃ y : T43, Row w19 b y.cs := by
  rintro b (rfl | rfl)
  ·exact ⟨_, q1⟩
  ·exact ⟨_, q2⟩
 have e1 := T1.frZ O1 hF hF' f
 have e2 := T2.frZ O2 hF hF' f
 exact hJ w19 f q1 q2 ⟨e1.tw, e1.oz, fun b hb => T1.dvZ (hF b hb)⟩ ⟨e2.tw, e2.oz, fun b hb => T2.dvZ (hF b hb)⟩
theorem edit_store {b k lo : Nat} {q0 q1 q2 : Int} {J : World -> Prop} (hr : Row w b x.cs) (hT : TE lo w x t Z) (hF : FitK (k + 1) t) (hJ : ∀ u x' Z', Fr (fun c => c = b) w u -> Row u b x'.cs -> TE w.heap.size u x' (editP t q0 q1 q2) Z' -> J u) :
  z1i_sh x q0 q1 q2 (fun r w40 => stN w40 ⟨b, 0, none⟩ r.cs J) w := by
 refine Edit_spec hT hF fun w40 r Z' f40 U => ?_
 have hr40 := f40.row hr fun h => h
 refine stN_fr hr40 rfl fun w42 f42 hr42 => ?_
 have hb := hr.lt
 refine hJ w42 r Z' ((f40.mono fun _ h => h.elim).trans f42 fun _ h _ => h) hr42 (U.frB (F := fun c => c = b) (fun c hc => by rw [show c = b from hc]; exact hb) (fun c hc => ⟨x, by rw [show c = b from hc]; exact hr40⟩) (fun c hc => ⟨r, by rw [show c = b from hc]; exact hr42⟩) f42)
end
end Go.Proofs.YtfkmpbpkahcogaaGreatDoor
