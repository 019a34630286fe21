/- The reference's Made: a formula of numbers. Conditions: none. -/
import Derived.Test.YtfkmpbpkahcogaaGreatDoorDR1
import Derived.Test.YtfkmpbpkahcogaaGreatDoorRXY
import Derived.Test.YtfkmpbpkahcogaaGreatDoorDG3
namespace Pw
open Go
theorem Rests.row {b : Nat} {vs : List Value} : Rests (fun c => c = b) (fun w => Row w b vs) := fun _ _ he h => h.congr (he b rfl)
theorem Sp.bury {α : Type} {n : Nat} {enc : α -> List Value} {w0 w : World} {s : Sl} {l : List α} {L : List (Nat × List Value)} {B : Nat -> Prop} {Q : World -> Prop} {b : Nat} {vs : List Value} (h : Sp w0 w ((b, vs) :: L) B Q n enc s l) :
  Sp w0 w L (fun c => B c \/ c = b) (fun w => Q w /\ Row w b vs) n enc s l := by
 have hp := h.m.2.2.1
 simp only [List.map_cons, List.pairwise_cons, List.mem_map] at hp
 refine ⟨h.m.dr 1 rfl, h.rs.and Rests.row, ⟨h.q, h.row 0 rfl⟩, fun c hc => ?_, h.ow, fun c hc => ⟨(h.os c hc).1, fun hc' => ?_, fun p hp => (h.os c hc).2.2 p (List.mem_cons_of_mem _ hp)⟩⟩
 ·rcases hc with hc | rfl
  ·exact ⟨(h.ap c hc).1, (h.ap c hc).2.1, fun p hp => (h.ap c hc).2.2 p (List.mem_cons_of_mem _ hp)⟩
  ·exact ⟨(h.row 0 rfl).lt, h.m.2.2.2 _ (List.mem_cons_self ..), fun p hp' e => by have := hp.1 p.1 ⟨p, hp', rfl⟩; omega⟩
 ·rcases hc' with hc' | rfl
  ·exact (h.os c hc).2.1 hc'
  ·exact (h.os c hc).2.2 _ (List.mem_cons_self ..) rfl
theorem sub0 (p : Option Addr) (c n : Nat) : subP p 0 c n = p := by
 unfold subP
 split
 ·rfl
 ·cases p with
  | none => rfl
  | some a => simp [Addr.add]
theorem Ow.take {α : Type} {n : Nat} {enc : α -> List Value} {w : World} {s : Sl} {l : List α} (h : Ow n enc w s l) (hn : ∀ a, (enc a).length = n) {j : Nat} (hj : j <= l.length) : Ow n enc w ⟨subP s.p 0 s.c n, j - 0, s.c - 0⟩ (l.take j) := by
 have hl := h.len
 rw [sub0]
 have hlen : ((l.take j).flatMap enc).length = j * n := by rw [fm_length hn]; simp; rw [Nat.min_eq_left hj]
 refine ⟨by simp; omega, by simpa using hlen, ?_⟩
 rcases h.own.2 with ⟨h1, h2, h3⟩ | ⟨b, cs, h1, h2, h3, h4, h5⟩
 ·exact .inl ⟨h1, by simp; omega, by simpa using h3⟩
 ·refine .inr ⟨b, cs, h1, h2, by simpa using h3, by simp; omega, ?_⟩
  have h6 : l.flatMap enc = (l.take j).flatMap enc ++ (l.drop j).flatMap enc := by rw [← List.flatMap_append, List.take_append_drop]
  rw [h6] at h5
  have := congrArg (List.take ((l.take j).flatMap enc).length) h5
  rw [List.take_take, List.take_left, Nat.min_eq_left (by simp)] at this
  exact this
theorem Sp.take {α : Type} {n : Nat} {enc : α -> List Value} {w0 w : World} {s : Sl} {l : List α} {L : List (Nat × List Value)} {B : Nat -> Prop} {Q : World -> Prop} (h : Sp w0 w L B Q n enc s l) (hn : ∀ a, (enc a).length = n) {j : Nat} (hj : j <= l.length) : Sp w0 w L B Q n enc ⟨subP s.p 0 s.c n, j - 0, s.c - 0⟩ (l.take j) :=
 ⟨h.m, h.rs, h.q, h.ap, h.ow.take hn hj, fun b hb => h.os b (by rw [sub0] at hb; exact hb)⟩
end Pw
namespace Dp
open Go Pw
def names4 : List B := [[112, 114, 105, 99, 101], [108, 111, 119], [113, 117, 97, 108, 105, 116, 121], [100, 97, 121, 115]]
def opsB : List B := [[43], [45], [42], [47], wMin, wMax]
def opN (n : Int) : Fin 6 := ⟨(Int.tmod n 6).toNat, by have := Int.tmod_lt_of_pos n (b := 6) (by decide); omega⟩
end Dp
namespace Go.Proofs.YtfkmpbpkahcogaaGreatDoor
open Go Pw Dp
def madeNum (r : Int) : Fm := .num (makeQ (Int.tmod r 13 - 3) (1 + Int.tmod (Int.tdiv r 13) 4)).n (makeQ (Int.tmod r 13 - 3) (1 + Int.tmod (Int.tdiv r 13) 4)).d
def madeOp (st : List Fm) (r : Int) : List Fm :=
 if h : 1 < st.length then st.take (st.length - 2) ++ [.op (opN r) st[st.length - 2] st[st.length - 1]] else st
def madeStep (st : List Fm) (x : Int) : List Fm :=
 let n := modP x 1000
 let r := Int.tdiv n 10
 let c := Int.tmod n 10
 if c = 0 \/ c = 1 then st ++ [madeNum r] else if c = 2 \/ c = 3 \/ c = 4 then st ++ [.name (names4.getD (Int.tmod r 4).toNat [])] else madeOp st r
def madeF (l : List Int) : Fm := match (l.take 80).foldl madeStep [] with
 | [] => .name wPrice
 | e :: r => r.foldl (fun a b => .op 0 a b) e
theorem madeOp_len (st : List Fm) (r : Int) : (madeOp st r).length <= st.length := by
 unfold madeOp
 split
 ·simp; omega
 ·omega
theorem madeStep_len (st : List Fm) (x : Int) : (madeStep st x).length <= st.length + 1 := by
 unfold madeStep
 simp only
 split
 ·simp
 ·split
  ·simp
  ·have := madeOp_len st (Int.tdiv (modP x 1000) 10); omega
theorem foldl_take {α β : Type} (f : β -> α -> β) (b : β) (l : List α) {i : Nat} (hi : i < l.length) : (l.take (i + 1)).foldl f b = f ((l.take i).foldl f b) l[i] := by
 rw [List.take_add_one, List.getElem?_eq_getElem hi, Option.toList_some, List.foldl_append, List.foldl_cons, List.foldl_nil]
theorem made_len (l : List Int) : ∀ st : List Fm, (l.foldl madeStep st).length <= st.length + l.length := by
 induction l with
 | nil => intro st; simp
 | cons x l ih => intro st; have := ih (madeStep st x); have := madeStep_len st x; simp only [List.foldl_cons, List.length_cons]; omega
def XQ (P : Nat -> Prop) (w : World) : Fm -> XC -> Prop
 | .op o a b, c => ∃ ca cb i, (c.op = ofL (opB o) /\ c.n = 0 /\ c.d = 0 /\ c.nm = ofL []) /\ c.a = ⟨some ⟨i, 0, none⟩, 2, 2⟩ /\ Row w i ([ca, cb].flatMap encX) /\ P i /\ XQ P w a ca /\ XQ P w b cb
 | .num n d, c => XP w (.num n d) c
 | .name s, c => XP w (.name s) c
theorem pairX {w : World} {i : Nat} {ca cb : XC} (h : Row w i ([ca, cb].flatMap encX)) : Vw 5 encX w ⟨some ⟨i, 0, none⟩, 2, 2⟩ [ca, cb] := (Row.ow encX_length (l := [ca, cb]) h).vw
section
variable {P P' : Nat -> Prop} {w w' u : World} {s s' : Sl} {x : T43}
theorem XQ.xp : ∀ {e : Fm} {c : XC}, XQ P w e c -> XP w e c
 | .num _ _, _, h => h
 | .name _, _, h => h
 | .op _ _ _, _, ⟨ca, cb, _, h1, h2, h5, _, h3, h4⟩ => ⟨ca, cb, h1, by rw [h2]; exact pairX h5, h3.xp, h4.xp⟩
theorem XQ.mono (hp : ∀ b, P b -> P' b) : ∀ {e : Fm} {c : XC}, XQ P w e c -> XQ P' w e c
 | .num _ _, _, h => h
 | .name _, _, h => h
 | .op _ _ _, _, ⟨ca, cb, i, h1, h2, h5, hi, h3, h4⟩ => ⟨ca, cb, i, h1, h2, h5, hp i hi, h3.mono hp, h4.mono hp⟩
theorem XQ.go (he : ∀ b, P b -> w'.heap[b]? = w.heap[b]?) : ∀ {e : Fm} {c : XC}, XQ P w e c -> XQ P w' e c
 | .num _ _, _, h => h
 | .name _, _, h => h
 | .op _ _ _, _, ⟨ca, cb, i, h1, h2, h5, hi, h3, h4⟩ => ⟨ca, cb, i, h1, h2, h5.congr (he i hi), hi, h3.go he, h4.go he⟩
theorem XQ.rests (e : Fm) (c : XC) : Rests P (fun w => XQ P w e c) := fun _ _ he h => h.go he
def SQ (P : Nat -> Prop) (w : World) (cs : List XC) (es : List Fm) : Prop := cs.length = es.length /\ ∀ i (h : i < cs.length) (h' : i < es.length), XQ P w es[i] cs[i]
theorem SQ.rests (cs : List XC) (es : List Fm) : Rests P (fun w => SQ P w cs es) := fun _ _ he h => ⟨h.1, fun i a b => (h.2 i a b).go he⟩
theorem SQ.mono (hp : ∀ b, P b -> P' b) {cs : List XC} {es : List Fm} (h : SQ P w cs es) : SQ P' w cs es := ⟨h.1, fun i a b => (h.2 i a b).mono hp⟩
theorem SQ.nil : SQ P w [] [] := ⟨rfl, fun i h => absurd h (by simp)⟩
theorem SQ.take {cs : List XC} {es : List Fm} (h : SQ P w cs es) (j : Nat) : SQ P w (cs.take j) (es.take j) :=
 ⟨by rw [List.length_take, List.length_take, h.1], fun i a b => by rw [List.getElem_take, List.getElem_take]; exact h.2 i _ _⟩
theorem SQ.push {cs : List XC} {es : List Fm} {c : XC} {e : Fm} (h : SQ P w cs es) (hx : XQ P w e c) : SQ P w (cs ++ [c]) (es ++ [e]) := by
 refine ⟨by simp [h.1], fun i a b => ?_⟩
 rcases Nat.lt_or_ge i cs.length with hi | hi
 ·rw [List.getElem_append_left hi, List.getElem_append_left (by rw [← h.1]; exact hi)]
  exact h.2 i _ _
 ·have hj : i = cs.length := by simp at a; omega
  subst hj
  have h1 := h.1
  rw [List.getElem_append_right (Nat.le_refl _), List.getElem_append_right (by omega)]
  simpa [h.1] using hx
theorem XQ.nam {s : B} (h : s.length <= 2 ^ 20) : XQ P w (.name s) ⟨ofL wName, 0, 0, ofL s, ⟨none, 0, 0⟩⟩ := ⟨rfl, h⟩
theorem makeQ_I64 (n d : Int) : I64 (makeQ n d).n /\ I64 (makeQ n d).d := by
 unfold makeQ
 split
 ·exact ⟨⟨by decide, by decide⟩, ⟨by decide, by decide⟩⟩
 ·exact fitQ_I64 _
theorem opB_at (o : Fin 6) : opsB[o.val]? = some (opB o) := by
 revert o; decide
def mdL (ob tb : Nat) : List (Nat × List Value) := [(ob, opsB.flatMap encB), (tb, encX ⟨ofL [], 0, 0, ofL [], ⟨none, 0, 0⟩⟩)]
theorem opsMd {ob : Nat} {i : Int} {K : ByteArray -> Prop} {S : World -> Prop} (hS : ∀ u, S u -> Row u ob (opsB.flatMap encB)) (h0 : 0 <= i) (h1 : i < 6) (hK : K (ofL (opB ⟨i.toNat, by omega⟩))) :
  (0 <= i /\ i < ((6 : Nat) : Int)) /\ ∃ x : ByteArray, (∀ w' : World, S w' -> w'.cell? ((⟨ob, 0, none⟩ : Addr).add (i.toNat * 1)) = some (Value.string x)) /\ K x := by
 refine ⟨⟨h0, h1⟩, _, fun u hu => str_at (l := opsB) (n := 6) (hS u hu) h0 rfl h1, ?_⟩
 have := opB_at ⟨i.toNat, by omega⟩
 rw [List.getD_eq_getElem?_getD, this]
 exact hK
section
variable {w0 w : World} {P : Nat -> Prop} {st ls ops : Sl} {cs : List XC} {es : List Fm} {ob tb : Nat} {t2 : Addr} {k r : Int} {N : Sl -> Addr -> Sl -> Sl -> Int -> World -> Prop} {K : ByteArray -> Int -> Int -> ByteArray -> Sl -> World -> Prop}
theorem Made_k1_spec (h : Sp w0 w (mdL ob tb) P (fun u => SQ P u cs es) 5 encX st cs) (hl : cs.length <= 2 ^ 20) (hr : 0 <= r /\ r < 100) (hk : 0 <= k /\ k < 2 ^ 40)
  (hN : ∀ u st' cs' P', Sp w0 u (mdL ob tb) P' (fun u => SQ P' u cs' (es ++ [madeNum r])) 5 encX st' cs' -> N ls t2 st' ops (k + 1) u) : z1f_k1 ls t2 st ops k r N K w := by
 have a1 := Int.tmod_lt_of_pos r (b := 13) (by decide)
 have a2 := Int.tmod_nonneg (a := r) 13 hr.1
 have b1 := Int.tmod_lt_of_pos (Int.tdiv r 13) (b := 4) (by decide)
 have b0 : 0 <= Int.tdiv r 13 := Int.tdiv_nonneg hr.1 (by decide)
 have b3 : Int.tdiv r 13 <= r := Int.tdiv_le_self 13 hr.1
 have b2 := Int.tmod_nonneg (a := Int.tdiv r 13) 4 b0
 refine ⟨?_⟩
 unfold z1f_k1d
 refine ⟨by decide, inR64 (by omega) (by omega), by decide, inR64 (by omega) (by omega), by decide, inR64 (by omega) (by omega), ?_⟩
 refine rMake_spec (by unfold I64; omega) (by unfold I64; omega) fun w7 f7 => ?_
 simp -zeta only [Kr]
 have h := h.fr f7
 intro w10
 have h : Sp w0 w10 ((w7.heap.size, _) :: mdL ob tb) P _ 5 encX st cs := h.allocL (vs := [.int .i64 0, .int .i64 0])
 clear_value w10
 refine ⟨h.wr 0 rfl rfl, ?_⟩
 intro w11
 have h : Sp w0 w11 ((w7.heap.size, [_, _]) :: mdL ob tb) P _ 5 encX st cs := h.set 0 rfl
 clear_value w11
 refine ⟨h.wr 0 rfl rfl, ?_⟩
 intro w12
 have h : Sp w0 w12 ((w7.heap.size, [_, _]) :: mdL ob tb) P _ 5 encX st cs := h.set 0 rfl
 clear_value w12
 refine ⟨_, h.ld 0 rfl rfl, _, h.ld 0 rfl rfl, ?_⟩
 intro w15
 have h := h.dr 1 rfl
 have hI := makeQ_I64 (Int.tmod r 13 - 3) (1 + Int.tmod (Int.tdiv r 13) 4)
 refine h.push (a := ⟨ofL wNum, (makeQ (Int.tmod r 13 - 3) (1 + Int.tmod (Int.tdiv r 13) 4)).n, (makeQ (Int.tmod r 13 - 3) (1 + Int.tmod (Int.tdiv r 13) 4)).d, ofL [], ⟨none, 0, 0⟩⟩) rfl rfl encX_ok rfl (by omega) (by omega) fun s16 w17 h => ?_
 refine ⟨inR64 (by omega) (by omega), hN w17 s16 _ P (h.say (SQ.rests _ _) (fun _ hb => hb) fun hq => hq.push ⟨rfl, hI.1, hI.2⟩)⟩
theorem Made_k3_spec (h : Sp w0 w (mdL ob tb) P (fun u => SQ P u cs es) 5 encX st cs) (hl : cs.length <= 2 ^ 20) (hr : 0 <= r /\ r < 100) (hk : 0 <= k /\ k < 2 ^ 40)
  (hN : ∀ u st' cs' P', Sp w0 u (mdL ob tb) P' (fun u => SQ P' u cs' (es ++ [.name (names4.getD (Int.tmod r 4).toNat [])])) 5 encX st' cs' -> N ls t2 st' ops (k + 1) u) : z1f_k3 ls t2 st ops k r N K w := by
 have b1 := Int.tmod_lt_of_pos r (b := 4) (by decide)
 have b2 := Int.tmod_nonneg (a := r) 4 hr.1
 refine ⟨?_⟩
 unfold z1f_k3d
 refine ⟨?_⟩
 unfold z17_sd
 intro w18
 have h : Sp w0 w18 ((w.heap.size, _) :: mdL ob tb) P _ 5 encX st cs := h.allocL (vs := names4.flatMap encB)
 clear_value w18
 refine ⟨by decide, ⟨b2, b1⟩, _, str_at (h.row 0 rfl) b2 rfl b1, ?_⟩
 intro w22
 have h := h.dr 1 rfl
 have hs : (names4.getD (Int.tmod r 4).toNat []).length <= 2 ^ 20 := by
  have : (Int.tmod r 4).toNat < 4 := by omega
  generalize (Int.tmod r 4).toNat = j at this
  rcases j with _ | _ | _ | _ | j
  iterate 4 decide
  omega
 refine h.push (a := ⟨ofL wName, 0, 0, ofL (names4.getD (Int.tmod r 4).toNat []), ⟨none, 0, 0⟩⟩) rfl rfl encX_ok rfl (by omega) (by omega) fun s16 w17 h => ?_
 exact ⟨inR64 (by omega) (by omega), hN w17 s16 _ P (h.say (SQ.rests _ _) (fun _ hb => hb) fun hq => hq.push (XQ.nam hs))⟩
theorem Made_k4_spec (h : Sp w0 w (mdL ob tb) P (fun u => SQ P u cs es) 5 encX st cs) (hl : cs.length <= 2 ^ 20) (hr : 0 <= r /\ r < 100) (hk : 0 <= k /\ k < 2 ^ 40)
  (hN : ∀ u st' cs' P', Sp w0 u (mdL ob tb) P' (fun u => SQ P' u cs' (madeOp es r)) 5 encX st' cs' -> N ls t2 st' ⟨some ⟨ob, 0, none⟩, 6, 6⟩ (k + 1) u) : z1f_k4 ls t2 st ⟨some ⟨ob, 0, none⟩, 6, 6⟩ k r N K w := by
 have hlen := h.ow.len
 have hq := h.q.1
 refine ⟨?_⟩
 unfold z1f_k4d
 refine cnd_prop.2 ⟨fun h1 => ?_, fun h1 => ?_⟩
 ·have e1 : 1 < es.length := by omega
  have b1 := Int.tmod_lt_of_pos r (b := 6) (by decide)
  have b2 := Int.tmod_nonneg (a := r) 6 hr.1
  refine ⟨inR64 (by omega) (by omega), ldX h.ow.vw (cs.length - 2) (by omega) (by omega) ?_⟩
  intro w31
  have h : Sp w0 w31 ((w.heap.size, _) :: mdL ob tb) P _ 5 encX st cs := h.allocL (vs := encX ⟨ofL [], 0, 0, ofL [], ⟨none, 0, 0⟩⟩)
  clear_value w31
  refine stN_sp h 0 rfl rfl fun w32 h => ?_
  refine ⟨inR64 (by omega) (by omega), ldX h.ow.vw (cs.length - 1) (by omega) (by omega) ?_⟩
  intro w39
  have h : Sp w0 w39 ((w32.heap.size, _) :: (w.heap.size, _) :: mdL ob tb) P _ 5 encX st cs := h.allocL (vs := encX ⟨ofL [], 0, 0, ofL [], ⟨none, 0, 0⟩⟩)
  clear_value w39
  refine stN_sp h 0 rfl rfl fun w40 h => ?_
  intro w41
  have h : Sp w0 w41 ((w32.heap.size, encX cs[cs.length - 1]) :: (w.heap.size, encX cs[cs.length - 2]) :: mdL ob tb) P _ 5 encX st cs := h.drew
  clear_value w41
  refine ⟨fun u => Rs u ((w32.heap.size, encX cs[cs.length - 1]) :: (w.heap.size, encX cs[cs.length - 2]) :: mdL ob tb), h.sub 0 rfl, inR64 (by omega) (by omega), ⟨by decide, by omega, ?_⟩, by decide, ?_⟩
  ·have := h.ow.vw.cap; omega
  refine opsMd (S := fun u => Rs u ((w32.heap.size, encX cs[cs.length - 1]) :: (w.heap.size, encX cs[cs.length - 2]) :: mdL ob tb)) (fun u hu => hu (ob, opsB.flatMap encB) (by simp [mdL])) b2 b1 ?_
  refine ⟨_, fun u hu => hu.ld 1 rfl rfl, _, fun u hu => hu.ld 1 rfl rfl, _, fun u hu => hu.ld 1 rfl rfl, _, fun u hu => hu.ld 1 rfl rfl, cs[cs.length - 2].a, fun u hu => hu.ld 1 rfl rfl, _, fun u hu => hu.ld 0 rfl rfl, _, fun u hu => hu.ld 0 rfl rfl, _, fun u hu => hu.ld 0 rfl rfl, _, fun u hu => hu.ld 0 rfl rfl, cs[cs.length - 1].a, fun u hu => hu.ld 0 rfl rfl, ?_⟩
  intro w55
  have h : Sp w0 w55 ((w41.heap.size, _) :: (w32.heap.size, encX cs[cs.length - 1]) :: (w.heap.size, encX cs[cs.length - 2]) :: mdL ob tb) P _ 5 encX st cs := h.allocL (vs := [cs[cs.length - 2], cs[cs.length - 1]].flatMap encX)
  clear_value w55
  refine ⟨h.sub 1 rfl, ?_⟩
  intro w56
  refine ⟨(h.fr Fr.alloc).sub 1 rfl, ?_⟩
  have h2 := h.take encX_length (j := cs.length - 2) (by omega)
  have ej : ((st.l : Int) - 2).toNat = cs.length - 2 := by omega
  rw [ej]
  refine h2.push (a := ⟨ofL (opB ⟨(Int.tmod r 6).toNat, by omega⟩), 0, 0, ofL [], ⟨some ⟨w41.heap.size, 0, none⟩, 2, 2⟩⟩) rfl rfl encX_ok rfl (by simp; omega) (by simp; omega) fun s57 w58 h => ?_
  refine ⟨h.sub 1 rfl, inR64 (by omega) (by omega), hN w58 s57 _ _ ((h.bury.dr 2 rfl).say (SQ.rests _ _) (fun _ hb => hb) fun ⟨hQ, hR⟩ => ?_)⟩
  have eM : madeOp es r = es.take (cs.length - 2) ++ [.op (opN r) (es[cs.length - 2]'(by omega)) (es[cs.length - 1]'(by omega))] := by
   unfold madeOp
   rw [dif_pos e1]
   simp only [hq]
  rw [eM]
  refine SQ.push ((SQ.mono (fun b hb => .inl hb) hQ).take _) ⟨_, _, w41.heap.size, ⟨rfl, rfl, rfl, rfl⟩, rfl, hR, .inr rfl, ?_, ?_⟩
  ·have := hQ.2 (cs.length - 2) (by omega) (by omega)
   exact XQ.mono (fun b hb => .inl hb) this
  ·have := hQ.2 (cs.length - 1) (by omega) (by omega)
   exact XQ.mono (fun b hb => .inl hb) this
 ·refine ⟨inR64 (by omega) (by omega), hN w st cs P ?_⟩
  have : madeOp es r = es := by unfold madeOp; rw [dif_neg (by omega)]
  rw [this]
  exact h
end
end
end Go.Proofs.YtfkmpbpkahcogaaGreatDoor
namespace Go.Proofs.YtfkmpbpkahcogaaGreatDoor
open Go Pw Dp
theorem madeStep_num (st : List Fm) {x : Int} (hc : Int.tmod (modP x 1000) 10 = 0 \/ Int.tmod (modP x 1000) 10 = 1) : madeStep st x = st ++ [madeNum (Int.tdiv (modP x 1000) 10)] := if_pos hc
theorem madeStep_name (st : List Fm) {x : Int} (hc : ¬ (Int.tmod (modP x 1000) 10 = 0 \/ Int.tmod (modP x 1000) 10 = 1)) (h3 : Int.tmod (modP x 1000) 10 = 2 \/ Int.tmod (modP x 1000) 10 = 3 \/ Int.tmod (modP x 1000) 10 = 4) : madeStep st x = st ++ [.name (names4.getD (Int.tmod (Int.tdiv (modP x 1000) 10) 4).toNat [])] := (if_neg hc).trans (if_pos h3)
theorem madeStep_op (st : List Fm) {x : Int} (hc : ¬ (Int.tmod (modP x 1000) 10 = 0 \/ Int.tmod (modP x 1000) 10 = 1)) (h3 : ¬ (Int.tmod (modP x 1000) 10 = 2 \/ Int.tmod (modP x 1000) 10 = 3 \/ Int.tmod (modP x 1000) 10 = 4)) : madeStep st x = madeOp st (Int.tdiv (modP x 1000) 10) := (if_neg hc).trans (if_neg h3)
section
variable {w0 w : World} {P : Nat -> Prop} {st ls ops : Sl} {cs : List XC} {es : List Fm} {ob tb : Nat} {t2 : Addr} {k r : Int} {N : Sl -> Addr -> Sl -> Sl -> Int -> World -> Prop} {K : ByteArray -> Int -> Int -> ByteArray -> Sl -> World -> Prop}
theorem Made_k2_spec {c : Int} (h3 : c = 2 \/ c = 3 \/ c = 4 -> z1f_k3 ls t2 st ops k r N K w) (h4 : ¬ (c = 2 \/ c = 3 \/ c = 4) -> z1f_k4 ls t2 st ops k r N K w) : z1f_k2 ls t2 st ops k r c N K w := by
 refine ⟨?_⟩
 unfold z1f_k2d
 refine cnd_beq.2 ⟨fun h => cnd_beq.2 ⟨fun _ => h3 (.inl h), fun h' => absurd h h'⟩, fun h2 => cnd_beq.2 ⟨fun h => cnd_beq.2 ⟨fun _ => h3 (.inr (.inl h)), fun h' => absurd h h'⟩, fun h3' => cnd_beq.2 ⟨fun h => h3 (.inr (.inr h)), fun h4' => h4 (by omega)⟩⟩⟩
theorem Made_l6_spec {eb : Nat} {e0 : Fm} {er : List Fm} {c0 : XC} {cr : List XC} (h : Sp w0 w [(eb, encX c0), (tb, encX ⟨ofL [], 0, 0, ofL [], ⟨none, 0, 0⟩⟩)] P (fun u => SQ P u (c0 :: cr) (e0 :: er)) 5 encX st (c0 :: cr)) (hl : cr.length <= 2 ^ 20)
  (hK : ∀ w' c, Fr F0 w0 w' -> XQ (fun b => w0.heap.size <= b /\ b < w'.heap.size) w' (er.foldl (fun a b => .op 0 a b) e0) c -> K c.op c.n c.d c.nm c.a w') : z1f_l6 ⟨tb, 0, none⟩ st ⟨eb, 0, none⟩ 1 K w := by
 have hlen := h.ow.len
 have hq := h.q.1
 simp only [List.length_cons] at hlen hq
 refine ⟨⟨fun i u => ∃ (i' : Nat) (P' : Nat -> Prop) (c : XC), i = ((i' + 1 : Nat) : Int) /\ i' <= er.length /\ Sp w0 u [(eb, encX c), (tb, encX ⟨ofL [], 0, 0, ofL [], ⟨none, 0, 0⟩⟩)] P' (fun u => SQ P' u (c0 :: cr) (e0 :: er) /\ XQ P' u ((er.take i').foldl (fun a b => .op 0 a b) e0) c) 5 encX st (c0 :: cr), fun i _ => er.length + 1 - i.toNat, ⟨0, P, c0, rfl, by omega, h.say (fun u u' he hq => ⟨SQ.rests _ _ u u' he hq.1, XQ.rests _ _ u u' he hq.2⟩) (fun _ hb => hb) fun hq => ⟨hq, hq.2 0 (by simp) (by simp)⟩⟩, ?_⟩⟩
 rintro i u ⟨i, P', c, rfl, hi, h⟩
 unfold z1f_b6
 refine cnd_prop.2 ⟨fun hlt => ?_, fun hge => ?_⟩
 ·have hie : i < er.length := by omega
  intro w73
  have h := h.drew
  have hd : Sp w0 w73 _ _ _ 5 encX st (c0 :: cr) := h
  clear_value w73
  refine ⟨fun v => v = w73, rfl, ?_⟩
  refine ⟨_, fun v hv => by rw [hv]; exact hd.ld (i := 0) 0 rfl rfl, _, fun v hv => by rw [hv, add_mk]; exact hd.ld (i := 1) 0 rfl rfl, _, fun v hv => by rw [hv, add_mk]; exact hd.ld (i := 2) 0 rfl rfl, _, fun v hv => by rw [hv, add_mk]; exact hd.ld (i := 3) 0 rfl rfl, c.a, fun v hv => by rw [hv, add_mk]; exact hd.ld (i := 4) 0 rfl rfl, ?_⟩
  have hi1 : i + 1 < (c0 :: cr).length := by simp; omega
  refine Vw.go encX_length (by decide) hd.ow.vw (i + 1) rfl hi1 fun a hc => ⟨_, fun v hv => by rw [hv]; exact hc 0 _ rfl, _, fun v hv => by rw [hv]; exact hc 1 _ rfl, _, fun v hv => by rw [hv]; exact hc 2 _ rfl, _, fun v hv => by rw [hv]; exact hc 3 _ rfl, (c0 :: cr)[i + 1].a, fun v hv => by rw [hv]; exact hc 4 _ rfl, ?_⟩
  intro w86
  have h2 : Sp w0 w86 ((w73.heap.size, _) :: _) _ _ 5 encX st (c0 :: cr) := hd.allocL (vs := [c, (c0 :: cr)[i + 1]].flatMap encX)
  clear_value w86
  refine stN_sp h2 1 rfl (vs := encX ⟨ofL (opB 0), 0, 0, ofL [], ⟨some ⟨w73.heap.size, 0, none⟩, 2, 2⟩⟩) rfl fun w87 h => ?_
  refine ⟨inR64 (by omega) (by omega), ⟨⟨rfl, rfl, rfl, trivial⟩, i + 1, fun b => P' b \/ b = w73.heap.size, ⟨ofL (opB 0), 0, 0, ofL [], ⟨some ⟨w73.heap.size, 0, none⟩, 2, 2⟩⟩, by omega, by omega, ?_⟩, by dsimp only; omega⟩
  refine h.bury.say (fun u u' he hq => ⟨SQ.rests _ _ u u' he hq.1, XQ.rests _ _ u u' he hq.2⟩) (fun _ hb => hb) fun ⟨⟨hQ, hX⟩, hR⟩ => ⟨SQ.mono (fun b hb => .inl hb) hQ, ?_⟩
  rw [foldl_take _ _ _ hie]
  exact ⟨_, _, w73.heap.size, ⟨rfl, rfl, rfl, rfl⟩, rfl, hR, .inr rfl, XQ.mono (fun b hb => .inl hb) hX, XQ.mono (fun b hb => .inl hb) (hQ.2 (i + 1) hi1 (by simp; omega))⟩
 ·have hie : i = er.length := by omega
  refine ⟨_, h.ld (i := 0) 0 rfl rfl, _, by rw [add_mk]; exact h.ld (i := 1) 0 rfl rfl, _, by rw [add_mk]; exact h.ld (i := 2) 0 rfl rfl, _, by rw [add_mk]; exact h.ld (i := 3) 0 rfl rfl, c.a, by rw [add_mk]; exact h.ld (i := 4) 0 rfl rfl, ?_⟩
  refine stN_sp h 1 rfl rfl fun w93 h => ?_
  refine ⟨_, h.ld (i := 0) 1 rfl rfl, _, by rw [add_mk]; exact h.ld (i := 1) 1 rfl rfl, _, by rw [add_mk]; exact h.ld (i := 2) 1 rfl rfl, _, by rw [add_mk]; exact h.ld (i := 3) 1 rfl rfl, c.a, by rw [add_mk]; exact h.ld (i := 4) 1 rfl rfl, ?_⟩
  have hX := h.q.2
  rw [hie, List.take_length] at hX
  exact hK w93 c h.m.1 (hX.mono fun b hb => ⟨(h.ap b hb).2.1, (h.ap b hb).1⟩)
theorem Made_k5_spec (h : Sp w0 w (mdL ob tb) P (fun u => SQ P u cs es) 5 encX st cs) (hl : cs.length <= 2 ^ 20)
  (hK : ∀ w' c, Fr F0 w0 w' -> XQ (fun b => w0.heap.size <= b /\ b < w'.heap.size) w' (match es with | [] => .name wPrice | e :: r => r.foldl (fun a b => .op 0 a b) e) c -> K c.op c.n c.d c.nm c.a w') : z1f_k5 ⟨tb, 0, none⟩ st K w := by
 have hlen := h.ow.len
 have hq := h.q.1
 refine ⟨?_⟩
 unfold z1f_k5d
 refine cnd_beq.2 ⟨fun h0 => ?_, fun h0 => ?_⟩
 ·refine stN_sp h 1 rfl (vs := encX ⟨ofL wName, 0, 0, ofL wPrice, ⟨none, 0, 0⟩⟩) rfl fun w93 h => ?_
  refine ⟨_, h.ld (i := 0) 1 rfl rfl, _, by rw [add_mk]; exact h.ld (i := 1) 1 rfl rfl, _, by rw [add_mk]; exact h.ld (i := 2) 1 rfl rfl, _, by rw [add_mk]; exact h.ld (i := 3) 1 rfl rfl, ⟨none, 0, 0⟩, by rw [add_mk]; exact h.ld (i := 4) 1 rfl rfl, ?_⟩
  have he : es = [] := List.eq_nil_of_length_eq_zero (by omega)
  subst he
  exact hK w93 ⟨ofL wName, 0, 0, ofL wPrice, ⟨none, 0, 0⟩⟩ h.m.1 (XQ.nam (by decide))
 ·obtain ⟨c0, cr, rfl⟩ : ∃ c0 cr, cs = c0 :: cr := by
   cases cs with
   | nil => simp at hlen; omega
   | cons a b => exact ⟨a, b, rfl⟩
  obtain ⟨e0, er, rfl⟩ : ∃ e0 er, es = e0 :: er := by
   cases es with
   | nil => simp at hq
   | cons a b => exact ⟨a, b, rfl⟩
  refine ldX h.ow.vw 0 rfl (by simp) ?_
  intro w71
  have h : Sp w0 w71 ((w.heap.size, _) :: mdL ob tb) P _ 5 encX st (c0 :: cr) := h.allocL (vs := encX ⟨ofL [], 0, 0, ofL [], ⟨none, 0, 0⟩⟩)
  clear_value w71
  refine stN_sp h 0 rfl (vs := encX c0) rfl fun w72 h => ?_
  have hs : Sp w0 w72 [(w.heap.size, encX c0), (tb, encX ⟨ofL [], 0, 0, ofL [], ⟨none, 0, 0⟩⟩)] P _ 5 encX st (c0 :: cr) :=
   ⟨h.m.subl (by simp [mdL]), h.rs, h.q, fun b hb => ⟨(h.ap b hb).1, (h.ap b hb).2.1, fun p hp => (h.ap b hb).2.2 p (by simp [mdL] at hp ⊢; rcases hp with rfl | rfl <;> simp)⟩, h.ow, fun b hb => ⟨(h.os b hb).1, (h.os b hb).2.1, fun p hp => (h.os b hb).2.2 p (by simp [mdL] at hp ⊢; rcases hp with rfl | rfl <;> simp)⟩⟩
  exact Made_l6_spec hs (by simp at hl; omega) hK
theorem Made_spec {l : List Int} (hv : Vw 1 encI w ls l) (hK : ∀ w' c, Fr F0 w w' -> XQ (fun b => w.heap.size <= b /\ b < w'.heap.size) w' (madeF l) c -> K c.op c.n c.d c.nm c.a w') : z1f_sh ls K w := by
 have el := hv.len
 refine ⟨?_⟩
 unfold z1f_sd
 intro w1
 have m : Mem w w1 [(w.heap.size, _)] := Mem.nil.allocL (cs := encX ⟨ofL [], 0, 0, ofL [], ⟨none, 0, 0⟩⟩)
 clear_value w1
 intro w2
 have m : Mem w w2 (mdL w1.heap.size w.heap.size) := m.allocL (cs := opsB.flatMap encB)
 clear_value w2
 generalize w1.heap.size = ob at m
 generalize w.heap.size = tb at m
 refine ⟨⟨fun st i u => ∃ (i' : Nat) (P : Nat -> Prop) (cs : List XC), i = i' /\ i' <= (l.take 80).length /\ Sp w u (mdL ob tb) P (fun u => SQ P u cs (((l.take 80).take i').foldl madeStep [])) 5 encX st cs, fun _ i _ => (l.take 80).length - i.toNat,
  ⟨0, _, [], rfl, by omega, (Sp.start m).say (SQ.rests _ _) (fun _ hb => hb) fun _ => SQ.nil⟩, ?_⟩⟩
 rintro st i u ⟨i, P, cs, rfl, hi, h⟩
 have hq := h.q.1
 have hel := made_len ((l.take 80).take i) []
 simp only [List.length_take, List.length_nil] at hi hel
 have hend : ¬ (i < l.length /\ i < 80) -> z1f_k5 ⟨tb, 0, none⟩ st K u := fun hn => by
  refine Made_k5_spec h (by omega) fun w' c hf hX => hK w' c hf ?_
  have : (l.take 80).take i = l.take 80 := List.take_of_length_le (by simp; omega)
  rw [this] at hX
  exact hX
 unfold z1f_b0
 refine cnd_prop.2 ⟨fun h1 => cnd_prop.2 ⟨fun h2 => ?_, fun h2 => hend (by omega)⟩, fun h1 => hend (by omega)⟩
 refine ldI (hv.fr h.m.1) i rfl (by omega) (Mod_spec (by decide) (by decide) ?_)
 have hm := modP_in (l[i]'(by omega)) (m := 1000) (by decide)
 have hil : i < (l.take 80).length := by simp; omega
 have hstep := foldl_take madeStep [] (l.take 80) hil
 have hx : (l.take 80)[i] = l[i]'(by omega) := by simp
 rw [hx] at hstep
 generalize l[i]'(by omega) = xi at hm hstep
 have d0 : 0 <= Int.tdiv (modP xi 1000) 10 := Int.tdiv_nonneg hm.1 (by decide)
 have d1 : Int.tdiv (modP xi 1000) 10 < 100 := by
  obtain ⟨v, hv⟩ := Int.eq_ofNat_of_zero_le hm.1
  rw [hv] at hm ⊢
  have : Int.tdiv (v : Int) 10 = ((v / 10 : Nat) : Int) := rfl
  rw [this]
  omega
 have go : ∀ {es' : List Fm}, madeStep (((l.take 80).take i).foldl madeStep []) xi = es' -> ∀ u st' cs' P', Sp w u (mdL ob tb) P' (fun u => SQ P' u cs' es') 5 encX st' cs' -> _ := fun he u st' cs' P' hS => show ((ls = ls /\ (⟨tb, 0, none⟩ : Addr) = ⟨tb, 0, none⟩ /\ (⟨some ⟨ob, 0, none⟩, 6, 6⟩ : Sl) = ⟨some ⟨ob, 0, none⟩, 6, 6⟩ /\ True) /\ ∃ (i' : Nat) (P : Nat -> Prop) (cs : List XC), (i : Int) + 1 = i' /\ i' <= (l.take 80).length /\ Sp w u (mdL ob tb) P (fun u => SQ P u cs (((l.take 80).take i').foldl madeStep [])) 5 encX st' cs) /\ (l.take 80).length - ((i : Int) + 1).toNat < (l.take 80).length - (i : Int).toNat from
  ⟨⟨⟨rfl, rfl, rfl, trivial⟩, i + 1, P', cs', by omega, by omega, by rw [hstep, he]; exact hS⟩, by omega⟩
 have k1 := fun (hc : Int.tmod (modP xi 1000) 10 = 0 \/ Int.tmod (modP xi 1000) 10 = 1) => go (madeStep_num _ hc)
 have k3 := fun (hc : ¬ (Int.tmod (modP xi 1000) 10 = 0 \/ Int.tmod (modP xi 1000) 10 = 1)) h3 => go (madeStep_name _ hc h3)
 have k4 := fun (hc : ¬ (Int.tmod (modP xi 1000) 10 = 0 \/ Int.tmod (modP xi 1000) 10 = 1)) h3 => go (madeStep_op _ hc h3)
 refine ⟨by decide, inR64 (by omega) (by omega), by decide, cnd_beq.2 ⟨fun hc => cnd_beq.2 ⟨fun _ => Made_k1_spec h (by omega) ⟨d0, d1⟩ (by omega) (k1 (.inl hc)), fun hc' => absurd hc hc'⟩, fun hc0 => cnd_beq.2 ⟨fun hc => Made_k1_spec h (by omega) ⟨d0, d1⟩ (by omega) (k1 (.inr hc)), fun hc => Made_k2_spec (fun h3 => Made_k3_spec h (by omega) ⟨d0, d1⟩ (by omega) (k3 (by omega) h3)) fun h4 => Made_k4_spec h (by omega) ⟨d0, d1⟩ (by omega) (k4 (by omega) h4)⟩⟩⟩
end
end Go.Proofs.YtfkmpbpkahcogaaGreatDoor
namespace Go.Proofs.YtfkmpbpkahcogaaGreatDoor
open Go Pw Dp
structure Pn where
 lots : List (Int × Int)
 crit : List (Int × Int × Int × Int)
 reqs : List (Int × Int × Int)
 form : List Int
 ties : List Int
 combos : List (List Int)
 o0 : Int
 o1 : Int
 o2 : Int
 o3 : Int
 o4 : Int
 o5 : Int
 o6 : Int
 o7 : Int
 o8 : Int
 o9 : Int
def relsB : List B := [[60, 61], [62, 61]]
def lotQ (l : Int × Int) : Int × Int := (modP l.1 4, l.2)
def critQ (c : Int × Int × Int × Int) : Cr := ⟨namP c.1, modP c.2.1 3, c.2.2.1, c.2.2.2, Int.tmod c.2.2.2 2 != 0⟩
def reqQ (r : Int × Int × Int) : Rq := ⟨namP r.1, relsB.getD (modP r.2.1 2).toNat [], r.2.2⟩
def tdP (p : Pn) : Td := ⟨Lib.itoa p.o9, (p.lots.take 5).map lotQ, (p.crit.take 5).map critQ, (p.reqs.take 4).map reqQ, p.o0, p.o1, madeF p.form, (p.ties.take 4).map namP, p.o2, (p.combos.take 3).map (List.take 4), p.o3, p.o4, p.o5, p.o6, p.o7, p.o8⟩
def encT3 (x : Int × Int × Int) : List Value := [.int .i64 x.1, .int .i64 x.2.1, .int .i64 x.2.2]
@[simp] theorem encT3_length (x : Int × Int × Int) : (encT3 x).length = 3 := rfl
def encT4 (x : Int × Int × Int × Int) : List Value := [.int .i64 x.1, .int .i64 x.2.1, .int .i64 x.2.2.1, .int .i64 x.2.2.2]
@[simp] theorem encT4_length (x : Int × Int × Int × Int) : (encT4 x).length = 4 := rfl
structure PP (w : World) (x : T29) (p : Pn) : Prop where
 lots : Vw 2 encL w x.f0 p.lots
 crit : Vw 4 encT4 w x.f1 p.crit
 reqs : Vw 3 encT3 w x.f2 p.reqs
 form : Vw 1 encI w x.f3 p.form
 ties : Vw 1 encI w x.f4 p.ties
 combos : CP w x.f5 p.combos
 o0 : x.f6 = p.o0
 o1 : x.f7 = p.o1
 o2 : x.f8 = p.o2
 o3 : x.f9 = p.o3
 o4 : x.f10 = p.o4
 o5 : x.f11 = p.o5
 o6 : x.f12 = p.o6
 o7 : x.f13 = p.o7
 o8 : x.f14 = p.o8
 o9 : x.f15 = p.o9
theorem PP.fr {w w' : World} {x : T29} {p : Pn} (h : PP w x p) (hf : Fr F0 w w') : PP w' x p :=
 { h with lots := h.lots.fr hf, crit := h.crit.fr hf, reqs := h.reqs.fr hf, form := h.form.fr hf, ties := h.ties.fr hf, combos := h.combos.fr hf }
def tbx (p : Pn) (c : XC) (s1 s2 s3 s11 s13 : Sl) : T43 := ⟨ofL (Lib.itoa p.o9), s1, s2, s3, p.o0, p.o1, c.op, c.n, c.d, c.nm, c.a, s11, p.o2, s13, p.o3, p.o4, p.o5, p.o6, p.o7, p.o8⟩
section
variable {w0 w : World} {x : T29} {p : Pn} {c : XC} {s1 s2 s3 s11 s13 : Sl} {B : Nat -> Prop} {Q : World -> Prop} {b1 b2 b3 : Nat} {K : T43 -> World -> Prop}
def tnL (b1 b2 b3 : Nat) (y : T43) (x : T29) : List (Nat × List Value) := [(b3, y.cs), (b2, zT), (b1, x.cs)]
theorem encL_ok (a : Int × Int) : ∀ v ∈ encL a, okC v = true := by intro v hv; simp [encL] at hv; rcases hv with rfl | rfl <;> rfl
theorem encC_ok (a : Cr) : ∀ v ∈ encC a, okC v = true := by intro v hv; simp [encC] at hv; rcases hv with rfl | rfl | rfl | rfl | rfl <;> rfl
theorem encR_ok (a : Rq) : ∀ v ∈ encR a, okC v = true := by intro v hv; simp [encR] at hv; rcases hv with rfl | rfl | rfl <;> rfl
theorem take_succ_map {α β : Type} (f : α -> β) (l : List α) {i : Nat} (hi : i < l.length) : (l.take (i + 1)).map f = (l.take i).map f ++ [f l[i]] := by
 rw [List.take_add_one, List.getElem?_eq_getElem hi, Option.toList_some, List.map_append, List.map_cons, List.map_nil]
theorem Tender_l1 (hp : PP w0 x p) (h : Sp w0 w (tnL b1 b2 b3 (tbx p c s1 s2 s3 s11 s13) x) B Q 2 encL s1 [])
  (hK : ∀ u s, Sp w0 u (tnL b1 b2 b3 (tbx p c s s2 s3 s11 s13) x) B Q 2 encL s ((p.lots.take 5).map lotQ) -> z03_k2 ⟨b1, 0, none⟩ ⟨b2, 0, none⟩ ⟨b3, 0, none⟩ K u) : z03_l1 ⟨b1, 0, none⟩ ⟨b2, 0, none⟩ ⟨b3, 0, none⟩ 0 K w := by
 have el := hp.lots.len
 refine ⟨⟨fun i u => ∃ (i' : Nat) (s : Sl), i = i' /\ i' <= (p.lots.take 5).length /\ Sp w0 u (tnL b1 b2 b3 (tbx p c s s2 s3 s11 s13) x) B Q 2 encL s (((p.lots.take 5).take i').map lotQ), fun i _ => (p.lots.take 5).length - i.toNat, ⟨0, s1, rfl, by omega, h⟩, ?_⟩⟩
 rintro i u ⟨i, s, rfl, hi, h⟩
 simp only [List.length_take] at hi
 have hend : ¬ (i < p.lots.length /\ i < 5) -> z03_k2 ⟨b1, 0, none⟩ ⟨b2, 0, none⟩ ⟨b3, 0, none⟩ K u := fun hn => hK u s (by
  have : (p.lots.take 5).take i = p.lots.take 5 := List.take_of_length_le (by simp; omega)
  rw [this] at h
  exact h)
 unfold z03_b1
 refine ⟨x.f0, h.ld (i := 0) 2 rfl rfl, cnd_prop.2 ⟨fun h1 => cnd_prop.2 ⟨fun h2 => ?_, fun h2 => hend (by omega)⟩, fun h1 => hend (by omega)⟩⟩
 intro w34
 have h : Sp w0 w34 (tnL b1 b2 b3 (tbx p c s s2 s3 s11 s13) x) B Q 2 encL s (((p.lots.take 5).take i).map lotQ) := h.drew
 clear_value w34
 have hil : i < p.lots.length := by omega
 have hit : i < (p.lots.take 5).length := by simp; omega
 have hS : Rs w34 (tnL b1 b2 b3 (tbx p c s s2 s3 s11 s13) x) /\ Vw 2 encL w34 x.f0 p.lots := ⟨h.sub 0 rfl, hp.lots.fr h.m.1⟩
 refine ⟨fun u => Rs u (tnL b1 b2 b3 (tbx p c s s2 s3 s11 s13) x) /\ Vw 2 encL u x.f0 p.lots, hS, s, fun u hu => by rw [add_mk]; exact hu.1.ld (i := 1) 0 rfl rfl, x.f0, fun u hu => hu.1.ld (i := 0) 2 rfl rfl, ?_⟩
 refine Vw.goS encL_length (by decide) hS (fun u hu => hu.2) i rfl hil fun a hc => ⟨⟨by decide, by decide⟩, _, hc 0 _ rfl, x.f0, fun u hu => hu.1.ld (i := 0) 2 rfl rfl, ?_⟩
 refine Vw.goS encL_length (by decide) hS (fun u hu => hu.2) i rfl hil fun a hc => ⟨⟨by decide, by decide⟩, _, hc 1 _ rfl, ?_⟩
 refine Mod_spec (by decide) (by decide) ⟨hS, ?_⟩
 intro w45
 have h' := h.fr (Fr.alloc (o := Obj.cells (encL (lotQ p.lots[i])).toArray 66))
 refine ⟨⟨h'.sub 0 rfl, hp.lots.fr h'.m.1⟩, h.push (a := lotQ p.lots[i]) rfl rfl encL_ok rfl (by simp; omega) (by simp; omega) fun s46 w47 h => ⟨⟨h.sub 0 rfl, hp.lots.fr h.m.1⟩, ?_⟩⟩
 rw [add_mk]
 refine ⟨h.wr 0 rfl rfl, ?_⟩
 refine ⟨inR64 (by omega) (by omega), ⟨⟨rfl, rfl, rfl, trivial⟩, i + 1, s46, by omega, by omega, ?_⟩, by dsimp only; omega⟩
 have := h.set (i := 1) (v := .slice s46.p s46.l s46.c) 0 rfl
 rw [take_succ_map _ _ hit, List.getElem_take]
 exact this
theorem Tender_l3 (hp : PP w0 x p) (h : Sp w0 w (tnL b1 b2 b3 (tbx p c s1 s2 s3 s11 s13) x) B Q 5 encC s2 [])
  (hK : ∀ u s, Sp w0 u (tnL b1 b2 b3 (tbx p c s1 s s3 s11 s13) x) B Q 5 encC s ((p.crit.take 5).map critQ) -> z03_k4 ⟨b1, 0, none⟩ ⟨b2, 0, none⟩ ⟨b3, 0, none⟩ K u) : z03_l3 ⟨b1, 0, none⟩ ⟨b2, 0, none⟩ ⟨b3, 0, none⟩ 0 K w := by
 have el := hp.crit.len
 refine ⟨⟨fun i u => ∃ (i' : Nat) (s : Sl), i = i' /\ i' <= (p.crit.take 5).length /\ Sp w0 u (tnL b1 b2 b3 (tbx p c s1 s s3 s11 s13) x) B Q 5 encC s (((p.crit.take 5).take i').map critQ), fun i _ => (p.crit.take 5).length - i.toNat, ⟨0, s2, rfl, by omega, h⟩, ?_⟩⟩
 rintro i u ⟨i, s, rfl, hi, h⟩
 simp only [List.length_take] at hi
 have hend : ¬ (i < p.crit.length /\ i < 5) -> z03_k4 ⟨b1, 0, none⟩ ⟨b2, 0, none⟩ ⟨b3, 0, none⟩ K u := fun hn => hK u s (by
  have : (p.crit.take 5).take i = p.crit.take 5 := List.take_of_length_le (by simp; omega)
  rw [this] at h
  exact h)
 unfold z03_b3
 have x1 : ∀ {v : World}, Sp w0 v (tnL b1 b2 b3 (tbx p c s1 s s3 s11 s13) x) B Q 5 encC s (((p.crit.take 5).take i).map critQ) -> v.cell? ((⟨b1, 0, none⟩ : Addr).add 1) = some (Value.slice x.f1.p x.f1.l x.f1.c) := fun h => by rw [add_mk]; exact h.ld (i := 1) 2 rfl rfl
 refine ⟨x.f1, x1 h, cnd_prop.2 ⟨fun h1 => cnd_prop.2 ⟨fun h2 => ?_, fun h2 => hend (by omega)⟩, fun h1 => hend (by omega)⟩⟩
 have hil : i < p.crit.length := by omega
 have hit : i < (p.crit.take 5).length := by simp; omega
 refine ⟨x.f1, x1 h, Vw.go encT4_length (by decide) (hp.crit.fr h.m.1) i rfl hil fun a hc => ⟨_, hc 0 _ rfl, _, hc 1 _ rfl, _, hc 2 _ rfl, _, hc 3 _ rfl, ?_⟩⟩
 generalize ecr : p.crit[i] = cr
 intro w56
 have h : Sp w0 w56 ((u.heap.size, _) :: tnL b1 b2 b3 (tbx p c s1 s s3 s11 s13) x) B Q 5 encC s _ := h.allocL (vs := [.int .i64 0, .int .i64 0, .int .i64 0, .int .i64 0])
 clear_value w56
 refine stN_sp h 0 rfl (vs := encT4 cr) rfl fun w57 h => ?_
 intro w58
 have h : Sp w0 w58 ((u.heap.size, encT4 cr) :: tnL b1 b2 b3 (tbx p c s1 s s3 s11 s13) x) B Q 5 encC s _ := h.drew
 clear_value w58
 refine ⟨fun v => Rs v ((u.heap.size, encT4 cr) :: tnL b1 b2 b3 (tbx p c s1 s s3 s11 s13) x), h.sub 0 rfl, s, fun v hv => by rw [add_mk]; exact hv.ld (i := 2) 1 rfl rfl, ?_⟩
 refine ⟨⟨by decide, by decide⟩, _, fun v hv => by rw [add_mk]; exact hv.ld (i := 0) 0 rfl rfl, ⟨by decide, by decide⟩, _, fun v hv => by rw [add_mk]; exact hv.ld (i := 1) 0 rfl rfl, ⟨by decide, by decide⟩, _, fun v hv => by rw [add_mk]; exact hv.ld (i := 2) 0 rfl rfl, ⟨by decide, by decide⟩, _, fun v hv => by rw [add_mk]; exact hv.ld (i := 3) 0 rfl rfl, ⟨by decide, by decide⟩, _, fun v hv => by rw [add_mk]; exact hv.ld (i := 3) 0 rfl rfl, by decide, ?_⟩
 refine Name_spec fun w66 hf => ?_
 have h := h.fr hf
 refine ⟨h.sub 0 rfl, Mod_spec (by decide) (by decide) ⟨h.sub 0 rfl, ?_⟩⟩
 intro w70
 have h' := h.fr (Fr.alloc (o := Obj.cells (encC (critQ cr)).toArray 64))
 refine ⟨h'.sub 0 rfl, h.push (a := critQ cr) rfl rfl encC_ok rfl (by simp; omega) (by simp; omega) fun s46 w47 h => ⟨h.sub 0 rfl, ?_⟩⟩
 rw [add_mk]
 refine ⟨h.wr 1 rfl rfl, ?_⟩
 refine ⟨inR64 (by omega) (by omega), ⟨⟨rfl, rfl, rfl, trivial⟩, i + 1, s46, by omega, by omega, ?_⟩, by dsimp only; omega⟩
 have := (h.set (i := 2) (v := .slice s46.p s46.l s46.c) 1 rfl).dr 1 rfl
 rw [take_succ_map _ _ hit, List.getElem_take, ecr]
 exact this
theorem Tender_l7 (hp : PP w0 x p) (h : Sp w0 w (tnL b1 b2 b3 (tbx p c s1 s2 s3 s11 s13) x) B Q 1 encB s11 [])
  (hK : ∀ u s, Sp w0 u (tnL b1 b2 b3 (tbx p c s1 s2 s3 s s13) x) B Q 1 encB s ((p.ties.take 4).map namP) -> z03_k8 ⟨b1, 0, none⟩ ⟨b2, 0, none⟩ ⟨b3, 0, none⟩ K u) : z03_l7 ⟨b1, 0, none⟩ ⟨b2, 0, none⟩ ⟨b3, 0, none⟩ 0 K w := by
 have el := hp.ties.len
 refine ⟨⟨fun i u => ∃ (i' : Nat) (s : Sl), i = i' /\ i' <= (p.ties.take 4).length /\ Sp w0 u (tnL b1 b2 b3 (tbx p c s1 s2 s3 s s13) x) B Q 1 encB s (((p.ties.take 4).take i').map namP), fun i _ => (p.ties.take 4).length - i.toNat, ⟨0, s11, rfl, by omega, h⟩, ?_⟩⟩
 rintro i u ⟨i, s, rfl, hi, h⟩
 simp only [List.length_take] at hi
 have hend : ¬ (i < p.ties.length /\ i < 4) -> z03_k8 ⟨b1, 0, none⟩ ⟨b2, 0, none⟩ ⟨b3, 0, none⟩ K u := fun hn => hK u s (by
  have : (p.ties.take 4).take i = p.ties.take 4 := List.take_of_length_le (by simp; omega)
  rw [this] at h
  exact h)
 unfold z03_b7
 refine ⟨x.f4, by rw [add_mk]; exact h.ld (i := 4) 2 rfl rfl, cnd_prop.2 ⟨fun h1 => cnd_prop.2 ⟨fun h2 => ?_, fun h2 => hend (by omega)⟩, fun h1 => hend (by omega)⟩⟩
 intro w34
 have h : Sp w0 w34 (tnL b1 b2 b3 (tbx p c s1 s2 s3 s s13) x) B Q 1 encB s (((p.ties.take 4).take i).map namP) := h.drew
 clear_value w34
 have hil : i < p.ties.length := by omega
 have hit : i < (p.ties.take 4).length := by simp; omega
 have hS : Rs w34 (tnL b1 b2 b3 (tbx p c s1 s2 s3 s s13) x) /\ Vw 1 encI w34 x.f4 p.ties := ⟨h.sub 0 rfl, hp.ties.fr h.m.1⟩
 refine ⟨fun u => Rs u (tnL b1 b2 b3 (tbx p c s1 s2 s3 s s13) x) /\ Vw 1 encI u x.f4 p.ties, hS, s, fun u hu => by rw [add_mk]; exact hu.1.ld (i := 11) 0 rfl rfl, x.f4, fun u hu => by rw [add_mk]; exact hu.1.ld (i := 4) 2 rfl rfl, ?_⟩
 refine Vw.goS encI_length (by decide) hS (fun u hu => hu.2) i rfl hil fun a hc => ⟨_, hc 0 _ rfl, ?_⟩
 refine Name_spec fun w66 hf => ?_
 have h := h.fr hf
 refine ⟨⟨h.sub 0 rfl, hp.ties.fr h.m.1⟩, ?_⟩
 intro w70
 have h' := h.fr (Fr.alloc (o := Obj.cells (encB (namP p.ties[i])).toArray 9))
 refine ⟨⟨h'.sub 0 rfl, hp.ties.fr h'.m.1⟩, h.push (a := namP p.ties[i]) rfl rfl encB_ok rfl (by simp; omega) (by simp; omega) fun s46 w47 h => ⟨⟨h.sub 0 rfl, hp.ties.fr h.m.1⟩, ?_⟩⟩
 rw [add_mk]
 refine ⟨h.wr 0 rfl rfl, ?_⟩
 refine ⟨inR64 (by omega) (by omega), ⟨⟨rfl, rfl, rfl, trivial⟩, i + 1, s46, by omega, by omega, ?_⟩, by dsimp only; omega⟩
 have := h.set (i := 11) (v := .slice s46.p s46.l s46.c) 0 rfl
 rw [take_succ_map _ _ hit, List.getElem_take]
 exact this
theorem Tender_l5_fin {rb cb i : Nat} {s : Sl} {cr : Int × Int × Int} {K : World -> Prop} {hi : i < (p.reqs.take 4).length} {hcr : (p.reqs.take 4)[i] = cr}
  (h : Sp w0 w ((rb, relsB.flatMap encB) :: (cb, encT3 cr) :: tnL b1 b2 b3 (tbx p c s1 s2 s s11 s13) x) B Q 3 encR s (((p.reqs.take 4).take i).map reqQ))
  (hK : ∀ s46 w47, Sp w0 w47 (tnL b1 b2 b3 (tbx p c s1 s2 s46 s11 s13) x) B Q 3 encR s46 (((p.reqs.take 4).take (i + 1)).map reqQ) -> K w47) :
  ∃ S : World -> Prop, S w /\ (∀ u : World, S u -> Rs u ((cb, encT3 cr) :: tnL b1 b2 b3 (tbx p c s1 s2 s s11 s13) x)) /\ (0 <= modP cr.2.1 2 /\ modP cr.2.1 2 < (2 : Nat)) /\ ∃ x1 : ByteArray, (∀ w' : World, S w' -> w'.cell? ((Addr.mk rb 0 none).add ((modP cr.2.1 2).toNat * 1)) = some (Value.string x1)) /\
   let w' : World := w.alloc (Obj.cells #[(Value.string (ofL (namP cr.1))), (Value.string x1), (Value.int .i64 cr.2.2)] 73)
   S w' /\ apS 3 40 [(Value.string (str [])), (Value.string (str [])), (Value.int .i64 (0 : Int))] 73 s (Sl.mk (some (Addr.mk w.heap.size 0 none)) 1 1) w' fun (s97 : Sl) (w98 : World) => S w98 /\ wrOk w98 ((Addr.mk b3 0 none).add 3) /\ let w99 : World := w98.setCell ((Addr.mk b3 0 none).add 3) (Value.slice s97.p s97.l s97.c)
    K w99 := by
 simp only [List.length_take] at hi
 have hm := modP_in cr.2.1 (m := 2) (by decide)
 refine ⟨fun u => Rs u ((rb, relsB.flatMap encB) :: (cb, encT3 cr) :: tnL b1 b2 b3 (tbx p c s1 s2 s s11 s13) x), h.sub 0 rfl, fun u hu p hp => hu p (List.mem_cons_of_mem _ hp), hm, _, fun v hv => str_at (l := relsB) (hv (rb, relsB.flatMap encB) (List.mem_cons_self ..)) hm.1 rfl hm.2, ?_⟩
 intro w96
 have h' := h.fr (Fr.alloc (o := Obj.cells (encR (reqQ cr)).toArray 73))
 refine ⟨h'.sub 0 rfl, h.push (a := reqQ cr) rfl rfl encR_ok rfl (by simp; omega) (by simp; omega) fun s46 w47 h => ⟨h.sub 0 rfl, ?_⟩⟩
 rw [add_mk]
 refine ⟨h.wr 2 rfl rfl, hK s46 _ ?_⟩
 have := (h.set (i := 3) (v := .slice s46.p s46.l s46.c) 2 rfl).dr 2 rfl
 rw [take_succ_map _ _ (by simp; omega), hcr]
 exact this
theorem Tender_b5 {i : Nat} {s : Sl} {N : Addr -> Addr -> Addr -> Int -> World -> Prop} {u : World} (hp : PP w0 x p) (h : Sp w0 u (tnL b1 b2 b3 (tbx p c s1 s2 s s11 s13) x) B Q 3 encR s (((p.reqs.take 4).take i).map reqQ))
  (hN : i < (p.reqs.take 4).length -> ∀ s v, Sp w0 v (tnL b1 b2 b3 (tbx p c s1 s2 s s11 s13) x) B Q 3 encR s (((p.reqs.take 4).take (i + 1)).map reqQ) -> N ⟨b1, 0, none⟩ ⟨b2, 0, none⟩ ⟨b3, 0, none⟩ ((i : Int) + 1) v)
  (hend : ¬ (i < p.reqs.length /\ i < 4) -> z03_k6 ⟨b1, 0, none⟩ ⟨b2, 0, none⟩ ⟨b3, 0, none⟩ K u) : z03_b5 ⟨b1, 0, none⟩ ⟨b2, 0, none⟩ ⟨b3, 0, none⟩ i N K u := by
 have el := hp.reqs.len
 unfold z03_b5
 have x1 : ∀ {v : World}, Sp w0 v (tnL b1 b2 b3 (tbx p c s1 s2 s s11 s13) x) B Q 3 encR s (((p.reqs.take 4).take i).map reqQ) -> v.cell? ((⟨b1, 0, none⟩ : Addr).add 2) = some (Value.slice x.f2.p x.f2.l x.f2.c) := fun h => by rw [add_mk]; exact h.ld (i := 2) 2 rfl rfl
 refine ⟨x.f2, x1 h, cnd_prop.2 ⟨fun h1 => cnd_prop.2 ⟨fun h2 => ?_, fun h2 => hend (by omega)⟩, fun h1 => hend (by omega)⟩⟩
 have hil : i < p.reqs.length := by omega
 have hit : i < (p.reqs.take 4).length := by simp; omega
 refine ⟨x.f2, x1 h, Vw.go encT3_length (by decide) (hp.reqs.fr h.m.1) i rfl hil fun a hc => ⟨_, hc 0 _ rfl, _, hc 1 _ rfl, _, hc 2 _ rfl, ?_⟩⟩
 generalize ecr : p.reqs[i] = cr
 intro w80
 have h : Sp w0 w80 ((u.heap.size, _) :: tnL b1 b2 b3 (tbx p c s1 s2 s s11 s13) x) B Q 3 encR s _ := h.allocL (vs := [.int .i64 0, .int .i64 0, .int .i64 0])
 clear_value w80
 refine stN_sp h 0 rfl (vs := encT3 cr) rfl fun w57 h => ?_
 intro w82
 have h : Sp w0 w82 ((u.heap.size, encT3 cr) :: tnL b1 b2 b3 (tbx p c s1 s2 s s11 s13) x) B Q 3 encR s _ := h.drew
 clear_value w82
 refine ⟨fun v => Rs v ((u.heap.size, encT3 cr) :: tnL b1 b2 b3 (tbx p c s1 s2 s s11 s13) x), h.sub 0 rfl, s, fun v hv => by rw [add_mk]; exact hv.ld (i := 3) 1 rfl rfl, ?_⟩
 refine ⟨⟨by decide, by decide⟩, _, fun v hv => by rw [add_mk]; exact hv.ld (i := 0) 0 rfl rfl, ⟨by decide, by decide⟩, _, fun v hv => by rw [add_mk]; exact hv.ld (i := 1) 0 rfl rfl, ⟨by decide, by decide⟩, _, fun v hv => by rw [add_mk]; exact hv.ld (i := 2) 0 rfl rfl, ?_⟩
 refine ⟨Name_spec fun w88 hf => ⟨(h.fr hf).sub 0 rfl, ?_, Mod_spec (by decide) (by decide) ⟨(h.fr hf).sub 0 rfl, ?_⟩⟩, ?_⟩
 ·intro w90
  have h1 : Sp w0 w90 ((w88.heap.size, _) :: (u.heap.size, encT3 cr) :: tnL b1 b2 b3 (tbx p c s1 s2 s s11 s13) x) B Q 3 encR s _ := (h.fr hf).allocL (vs := relsB.flatMap encB)
  clear_value w90
  refine ⟨h1.sub 1 rfl, Mod_spec (by decide) (by decide) ?_⟩
  generalize w88.heap.size = rb at h1 ⊢
  refine Tender_l5_fin (K := fun v => inR .i64 ((i : Int) + 1) /\ N ⟨b1, 0, none⟩ ⟨b2, 0, none⟩ ⟨b3, 0, none⟩ ((i : Int) + 1) v) (hi := hit) (hcr := by rw [List.getElem_take]; exact ecr) h1 ?_
  exact fun s46 w47 h => ⟨inR64 (by omega) (by omega), hN hit s46 w47 h⟩
 ·intro w103
  have h1 : Sp w0 w103 ((w88.heap.size, _) :: (u.heap.size, encT3 cr) :: tnL b1 b2 b3 (tbx p c s1 s2 s s11 s13) x) B Q 3 encR s _ := (h.fr hf).allocL (vs := relsB.flatMap encB)
  clear_value w103
  generalize w88.heap.size = rb at h1 ⊢
  refine Tender_l5_fin (K := fun v => inR .i64 ((i : Int) + 1) /\ N ⟨b1, 0, none⟩ ⟨b2, 0, none⟩ ⟨b3, 0, none⟩ ((i : Int) + 1) v) (hi := hit) (hcr := by rw [List.getElem_take]; exact ecr) h1 ?_
  exact fun s46 w47 h => ⟨inR64 (by omega) (by omega), hN hit s46 w47 h⟩
 ·intro w110
  have h1 : Sp w0 w110 ((w82.heap.size, _) :: (u.heap.size, encT3 cr) :: tnL b1 b2 b3 (tbx p c s1 s2 s s11 s13) x) B Q 3 encR s _ := h.allocL (vs := relsB.flatMap encB)
  clear_value w110
  refine ⟨h1.sub 1 rfl, Name_spec fun w111 hf => ?_⟩
  have h1 := h1.fr hf
  refine ⟨h1.sub 1 rfl, Mod_spec (by decide) (by decide) ?_⟩
  generalize w82.heap.size = rb at h1 ⊢
  refine Tender_l5_fin (K := fun v => inR .i64 ((i : Int) + 1) /\ N ⟨b1, 0, none⟩ ⟨b2, 0, none⟩ ⟨b3, 0, none⟩ ((i : Int) + 1) v) (hi := hit) (hcr := by rw [List.getElem_take]; exact ecr) h1 ?_
  exact fun s46 w47 h => ⟨inR64 (by omega) (by omega), hN hit s46 w47 h⟩
theorem Tender_l5 (hp : PP w0 x p) (h : Sp w0 w (tnL b1 b2 b3 (tbx p c s1 s2 s3 s11 s13) x) B Q 3 encR s3 [])
  (hK : ∀ u s, Sp w0 u (tnL b1 b2 b3 (tbx p c s1 s2 s s11 s13) x) B Q 3 encR s ((p.reqs.take 4).map reqQ) -> z03_k6 ⟨b1, 0, none⟩ ⟨b2, 0, none⟩ ⟨b3, 0, none⟩ K u) : z03_l5 ⟨b1, 0, none⟩ ⟨b2, 0, none⟩ ⟨b3, 0, none⟩ 0 K w := by
 have el := hp.reqs.len
 refine ⟨⟨fun i u => ∃ (i' : Nat) (s : Sl), i = i' /\ i' <= (p.reqs.take 4).length /\ Sp w0 u (tnL b1 b2 b3 (tbx p c s1 s2 s s11 s13) x) B Q 3 encR s (((p.reqs.take 4).take i').map reqQ), fun i _ => (p.reqs.take 4).length - i.toNat, ⟨0, s3, rfl, by omega, h⟩, ?_⟩⟩
 rintro i u ⟨i, s, rfl, hi, h⟩
 simp only [List.length_take] at hi
 have hend : ¬ (i < p.reqs.length /\ i < 4) -> z03_k6 ⟨b1, 0, none⟩ ⟨b2, 0, none⟩ ⟨b3, 0, none⟩ K u := fun hn => hK u s (by
  have : (p.reqs.take 4).take i = p.reqs.take 4 := List.take_of_length_le (by simp; omega)
  rw [this] at h
  exact h)
 refine Tender_b5 hp h (fun hit s46 w47 h => ⟨⟨⟨rfl, rfl, rfl, trivial⟩, i + 1, s46, by omega, by omega, h⟩, by dsimp only; omega⟩) hend
end
end Go.Proofs.YtfkmpbpkahcogaaGreatDoor
namespace Pw
open Go
theorem Sp.nextRow {α β : Type} {n n' : Nat} {enc : α -> List Value} {enc' : β -> List Value} {w0 w : World} {s : Sl} {l : List α} {L : List (Nat × List Value)} {B : Nat -> Prop} {Q : World -> Prop} {b : Nat} {l' : List β} (hn : ∀ a, (enc' a).length = n') (h : Sp w0 w ((b, l'.flatMap enc') :: L) B Q n enc s l) :
  Sp w0 w L (fun b => B b \/ inB s b) (fun w => Q w /\ Ow n enc w s l) n' enc' ⟨some ⟨b, 0, none⟩, l'.length, l'.length⟩ l' := by
 have h2 := (h.next (β := β) (n' := n') (enc' := enc'))
 have hp := h.m.2.2.1
 simp only [List.map_cons, List.pairwise_cons, List.mem_map] at hp
 refine ⟨h.m.dr 1 rfl, h2.rs, h2.q, fun c hc => ⟨(h2.ap c hc).1, (h2.ap c hc).2.1, fun p hp => (h2.ap c hc).2.2 p (List.mem_cons_of_mem _ hp)⟩, ?_, fun c ⟨a, ha, hb⟩ => ?_⟩
 ·refine ⟨rfl, by simp [fm_length hn], .inr ⟨b, _, rfl, h.row 0 rfl, by simp [fm_length hn], Nat.le_refl _, List.take_of_length_le (Nat.le_refl _)⟩⟩
 ·cases ha
  subst hb
  exact ⟨h.m.2.2.2 _ (List.mem_cons_self ..), fun hB => (h2.ap _ hB).2.2 _ (List.mem_cons_self ..) rfl, fun p hp' e => by have := hp.1 p.1 ⟨p, hp', rfl⟩; simp only at e; omega⟩
theorem stN5 {α : Type} {n : Nat} {enc : α -> List Value} {w0 w : World} {s : Sl} {l : List α} {L : List (Nat × List Value)} {B : Nat -> Prop} {Q : World -> Prop} {b o j : Nat} {cs : List Value} {v0 v1 v2 v3 v4 : Value} {K : World -> Prop} (h : Sp w0 w L B Q n enc s l) (hj : L[j]? = some (b, cs)) (ho : o + 5 <= cs.length)
  (hK : ∀ w', Sp w0 w' (L.set j (b, (((((cs.set o v0).set (o + 1) v1).set (o + 2) v2).set (o + 3) v3).set (o + 4) v4))) B Q n enc s l -> K w') : stN w ⟨b, o, none⟩ [v0, v1, v2, v3, v4] K := by
 have hl : j < L.length := (List.getElem?_eq_some_iff.1 hj).1
 have sj : ∀ (M : List (Nat × List Value)) (p : Nat × List Value), M.length = L.length -> (M.set j p)[j]? = some p := fun M p h => List.getElem?_set_self (by omega)
 have e : ∀ k : Nat, (⟨b, o, none⟩ : Addr).add k = ⟨b, o + k, none⟩ := fun k => add_mk b o k
 have h1 := h.set (i := o) (v := v0) j hj
 have h2 := h1.set (i := o + 1) (v := v1) j (sj _ _ rfl)
 have h3 := h2.set (i := o + 2) (v := v2) j (sj _ _ (by simp))
 have h4 := h3.set (i := o + 3) (v := v3) j (sj _ _ (by simp))
 have h5 := h4.set (i := o + 4) (v := v4) j (sj _ _ (by simp))
 have w0' := h.wr j hj (i := o) (by simp [Nat.blt_eq]; omega)
 have w1' := h1.wr j (sj _ _ rfl) (i := o + 1) (by simp [Nat.blt_eq]; omega)
 have w2' := h2.wr j (sj _ _ (by simp)) (i := o + 2) (by simp [Nat.blt_eq]; omega)
 have w3' := h3.wr j (sj _ _ (by simp)) (i := o + 3) (by simp [Nat.blt_eq]; omega)
 have w4' := h4.wr j (sj _ _ (by simp)) (i := o + 4) (by simp [Nat.blt_eq]; omega)
 rw [List.set_set, List.set_set, List.set_set, List.set_set] at h5
 have hk := hK _ h5
 unfold stN stN.go stN.go stN.go stN.go stN.go stN.go
 rw [e, e, e, e, e]
 exact ⟨w0', w1', w2', w3', w4', hk⟩
end Pw
namespace Go.Proofs.YtfkmpbpkahcogaaGreatDoor
open Go Pw Dp
def InZ (w : World) (Z : List Sl) (L : List (List Int)) : Prop := Z.length = L.length /\ ∀ i (h : i < Z.length) (h' : i < L.length), Vw 1 encI w Z[i] L[i]
def IoZ (w : World) (Z : List Sl) (L : List (List Int)) : Prop := Z.length = L.length /\ ∀ i (h : i < Z.length) (h' : i < L.length), Ow 1 encI w Z[i] L[i]
theorem IoZ.inz {w : World} {Z : List Sl} {L : List (List Int)} (h : IoZ w Z L) : InZ w Z L := ⟨h.1, fun i a b => (h.2 i a b).vw⟩
theorem IoZ.push {w : World} {Z : List Sl} {L : List (List Int)} {s : Sl} {l : List Int} (h : IoZ w Z L) (hv : Ow 1 encI w s l) : IoZ w (Z ++ [s]) (L ++ [l]) := by
 refine ⟨by simp [h.1], fun i a b => ?_⟩
 rcases Nat.lt_or_ge i Z.length with hi | hi
 ·rw [List.getElem_append_left hi, List.getElem_append_left (by rw [← h.1]; exact hi)]
  exact h.2 i _ _
 ·have hj : i = Z.length := by simp at a; omega
  subst hj
  have h1 := h.1
  rw [List.getElem_append_right (Nat.le_refl _), List.getElem_append_right (by omega)]
  simpa [h.1] using hv
theorem IoZ.pop {w : World} {Z : List Sl} {L : List (List Int)} {s : Sl} {l : List Int} (h : IoZ w (Z ++ [s]) (L ++ [l])) : IoZ w Z L /\ Ow 1 encI w s l := by
 obtain ⟨h1, h2⟩ := h
 simp only [List.length_append, List.length_cons, List.length_nil] at h1
 refine ⟨⟨by omega, fun i a b => ?_⟩, ?_⟩
 ·have := h2 i (by simp; omega) (by simp; omega)
  rw [List.getElem_append_left a, List.getElem_append_left b] at this
  exact this
 ·have := h2 Z.length (by simp) (by simp; omega)
  rw [List.getElem_append_right (Nat.le_refl _), List.getElem_append_right (by omega)] at this
  have e : Z.length = L.length := by omega
  simpa [e] using this
theorem encZ_ok (a : Sl) : ∀ v ∈ encZ a, okC v = true := by intro v hv; simp [encZ] at hv; subst hv; rfl
theorem encI_ok (a : Int) : ∀ v ∈ encI a, okC v = true := by intro v hv; simp [encI] at hv; subst hv; rfl
section
variable {w0 w : World} {x : T29} {p : Pn} {c : XC} {s1 s2 s3 s11 s13 : Sl} {B : Nat -> Prop} {Q : World -> Prop} {b1 b2 b3 : Nat} {K : T43 -> World -> Prop}
theorem Tender_l9 (hp : PP w0 x p) (h : Sp w0 w (tnL b1 b2 b3 (tbx p c s1 s2 s3 s11 s13) x) B Q 1 encZ s13 [])
  (hK : ∀ u s B' Z, (∀ b, B b -> B' b) -> Sp w0 u (tnL b1 b2 b3 (tbx p c s1 s2 s3 s11 s) x) B' (fun u => Q u /\ IoZ u Z ((p.combos.take 3).map (List.take 4))) 1 encZ s Z -> z03_k10 ⟨b2, 0, none⟩ ⟨b3, 0, none⟩ K u) : z03_l9 ⟨b1, 0, none⟩ ⟨b2, 0, none⟩ ⟨b3, 0, none⟩ 0 K w := by
 obtain ⟨Z0, hZ, hZl, hZi⟩ := hp.combos
 have el := hZ.len
 refine ⟨⟨fun i u => ∃ (i' : Nat) (s : Sl) (B' : Nat -> Prop) (Z : List Sl), i = i' /\ i' <= (p.combos.take 3).length /\ (∀ b, B b -> B' b) /\ Sp w0 u (tnL b1 b2 b3 (tbx p c s1 s2 s3 s11 s) x) B' (fun u => Q u /\ IoZ u Z (((p.combos.take 3).take i').map (List.take 4))) 1 encZ s Z, fun i _ => (p.combos.take 3).length - i.toNat,
  ⟨0, s13, B, [], rfl, by omega, fun _ h => h, h.say (fun u u' he hq => ⟨h.rs u u' he hq.1, hq.2.1, fun i h => absurd h (by simp)⟩) (fun _ h => h) fun hq => ⟨hq, rfl, fun i h => absurd h (by simp)⟩⟩, ?_⟩⟩
 rintro i u ⟨i, s, B', Z, rfl, hi, hB, h⟩
 simp only [List.length_take] at hi
 have hend : ¬ (i < p.combos.length /\ i < 3) -> z03_k10 ⟨b2, 0, none⟩ ⟨b3, 0, none⟩ K u := fun hn => hK u s B' Z hB (by
  have : (p.combos.take 3).take i = p.combos.take 3 := List.take_of_length_le (by simp; omega)
  rw [this] at h
  exact h)
 have hzl := h.q.2.1
 simp only [List.length_map, List.length_take] at hzl
 unfold z03_b9
 refine ⟨x.f5, by rw [add_mk]; exact h.ld (i := 5) 2 rfl rfl, cnd_prop.2 ⟨fun h1 => cnd_prop.2 ⟨fun h2 => ?_, fun h2 => hend (by omega)⟩, fun h1 => hend (by omega)⟩⟩
 intro w136
 have h : Sp w0 w136 (tnL b1 b2 b3 (tbx p c s1 s2 s3 s11 s) x) B' (fun u => Q u /\ IoZ u Z (((p.combos.take 3).take i).map (List.take 4))) 1 encZ s Z := h.drew
 clear_value w136
 have hil : i < p.combos.length := by omega
 have hiz : i < Z0.length := by omega
 have hit : i < (p.combos.take 3).length := by simp; omega
 have hS : Rs w136 (tnL b1 b2 b3 (tbx p c s1 s2 s3 s11 s) x) /\ Vw 1 encZ w136 x.f5 Z0 := ⟨h.sub 0 rfl, hZ.fr h.m.1⟩
 refine ⟨fun u => Rs u (tnL b1 b2 b3 (tbx p c s1 s2 s3 s11 s) x) /\ Vw 1 encZ u x.f5 Z0, hS, s, fun u hu => by rw [add_mk]; exact hu.1.ld (i := 13) 0 rfl rfl, x.f5, fun u hu => by rw [add_mk]; exact hu.1.ld (i := 5) 2 rfl rfl, ?_⟩
 refine Vw.goS encZ_length (by decide) hS (fun u hu => hu.2) i rfl hiz fun a hc => ⟨Z0[i], hc 0 _ rfl, x.f5, fun u hu => by rw [add_mk]; exact hu.1.ld (i := 5) 2 rfl rfl, ?_⟩
 refine Vw.goS encZ_length (by decide) hS (fun u hu => hu.2) i rfl hiz fun a hc => ⟨Z0[i], hc 0 _ rfl, ?_⟩
 have hv := (hZi i hiz hil).fr h.m.1
 have hvl := hv.len
 have hvc := hv.cap
 refine ⟨⟨by decide, by omega, by omega⟩, ?_⟩
 intro w145
 have h1 : Sp w0 w145 ((w136.heap.size, ([] : List Int).flatMap encI) :: tnL b1 b2 b3 (tbx p c s1 s2 s3 s11 s) x) B' _ 1 encZ s Z := h.allocL (vs := [])
 have f1 : Fr F0 w136 w145 := Fr.alloc
 clear_value w145
 have hrs := h.rs
 have hos := fun b hb => (h.os b hb).2.1
 have ej : (min (Z0[i].l : Int) 4).toNat = min p.combos[i].length 4 := by omega
 rw [ej]
 refine ⟨⟨h1.sub 1 rfl, hZ.fr h1.m.1⟩, (h1.nextRow encI_length).app (m := p.combos[i].take (min p.combos[i].length 4)) ((hv.fr f1).take encI_length (by omega)) encI_ok rfl (by simp; omega) (by simp; omega) fun s146 w147 h => ⟨⟨h.sub 0 rfl, hZ.fr h.m.1⟩, ?_⟩⟩
 have etk : p.combos[i].take (min p.combos[i].length 4) = p.combos[i].take 4 := by
  rcases Nat.le_total p.combos[i].length 4 with h | h
  ·rw [Nat.min_eq_left h, List.take_of_length_le (Nat.le_refl _), List.take_of_length_le h]
  ·rw [Nat.min_eq_right h]
 rw [List.nil_append, etk] at h
 have h := h.back hrs hos
 have h' := h.fr (Fr.alloc (o := Obj.cells (encZ s146).toArray 25))
 refine ⟨⟨h'.sub 0 rfl, hZ.fr h'.m.1⟩, h.push (a := s146) rfl rfl encZ_ok rfl (by omega) (by omega) fun s149 w150 h => ⟨⟨h.sub 0 rfl, hZ.fr h.m.1⟩, ?_⟩⟩
 rw [add_mk]
 refine ⟨h.wr 0 rfl rfl, ?_⟩
 refine ⟨inR64 (by omega) (by omega), ⟨⟨rfl, rfl, rfl, trivial⟩, i + 1, s149, fun b => B' b \/ inB s146 b, Z ++ [s146], by omega, by omega, fun b hb => .inl (hB b hb), ?_⟩, by dsimp only; omega⟩
 have := h.set (i := 13) (v := .slice s149.p s149.l s149.c) 0 rfl
 rw [take_succ_map _ _ hit, List.getElem_take]
 refine this.say (C := fun b => B' b \/ inB s146 b) (fun u u' he hq => ?_) (fun _ h => h) fun hq => ⟨hq.1.1, hq.1.2.push hq.2⟩
 obtain ⟨hq, hz⟩ := hq
 obtain ⟨hz, hv⟩ := hz.pop
 obtain ⟨a1, a2⟩ := hrs u u' (fun b hb => he b (.inl hb)) ⟨hq, hz⟩
 exact ⟨a1, a2.push (Rests.ow _ _ u u' (fun b hb => he b (.inr hb)) hv)⟩
end
end Go.Proofs.YtfkmpbpkahcogaaGreatDoor
namespace Go.Proofs.YtfkmpbpkahcogaaGreatDoor
open Go Pw Dp
structure TP0 (w : World) (x : T43) (t : Td) : Prop where
 name : x.f0 = ofL t.name
 lots : Vw 2 encL w x.f1 t.lots
 crit : Vw 5 encC w x.f2 t.crit
 reqs : Vw 3 encR w x.f3 t.reqs
 low : x.f4 = t.low
 high : x.f5 = t.high
 fm : XP w t.fm ⟨x.f6, x.f7, x.f8, x.f9, x.f10⟩
 ties : Vw 1 encB w x.f11 t.ties
 most : x.f12 = t.most
 budget : x.f14 = t.budget
 t1 : x.f15 = t.t1
 t2 : x.f16 = t.t2
 t3 : x.f17 = t.t3
 t4 : x.f18 = t.t4
 t5 : x.f19 = t.t5
theorem TP0.tp {w : World} {x : T43} {t : Td} (h : TP0 w x t) (hc : CP w x.f13 t.combos) : TP w x t := { h with combos := hc }
structure TW (w : World) (x : T43) (t : Td) (Z : List Sl) : Prop where
 tp : TP0 w x t
 o1 : Ow 2 encL w x.f1 t.lots
 o2 : Ow 5 encC w x.f2 t.crit
 o3 : Ow 3 encR w x.f3 t.reqs
 o4 : Ow 1 encB w x.f11 t.ties
 fm : ∃ P, XQ P w t.fm ⟨x.f6, x.f7, x.f8, x.f9, x.f10⟩
 ne : ∀ s ∈ t.ties, s ≠ []
 io : IoZ w Z t.combos
structure PFit (p : Pn) : Prop where
 lots : ∀ l ∈ p.lots, I64 l.2
 crit : ∀ l ∈ p.crit, I64 l.2.2.1 /\ I64 l.2.2.2
 reqs : ∀ l ∈ p.reqs, I64 l.2.2
 combos : ∀ l ∈ p.combos, ∀ i ∈ l, I64 i
 o0 : I64 p.o0
 o1 : I64 p.o1
 o2 : I64 p.o2
 o3 : I64 p.o3
 o4 : I64 p.o4
 o5 : I64 p.o5
 o6 : I64 p.o6
 o7 : I64 p.o7
 o8 : I64 p.o8
 o9 : I64 p.o9
theorem parts_fold : ∀ (l : List Fm) (e : Fm) (N : Nat), (∀ x ∈ l, x.parts <= N) -> (l.foldl (fun a b => Fm.op 0 a b) e).parts <= e.parts + l.length * (N + 1)
 | [], e, N, _ => by simp
 | x :: l, e, N, h => by
  have h1 := parts_fold l (.op 0 e x) N fun y hy => h y (List.mem_cons_of_mem _ hy)
  have h2 := h x (List.mem_cons_self ..)
  simp only [List.foldl_cons, List.length_cons, Fm.parts, Nat.add_mul] at h1 ⊢
  omega
def sumP (st : List Fm) : Nat := (st.map Fm.parts).sum
theorem sumP_app (a b : List Fm) : sumP (a ++ b) = sumP a + sumP b := by simp [sumP]
theorem sumP_step (st : List Fm) (x : Int) : sumP (madeStep st x) <= sumP st + 1 := by
 have one : ∀ e : Fm, sumP [e] = e.parts := fun e => by simp [sumP]
 unfold madeStep
 simp only
 split
 ·rw [sumP_app, one]; exact Nat.le_refl _
 ·split
  ·rw [sumP_app, one]; exact Nat.le_refl _
  ·unfold madeOp
   split
   ·rename_i h
    rw [sumP_app, one]
    have e : st = st.take (st.length - 2) ++ [st[st.length - 2], st[st.length - 1]] := by
     apply List.ext_getElem
     ·simp; omega
     ·intro i h1 h2
      rw [List.getElem_append]
      split
      ·rw [List.getElem_take]
      ·rename_i h3
       simp only [List.length_take] at h3
       rcases (show i = st.length - 2 \/ i = st.length - 1 by omega) with rfl | rfl
       ·simp [Nat.min_eq_left (show st.length - 2 <= st.length by omega)]
       ·have : st.length - 1 - (st.length - 2) = 1 := by omega
        simp [Nat.min_eq_left (show st.length - 2 <= st.length by omega), this]
    have h2 := congrArg sumP e
    rw [sumP_app] at h2
    have h3 : sumP [st[st.length - 2], st[st.length - 1]] = st[st.length - 2].parts + st[st.length - 1].parts := by simp [sumP]
    simp only [Fm.parts]
    omega
   ·omega
theorem sumP_made (l : List Int) : ∀ st : List Fm, sumP (l.foldl madeStep st) <= sumP st + l.length := by
 induction l with
 | nil => intro st; simp
 | cons x l ih => intro st; have := ih (madeStep st x); have := sumP_step st x; simp only [List.foldl_cons, List.length_cons]; omega
theorem sumP_mem {st : List Fm} : ∀ {e : Fm}, e ∈ st -> e.parts <= sumP st := by
 induction st with
 | nil => intro e h; cases h
 | cons a st ih =>
  intro e h
  have : sumP (a :: st) = a.parts + sumP st := by simp [sumP]
  rcases List.mem_cons.1 h with rfl | h
  ·omega
  ·have := ih h; omega
theorem made_parts (l : List Int) : (madeF l).parts <= 10000 := by
 unfold madeF
 have h1 := sumP_made (l.take 80) []
 have h2 := made_len (l.take 80) []
 have h3 : (l.take 80).length <= 80 := by simp; omega
 have h0 : sumP [] = 0 := rfl
 simp only [List.length_nil] at h2
 split
 ·simp [Fm.parts]
 ·rename_i e r he
  rw [he] at h1 h2
  have ha := sumP_mem (st := e :: r) (List.mem_cons_self ..)
  have hb := parts_fold r e 80 fun x hx => by have := sumP_mem (st := e :: r) (List.mem_cons_of_mem _ hx); omega
  simp only [List.length_cons] at h2
  have : r.length * (80 + 1) <= 80 * 81 := Nat.mul_le_mul (by omega) (by omega)
  omega
theorem namP_len (n : Int) : (namP n).length <= 7 := by
 have hm := modP_in n (m := 5) (by decide)
 unfold namP
 have : (modP n 5).toNat < 5 := by omega
 generalize (modP n 5).toNat = j at this
 rcases j with _ | _ | _ | _ | _ | j
 iterate 5 decide
 omega
theorem namP_ne (n : Int) : namP n ≠ [] := by
 have hm := modP_in n (m := 5) (by decide)
 unfold namP
 have : (modP n 5).toNat < 5 := by omega
 generalize (modP n 5).toNat = j at this
 rcases j with _ | _ | _ | _ | _ | j
 iterate 5 decide
 omega
theorem modP_I64 (n : Int) {m : Int} (h0 : 0 < m) (h1 : m < 2 ^ 62) : I64 (modP n m) := by
 have := modP_in n h0
 unfold I64; omega
theorem tdP_fit {p : Pn} (h : PFit p) : Fit (tdP p) := by
 refine ⟨?_, ?_, ?_, ?_, ?_, ?_, ?_, ?_, ?_, ?_, ?_, ?_, h.o0, h.o1, h.o2, h.o3, h.o4, h.o5, h.o6, h.o7, h.o8⟩
 ·have := made_parts p.form; simp only [tdP]; omega
 ·have := Lib.itoa_length_le p.o9 h.o9.1 (by have := h.o9.2; omega); simp only [tdP]; omega
 ·simp [tdP]; omega
 ·simp [tdP]; omega
 ·simp [tdP]; omega
 ·simp [tdP]; omega
 ·simp [tdP]; omega
 ·intro l hl
  obtain ⟨a, ha, rfl⟩ := List.mem_map.1 hl
  exact ⟨modP_I64 _ (by decide) (by decide), h.lots a (List.mem_of_mem_take ha)⟩
 ·intro l hl
  obtain ⟨a, ha, rfl⟩ := List.mem_map.1 hl
  exact ⟨Nat.le_trans (namP_len _) (by decide), modP_I64 _ (by decide) (by decide), h.crit a (List.mem_of_mem_take ha)⟩
 ·intro l hl
  obtain ⟨a, ha, rfl⟩ := List.mem_map.1 hl
  refine ⟨Nat.le_trans (namP_len _) (by decide), ?_, h.reqs a (List.mem_of_mem_take ha)⟩
  show (relsB.getD (modP a.2.1 2).toNat []).length <= _
  have hm := modP_in a.2.1 (m := 2) (by decide)
  have : (modP a.2.1 2).toNat < 2 := by omega
  generalize (modP a.2.1 2).toNat = j at this
  rcases j with _ | _ | j
  iterate 2 decide
  omega
 ·intro l hl
  obtain ⟨a, ha, rfl⟩ := List.mem_map.1 hl
  exact Nat.le_trans (namP_len _) (by decide)
 ·intro l hl
  obtain ⟨a, ha, rfl⟩ := List.mem_map.1 hl
  exact ⟨by simp; omega, fun i hi => h.combos a (List.mem_of_mem_take ha) i (List.mem_of_mem_take hi)⟩
section
variable {w0 w : World} {x : T29} {p : Pn} {c : XC} {B : Nat -> Prop} {Q : World -> Prop} {b1 b2 b3 : Nat} {K : T43 -> World -> Prop}
theorem Tender_k0 {P : Nat -> Prop} (hp : PP w0 x p) (h : Sp w0 w [(b3, (T43.mk (ofL (Lib.itoa p.o9)) ⟨none, 0, 0⟩ ⟨none, 0, 0⟩ ⟨none, 0, 0⟩ p.o0 p.o1 c.op c.n c.d c.nm c.a ⟨none, 0, 0⟩ p.o2 ⟨none, 0, 0⟩ p.o3 0 0 0 0 0).cs), (b2, zT), (b1, x.cs)] P (fun u => XQ P u (madeF p.form) c) 2 encL ⟨none, 0, 0⟩ [])
  (hK : ∀ w' y B Q Z, Sp w0 w' [] B Q 1 encZ y.f13 Z -> (∀ u, Q u -> TW u y (tdP p) Z) -> K y w') : z03_k0 ⟨b1, 0, none⟩ ⟨b2, 0, none⟩ ⟨b3, 0, none⟩ K w := by
 have L : ∀ {k j : Nat} {i : Int} {v : Value}, i.toNat * 1 = j -> x.cs[6 + j]? = some v -> w.cell? (((⟨b1, 0, none⟩ : Addr).add 6).add (i.toNat * 1)) = some v := fun {k j i v} e hv => by
  rw [e, add_mk, add_mk]
  exact h.ld (i := 0 + 6 + j) 2 rfl (by simpa using hv)
 refine ⟨?_⟩
 unfold z03_k0d
 refine ⟨⟨by decide, by decide⟩, _, L (k := 0) (j := 4) rfl rfl, ⟨by decide, by decide⟩, _, L (k := 0) (j := 5) rfl rfl, ⟨by decide, by decide⟩, _, L (k := 0) (j := 6) rfl rfl, ⟨by decide, by decide⟩, _, L (k := 0) (j := 7) rfl rfl, ⟨by decide, by decide⟩, _, L (k := 0) (j := 8) rfl rfl, ?_⟩
 rw [add_mk, hp.o4, hp.o5, hp.o6, hp.o7, hp.o8]
 refine stN5 h (j := 0) rfl (by show 0 + 15 + 5 <= 20; decide) fun w1 h => ?_
 have h : Sp w0 w1 (tnL b1 b2 b3 (tbx p c ⟨none, 0, 0⟩ ⟨none, 0, 0⟩ ⟨none, 0, 0⟩ ⟨none, 0, 0⟩ ⟨none, 0, 0⟩) x) P _ 2 encL ⟨none, 0, 0⟩ [] := h
 refine Tender_l1 hp h fun w2 s1 h => ⟨?_⟩
 refine Tender_l3 hp h.next fun w3 s2 h => ⟨?_⟩
 refine Tender_l5 hp h.next fun w4 s3 h => ⟨?_⟩
 refine Tender_l7 hp h.next fun w5 s11 h => ⟨?_⟩
 refine Tender_l9 hp h.next fun w6 s13 B' Z _ h => ⟨?_⟩
 refine T43.ld_row (h.row 0 rfl) (stN_sp h 1 rfl rfl fun w7 h => T43.ld_row (h.row 1 rfl) (hK w7 _ B' _ Z (h.dr 3 rfl) fun u hq => ?_))
 obtain ⟨⟨⟨⟨⟨hX, h1⟩, h2⟩, h3⟩, h4⟩, hz⟩ := hq
 exact ⟨⟨rfl, h1.vw, h2.vw, h3.vw, rfl, rfl, hX.xp, h4.vw, rfl, rfl, rfl, rfl, rfl, rfl, rfl⟩, h1, h2, h3, h4, ⟨_, hX⟩, fun s hs => by obtain ⟨a, _, rfl⟩ := List.mem_map.1 hs; exact namP_ne a, hz⟩
theorem TenderQ_spec (hp : PP w x p) (hf : PFit p) (hK : ∀ w' y B Q Z, Sp w w' [] B Q 1 encZ y.f13 Z -> (∀ u, Q u -> TW u y (tdP p) Z) -> K y w') : z03_sh x K w := by
 refine ⟨?_⟩
 unfold z03_sd
 intro w1
 have m : Mem w w1 [(w.heap.size, x.cs)] := Mem.nil.allocL
 clear_value w1
 intro w2
 have m : Mem w w2 [(w1.heap.size, zT), (w.heap.size, x.cs)] := m.allocL
 clear_value w2
 intro w3
 have m : Mem w w3 [(w1.heap.size, zT), (w.heap.size, x.cs)] := m.drew
 clear_value w3
 have k1 := (m.row 0 rfl).lt
 have k0 := (m.row 1 rfl).lt
 have kw := m.1.1
 have R : ∀ {u : World}, Fr F0 w3 u -> Mem w u [(w1.heap.size, zT), (w.heap.size, x.cs)] := fun h => m.fr h
 have L : ∀ {i : Int} {j : Nat} {v : Value}, i.toNat * 1 = j -> x.cs[6 + j]? = some v -> ∀ u, Fr F0 w3 u -> u.cell? ((⟨w.heap.size, 6, none⟩ : Addr).add (i.toNat * 1)) = some v := fun e hv u hu => by
  rw [e, add_mk]
  exact (R hu).ld 1 rfl hv
 have pv : ∀ {u : World}, Fr F0 w3 u -> Vw 1 encI u x.f3 p.form := fun h => hp.form.fr (m.1.t h)
 refine ⟨fun u => Fr F0 w3 u, Fr.refl, ⟨by decide, by decide⟩, _, L (j := 9) rfl rfl, ⟨by decide, by decide⟩, _, L (j := 0) rfl rfl, ⟨by decide, by decide⟩, _, L (j := 1) rfl rfl, ⟨by decide, by decide⟩, _, L (j := 2) rfl rfl, ⟨by decide, by decide⟩, _, L (j := 3) rfl rfl, x.f3, fun u hu => (R hu).ld 1 rfl rfl, ?_⟩
 rw [hp.o9, hp.o0, hp.o1, hp.o2, hp.o3]
 have fin : ∀ (u : World) (b3 lo hi : Nat) (c : XC), Mem w u [(b3, zT), (w1.heap.size, zT), (w.heap.size, x.cs)] -> XQ (fun b => lo <= b /\ b < hi) u (madeF p.form) c -> w3.heap.size <= lo -> hi <= u.heap.size -> (b3 < lo \/ hi <= b3) ->
   stN u ⟨b3, 0, none⟩ (T43.mk (ofL (Lib.itoa p.o9)) ⟨none, 0, 0⟩ ⟨none, 0, 0⟩ ⟨none, 0, 0⟩ p.o0 p.o1 c.op c.n c.d c.nm c.a ⟨none, 0, 0⟩ p.o2 ⟨none, 0, 0⟩ p.o3 0 0 0 0 0).cs fun w16 => z03_k0 ⟨w.heap.size, 0, none⟩ ⟨w1.heap.size, 0, none⟩ ⟨b3, 0, none⟩ K w16 := by
  intro u b3 lo hi c m hX h1 h2 h3
  have h : Sp w u [(b3, zT), (w1.heap.size, zT), (w.heap.size, x.cs)] (fun b => lo <= b /\ b < hi) (fun u => XQ (fun b => lo <= b /\ b < hi) u (madeF p.form) c) 2 encL ⟨none, 0, 0⟩ ([] : List (Int × Int)) := by
   refine ⟨m, XQ.rests _ _, hX, fun b hb => ⟨by omega, by omega, fun p hp => ?_⟩, ⟨rfl, by simpa using OwnV.nil⟩, fun b ⟨a, ha, _⟩ => by cases ha⟩
   simp only [List.mem_cons, List.not_mem_nil, or_false] at hp
   rcases hp with rfl | rfl | rfl <;> simp only <;> omega
  exact stN_sp h 0 rfl rfl fun w16 h => Tender_k0 hp h hK
 refine ⟨rdecimal_spec hf.o9 fun w11 f11 => ⟨f11, Made_spec (pv f11) fun w13 c f13 hX => ⟨f11.t f13, ?_⟩, ?_⟩, ?_⟩
 ·intro w15
  have m15 : Mem w w15 [(w13.heap.size, zT), _, _] := (R (f11.t f13)).allocL
  have f15 : Fr F0 w13 w15 := Fr.alloc
  have s15 : w13.heap.size <= w15.heap.size := f15.1
  clear_value w15
  exact ⟨f11.t (f13.t f15), fin w15 _ _ _ c m15 (hX.go fun b hb => f15.2.1 b hb.2 fun h => h) f11.1 s15 (.inr (Nat.le_refl _))⟩
 ·intro w17
  have m17 : Mem w w17 [(w11.heap.size, zT), _, _] := (R f11).allocL
  have f17 : Fr F0 w11 w17 := Fr.alloc
  have s17 : w11.heap.size < w17.heap.size := (m17.row 0 rfl).lt
  clear_value w17
  have t1 := f11.1
  refine ⟨f11.t f17, Made_spec (pv (f11.t f17)) fun w18 c f18 hX => ⟨f11.t (f17.t f18), fin w18 _ _ _ c (m17.fr f18) hX (by omega) (Nat.le_refl _) (.inl s17)⟩⟩
 ·intro w21
  have m21 : Mem w w21 [(w3.heap.size, zT), _, _] := m.allocL
  have f21 : Fr F0 w3 w21 := Fr.alloc
  have s21 : w3.heap.size < w21.heap.size := (m21.row 0 rfl).lt
  clear_value w21
  refine ⟨f21, rdecimal_spec hf.o9 fun w22 f22 => ⟨f21.t f22, Made_spec (pv (f21.t f22)) fun w24 c f24 hX => ⟨f21.t (f22.t f24), ?_⟩⟩⟩
  have t2 := f22.1
  exact fin w24 _ _ _ c (m21.fr (f22.t f24)) hX (by omega) (Nat.le_refl _) (.inl (by omega))
theorem TenderW_spec (hp : PP w x p) (hf : PFit p) (hK : ∀ w' y Z, Fr F0 w w' -> TW w' y (tdP p) Z -> Ow 1 encZ w' y.f13 Z -> K y w') : z03_sh x K w :=
 TenderQ_spec hp hf fun w' y _ _ Z h hq => hK w' y Z h.m.1 (hq w' h.q) h.ow
end
end Go.Proofs.YtfkmpbpkahcogaaGreatDoor
