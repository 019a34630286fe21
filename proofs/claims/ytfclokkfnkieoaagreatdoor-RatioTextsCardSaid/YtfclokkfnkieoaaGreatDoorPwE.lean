/- The formula of a region and of a whole body, with cuts and loops; sound for the model's walk. Conditions: none. -/
import Derived.OrdersIn
import Derived.Test.YtfclokkfnkieoaaGreatDoorPwD
namespace Pw
open Go

/-- How a region that keeps the text's order is gone through: run the next one, leave it (its guard says no), part on a truth value. -/
inductive RA where
  | done
  | run (r : RA)
  | raw (r : RA)
  | dyn (z : Value) (r : RA)
  | skp (r : RA)
  | spl (t : Nat) (r1 r2 : RA)

/-- How a region that draws its order is gone through. -/
inductive DA where
  | done
  | pur (i : Nat) (r : DA)
  | prw (i : Nat) (r : DA)
  | skp (i : Nat) (r : DA)
  | eff (i : Nat) (r : DA)
  | dyn (i : Nat) (z : Value) (r : DA)
  | str (i : Nat) (r : DA)
  | two (i : Nat) (r : DA) (j : Nat) (r' : DA)
  | thr (i : Nat) (r : DA) (j : Nat) (r' : DA) (k : Nat) (r'' : DA)
  | spl (t : Nat) (r1 r2 : DA)

/-- Is the operation wanted? -/
def wantB (ops : Array Oper) (σ : St) (o : Oper) : Option Bool :=
  match o.guard with
  | none => some true
  | some (j, want) => match (ops[j]?).bind (·.dst) with
    | none => none
    | some t => match get σ t with
      | some (.bool b) => match b, want with
        | true, true => some true
        | false, false => some true
        | true, false => some false
        | false, true => some false
      | some (.tuple _) => some false
      | _ => none

theorem wantB_sound {n : Nat} {B : List Deferred} {ops : Array Oper} {σ : St} {a : Act} (ha : Agr n B σ a) {o : Oper} {b : Bool} (h : wantB ops σ o = some b) :
    Region.wanted o (yielded ops a.tmps) = b := by
  unfold wantB at h
  unfold Region.wanted
  split at h
  · rename_i hg; rw [hg]; simpa using h
  · rename_i j want hg
    rw [hg]
    split at h
    · cases h
    · rename_i t ht
      split at h
      · rename_i c hc
        have hy : yielded ops a.tmps j = some c := by
          unfold yielded
          rw [ht]
          simp [ha.2.2 t _ hc]
        simp only [hy]
        split at h <;> cases h <;> rfl
      · rename_i cs hc
        have hy : yielded ops a.tmps j = none := by
          unfold yielded
          rw [ht]
          simp [ha.2.2 t _ hc]
        simp only [hy]
        cases h
        rfl
      · cases h

section
variable (P : Program) (Γ : Env) (n : Nat)

def rgW (ops : Array Oper) : RA → List Oper → (St → World → Prop) → St → World → Prop
  | .done, [], K, σ, w => K σ w
  | .run r, o :: os, K, σ, w => match wantB ops σ o with
    | some true => opW P Γ σ o w fun v w' => putK n o.dst v σ fun σ' => rgW ops r os K σ' w'
    | _ => False
  | .raw r, o :: os, K, σ, w => match wantB ops σ o with
    | some true => opR P σ o w fun v w' => putK n o.dst v σ fun σ' => rgW ops r os K σ' w'
    | _ => False
  | .dyn z r, o :: os, K, σ, w => match wantB ops σ o with
    | some true => opV P σ o z w fun v w' => putK n o.dst v σ fun σ' => rgW ops r os K σ' w'
    | _ => False
  | .skp r, o :: os, K, σ, w => match wantB ops σ o with
    | some false => putK n o.dst undef σ fun σ' => rgW ops r os K σ' w
    | _ => False
  | .spl t r1 r2, os, K, σ, w => match get σ t with
    | some (.bool b) => cnd b (rgW ops r1 os K ((t, .bool true) :: σ) w) (rgW ops r2 os K ((t, .bool false) :: σ) w)
    | _ => False
  | _, _, _, _, _ => False

/-- An operation that leaves its value in every world that meets the region's condition. -/
def opP (ld : Addr → Value → Prop) (σ : St) (o : Oper) (K : Value → Prop) : Prop :=
  match spW P σ o.op with
  | some T => T K
  | none => match o.op with
    | .load t x => match ev σ x with
      | some (.pointer (some a)) => ldW P ld t a K
      | _ => False
    | _ => match known σ o.op.operands.toList with
      | false => False
      | true => match pureV P (execOp (rho σ) o) with
        | some v => K v
        | none => False

/-- An int's conversion that may cut: its value is the wrapped one. -/
def opQ (σ : St) (o : Oper) (K : Value → Prop) : Prop :=
  match o.op with
  | .convert s d x => match ev σ x with
    | some (.int _ n) => match P.underlying s, P.underlying d with
      | some _, some (.int k) => K (.int k (k.wrap n))
      | _, _ => False
    | _ => False
  | _ => False

def isLoad : Op → Bool
  | .load .. => true
  | _ => false

/-- Must the region's condition be shown behind this operation? Where a load does not come before it in every order. -/
def needB (ops : Array Oper) (j : Nat) : Bool :=
  match ops[j]? with
  | none => true
  | some oj => (List.range ops.size).any fun u => !(Nat.beq u j) && match ops[u]? with
    | some ou => isLoad ou.op && !(oj.after.toList.any fun e => Region.binds .any e && Nat.beq e.on u)
    | none => false

def readyB (ops : Array Oper) (listed : Array Bool) (l : List Nat) : Bool := Region.ready .any ops listed == l

def drW (ops : Array Oper) : DA → (Addr → Value → Prop) → (World → Prop) → Bool → Array Bool → (St → World → Prop) → St → World → Prop
  | .done, _, _, _, listed, K, σ, w => match readyB ops listed [] with
    | true => K σ w
    | false => False
  | .pur i r, ld, S, ok, listed, K, σ, w => match ops[i]? with
    | some o => match (Region.ready .any ops listed).contains i && Region.free .any ops listed i && (ok || !isLoad o.op) with
      | true => match wantB ops σ o with
        | some true => opP P ld σ o fun v => putK n o.dst v σ fun σ' => drW ops r ld S ok (listed.setIfInBounds i true) K σ' w
        | _ => False
      | false => False
    | none => False
  | .prw i r, ld, S, ok, listed, K, σ, w => match ops[i]? with
    | some o => match (Region.ready .any ops listed).contains i && Region.free .any ops listed i with
      | true => match wantB ops σ o with
        | some true => opQ P σ o fun v => putK n o.dst v σ fun σ' => drW ops r ld S ok (listed.setIfInBounds i true) K σ' w
        | _ => False
      | false => False
    | none => False
  | .skp i r, ld, S, ok, listed, K, σ, w => match ops[i]? with
    | some o => match (Region.ready .any ops listed).contains i && Region.free .any ops listed i with
      | true => match wantB ops σ o with
        | some false => putK n o.dst undef σ fun σ' => drW ops r ld S ok (listed.setIfInBounds i true) K σ' w
        | _ => False
      | false => False
    | none => False
  | .eff i r, ld, S, ok, listed, K, σ, w => match ops[i]? with
    | some o => match readyB ops listed [i] with
      | true => match wantB ops σ o with
        | some true => opW P Γ σ o w fun v w' => match needB ops i with
          | true => S w' ∧ putK n o.dst v σ fun σ' => drW ops r ld S ok (listed.setIfInBounds i true) K σ' w'
          | false => putK n o.dst v σ fun σ' => drW ops r ld S false (listed.setIfInBounds i true) K σ' w'
        | _ => False
      | false => False
    | none => False
  | .dyn i z r, ld, S, ok, listed, K, σ, w => match ops[i]? with
    | some o => match readyB ops listed [i] with
      | true => match wantB ops σ o with
        | some true => opV P σ o z w fun v w' => match needB ops i with
          | true => S w' ∧ putK n o.dst v σ fun σ' => drW ops r ld S ok (listed.setIfInBounds i true) K σ' w'
          | false => putK n o.dst v σ fun σ' => drW ops r ld S false (listed.setIfInBounds i true) K σ' w'
        | _ => False
      | false => False
    | none => False
  | .str i r, _, S, ok, listed, K, σ, w => match ops[i]? with
    | some o => match readyB ops listed [i] with
      | true => match wantB ops σ o with
        | some true => opW P Γ σ o w fun v w' => ∃ S' : World → Prop, S' w' ∧ (∀ u, S' u → S u) ∧ putK n o.dst v σ fun σ' => drW ops r (fun b v => ∀ u, S' u → u.cell? b = some v) S' ok (listed.setIfInBounds i true) K σ' w'
        | _ => False
      | false => False
    | none => False
  | .two i r j r', ld, S, ok, listed, K, σ, w => match readyB ops listed [i, j] with
    | true =>
      (match ops[i]? with
        | some o => match wantB ops σ o with
          | some true => opW P Γ σ o w fun v w' => S w' ∧ putK n o.dst v σ fun σ' => drW ops r ld S ok (listed.setIfInBounds i true) K σ' w'
          | _ => False
        | none => False) ∧
      (match ops[j]? with
        | some o => match wantB ops σ o with
          | some true => opW P Γ σ o w fun v w' => S w' ∧ putK n o.dst v σ fun σ' => drW ops r' ld S ok (listed.setIfInBounds j true) K σ' w'
          | _ => False
        | none => False)
    | false => False
  | .thr i r j r' k r'', ld, S, ok, listed, K, σ, w => match readyB ops listed [i, j, k] with
    | true =>
      (match ops[i]? with
        | some o => match wantB ops σ o with
          | some true => opW P Γ σ o w fun v w' => S w' ∧ putK n o.dst v σ fun σ' => drW ops r ld S ok (listed.setIfInBounds i true) K σ' w'
          | _ => False
        | none => False) ∧
      (match ops[j]? with
        | some o => match wantB ops σ o with
          | some true => opW P Γ σ o w fun v w' => S w' ∧ putK n o.dst v σ fun σ' => drW ops r' ld S ok (listed.setIfInBounds j true) K σ' w'
          | _ => False
        | none => False) ∧
      (match ops[k]? with
        | some o => match wantB ops σ o with
          | some true => opW P Γ σ o w fun v w' => S w' ∧ putK n o.dst v σ fun σ' => drW ops r'' ld S ok (listed.setIfInBounds k true) K σ' w'
          | _ => False
        | none => False)
    | false => False
  | .spl t r1 r2, ld, S, ok, listed, K, σ, w => match get σ t with
    | some (.bool b) => cnd b (drW ops r1 ld S ok listed K ((t, .bool true) :: σ) w) (drW ops r2 ld S ok listed K ((t, .bool false) :: σ) w)
    | _ => False
end

def dep : DA → Nat
  | .done => 0
  | .pur _ r | .prw _ r | .skp _ r | .eff _ r | .dyn _ _ r | .str _ r => dep r + 1
  | .spl _ r1 r2 => max (dep r1) (dep r2)
  | .two _ r1 _ r2 => max (dep r1) (dep r2) + 1
  | .thr _ r1 _ r2 _ r3 => max (max (dep r1) (dep r2)) (dep r3) + 1

theorem Agr.spl {n : Nat} {B : List Deferred} {σ : St} {a : Act} (ha : Agr n B σ a) {t : Nat} {v : Value} (h : get σ t = some v) : Agr n B ((t, v) :: σ) a := by
  refine ⟨ha.1, ha.2.1, fun u x hu => ?_⟩
  rw [get_cons] at hu
  by_cases htu : t = u
  · subst htu; simp at hu; subst hu; exact ha.2.2 _ _ h
  · simp [htu] at hu; exact ha.2.2 _ _ hu

section
variable {P : Program} {Γ : Env} {n : Nat} {B : List Deferred} {r₀ : Option Nat} {m : Nat}

def noSel (ops : Array Oper) : Bool := ops.toList.all fun o => !isSel o.op

theorem noSel_spec {ops : Array Oper} (h : noSel ops = true) {o : Oper} (ho : o ∈ ops) : isSel o.op = false := by
  unfold noSel at h
  rw [List.all_eq_true] at h
  have := h o (by simpa using ho)
  simpa using this

theorem opR_sound {σ : St} {a : Act} (ha : Agr n B σ a) {o : Oper} (hs : isSel o.op = false) {w : World} {K : VW} (h : opR P σ o w K)
    {next : Act → World → Prop} {Q : Exit → Act → World → Prop} (hnext : ∀ v w', K v w' → next (a.put o.dst v) w') : o.wp P a w next Q := by
  unfold opR at h
  split at h
  · exact h.elim
  · rename_i hk
    have hcongr : execOp (rho σ) o = execOp a.eval o := execOp_congr o (by intro cs b hb; rw [hb] at hs; cases hs) fun x hx => ha.rho hk x (by simpa using hx)
    rw [hcongr] at h
    unfold Oper.wp
    split at h
    · rename_i hr; rw [hr]; exact hnext _ _ h
    · rename_i hr; rw [hr]; exact hnext _ _ h
    · exact h.elim

theorem rgW_tail (hΓ : EnvOk P Γ) {ops : Array Oper} {tl : List Nat} {K : St → World → Prop} {Q : Exit → Act → World → Prop}
    (hK : ∀ σ a w, Agr n B σ a → K σ w → wpOpsIn (fen r₀) m P ops Q tl a w) :
    ∀ (r : RA) (os : List Oper) (i : Nat) (σ : St) (a : Act) (w : World), (∀ o ∈ os, isSel o.op = false) → (∀ j, j < os.length → os[j]? = ops[i + j]?) → Agr n B σ a → rgW P Γ n ops r os K σ w →
      wpOpsIn (fen r₀) m P ops Q (List.range' i os.length ++ tl) a w := by
  intro r
  have step : ∀ (o : Oper) (os : List Oper) (i : Nat), (∀ j, j < (o :: os).length → (o :: os)[j]? = ops[i + j]?) → ops[i]? = some o ∧ ∀ j, j < os.length → os[j]? = ops[i + 1 + j]? := by
    intro o os i h
    have h0 := h 0 (by simp)
    simp only [List.getElem?_cons_zero, Nat.add_zero] at h0
    refine ⟨h0.symm, fun j hj => ?_⟩
    have := h (j + 1) (by simpa using hj)
    simp only [List.getElem?_cons_succ] at this
    rw [this, show i + 1 + j = i + (j + 1) by omega]
  induction r with
  | done =>
    intro os i σ a w hso hos ha h
    cases os with
    | nil => exact hK σ a w ha h
    | cons o os => exact h.elim
  | run r ih =>
    intro os i σ a w hso hos ha h
    cases os with
    | nil => exact h.elim
    | cons o os =>
      obtain ⟨hi, hos'⟩ := step o os i hos
      have hmem := hso o (by simp)
      have hso' : ∀ o ∈ os, isSel o.op = false := fun o ho => hso o (by simp [ho])
      simp only [rgW] at h
      split at h
      · rename_i hw
        have hwant := wantB_sound ha hw
        simp only [List.length_cons, List.range'_succ, List.cons_append, wpOpsIn, hi, hwant, if_true]
        refine wp_up hmem (opW_sound hΓ ha hmem h fun v w' hv => ?_)
        obtain ⟨σ', hσ', ha'⟩ := putK_sound hv ha
        exact ih os (i + 1) σ' _ w' hso' hos' ha' hσ'
      · exact h.elim
  | raw r ih =>
    intro os i σ a w hso hos ha h
    cases os with
    | nil => exact h.elim
    | cons o os =>
      obtain ⟨hi, hos'⟩ := step o os i hos
      have hmem := hso o (by simp)
      have hso' : ∀ o ∈ os, isSel o.op = false := fun o ho => hso o (by simp [ho])
      simp only [rgW] at h
      split at h
      · rename_i hw
        have hwant := wantB_sound ha hw
        simp only [List.length_cons, List.range'_succ, List.cons_append, wpOpsIn, hi, hwant, if_true]
        refine wp_up hmem (opR_sound ha hmem h fun v w' hv => ?_)
        obtain ⟨σ', hσ', ha'⟩ := putK_sound hv ha
        exact ih os (i + 1) σ' _ w' hso' hos' ha' hσ'
      · exact h.elim
  | dyn z r ih =>
    intro os i σ a w hso hos ha h
    cases os with
    | nil => exact h.elim
    | cons o os =>
      obtain ⟨hi, hos'⟩ := step o os i hos
      have hmem := hso o (by simp)
      have hso' : ∀ o ∈ os, isSel o.op = false := fun o ho => hso o (by simp [ho])
      simp only [rgW] at h
      split at h
      · rename_i hw
        have hwant := wantB_sound ha hw
        simp only [List.length_cons, List.range'_succ, List.cons_append, wpOpsIn, hi, hwant, if_true]
        refine opV_sound ha h fun v w' hv => ?_
        obtain ⟨σ', hσ', ha'⟩ := putK_sound hv ha
        exact ih os (i + 1) σ' _ w' hso' hos' ha' hσ'
      · exact h.elim
  | skp r ih =>
    intro os i σ a w hso hos ha h
    cases os with
    | nil => exact h.elim
    | cons o os =>
      obtain ⟨hi, hos'⟩ := step o os i hos
      have hmem := hso o (by simp)
      have hso' : ∀ o ∈ os, isSel o.op = false := fun o ho => hso o (by simp [ho])
      simp only [rgW] at h
      split at h
      · rename_i hw
        have hwant := wantB_sound ha hw
        simp only [List.length_cons, List.range'_succ, List.cons_append, wpOpsIn, hi, hwant, Bool.false_eq_true, if_false]
        obtain ⟨σ', hσ', ha'⟩ := putK_sound h ha
        exact ⟨fun _ _ => trivial, ih os (i + 1) σ' _ w hso' hos' ha' hσ'⟩
      · exact h.elim
  | spl t r1 r2 ih1 ih2 =>
    intro os i σ a w hso hos ha h
    simp only [rgW] at h
    split at h
    · rename_i b hb
      cases b
      · exact ih2 os i _ a w hso hos (ha.spl hb) h
      · exact ih1 os i _ a w hso hos (ha.spl hb) h
    · exact h.elim

theorem rgW_sound (hΓ : EnvOk P Γ) {ops : Array Oper} (hs : noSel ops = true) {K : St → World → Prop} {Q : Exit → Act → World → Prop}
    (hK : ∀ σ a w, Agr n B σ a → K σ w → Q .normal a w) (r : RA) (os : List Oper) (i : Nat) (σ : St) (a : Act) (w : World) (hos : ∀ j, os[j]? = ops[i + j]?) (ha : Agr n B σ a) (h : rgW P Γ n ops r os K σ w) :
    wpOpsIn (fen r₀) m P ops Q (List.range' i os.length) a w := by
  have := rgW_tail (r₀ := r₀) (m := m) (tl := []) (Q := Q) hΓ (fun σ a w ha hk => hK σ a w ha hk) r os i σ a w (fun o ho => by
    obtain ⟨j, hj⟩ := List.getElem?_of_mem ho
    rw [hos] at hj
    exact noSel_spec hs (Array.mem_of_getElem? hj)) (fun j _ => hos j) ha h
  simpa using this

theorem opP_sound {ops : Array Oper} {ld : Addr → Value → Prop} {S : World → Prop} (hld : ∀ b v, ld b v → ∀ w, S w → w.cell? b = some v)
    {σ : St} {a : Act} (ha : Agr n B σ a) {o : Oper} (hs : isSel o.op = false) (hw : Region.wanted o (yielded ops a.tmps) = true) {K : Value → Prop} (h : opP P ld σ o K) :
    ∃ v, K v ∧ YieldsIf P ops S o v a := by
  unfold opP at h
  split at h
  · rename_i T hT
    obtain ⟨v, hv, hr⟩ := spW_sound (P := P) ha hT h
    exact ⟨v, hv, .inl ⟨hw, fun w _ => hr w⟩⟩
  · split at h
    · rename_i t x ho
      split at h
      · rename_i b hx
        obtain ⟨v, hv, hr⟩ := ldW_sound (P := P) (S := S) hld h
        refine ⟨v, hv, .inl ⟨hw, fun w hS => ?_⟩⟩
        simp only [execOp, ho, Instr.loadAt, ha.ev hx, Instr.sureAddr, Sem.run_bind, Sem.run_pure, Result.andThen_ok, hr w hS]
      · exact h.elim
    · split at h
      · exact h.elim
      · rename_i hk
        split at h
        · rename_i v hv
          have hcongr : execOp (rho σ) o = execOp a.eval o := execOp_congr o (by intro cs b hb; rw [hb] at hs; cases hs) fun x hx => ha.rho hk x (by simpa using hx)
          rw [hcongr] at hv
          exact ⟨v, h, .inl ⟨hw, fun w _ => pureV_sound _ hv w⟩⟩
        · exact h.elim

theorem noSel_region {ops : Array Oper} (h : noSel ops = true) : Region.noSelect ops = true := by
  unfold Region.noSelect
  rw [Array.all_eq_true_iff_forall_mem]
  intro o ho
  have := noSel_spec h ho
  cases hop : o.op <;> simp_all [isSel]

theorem yif_wpOp {ops : Array Oper} {Q : Exit → Act → World → Prop} {S : World → Prop} {i : Nat} {o : Oper} {v : Value} {a : Act} (hi : ops[i]? = some o) (hs : isSel o.op = false) (hy : YieldsIf P ops S o v a)
    {K : Act → World → Prop} {w : World} (hS : S w) (h : K (a.put o.dst v) w) : wpOpIn (fen r₀) m P ops Q i K a w := by
  unfold wpOpIn
  simp only [hi]
  rcases hy with ⟨hw, hv⟩ | ⟨hw, rfl⟩
  · simp only [hw, if_true]
    refine ⟨fun _ _ => trivial, ?_⟩
    rw [Oper.semAt_eq _ a.eval o (by intro c hc; rw [hc] at hs; cases hs), hv w hS]
    exact h
  · simp only [hw, Bool.false_eq_true, if_false]
    exact ⟨fun _ _ => trivial, h⟩

theorem wpOp_putF {ops : Array Oper} {Q : Exit → Act → World → Prop} {S : World → Prop} {j : Nat} {oi oj : Oper} {v : Value} (hj : ops[j]? = some oj) (hap : oi.apart ops oj = true)
    (hsi : ∀ cs b, oi.op ≠ .select cs b) (hsj : isSel oj.op = false)
    (hQ : ∀ c a w, ¬ Q (.panic c) a w) {K : Act → World → Prop} {a : Act} {w : World}
    (hy : YieldsIf P ops S oi v a) (h : wpOpIn (fen r₀) m P ops Q j K (a.put oi.dst v) w) :
    wpOpIn (fen r₀) m P ops Q j (fun a' w' => YieldsIf P ops S oi v a' ∧ K (a'.put oi.dst v) w') a w := by
  obtain ⟨h1, h2, h3⟩ := Oper.apart_spec hap
  have hd : ∀ c, oj.op ≠ .defer c := fun c hc => by rw [hc] at hsj; cases hsj
  have hsj' : ∀ cs b, oj.op ≠ .select cs b := fun cs b hc => by rw [hc] at hsj; cases hsj
  have keep : ∀ (a : Act), YieldsIf P ops S oi v a → ∀ u, YieldsIf P ops S oi v (a.put oj.dst u) := fun a hy u =>
    hy.of_same (execOp_put oi hsi a oj.dst u h3) (wanted_put oi a oj.dst u h3)
  unfold wpOpIn at *
  simp only [hj] at *
  rw [wanted_put oj a oi.dst v h1] at h
  split
  · rename_i hw
    simp only [hw, if_true] at h
    unfold Oper.wpIn at *
    refine ⟨fun _ _ => trivial, ?_⟩
    have h := h.2
    rw [Oper.semAt_eq _ _ oj hd, execOp_put oj hsj' a oi.dst v h1] at h
    rw [Oper.semAt_eq _ _ oj hd]
    generalize (execOp a.eval oj).run P w = r at *
    cases r with
    | ok x w' =>
      cases x <;> simp only [Oper.uponIn] at h ⊢
      case value u => exact ⟨keep a hy u, by rw [← Act.put_comm a v u h2]; exact h⟩
      case skip => exact ⟨keep a hy _, by rw [← Act.put_comm a v undef h2]; exact h⟩
      case defer d =>
        refine ⟨(show YieldsIf P ops S oi v { a with defers := d :: a.defers } from hy.of_same rfl rfl).of_same (execOp_put oi hsi _ oj.dst undef h3) (wanted_put oi _ oj.dst undef h3), ?_⟩
        rw [← Act.put_comm _ v undef h2, ← Act.put_defers]
        exact h
      case enter f args =>
        refine ⟨h.1, CallsIn.mono h.2 fun e w'' he => ?_⟩
        cases e with
        | returned u => exact ⟨keep a hy u, by rw [← Act.put_comm a v u h2]; exact he⟩
        | panicked c => exact (hQ _ _ _ he).elim
        | outgrown => exact he
      case row row args => exact ⟨h.1, RowsIn.mono h.2 fun u w'' he => ⟨keep a hy u, by rw [← Act.put_comm a v u h2]; exact he⟩⟩
      case round l f tmps assign body =>
        refine ⟨h.1, RoundIn.mono h.2 fun e w'' he => ?_⟩
        cases e with
        | returned u => exact ⟨keep a hy u, by rw [← Act.put_comm a v u h2]; exact he⟩
        | panicked c => exact (hQ _ _ _ he).elim
        | outgrown => exact he
    | halt x w' =>
      cases x <;> simp only [Oper.uponIn] at h ⊢
      case panic u => exact (hQ _ _ _ h).elim
  · rename_i hw
    simp only [hw] at h
    exact ⟨fun _ _ => trivial, keep a hy _, by rw [← Act.put_comm a v undef h2]; exact h.2⟩

/-- Whatever order: the region's condition is kept, or made stronger, by each operation that must keep it. -/
def wpF (r₀ : Option Nat) (m : Nat) (P : Program) (ops : Array Oper) (Q : Exit → Act → World → Prop) : (World → Prop) → Nat → Array Bool → Act → World → Prop
  | _, 0, listed, a, w => Region.ready .any ops listed = [] ∧ Q .normal a w
  | S, f + 1, listed, a, w =>
    (Region.ready .any ops listed = [] → Q .normal a w) ∧
    ∀ i ∈ Region.ready .any ops listed, wpOpIn (fen r₀) m P ops Q i (fun a' w' => ∃ S' : World → Prop, (needB ops i = true → S w → S' w') ∧ (∀ u, S' u → S u) ∧ wpF r₀ m P ops Q S' f (listed.setIfInBounds i true) a' w') a w

theorem wpAny_of_wpF {ops : Array Oper} {Q : Exit → Act → World → Prop} : ∀ (f : Nat) (S : World → Prop) (listed : Array Bool) (a : Act) (w : World), wpF r₀ m P ops Q S f listed a w → wpAnyIn (fen r₀) m P .any ops Q f listed a w
  | 0, _, _, _, _, h => h
  | f + 1, _, _, _, _, h => ⟨h.1, fun i hi => wpOpIn_mono (fun a' w' h' => let ⟨S', _, _, h''⟩ := h'; wpAny_of_wpF f S' _ a' w' h'') (h.2 i hi)⟩

theorem yif_weak {ops : Array Oper} {S S' : World → Prop} {o : Oper} {v : Value} {a : Act} (hy : YieldsIf P ops S o v a) (h : ∀ u, S' u → S u) : YieldsIf P ops S' o v a := by
  rcases hy with ⟨hw, hv⟩ | ⟨hw, rfl⟩
  · exact .inl ⟨hw, fun w hS => hv w (h w hS)⟩
  · exact .inr ⟨hw, rfl⟩

/-- An operation that leaves its value in every world of T may be taken first. -/
theorem wpF_first {ops : Array Oper} {Q : Exit → Act → World → Prop} {T : (World → Prop) → World → Prop} {i : Nat} {oi : Oper} {v : Value} (hi : ops[i]? = some oi) (hs : noSel ops = true) (hQ : ∀ c a w, ¬ Q (.panic c) a w)
    (hTm : ∀ (S S' : World → Prop), (∀ u, S' u → S u) → ∀ u, T S' u → T S u)
    (hT : ∀ (S S' : World → Prop) j oj w w', ops[j]? = some oj → j ≠ i → (∀ e ∈ oj.after, Region.binds .any e = true → e.on ≠ i) → T S w → (needB ops j = true → S w → S' w') → T S' w') :
    ∀ (f : Nat) (S : World → Prop) (listed : Array Bool) (a : Act) (w : World),
      (∀ j oj, ops[j]? = some oj → j ≠ i → listed.getD j true = false → (∀ e ∈ oj.after, Region.binds .any e = true → e.on ≠ i) → oi.apart ops oj = true) →
      i ∈ Region.ready .any ops listed → YieldsIf P ops (T S) oi v a → T S w →
      wpF r₀ m P ops Q S f (listed.setIfInBounds i true) (a.put oi.dst v) w → wpF r₀ m P ops Q S (f + 1) listed a w := by
  have hsel : ∀ {o : Oper}, o ∈ ops → ∀ cs b, o.op ≠ .select cs b := fun ho cs b hb => by
    have := noSel_spec hs ho
    rw [hb] at this; cases this
  intro f
  induction f with
  | zero =>
    intro S listed a w _ hr hy hTw H
    refine ⟨fun h => (by rw [h] at hr; cases hr), fun j hj => ?_⟩
    by_cases hji : j = i
    · subst hji; exact yif_wpOp hi (noSel_spec hs (Array.mem_of_getElem? hi)) hy hTw ⟨S, fun _ h => h, fun _ h => h, H⟩
    · have := ready_mono hj hji
      rw [H.1] at this
      cases this
  | succ f ih =>
    intro S listed a w hfree hr hy hTw H
    refine ⟨fun h => (by rw [h] at hr; cases hr), fun j hj => ?_⟩
    by_cases hji : j = i
    · subst hji; exact yif_wpOp hi (noSel_spec hs (Array.mem_of_getElem? hi)) hy hTw ⟨S, fun _ h => h, fun _ h => h, H⟩
    · have h1 := H.2 j (ready_mono hj hji)
      obtain ⟨hjun, oj, hoj, hall⟩ := mem_ready.1 hj
      have hnot : ∀ e ∈ oj.after, Region.binds .any e = true → e.on ≠ i := fun e he hb heq => by
        have h1 := hall e he hb
        have h0 := (mem_ready.1 hr).1
        rw [heq] at h1
        rcases Nat.lt_or_ge i listed.size with h' | h'
        · simp [h'] at h0 h1; rw [h0] at h1; cases h1
        · simp [Array.getElem?_eq_none h'] at h1
      have h2 := wpOp_putF hoj (hfree j oj hoj hji hjun hnot) (hsel (Array.mem_of_getElem? hi)) (noSel_spec hs (Array.mem_of_getElem? hoj)) hQ hy h1
      refine wpOpIn_mono (fun a' w' h3 => ?_) h2
      obtain ⟨h4, S', h5, h6, h7⟩ := h3
      refine ⟨S', h5, h6, ih S' (listed.setIfInBounds j true) a' w' ?_ (ready_mono hr (Ne.symm hji)) (yif_weak h4 (hTm S S' h6)) (hT S S' j oj w w' hoj hji hnot hTw h5) ?_⟩
      · intro k ok hk hki hun hno
        refine hfree k ok hk hki ?_ hno
        by_cases hjk : j = k
        · subst hjk; exact hjun
        · rw [getD_set_ne true hjk] at hun; exact hun
      · rw [Array.setIfInBounds_comm _ _ hji]
        exact h7

theorem needB_load {ops : Array Oper} {i j : Nat} {oi oj : Oper} (hi : ops[i]? = some oi) (hl : isLoad oi.op = true) (hj : ops[j]? = some oj) (hne : j ≠ i)
    (hno : ∀ e ∈ oj.after, Region.binds .any e = true → e.on ≠ i) : needB ops j = true := by
  unfold needB
  rw [hj]
  simp only [List.any_eq_true, List.mem_range]
  refine ⟨i, (Array.getElem?_eq_some_iff.1 hi).1, ?_⟩
  rw [hi]
  have h1 : Nat.beq i j = false := by
    cases hb : Nat.beq i j with
    | false => rfl
    | true => exact absurd (Nat.eq_of_beq_eq_true hb).symm hne
  have h2 : (oj.after.toList.any fun e => Region.binds .any e && Nat.beq e.on i) = false := by
    rw [List.any_eq_false]
    intro e he hb
    simp only [Bool.and_eq_true] at hb
    exact hno e (by simpa using he) hb.1 (Nat.eq_of_beq_eq_true hb.2)
  simp [h1, hl, h2]

theorem wpF_take {ops : Array Oper} {Q : Exit → Act → World → Prop} {S : World → Prop} {T : (World → Prop) → World → Prop} {i : Nat} {oi : Oper} {v : Value} {f : Nat} {listed : Array Bool} {a : Act} {w : World} (hi : ops[i]? = some oi) (hs : noSel ops = true) (hQ : ∀ c a w, ¬ Q (.panic c) a w)
    (hTm : ∀ (S S' : World → Prop), (∀ u, S' u → S u) → ∀ u, T S' u → T S u)
    (hT : ∀ (S S' : World → Prop) j oj w w', ops[j]? = some oj → j ≠ i → (∀ e ∈ oj.after, Region.binds .any e = true → e.on ≠ i) → T S w → (needB ops j = true → S w → S' w') → T S' w')
    (hf : Region.free .any ops listed i = true) (hr : (Region.ready .any ops listed).contains i = true) (hy : YieldsIf P ops (T S) oi v a) (hTw : T S w)
    (h : wpF r₀ m P ops Q S f (listed.setIfInBounds i true) (a.put oi.dst v) w) : wpF r₀ m P ops Q S (f + 1) listed a w :=
  wpF_first hi hs hQ hTm hT f S listed a w (Region.free_spec hi hf) (by simpa using hr) hy hTw h

theorem wpF_done {ops : Array Oper} {Q : Exit → Act → World → Prop} {S : World → Prop} {listed : Array Bool} {a : Act} {w : World} (hr : Region.ready .any ops listed = []) (h : Q .normal a w) : ∀ f, wpF r₀ m P ops Q S f listed a w
  | 0 => ⟨hr, h⟩
  | _ + 1 => ⟨fun _ => h, by rw [hr]; simp⟩

theorem wpF_all {ops : Array Oper} {Q : Exit → Act → World → Prop} {S : World → Prop} {rs : List Nat} {f : Nat} {listed : Array Bool} {a : Act} {w : World} (hr : Region.ready .any ops listed = rs) (hne : rs ≠ [])
    (h : ∀ i ∈ rs, wpOpIn (fen r₀) m P ops Q i (fun a' w' => ∃ S' : World → Prop, (needB ops i = true → S w → S' w') ∧ (∀ u, S' u → S u) ∧ wpF r₀ m P ops Q S' f (listed.setIfInBounds i true) a' w') a w) : wpF r₀ m P ops Q S (f + 1) listed a w :=
  ⟨fun h0 => absurd (hr ▸ h0) hne, hr ▸ h⟩

theorem opP_any {ops : Array Oper} {ld : Addr → Value → Prop} {σ : St} {a : Act} (ha : Agr n B σ a) {o : Oper} (hs : isSel o.op = false) (hl : isLoad o.op = false) (hw : Region.wanted o (yielded ops a.tmps) = true) {K : Value → Prop} (h : opP P ld σ o K) :
    ∃ v, K v ∧ YieldsIf P ops (fun _ => True) o v a := by
  unfold opP at h
  split at h
  · rename_i T hT
    obtain ⟨v, hv, hr⟩ := spW_sound (P := P) ha hT h
    exact ⟨v, hv, .inl ⟨hw, fun w _ => hr w⟩⟩
  · split at h
    · rename_i t x ho
      rw [ho] at hl
      cases hl
    · split at h
      · exact h.elim
      · rename_i hk
        split at h
        · rename_i v hv
          have hcongr : execOp (rho σ) o = execOp a.eval o := execOp_congr o (by intro cs b hb; rw [hb] at hs; cases hs) fun x hx => ha.rho hk x (by simpa using hx)
          rw [hcongr] at hv
          exact ⟨v, h, .inl ⟨hw, fun w _ => pureV_sound _ hv w⟩⟩
        · exact h.elim

theorem opQ_any {ops : Array Oper} {σ : St} {a : Act} (ha : Agr n B σ a) {o : Oper} (hw : Region.wanted o (yielded ops a.tmps) = true) {K : Value → Prop} (h : opQ P σ o K) :
    ∃ v, K v ∧ YieldsIf P ops (fun _ => True) o v a := by
  unfold opQ at h
  split at h
  · rename_i s d x ho
    split at h
    · rename_i k m hx
      split at h
      · rename_i ds k' hs hd
        refine ⟨_, h, .inl ⟨hw, fun w _ => ?_⟩⟩
        simp [execOp, ho, ha.ev hx, convert, run_underlying hs, run_underlying hd, Conv.intToInt]
      · exact h.elim
    · exact h.elim
  · exact h.elim

theorem drW_sound (hΓ : EnvOk P Γ) {ops : Array Oper} (hs : noSel ops = true) 
    {K : St → World → Prop} {Q : Exit → Act → World → Prop} (hQ : ∀ c a w, ¬ Q (.panic c) a w) (hK : ∀ σ a w, Agr n B σ a → K σ w → Q .normal a w) :
    ∀ (r : DA) (ld : Addr → Value → Prop) (S : World → Prop), (∀ b v, ld b v → ∀ w, S w → w.cell? b = some v) → ∀ (ok : Bool) (listed : Array Bool) (σ : St) (a : Act) (w : World), (ok = true → S w) → Agr n B σ a → drW P Γ n ops r ld S ok listed K σ w → ∀ f, dep r ≤ f → wpF r₀ m P ops Q S f listed a w := by
  intro r
  induction r with
  | done =>
    intro ld S hld ok listed σ a w hS ha h f _
    simp only [drW] at h
    split at h
    · rename_i hr
      exact wpF_done (by simpa [readyB] using hr) (hK σ a w ha h) _
    · exact h.elim
  | pur i r ih =>
    intro ld S hld ok listed σ a w hS ha h f hf
    simp only [drW] at h
    split at h
    · rename_i o ho
      split at h
      · rename_i hrf
        simp only [Bool.and_eq_true, Bool.or_eq_true, Bool.not_eq_true'] at hrf
        obtain ⟨⟨hr1, hr2⟩, hok⟩ := hrf
        split at h
        · rename_i hw
          have hwant := wantB_sound ha hw
          simp only [dep] at hf
          obtain ⟨f', rfl⟩ : ∃ f', f = f' + 1 := ⟨f - 1, by omega⟩
          cases hl : isLoad o.op with
          | true =>
            have hokt : ok = true := by
              rcases hok with h | h
              · exact h
              · rw [hl] at h; cases h
            obtain ⟨v, hv, hy⟩ := opP_sound (ops := ops) hld ha (noSel_spec hs (Array.mem_of_getElem? ho)) hwant h
            obtain ⟨σ', hσ', ha'⟩ := putK_sound hv ha
            exact wpF_take (T := fun S => S) ho hs hQ (fun _ _ h u hu => h u hu) (fun _ _ j oj w w' hj hne hno hT hn => hn (needB_load ho hl hj hne hno) hT) hr2 hr1 hy (hS hokt) (ih ld S hld ok _ σ' _ w hS ha' hσ' f' (by omega))
          | false =>
            obtain ⟨v, hv, hy⟩ := opP_any (ops := ops) ha (noSel_spec hs (Array.mem_of_getElem? ho)) hl hwant h
            obtain ⟨σ', hσ', ha'⟩ := putK_sound hv ha
            exact wpF_take (T := fun _ _ => True) ho hs hQ (fun _ _ _ _ _ => trivial) (fun _ _ _ _ _ _ _ _ _ _ _ => trivial) hr2 hr1 hy trivial (ih ld S hld ok _ σ' _ w hS ha' hσ' f' (by omega))
        · exact h.elim
      · exact h.elim
    · exact h.elim
  | prw i r ih =>
    intro ld S hld ok listed σ a w hS ha h f hf
    simp only [drW] at h
    split at h
    · rename_i o ho
      split at h
      · rename_i hrf
        simp only [Bool.and_eq_true] at hrf
        split at h
        · rename_i hw
          have hwant := wantB_sound ha hw
          simp only [dep] at hf
          obtain ⟨f', rfl⟩ : ∃ f', f = f' + 1 := ⟨f - 1, by omega⟩
          obtain ⟨v, hv, hy⟩ := opQ_any (ops := ops) ha hwant h
          obtain ⟨σ', hσ', ha'⟩ := putK_sound hv ha
          exact wpF_take (T := fun _ _ => True) ho hs hQ (fun _ _ _ _ _ => trivial) (fun _ _ _ _ _ _ _ _ _ _ _ => trivial) hrf.2 hrf.1 hy trivial (ih ld S hld ok _ σ' _ w hS ha' hσ' f' (by omega))
        · exact h.elim
      · exact h.elim
    · exact h.elim
  | skp i r ih =>
    intro ld S hld ok listed σ a w hS ha h f hf
    simp only [drW] at h
    split at h
    · rename_i o ho
      split at h
      · rename_i hrf
        simp only [Bool.and_eq_true] at hrf
        split at h
        · rename_i hw
          have hwant := wantB_sound ha hw
          obtain ⟨σ', hσ', ha'⟩ := putK_sound h ha
          simp only [dep] at hf
          obtain ⟨f', rfl⟩ : ∃ f', f = f' + 1 := ⟨f - 1, by omega⟩
          exact wpF_take (T := fun _ _ => True) (v := undef) ho hs hQ (fun _ _ _ _ _ => trivial) (fun _ _ _ _ _ _ _ _ _ _ _ => trivial) hrf.2 hrf.1 (.inr ⟨hwant, rfl⟩) trivial (ih ld S hld ok _ σ' _ w hS ha' hσ' f' (by omega))
        · exact h.elim
      · exact h.elim
    · exact h.elim
  | eff i r ih =>
    intro ld S hld ok listed σ a w hS ha h f hf
    simp only [drW] at h
    split at h
    · rename_i o ho
      split at h
      · rename_i hr
        split at h
        · rename_i hw
          have hwant := wantB_sound ha hw
          simp only [dep] at hf
          obtain ⟨f', rfl⟩ : ∃ f', f = f' + 1 := ⟨f - 1, by omega⟩
          refine wpF_all (rs := [i]) (by simpa [readyB] using hr) (by simp) fun j hj => ?_
          simp only [List.mem_singleton] at hj
          subst hj
          simp only [wpOpIn, ho, hwant, if_true]
          refine wp_up (noSel_spec hs (Array.mem_of_getElem? ho)) (opW_sound hΓ ha (noSel_spec hs (Array.mem_of_getElem? ho)) h fun v w' hv => ?_)
          split at hv
          · obtain ⟨hS', hv⟩ := hv
            obtain ⟨σ', hσ', ha'⟩ := putK_sound hv ha
            exact ⟨S, fun _ _ => hS', fun _ h => h, ih ld S hld ok _ σ' _ w' (fun _ => hS') ha' hσ' f' (by omega)⟩
          · rename_i hn
            obtain ⟨σ', hσ', ha'⟩ := putK_sound hv ha
            exact ⟨S, fun h => (by rw [hn] at h; cases h), fun _ h => h, ih ld S hld false _ σ' _ w' (fun h => by cases h) ha' hσ' f' (by omega)⟩
        · exact h.elim
      · exact h.elim
    · exact h.elim
  | str i r ih =>
    intro ld S hld ok listed σ a w hS ha h f hf
    simp only [drW] at h
    split at h
    · rename_i o ho
      split at h
      · rename_i hr
        split at h
        · rename_i hw
          have hwant := wantB_sound ha hw
          simp only [dep] at hf
          obtain ⟨f', rfl⟩ : ∃ f', f = f' + 1 := ⟨f - 1, by omega⟩
          refine wpF_all (rs := [i]) (by simpa [readyB] using hr) (by simp) fun j hj => ?_
          simp only [List.mem_singleton] at hj
          subst hj
          simp only [wpOpIn, ho, hwant, if_true]
          refine wp_up (noSel_spec hs (Array.mem_of_getElem? ho)) (opW_sound hΓ ha (noSel_spec hs (Array.mem_of_getElem? ho)) h fun v w' hv => ?_)
          obtain ⟨S', hS', hSS, hv⟩ := hv
          obtain ⟨σ', hσ', ha'⟩ := putK_sound hv ha
          exact ⟨S', fun _ _ => hS', hSS, ih _ S' (fun b v hb u hu => hb u hu) ok _ σ' _ w' (fun _ => hS') ha' hσ' f' (by omega)⟩
        · exact h.elim
      · exact h.elim
    · exact h.elim
  | dyn i z r ih =>
    intro ld S hld ok listed σ a w hS ha h f hf
    simp only [drW] at h
    split at h
    · rename_i o ho
      split at h
      · rename_i hr
        split at h
        · rename_i hw
          have hwant := wantB_sound ha hw
          simp only [dep] at hf
          obtain ⟨f', rfl⟩ : ∃ f', f = f' + 1 := ⟨f - 1, by omega⟩
          refine wpF_all (rs := [i]) (by simpa [readyB] using hr) (by simp) fun j hj => ?_
          simp only [List.mem_singleton] at hj
          subst hj
          simp only [wpOpIn, ho, hwant, if_true]
          refine opV_sound ha h fun v w' hv => ?_
          split at hv
          · obtain ⟨hS', hv⟩ := hv
            obtain ⟨σ', hσ', ha'⟩ := putK_sound hv ha
            exact ⟨S, fun _ _ => hS', fun _ h => h, ih ld S hld ok _ σ' _ w' (fun _ => hS') ha' hσ' f' (by omega)⟩
          · rename_i hn
            obtain ⟨σ', hσ', ha'⟩ := putK_sound hv ha
            exact ⟨S, fun h => (by rw [hn] at h; cases h), fun _ h => h, ih ld S hld false _ σ' _ w' (fun h => by cases h) ha' hσ' f' (by omega)⟩
        · exact h.elim
      · exact h.elim
    · exact h.elim
  | two i r j r' ih1 ih2 =>
    intro ld S hld ok listed σ a w hS ha h f hf
    simp only [drW] at h
    simp only [dep] at hf
    obtain ⟨f', rfl⟩ : ∃ f', f = f' + 1 := ⟨f - 1, by omega⟩
    split at h
    · rename_i hr
      refine wpF_all (rs := [i, j]) (by simpa [readyB] using hr) (by simp) fun k hk => ?_
      simp only [List.mem_cons, List.not_mem_nil, or_false] at hk
      rcases hk with rfl | rfl
      · have h := h.1
        split at h
        · rename_i o ho
          split at h
          · rename_i hw
            have hwant := wantB_sound ha hw
            simp only [wpOpIn, ho, hwant, if_true]
            refine wp_up (noSel_spec hs (Array.mem_of_getElem? ho)) (opW_sound hΓ ha (noSel_spec hs (Array.mem_of_getElem? ho)) h fun v w' hv => ?_)
            obtain ⟨hS', hv⟩ := hv
            obtain ⟨σ', hσ', ha'⟩ := putK_sound hv ha
            exact ⟨S, fun _ _ => hS', fun _ h => h, ih1 ld S hld ok _ σ' _ w' (fun _ => hS') ha' hσ' f' (by omega)⟩
          · exact h.elim
        · exact h.elim
      · have h := h.2
        split at h
        · rename_i o ho
          split at h
          · rename_i hw
            have hwant := wantB_sound ha hw
            simp only [wpOpIn, ho, hwant, if_true]
            refine wp_up (noSel_spec hs (Array.mem_of_getElem? ho)) (opW_sound hΓ ha (noSel_spec hs (Array.mem_of_getElem? ho)) h fun v w' hv => ?_)
            obtain ⟨hS', hv⟩ := hv
            obtain ⟨σ', hσ', ha'⟩ := putK_sound hv ha
            exact ⟨S, fun _ _ => hS', fun _ h => h, ih2 ld S hld ok _ σ' _ w' (fun _ => hS') ha' hσ' f' (by omega)⟩
          · exact h.elim
        · exact h.elim
    · exact h.elim
  | thr i r j r' k r'' ih1 ih2 ih3 =>
    intro ld S hld ok listed σ a w hS ha h f hf
    simp only [drW] at h
    simp only [dep] at hf
    obtain ⟨f', rfl⟩ : ∃ f', f = f' + 1 := ⟨f - 1, by omega⟩
    split at h
    · rename_i hr
      refine wpF_all (rs := [i, j, k]) (by simpa [readyB] using hr) (by simp) fun q hq => ?_
      simp only [List.mem_cons, List.not_mem_nil, or_false] at hq
      rcases hq with rfl | rfl | rfl
      · have h := h.1
        split at h
        · rename_i o ho
          split at h
          · rename_i hw
            have hwant := wantB_sound ha hw
            simp only [wpOpIn, ho, hwant, if_true]
            refine wp_up (noSel_spec hs (Array.mem_of_getElem? ho)) (opW_sound hΓ ha (noSel_spec hs (Array.mem_of_getElem? ho)) h fun v w' hv => ?_)
            obtain ⟨hS', hv⟩ := hv
            obtain ⟨σ', hσ', ha'⟩ := putK_sound hv ha
            exact ⟨S, fun _ _ => hS', fun _ h => h, ih1 ld S hld ok _ σ' _ w' (fun _ => hS') ha' hσ' f' (by omega)⟩
          · exact h.elim
        · exact h.elim
      · have h := h.2.1
        split at h
        · rename_i o ho
          split at h
          · rename_i hw
            have hwant := wantB_sound ha hw
            simp only [wpOpIn, ho, hwant, if_true]
            refine wp_up (noSel_spec hs (Array.mem_of_getElem? ho)) (opW_sound hΓ ha (noSel_spec hs (Array.mem_of_getElem? ho)) h fun v w' hv => ?_)
            obtain ⟨hS', hv⟩ := hv
            obtain ⟨σ', hσ', ha'⟩ := putK_sound hv ha
            exact ⟨S, fun _ _ => hS', fun _ h => h, ih2 ld S hld ok _ σ' _ w' (fun _ => hS') ha' hσ' f' (by omega)⟩
          · exact h.elim
        · exact h.elim
      · have h := h.2.2
        split at h
        · rename_i o ho
          split at h
          · rename_i hw
            have hwant := wantB_sound ha hw
            simp only [wpOpIn, ho, hwant, if_true]
            refine wp_up (noSel_spec hs (Array.mem_of_getElem? ho)) (opW_sound hΓ ha (noSel_spec hs (Array.mem_of_getElem? ho)) h fun v w' hv => ?_)
            obtain ⟨hS', hv⟩ := hv
            obtain ⟨σ', hσ', ha'⟩ := putK_sound hv ha
            exact ⟨S, fun _ _ => hS', fun _ h => h, ih3 ld S hld ok _ σ' _ w' (fun _ => hS') ha' hσ' f' (by omega)⟩
          · exact h.elim
        · exact h.elim
    · exact h.elim
  | spl t r1 r2 ih1 ih2 =>
    intro ld S hld ok listed σ a w hS ha h f hf
    simp only [drW] at h
    simp only [dep] at hf
    split at h
    · rename_i b hb
      cases b
      · exact ih2 ld S hld ok _ _ a w hS (ha.spl hb) h f (by omega)
      · exact ih1 ld S hld ok _ _ a w hS (ha.spl hb) h f (by omega)
    · exact h.elim
end

/-- How a body is gone through. -/
inductive A where
  | leaf
  | reg (r : RA)
  | drw (d : DA)
  | drp (d : DA)
  | seq (a b : A)
  | cond (a b : A)
  | cndL (a b : A)
  | blk (a : A)
  | loop (slots : List Nat) (L : List (List Value → World → Prop) → List Value → World → Prop) (a : A)
  | cut (slots : List Nat) (L : List (List Value → World → Prop) → List Value → World → Prop) (a : A)
  | rf (slots : List Nat) (L : List (List Value → World → Prop) → List Value → World → Prop) (a : A)

abbrev Rho := List (List Value → World → Prop)
abbrev Qt := Exit → List Nat → St → World → Prop

def seqQ (k : List Nat → St → World → Prop) (Q : Qt) : Qt
  | .normal, D, σ, w => k D σ w
  | e, D, σ, w => Q e D σ w

def blkQ (id : Nat) (Q : Qt) : Qt
  | .exit i, D, σ, w => match Nat.beq i id with
    | true => Q .normal D σ w
    | false => Q (.exit i) D σ w
  | e, D, σ, w => Q e D σ w

def loopQ (slots : List Nat) (N : List Value → World → Prop) (Q : Qt) : Qt
  | .normal, D, σ, w => match D with
    | [] => match getAll σ slots with
      | some vs => N vs w
      | none => False
    | _ :: _ => False
  | e, D, σ, w => Q e D σ w

def okOps (ops : Array Oper) : Bool := noSel ops

def headN : Rho → List Value → World → Prop
  | N :: _ => N
  | [] => fun _ _ => False

/-- A round of a range over a function: it goes on, or it returns. -/
def rq (ρ : Rho) : Qt
  | .normal, _, _, w => headN ρ [] w
  | .ret, _, _, w => headN ρ.tail [] w
  | _, _, _, _ => False

/-- The record of a range over a function. -/
def lrec (fn : Nat) (tmps : Array Value) (ps : Array Tmp) (as bd : Code) (d : Nat) (st : LoopState) (pe : Option Code) : Obj :=
  .loop { state := st, pending := pe, fn, tmps, params := ps, assign := as, body := bd, defers := d }

def agrT (n : Nat) (σ : St) (tmps : Array Value) : Prop := tmps.size = n ∧ ∀ t v, get σ t = some v → tmps[t]? = some v

/-- A range over a function: the function's call, with yield; behind it all have come, or a round has returned. -/
def rfF (P : Program) (n : Nat) (σ : St) (v : Value) (ps : Array Tmp) (as bd : Code) (w : World) (KN KR : World → Prop) : Prop :=
  (∃ gf first cap, v = .func (.func gf) first cap) ∧ ∀ fn tmps, agrT n σ tmps → CallV P v [.func (.yield (w.heap.size + 1)) #[] #[]] ((w.alloc (.deferred (some []))).alloc (lrec fn tmps ps as bd w.heap.size .ready none)) fun _ w' =>
    (w'.heap[w.heap.size + 1]? = some (lrec fn tmps ps as bd w.heap.size .ready none) ∧ KN (w'.putObj (w.heap.size + 1) (lrec fn tmps ps as bd w.heap.size .exhausted none))) ∨
    (w'.heap[w.heap.size + 1]? = some (lrec fn tmps ps as bd w.heap.size .done (some .ret)) ∧ KR (w'.putObj (w.heap.size + 1) (lrec fn tmps ps as bd w.heap.size .exhausted (some .ret))))

def rfG (P : Program) (n : Nat) (c : Code) (Q : Qt) (σ : St) (w : World) : Prop :=
  match c with
  | .rangeFunc g ps as bd => match ev σ g with
    | some v => rfF P n σ v ps as bd w (fun w' => Q .normal [w.heap.size] σ w') (fun w' => Q .ret [w.heap.size] σ w')
    | none => False
  | _ => False

section
variable (P : Program) (Γ : Env) (n : Nat)

def W : A → Code → Rho → Qt → List Nat → St → World → Prop
  | .leaf, c, _, Q, D, σ, w => match c with
    | .skip => Q .normal D σ w
    | .label _ => Q .normal D σ w
    | .exit id => Q (.exit id) D σ w
    | .ret => Q .ret D σ w
    | _ => False
  | .reg r, c, _, Q, D, σ, w => match c with
    | .region _ ops false => match okOps ops with
      | true => rgW P Γ n ops r ops.toList (fun σ w => Q .normal D σ w) σ w
      | false => False
    | _ => False
  | .drw d, c, _, Q, D, σ, w => match c with
    | .region _ ops true => match okOps ops && Nat.ble (dep d) ops.size with
      | true => ∃ S : World → Prop, S w.drew ∧ drW P Γ n ops d (fun b v => ∀ w', S w' → w'.cell? b = some v) S true (Array.replicate ops.size false) (fun σ w => Q .normal D σ w) σ w.drew
      | false => False
    | _ => False
  | .drp d, c, _, Q, D, σ, w => match c with
    | .region _ ops true => match okOps ops && Nat.ble (dep d) ops.size with
      | true => drW P Γ n ops d (fun b v => w.drew.cell? b = some v) (fun w' => w' = w.drew) true (Array.replicate ops.size false) (fun σ w => Q .normal D σ w) σ w.drew
      | false => False
    | _ => False
  | .seq a b, c, ρ, Q, D, σ, w => match c with
    | .seq x y => W a x ρ (seqQ (fun D σ w => W b y ρ Q D σ w) Q) D σ w
    | _ => False
  | .cond a b, c, ρ, Q, D, σ, w => match c with
    | .cond x p q => match ev σ x with
      | some (.bool t) => cnd t (W a p ρ Q D σ w) (W b q ρ Q D σ w)
      | _ => False
    | _ => False
  | .cndL a b, c, ρ, Q, D, σ, w => match c with
    | .cond x p q => match ev σ x with
      | some (.bool true) => W a p ρ Q D σ w
      | some (.bool false) => W b q ρ Q D σ w
      | _ => False
    | _ => False
  | .blk a, c, ρ, Q, D, σ, w => match c with
    | .block id x => W a x ρ (blkQ id Q) D σ w
    | _ => False
  | .loop slots L _, c, ρ, _, D, σ, w => match c with
    | .loop _ => match D with
      | [] => match getAll σ slots with
        | some vs => L ρ vs w
        | none => False
      | _ :: _ => False
    | _ => False
  | .cut slots L _, _, ρ, _, D, σ, w => match D with
    | [] => match getAll σ slots with
      | some vs => L ρ vs w
      | none => False
    | _ :: _ => False
  | .rf slots L _, c, ρ, _, D, σ, w => match c with
    | .rangeFunc _ _ _ _ => match D with
      | [] => match getAll σ slots with
        | some vs => L ρ vs w
        | none => False
      | _ :: _ => False
    | _ => False

inductive Kd where
  | cut
  | loop
  | rf

/-- What is owed for a cut or a loop. -/
structure Ob where
  slots : List Nat
  L : Rho → List Value → World → Prop
  kind : Kd
  a : A
  c : Code
  Q : Rho → Qt

def Ob.goal (o : Ob) (ρ : Rho) (vs : List Value) (w : World) : Prop :=
  match o.kind with
  | .rf => rfG P n o.c (o.Q ρ) (zipS o.slots vs) w
  | _ => W P Γ n o.a o.c ρ (o.Q ρ) [] (zipS o.slots vs) w

def mkN (I : List Value → World → Prop) (μ : List Value → World → Nat) (vs : List Value) (w : World) : List Value → World → Prop :=
  fun vs' w' => I vs' w' ∧ μ vs' w' < μ vs w

def Ob.holds (o : Ob) : Prop :=
  match o.kind with
  | .loop => ∀ ρ vs w, o.L ρ vs w → ∃ (I : List Value → World → Prop) (μ : List Value → World → Nat), I vs w ∧
      ∀ vs w, I vs w → o.goal P Γ n (mkN I μ vs w :: ρ) vs w
  | _ => ∀ ρ vs w, o.L ρ vs w → o.goal P Γ n ρ vs w

def obs : A → Code → (Rho → Qt) → List Ob
  | .seq a b, c, Q => match c with
    | .seq x y => obs a x (fun ρ => seqQ (fun D σ w => W P Γ n b y ρ (Q ρ) D σ w) (Q ρ)) ++ obs b y Q
    | _ => []
  | .cond a b, c, Q => match c with
    | .cond _ p q => obs a p Q ++ obs b q Q
    | _ => []
  | .cndL a b, c, Q => match c with
    | .cond _ p q => obs a p Q ++ obs b q Q
    | _ => []
  | .blk a, c, Q => match c with
    | .block id x => obs a x (fun ρ => blkQ id (Q ρ))
    | _ => []
  | .loop slots L a, c, Q => match c with
    | .loop x => ⟨slots, L, .loop, a, x, fun ρ => loopQ slots (headN ρ) (Q ρ.tail)⟩ :: obs a x (fun ρ => loopQ slots (headN ρ) (Q ρ.tail))
    | _ => []
  | .cut slots L a, c, Q => ⟨slots, L, .cut, a, c, Q⟩ :: obs a c Q
  | .rf slots L a, c, Q => match c with
    | .rangeFunc _ _ _ bd => ⟨slots, L, .rf, a, c, Q⟩ :: obs a bd rq
    | _ => []
  | _, _, _ => []

/-- No range over a function: the code of a round. -/
def noRf : A → Bool
  | .seq a b | .cond a b | .cndL a b => noRf a && noRf b
  | .blk a | .loop _ _ a | .cut _ _ a => noRf a
  | .rf _ _ _ => false
  | _ => true

def mk (d : Nat) : Deferred := { target := .collected d, args := #[] }

def hat (B : List Deferred) (Z : List Nat → Prop) (Q : Qt) : Exit → Act → World → Prop
  | .panic _, _, _ => False
  | .outgrown, _, _ => False
  | e, a, w => ∃ D σ, Z D ∧ Agr n (D.map mk ++ B) σ a ∧ Q e D σ w
end

section
variable {P : Program} {Γ : Env} {n : Nat}

def vsOf (slots : List Nat) (a : Act) : List Value := slots.map fun t => a.tmps.getD t undef

theorem vsOf_eq {B : List Deferred} {σ : St} {a : Act} (ha : Agr n B σ a) : ∀ {slots : List Nat} {vs : List Value}, getAll σ slots = some vs → vsOf slots a = vs
  | [], vs, h => by simpa [getAll, vsOf] using h
  | t :: r, vs, h => by
    unfold getAll at h
    split at h
    · cases h
    · rename_i v hv
      split at h
      · cases h
      · rename_i us hus
        cases h
        have ih := vsOf_eq ha hus
        have := ha.2.2 t v hv
        simp only [vsOf, List.map_cons] at ih ⊢
        rw [ih]
        simp [this]

theorem hat_normal {B : List Deferred} {Z : List Nat → Prop} {Q : Qt} {D : List Nat} {σ : St} {a : Act} {w : World} (hz : Z D) (ha : Agr n (D.map mk ++ B) σ a) (h : Q .normal D σ w) : hat n B Z Q .normal a w := ⟨D, σ, hz, ha, h⟩

theorem sound (hm : P.follows .mixedOrders = true) (hΓ : EnvOk P Γ) {B : List Deferred} {Z : List Nat → Prop} {r : Option Nat} {m : Nat} : ∀ (x : A) (c : Code) (Q : Rho → Qt), ((r = none ∧ ∀ D, Z D) ∨ noRf x = true) → (∀ o ∈ obs P Γ n x c Q, o.holds P Γ n) →
    ∀ (ρ : Rho) (D : List Nat) (σ : St) (a : Act) (w : World), Z D → Agr n (D.map mk ++ B) σ a → W P Γ n x c ρ (Q ρ) D σ w → c.wpIn (fen r) m P (hat n B Z (Q ρ)) a w := by
  intro x
  induction x with
  | leaf =>
    intro c Q _ _ ρ D σ a w hz ha h
    cases c <;> simp only [W] at h <;> try exact h.elim
    · exact wpIn_skip ⟨D, σ, hz, ha, h⟩
    · exact wpIn_exit ⟨D, σ, hz, ha, h⟩
    · exact wpIn_label ⟨D, σ, hz, ha, h⟩
    · exact wpIn_ret ⟨D, σ, hz, ha, h⟩
  | reg r =>
    intro c Q hnr hob ρ D σ a w hz ha h
    cases c <;> simp only [W] at h <;> try exact h.elim
    rename_i id ops d
    cases d <;> simp only at h
    · split at h
      · rename_i hs
        refine wpIn_region ?_
        rw [List.range_eq_range', ← Array.length_toList]
        exact rgW_sound hΓ hs (fun σ a w ha hk => hat_normal hz ha hk) r ops.toList 0 σ a w (fun j => by simp) ha h
      · exact h.elim
  | drw d =>
    intro c Q hnr hob ρ D σ a w hz ha h
    cases c <;> simp only [W] at h <;> try exact h.elim
    rename_i id ops dr
    cases dr <;> simp only at h
    split at h
    · rename_i hs
      simp only [Bool.and_eq_true] at hs
      obtain ⟨S, hS, h⟩ := h
      exact wpIn_region_any hm (wpAny_of_wpF _ S _ _ _ (drW_sound hΓ hs.1 (fun c a w hq => hq) (fun σ a w ha hk => hat_normal hz ha hk) d _ S (fun b v hb w' hw' => hb w' hw') true _ σ a _ (fun _ => hS) ha h _ (Nat.le_of_ble_eq_true hs.2)))
    · exact h.elim
  | drp d =>
    intro c Q hnr hob ρ D σ a w hz ha h
    cases c <;> simp only [W] at h <;> try exact h.elim
    rename_i id ops dr
    cases dr <;> simp only at h
    split at h
    · rename_i hs
      simp only [Bool.and_eq_true] at hs
      exact wpIn_region_any hm (wpAny_of_wpF _ (fun w' => w' = w.drew) _ _ _ (drW_sound hΓ hs.1 (fun c a w hq => hq) (fun σ a w ha hk => hat_normal hz ha hk) d _ (fun w' => w' = w.drew) (fun b v hb w' hw' => by rw [hw']; exact hb) true _ σ a _ (fun _ => rfl) ha h _ (Nat.le_of_ble_eq_true hs.2)))
    · exact h.elim
  | seq x y ihx ihy =>
    intro c Q hnr hob ρ D σ a w hz ha h
    cases c <;> simp only [W] at h <;> try exact h.elim
    rename_i cx cy
    simp only [obs, List.mem_append] at hob
    have hnr' : ((r = none ∧ ∀ D, Z D) ∨ noRf x = true) ∧ ((r = none ∧ ∀ D, Z D) ∨ noRf y = true) := by
      rcases hnr with h | h
      · exact ⟨.inl h, .inl h⟩
      · simp only [noRf, Bool.and_eq_true] at h; exact ⟨.inr h.1, .inr h.2⟩
    refine wpIn_seq (wpIn_mono (ihx cx (fun ρ => seqQ (fun D σ w => W P Γ n y cy ρ (Q ρ) D σ w) (Q ρ)) hnr'.1 (fun o ho => hob o (.inl ho)) ρ D σ a w hz ha h) fun e a w hq => ?_)
    cases e with
    | normal =>
      obtain ⟨D', σ', hz', ha', h'⟩ := hq
      exact ihy cy Q hnr'.2 (fun o ho => hob o (.inr ho)) ρ D' σ' a w hz' ha' h'
    | _ => exact hq
  | cond x y ihx ihy =>
    intro c Q hnr hob ρ D σ a w hz ha h
    cases c <;> simp only [W] at h <;> try exact h.elim
    rename_i cc cx cy
    simp only [obs, List.mem_append] at hob
    have hnr' : ((r = none ∧ ∀ D, Z D) ∨ noRf x = true) ∧ ((r = none ∧ ∀ D, Z D) ∨ noRf y = true) := by
      rcases hnr with h | h
      · exact ⟨.inl h, .inl h⟩
      · simp only [noRf, Bool.and_eq_true] at h; exact ⟨.inr h.1, .inr h.2⟩
    split at h
    · rename_i t ht
      rw [cnd_iff] at h
      refine wpIn_cond_split (ha.ev ht) (fun h1 => ihx cx Q hnr'.1 (fun o ho => hob o (.inl ho)) ρ D σ a w hz ha (h.1 h1)) fun h1 => ihy cy Q hnr'.2 (fun o ho => hob o (.inr ho)) ρ D σ a w hz ha (h.2 h1)
    · exact h.elim
  | cndL x y ihx ihy =>
    intro c Q hnr hob ρ D σ a w hz ha h
    cases c <;> simp only [W] at h <;> try exact h.elim
    rename_i cc cx cy
    simp only [obs, List.mem_append] at hob
    have hnr' : ((r = none ∧ ∀ D, Z D) ∨ noRf x = true) ∧ ((r = none ∧ ∀ D, Z D) ∨ noRf y = true) := by
      rcases hnr with h | h
      · exact ⟨.inl h, .inl h⟩
      · simp only [noRf, Bool.and_eq_true] at h; exact ⟨.inr h.1, .inr h.2⟩
    split at h
    · rename_i ht
      exact wpIn_cond_true (ha.ev ht) (ihx cx Q hnr'.1 (fun o ho => hob o (.inl ho)) ρ D σ a w hz ha h)
    · rename_i ht
      exact wpIn_cond_false (ha.ev ht) (ihy cy Q hnr'.2 (fun o ho => hob o (.inr ho)) ρ D σ a w hz ha h)
    · exact h.elim
  | blk x ih =>
    intro c Q hnr hob ρ D σ a w hz ha h
    cases c <;> simp only [W] at h <;> try exact h.elim
    rename_i id cx
    simp only [obs] at hob
    refine wpIn_block (wpIn_mono (ih cx (fun ρ => blkQ id (Q ρ)) (by simpa only [noRf] using hnr) hob ρ D σ a w hz ha h) fun e a w hq => ?_)
    cases e with
    | exit i =>
      obtain ⟨D', σ', hz', ha', h'⟩ := hq
      simp only [blkQ] at h'
      simp only [Exit.inBlock]
      split at h'
      · rename_i hb
        rw [if_pos (Nat.eq_of_beq_eq_true hb)]
        exact ⟨D', σ', hz', ha', h'⟩
      · rename_i hb
        rw [if_neg (Nat.ne_of_beq_eq_false hb)]
        exact ⟨D', σ', hz', ha', h'⟩
    | _ => exact hq
  | loop slots L x ih =>
    intro c Q hnr hob ρ D σ a w hz ha h
    cases c <;> simp only [W] at h <;> try exact h.elim
    rename_i cx
    simp only [obs, List.mem_cons, forall_eq_or_imp] at hob
    split at h
    · split at h
      · rename_i vs hvs
        obtain ⟨I, μ, h0, hround⟩ := hob.1 ρ vs w h
        have hv := vsOf_eq ha hvs
        refine wpIn_loop (fun a w => Agr n B (zipS slots (vsOf slots a)) a ∧ I (vsOf slots a) w) (fun a w => μ (vsOf slots a) w) ⟨by rw [hv]; exact ha.getAll hvs, by rw [hv]; exact h0⟩ ?_
        intro a w ⟨ha, hI⟩
        refine wpIn_mono (ih cx (fun ρ => loopQ slots (headN ρ) (Q ρ.tail)) (by simpa only [noRf] using hnr) hob.2 (mkN I μ (vsOf slots a) w :: ρ) [] _ a w hz ha (hround _ w hI)) fun e a' w' hq => ?_
        cases e with
        | normal =>
          obtain ⟨D', σ', hz', ha', h'⟩ := hq
          simp only [loopQ, headN] at h'
          split at h'
          · split at h'
            · rename_i vs' hvs'
              have hv' := vsOf_eq ha' hvs'
              obtain ⟨hI', hμ⟩ := h'
              exact ⟨⟨by rw [hv']; exact ha'.getAll hvs', by rw [hv']; exact hI'⟩, by rw [hv']; exact hμ⟩
            · exact h'.elim
          · exact h'.elim
        | _ => exact hq
      · exact h.elim
    · exact h.elim
  | cut slots L x ih =>
    intro c Q hnr hob ρ D σ a w hz ha h
    simp only [W] at h
    simp only [obs, List.mem_cons, forall_eq_or_imp] at hob
    split at h
    · split at h
      · rename_i vs hvs
        exact ih c Q (by simpa only [noRf] using hnr) hob.2 ρ [] _ a w hz (ha.getAll hvs) (hob.1 ρ vs w h)
      · exact h.elim
    · exact h.elim
  | rf slots L x ih =>
    intro c Q hnr hob ρ D σ a w hz ha h
    cases c <;> simp only [W] at h <;> try exact h.elim
    rename_i g ps as bd
    simp only [obs, List.mem_cons, forall_eq_or_imp] at hob
    have hr : r = none ∧ ∀ D, Z D := by
      rcases hnr with h | h
      · exact h
      · cases h
    obtain ⟨rfl, hZ⟩ := hr
    split at h
    · split at h
      · rename_i vs hvs
        have ha := ha.getAll hvs
        have hg := hob.1 ρ vs w h
        simp only [Ob.goal, rfG] at hg
        split at hg
        · rename_i v hv
          refine wpIn_rangeFunc fun fn _ => ?_
          obtain ⟨⟨gf, first, cap, rfl⟩, hg⟩ := hg
          have hF := hg fn a.tmps ⟨ha.1, ha.2.2⟩
          simp only [CallV] at hF
          obtain ⟨hcall, hF⟩ := hF
          refine ⟨w.heap.size + 1, [mk w.heap.size], (w.alloc (.deferred (some []))).alloc (lrec fn a.tmps ps as bd w.heap.size .ready none), { target := .fn (.func gf) cap, args := first ++ #[.func (.yield (w.heap.size + 1)) #[] #[]] }, (w.alloc (.deferred (some []))).alloc (lrec fn a.tmps ps as bd w.heap.size .ready none), gf, _, _, run_enterLoop_outer _ _ _ _ _, ?_, fun _ _ => trivial, ?_, fen_alone, callsF (hF.mono fun e w' he => ?_)⟩
          · simp only [resolve, ha.ev hv]
            simp [Act.eval, Deferred.ofValue]
          · simp only [invoke, hcall]
          · obtain ⟨u, rfl, hk⟩ := he
            rcases hk with ⟨hl, hk⟩ | ⟨hl, hk⟩
            · exact ⟨none, _, run_endLoop hl (by simp), ⟨[w.heap.size], _, hZ _, ⟨ha.1, by simp [mk, ha.2.1], ha.2.2⟩, hk⟩⟩
            · exact ⟨some .ret, _, run_endLoop hl (by simp), wpIn_ret ⟨[w.heap.size], _, hZ _, ⟨ha.1, by simp [mk, ha.2.1], ha.2.2⟩, hk⟩⟩
        · exact hg.elim
      · exact h.elim
    · exact h.elim

def putAll : List Nat → List Value → St → St
  | t :: ts, v :: vs, σ => putAll ts vs ((t, v) :: σ)
  | _, _, σ => σ

def allLt (n : Nat) : List Nat → Bool
  | [] => true
  | t :: ts => Nat.blt t n && allLt n ts

theorem agr_putAll : ∀ {ts : List Nat} {vs : List Value} {σ : St} {tmps : Array Value}, allLt n ts = true → Agr n [] σ { tmps, defers := [] } →
    Agr n [] (putAll ts vs σ) { tmps := (ts.zip vs).foldl (fun tmps (t, a) => tmps.setIfInBounds t a) tmps, defers := [] }
  | [], _, σ, tmps, _, h => by simpa [putAll] using h
  | t :: ts, [], σ, tmps, _, h => by simpa [putAll] using h
  | t :: ts, v :: vs, σ, tmps, hl, h => by
    simp only [allLt, Bool.and_eq_true] at hl
    have h1 := h.put (by simpa [Nat.blt_eq] using hl.1) v
    exact agr_putAll (ts := ts) (vs := vs) (σ := (t, v) :: σ) (tmps := tmps.setIfInBounds t v) hl.2 h1

/-- The assignments to a round's variables, and the round's body behind them. -/
def asgQ (Mid : World → (World → Prop) → Prop) (k : List Nat → St → World → Prop) : Qt
  | .normal, D, σ, w => Mid w (fun w' => k D σ w')
  | _, _, _, _ => False

/-- What a round does with the loop's record, ahead of its body and behind it. -/
def rMid (l fn : Nat) (tmps : Array Value) (ps : Array Tmp) (as bd : Code) (d : Nat) (w : World) (k : World → Prop) : Prop :=
  w.heap[l]? = some (lrec fn tmps ps as bd d .ready none) ∧ k (w.putObj l (lrec fn tmps ps as bd d .busy none))
def rN (l fn : Nat) (tmps : Array Value) (ps : Array Tmp) (as bd : Code) (d : Nat) (K : VW) (w : World) : Prop :=
  w.heap[l]? = some (lrec fn tmps ps as bd d .busy none) ∧ K (.bool true) (w.putObj l (lrec fn tmps ps as bd d .ready none))
def rR (l fn : Nat) (tmps : Array Value) (ps : Array Tmp) (as bd : Code) (d : Nat) (K : VW) (w : World) : Prop :=
  w.heap[l]? = some (lrec fn tmps ps as bd d .busy none) ∧ K (.bool false) (w.putObj l (lrec fn tmps ps as bd d .done (some .ret)))

/-- A round's formula: M: ahead of the body; N: it goes on; R: it returns. -/
def rdW (P : Program) (Γ : Env) (n : Nat) (xa xb : A) (ps : Array Tmp) (as bd : Code) (σ : St) (args : List Value) (M : World → (World → Prop) → Prop) (N R : World → Prop) (w : World) : Prop :=
  W P Γ n xa as [] (asgQ M (fun D σ w => W P Γ n xb bd [fun _ => N, fun _ => R] (rq [fun _ => N, fun _ => R]) D σ w)) [] (putAll ps.toList args σ) w

/-- ONE ROUND: its body's formula pays a call of yield. -/
theorem round_sound (hm : P.follows .mixedOrders = true) (hΓ : EnvOk P Γ) {xa xb : A} {ps : Array Tmp} {as bd : Code} (hoa : ∀ Q, obs P Γ n xa as Q = []) (hob : ∀ o ∈ obs P Γ n xb bd rq, o.holds P Γ n)
    (hra : noRf xa = true) (hrb : noRf xb = true) (hps : allLt n ps.toList = true) {fn : Nat} {tmps : Array Value} {d l : Nat} {σ : St} {w : World} {args : List Value} {K : VW} (hag : agrT n σ tmps)
    (hl : w.heap[l]? = some (lrec fn tmps ps as bd d .ready none)) (hlen : args.length = ps.size)
    (h : rdW P Γ n xa xb ps as bd σ args (rMid l fn tmps ps as bd d) (rN l fn tmps ps as bd d K) (rR l fn tmps ps as bd d K) w) :
    Yl P l args.toArray w K := by
  refine ⟨fn, _, as, bd, run_yield hl (by simpa using hlen), roundIn_of_wpIn trivial ?_⟩
  have hz : (ps.zip args.toArray).foldl (fun tmps (x : Tmp × Value) => tmps.setIfInBounds x.1 x.2) tmps = (ps.toList.zip args).foldl (fun tmps (x : Nat × Value) => tmps.setIfInBounds x.1 x.2) tmps := by
    rw [← Array.foldl_toList]
    simp
  have ha := agr_putAll (vs := args) (σ := σ) (tmps := tmps) hps ⟨hag.1, rfl, hag.2⟩
  have hw := sound (m := 0) (B := []) (Z := fun _ => True) (r := some l) hm hΓ xa as (fun _ => asgQ (rMid l fn tmps ps as bd d) _) (.inr hra) (by rw [hoa]; simp) [] [] _ _ w trivial ha h
  refine wpIn_mono (Q := hat n [] (fun _ => True) (asgQ _ _)) (by rw [← hz] at hw; exact hw) ?_
  intro e a w' hq
  cases e with
  | normal =>
    obtain ⟨D, σ', _, ha', hmid, hk⟩ := hq
    refine ⟨_, run_beginRound hmid rfl, wpIn_mono (sound (m := 0) (B := []) (Z := fun _ => True) (r := some l) hm hΓ xb bd (fun ρ => rq ρ) (.inr hrb) hob _ D σ' a _ trivial ha' hk) ?_⟩
    intro e a w' hq
    cases e with
    | normal =>
      obtain ⟨_, _, _, _, hl', hK⟩ := hq
      exact ⟨_, _, run_endRound none hl', _, rfl, hK⟩
    | ret =>
      obtain ⟨_, _, _, _, hl', hK⟩ := hq
      exact ⟨_, _, run_endRound (some .ret) hl', _, rfl, hK⟩
    | panic c => exact hq.elim
    | outgrown => exact hq.elim
    | exit id => obtain ⟨_, _, _, _, h⟩ := hq; exact h.elim
    | goto t => obtain ⟨_, _, _, _, h⟩ := hq; exact h.elim
  | panic c => exact hq.elim
  | outgrown => exact hq.elim
  | _ => obtain ⟨_, _, _, _, h⟩ := hq; exact h.elim
end
end Pw
