/- The formula of a region and of a whole body, with cuts and loops; sound for the model's walk. Conditions: none. -/
import Derived.Test.YtmhjekbdpnocaaaPwD
namespace Pw
open Go

/-- How a region that keeps the text's order is gone through: run the next one, leave it (its guard says no), part on a truth value. -/
inductive RA where
  | done
  | run (r : RA)
  | raw (r : RA)
  | skp (r : RA)
  | spl (t : Nat) (r1 r2 : RA)

/-- How a region that draws its order is gone through. -/
inductive DA where
  | done
  | pur (i : Nat) (r : DA)
  | skp (i : Nat) (r : DA)
  | eff (i : Nat) (r : DA)
  | two (i : Nat) (r : DA) (j : Nat) (r' : DA)
  | spl (t : Nat) (r1 r2 : DA)

/-- Is the operation wanted? -/
def wantB (ops : Array Oper) (σ : St) (o : Oper) : Option Bool :=
  match o.guard with
  | none => some true
  | some (j, want) => match (ops[j]?).bind (·.dst) with
    | none => none
    | some t => match get σ t with
      | some (.bool b) => match b, want with
        | true, true => some true
        | false, false => some true
        | true, false => some false
        | false, true => some false
      | _ => none

theorem wantB_sound {n : Nat} {ops : Array Oper} {σ : St} {a : Act} (ha : Agr n σ a) {o : Oper} {b : Bool} (h : wantB ops σ o = some b) :
    Region.wanted o (yielded ops a.tmps) = b := by
  unfold wantB at h
  unfold Region.wanted
  split at h
  · rename_i hg; rw [hg]; simpa using h
  · rename_i j want hg
    rw [hg]
    split at h
    · cases h
    · rename_i t ht
      split at h
      · rename_i c hc
        have hy : yielded ops a.tmps j = some c := by
          unfold yielded
          rw [ht]
          simp [ha.2.2 t _ hc]
        simp only [hy]
        split at h <;> cases h <;> rfl
      · cases h

section
variable (P : Program) (Γ : Env) (n : Nat)

def rgW (ops : Array Oper) : RA → List Oper → (St → World → Prop) → St → World → Prop
  | .done, [], K, σ, w => K σ w
  | .run r, o :: os, K, σ, w => match wantB ops σ o with
    | some true => opW P Γ σ o w fun v w' => putK n o.dst v σ fun σ' => rgW ops r os K σ' w'
    | _ => False
  | .raw r, o :: os, K, σ, w => match wantB ops σ o with
    | some true => opR P σ o w fun v w' => putK n o.dst v σ fun σ' => rgW ops r os K σ' w'
    | _ => False
  | .skp r, o :: os, K, σ, w => match wantB ops σ o with
    | some false => putK n o.dst undef σ fun σ' => rgW ops r os K σ' w
    | _ => False
  | .spl t r1 r2, os, K, σ, w => match get σ t with
    | some (.bool b) => cnd b (rgW ops r1 os K ((t, .bool true) :: σ) w) (rgW ops r2 os K ((t, .bool false) :: σ) w)
    | _ => False
  | _, _, _, _, _ => False

/-- An operation that leaves its value in every world that meets the region's condition. -/
def opP (ld : Addr → Value → Prop) (σ : St) (o : Oper) (K : Value → Prop) : Prop :=
  match spW P σ o.op with
  | some T => T K
  | none => match o.op with
    | .load t x => match ev σ x with
      | some (.pointer (some a)) => ldW P ld t a K
      | _ => False
    | _ => match known σ o.op.operands.toList with
      | false => False
      | true => match pureV P (execOp (rho σ) o) with
        | some v => K v
        | none => False

def isLoad : Op → Bool
  | .load .. => true
  | _ => false

/-- Must the region's condition be shown behind this operation? Where a load does not come before it in every order. -/
def needB (ops : Array Oper) (j : Nat) : Bool :=
  match ops[j]? with
  | none => true
  | some oj => (List.range ops.size).any fun u => !(Nat.beq u j) && match ops[u]? with
    | some ou => isLoad ou.op && !(oj.after.toList.any fun e => Region.binds .any e && Nat.beq e.on u)
    | none => false

def readyB (ops : Array Oper) (listed : Array Bool) (l : List Nat) : Bool := Region.ready .any ops listed == l

def drW (ops : Array Oper) (ld : Addr → Value → Prop) (S : World → Prop) : DA → Bool → Array Bool → (St → World → Prop) → St → World → Prop
  | .done, _, listed, K, σ, w => match readyB ops listed [] with
    | true => K σ w
    | false => False
  | .pur i r, ok, listed, K, σ, w => match ops[i]? with
    | some o => match (Region.ready .any ops listed).contains i && Region.free .any ops listed i && (ok || !isLoad o.op) with
      | true => match wantB ops σ o with
        | some true => opP P ld σ o fun v => putK n o.dst v σ fun σ' => drW ops ld S r ok (listed.setIfInBounds i true) K σ' w
        | _ => False
      | false => False
    | none => False
  | .skp i r, ok, listed, K, σ, w => match ops[i]? with
    | some o => match (Region.ready .any ops listed).contains i && Region.free .any ops listed i with
      | true => match wantB ops σ o with
        | some false => putK n o.dst undef σ fun σ' => drW ops ld S r ok (listed.setIfInBounds i true) K σ' w
        | _ => False
      | false => False
    | none => False
  | .eff i r, ok, listed, K, σ, w => match ops[i]? with
    | some o => match readyB ops listed [i] with
      | true => match wantB ops σ o with
        | some true => opW P Γ σ o w fun v w' => match needB ops i with
          | true => S w' ∧ putK n o.dst v σ fun σ' => drW ops ld S r ok (listed.setIfInBounds i true) K σ' w'
          | false => putK n o.dst v σ fun σ' => drW ops ld S r false (listed.setIfInBounds i true) K σ' w'
        | _ => False
      | false => False
    | none => False
  | .two i r j r', ok, listed, K, σ, w => match readyB ops listed [i, j] with
    | true =>
      (match ops[i]? with
        | some o => match wantB ops σ o with
          | some true => opW P Γ σ o w fun v w' => S w' ∧ putK n o.dst v σ fun σ' => drW ops ld S r ok (listed.setIfInBounds i true) K σ' w'
          | _ => False
        | none => False) ∧
      (match ops[j]? with
        | some o => match wantB ops σ o with
          | some true => opW P Γ σ o w fun v w' => S w' ∧ putK n o.dst v σ fun σ' => drW ops ld S r' ok (listed.setIfInBounds j true) K σ' w'
          | _ => False
        | none => False)
    | false => False
  | .spl t r1 r2, ok, listed, K, σ, w => match get σ t with
    | some (.bool b) => cnd b (drW ops ld S r1 ok listed K ((t, .bool true) :: σ) w) (drW ops ld S r2 ok listed K ((t, .bool false) :: σ) w)
    | _ => False
end

def dep : DA → Nat
  | .done => 0
  | .pur _ r | .skp _ r | .eff _ r => dep r + 1
  | .spl _ r1 r2 => max (dep r1) (dep r2)
  | .two _ r1 _ r2 => max (dep r1) (dep r2) + 1

theorem Agr.spl {n : Nat} {σ : St} {a : Act} (ha : Agr n σ a) {t : Nat} {v : Value} (h : get σ t = some v) : Agr n ((t, v) :: σ) a := by
  refine ⟨ha.1, ha.2.1, fun u x hu => ?_⟩
  rw [get_cons] at hu
  by_cases htu : t = u
  · subst htu; simp at hu; subst hu; exact ha.2.2 _ _ h
  · simp [htu] at hu; exact ha.2.2 _ _ hu

section
variable {P : Program} {Γ : Env} {n : Nat}

def noSel (ops : Array Oper) : Bool := ops.toList.all fun o => !isSel o.op

theorem noSel_spec {ops : Array Oper} (h : noSel ops = true) {o : Oper} (ho : o ∈ ops) : isSel o.op = false := by
  unfold noSel at h
  rw [List.all_eq_true] at h
  have := h o (by simpa using ho)
  simpa using this

theorem opR_sound {σ : St} {a : Act} (ha : Agr n σ a) {o : Oper} (hs : isSel o.op = false) {w : World} {K : VW} (h : opR P σ o w K)
    {next : Act → World → Prop} {Q : Exit → Act → World → Prop} (hnext : ∀ v w', K v w' → next (a.put o.dst v) w') : o.wp P a w next Q := by
  unfold opR at h
  split at h
  · exact h.elim
  · rename_i hk
    have hcongr : execOp (rho σ) o = execOp a.eval o := execOp_congr o (by intro cs b hb; rw [hb] at hs; cases hs) fun x hx => ha.rho hk x (by simpa using hx)
    rw [hcongr] at h
    unfold Oper.wp
    split at h
    · rename_i hr; rw [hr]; exact hnext _ _ h
    · rename_i hr; rw [hr]; exact hnext _ _ h
    · exact h.elim

theorem rgW_sound (hΓ : EnvOk P Γ) {ops : Array Oper} (hs : noSel ops = true) {K : St → World → Prop} {Q : Exit → Act → World → Prop}
    (hK : ∀ σ a w, Agr n σ a → K σ w → Q .normal a w) :
    ∀ (r : RA) (os : List Oper) (i : Nat) (σ : St) (a : Act) (w : World), (∀ j, os[j]? = ops[i + j]?) → Agr n σ a → rgW P Γ n ops r os K σ w →
      wpOps P ops Q (List.range' i os.length) a w := by
  intro r
  have step : ∀ (o : Oper) (os : List Oper) (i : Nat), (∀ j, (o :: os)[j]? = ops[i + j]?) → ops[i]? = some o ∧ o ∈ ops ∧ ∀ j, os[j]? = ops[i + 1 + j]? := by
    intro o os i h
    have h0 := h 0
    simp only [List.getElem?_cons_zero, Nat.add_zero] at h0
    refine ⟨h0.symm, Array.mem_of_getElem? h0.symm, fun j => ?_⟩
    have := h (j + 1)
    simp only [List.getElem?_cons_succ] at this
    rw [this, show i + 1 + j = i + (j + 1) by omega]
  induction r with
  | done =>
    intro os i σ a w hos ha h
    cases os with
    | nil => exact hK σ a w ha h
    | cons o os => exact h.elim
  | run r ih =>
    intro os i σ a w hos ha h
    cases os with
    | nil => exact h.elim
    | cons o os =>
      obtain ⟨hi, hmem, hos'⟩ := step o os i hos
      simp only [rgW] at h
      split at h
      · rename_i hw
        have hwant := wantB_sound ha hw
        simp only [List.length_cons, List.range'_succ, wpOps, hi, hwant, if_true]
        refine .inl (opW_sound hΓ ha (noSel_spec hs hmem) h fun v w' hv => ?_)
        obtain ⟨σ', hσ', ha'⟩ := putK_sound hv ha
        exact ih os (i + 1) σ' _ w' hos' ha' hσ'
      · exact h.elim
  | raw r ih =>
    intro os i σ a w hos ha h
    cases os with
    | nil => exact h.elim
    | cons o os =>
      obtain ⟨hi, hmem, hos'⟩ := step o os i hos
      simp only [rgW] at h
      split at h
      · rename_i hw
        have hwant := wantB_sound ha hw
        simp only [List.length_cons, List.range'_succ, wpOps, hi, hwant, if_true]
        refine .inl (opR_sound ha (noSel_spec hs hmem) h fun v w' hv => ?_)
        obtain ⟨σ', hσ', ha'⟩ := putK_sound hv ha
        exact ih os (i + 1) σ' _ w' hos' ha' hσ'
      · exact h.elim
  | skp r ih =>
    intro os i σ a w hos ha h
    cases os with
    | nil => exact h.elim
    | cons o os =>
      obtain ⟨hi, hmem, hos'⟩ := step o os i hos
      simp only [rgW] at h
      split at h
      · rename_i hw
        have hwant := wantB_sound ha hw
        simp only [List.length_cons, List.range'_succ, wpOps, hi, hwant, Bool.false_eq_true, if_false]
        obtain ⟨σ', hσ', ha'⟩ := putK_sound h ha
        exact ih os (i + 1) σ' _ w hos' ha' hσ'
      · exact h.elim
  | spl t r1 r2 ih1 ih2 =>
    intro os i σ a w hos ha h
    simp only [rgW] at h
    split at h
    · rename_i b hb
      cases b
      · exact ih2 os i _ a w hos (ha.spl hb) h
      · exact ih1 os i _ a w hos (ha.spl hb) h
    · exact h.elim

theorem opP_sound {ops : Array Oper} {ld : Addr → Value → Prop} {S : World → Prop} (hld : ∀ b v, ld b v → ∀ w, S w → w.cell? b = some v)
    {σ : St} {a : Act} (ha : Agr n σ a) {o : Oper} (hs : isSel o.op = false) (hw : Region.wanted o (yielded ops a.tmps) = true) {K : Value → Prop} (h : opP P ld σ o K) :
    ∃ v, K v ∧ YieldsIf P ops S o v a := by
  unfold opP at h
  split at h
  · rename_i T hT
    obtain ⟨v, hv, hr⟩ := spW_sound (P := P) ha hT h
    exact ⟨v, hv, .inl ⟨hw, fun w _ => hr w⟩⟩
  · split at h
    · rename_i t x ho
      split at h
      · rename_i b hx
        obtain ⟨v, hv, hr⟩ := ldW_sound (P := P) (S := S) hld h
        refine ⟨v, hv, .inl ⟨hw, fun w hS => ?_⟩⟩
        simp only [execOp, ho, Instr.loadAt, ha.ev hx, Instr.sureAddr, Sem.run_bind, Sem.run_pure, Result.andThen_ok, hr w hS]
      · exact h.elim
    · split at h
      · exact h.elim
      · rename_i hk
        split at h
        · rename_i v hv
          have hcongr : execOp (rho σ) o = execOp a.eval o := execOp_congr o (by intro cs b hb; rw [hb] at hs; cases hs) fun x hx => ha.rho hk x (by simpa using hx)
          rw [hcongr] at hv
          exact ⟨v, h, .inl ⟨hw, fun w _ => pureV_sound _ hv w⟩⟩
        · exact h.elim

theorem noSel_region {ops : Array Oper} (h : noSel ops = true) : Region.noSelect ops = true := by
  unfold Region.noSelect
  rw [Array.all_eq_true_iff_forall_mem]
  intro o ho
  have := noSel_spec h ho
  cases hop : o.op <;> simp_all [isSel]

/-- Whatever order: the region's condition is kept by each operation that must keep it. -/
def wpF (P : Program) (ops : Array Oper) (Q : Exit → Act → World → Prop) (S : World → Prop) : Nat → Array Bool → Act → World → Prop
  | 0, listed, a, w => Region.ready .any ops listed = [] ∧ Q .normal a w
  | f + 1, listed, a, w =>
    (Region.ready .any ops listed = [] → Q .normal a w) ∧
    ∀ i ∈ Region.ready .any ops listed, wpOp P ops Q i (fun a' w' => (needB ops i = true → S w → S w') ∧ wpF P ops Q S f (listed.setIfInBounds i true) a' w') a w

theorem wpAny_of_wpF {ops : Array Oper} {Q : Exit → Act → World → Prop} {S : World → Prop} : ∀ (f : Nat) (listed : Array Bool) (a : Act) (w : World), wpF P ops Q S f listed a w → wpAny P .any ops Q f listed a w
  | 0, _, _, _, h => h
  | f + 1, _, _, _, h => ⟨h.1, fun i hi => wpOp_mono (fun a' w' h' => wpAny_of_wpF f _ a' w' h'.2) (h.2 i hi)⟩

/-- An operation that leaves its value in every world of T may be taken first. -/
theorem wpF_first {ops : Array Oper} {Q : Exit → Act → World → Prop} {S T : World → Prop} {i : Nat} {oi : Oper} {v : Value} (hi : ops[i]? = some oi) (hs : noSel ops = true) (hQ : ∀ c a w, ¬ Q (.panic c) a w)
    (hT : ∀ j oj w w', ops[j]? = some oj → j ≠ i → (∀ e ∈ oj.after, Region.binds .any e = true → e.on ≠ i) → T w → (needB ops j = true → S w → S w') → T w') :
    ∀ (f : Nat) (listed : Array Bool) (a : Act) (w : World),
      (∀ j oj, ops[j]? = some oj → j ≠ i → listed.getD j true = false → (∀ e ∈ oj.after, Region.binds .any e = true → e.on ≠ i) → oi.apart ops oj = true) →
      i ∈ Region.ready .any ops listed → YieldsIf P ops T oi v a → T w →
      wpF P ops Q S f (listed.setIfInBounds i true) (a.put oi.dst v) w → wpF P ops Q S (f + 1) listed a w := by
  have hsel : ∀ {o : Oper}, o ∈ ops → ∀ cs b, o.op ≠ .select cs b := fun ho cs b hb => by
    have := noSel_spec hs ho
    rw [hb] at this; cases this
  intro f
  induction f with
  | zero =>
    intro listed a w _ hr hy hTw H
    refine ⟨fun h => (by rw [h] at hr; cases hr), fun j hj => ?_⟩
    by_cases hji : j = i
    · subst hji; exact hy.wpOp hi hTw ⟨fun _ h => h, H⟩
    · have := ready_mono hj hji
      rw [H.1] at this
      cases this
  | succ f ih =>
    intro listed a w hfree hr hy hTw H
    refine ⟨fun h => (by rw [h] at hr; cases hr), fun j hj => ?_⟩
    by_cases hji : j = i
    · subst hji; exact hy.wpOp hi hTw ⟨fun _ h => h, H⟩
    · have h1 := H.2 j (ready_mono hj hji)
      obtain ⟨hjun, oj, hoj, hall⟩ := mem_ready.1 hj
      have hnot : ∀ e ∈ oj.after, Region.binds .any e = true → e.on ≠ i := fun e he hb heq => by
        have h1 := hall e he hb
        have h0 := (mem_ready.1 hr).1
        rw [heq] at h1
        rcases Nat.lt_or_ge i listed.size with h' | h'
        · simp [h'] at h0 h1; rw [h0] at h1; cases h1
        · simp [Array.getElem?_eq_none h'] at h1
      have h2 := wpOp_putIf hoj (hfree j oj hoj hji hjun hnot) (hsel (Array.mem_of_getElem? hi)) (hsel (Array.mem_of_getElem? hoj)) (fun c a w hq => (hQ c _ w hq).elim) hy h1
      refine wpOp_mono (fun a' w' h3 => ⟨h3.2.1, ih (listed.setIfInBounds j true) a' w' ?_ (ready_mono hr (Ne.symm hji)) h3.1 (hT j oj w w' hoj hji hnot hTw h3.2.1) ?_⟩) h2
      · intro k ok hk hki hun hno
        refine hfree k ok hk hki ?_ hno
        by_cases hjk : j = k
        · subst hjk; exact hjun
        · rw [getD_set_ne true hjk] at hun; exact hun
      · rw [Array.setIfInBounds_comm _ _ hji]
        exact h3.2.2

theorem needB_load {ops : Array Oper} {i j : Nat} {oi oj : Oper} (hi : ops[i]? = some oi) (hl : isLoad oi.op = true) (hj : ops[j]? = some oj) (hne : j ≠ i)
    (hno : ∀ e ∈ oj.after, Region.binds .any e = true → e.on ≠ i) : needB ops j = true := by
  unfold needB
  rw [hj]
  simp only [List.any_eq_true, List.mem_range]
  refine ⟨i, (Array.getElem?_eq_some_iff.1 hi).1, ?_⟩
  rw [hi]
  have h1 : Nat.beq i j = false := by
    cases hb : Nat.beq i j with
    | false => rfl
    | true => exact absurd (Nat.eq_of_beq_eq_true hb).symm hne
  have h2 : (oj.after.toList.any fun e => Region.binds .any e && Nat.beq e.on i) = false := by
    rw [List.any_eq_false]
    intro e he hb
    simp only [Bool.and_eq_true] at hb
    exact hno e (by simpa using he) hb.1 (Nat.eq_of_beq_eq_true hb.2)
  simp [h1, hl, h2]

theorem wpF_take {ops : Array Oper} {Q : Exit → Act → World → Prop} {S T : World → Prop} {i : Nat} {oi : Oper} {v : Value} {f : Nat} {listed : Array Bool} {a : Act} {w : World} (hi : ops[i]? = some oi) (hs : noSel ops = true) (hQ : ∀ c a w, ¬ Q (.panic c) a w)
    (hT : ∀ j oj w w', ops[j]? = some oj → j ≠ i → (∀ e ∈ oj.after, Region.binds .any e = true → e.on ≠ i) → T w → (needB ops j = true → S w → S w') → T w')
    (hf : Region.free .any ops listed i = true) (hr : (Region.ready .any ops listed).contains i = true) (hy : YieldsIf P ops T oi v a) (hTw : T w)
    (h : wpF P ops Q S f (listed.setIfInBounds i true) (a.put oi.dst v) w) : wpF P ops Q S (f + 1) listed a w :=
  wpF_first hi hs hQ hT f listed a w (Region.free_spec hi hf) (by simpa using hr) hy hTw h

theorem wpF_done {ops : Array Oper} {Q : Exit → Act → World → Prop} {S : World → Prop} {listed : Array Bool} {a : Act} {w : World} (hr : Region.ready .any ops listed = []) (h : Q .normal a w) : ∀ f, wpF P ops Q S f listed a w
  | 0 => ⟨hr, h⟩
  | _ + 1 => ⟨fun _ => h, by rw [hr]; simp⟩

theorem wpF_all {ops : Array Oper} {Q : Exit → Act → World → Prop} {S : World → Prop} {rs : List Nat} {f : Nat} {listed : Array Bool} {a : Act} {w : World} (hr : Region.ready .any ops listed = rs) (hne : rs ≠ [])
    (h : ∀ i ∈ rs, wpOp P ops Q i (fun a' w' => (needB ops i = true → S w → S w') ∧ wpF P ops Q S f (listed.setIfInBounds i true) a' w') a w) : wpF P ops Q S (f + 1) listed a w :=
  ⟨fun h0 => absurd (hr ▸ h0) hne, hr ▸ h⟩

theorem opP_any {ops : Array Oper} {ld : Addr → Value → Prop} {σ : St} {a : Act} (ha : Agr n σ a) {o : Oper} (hs : isSel o.op = false) (hl : isLoad o.op = false) (hw : Region.wanted o (yielded ops a.tmps) = true) {K : Value → Prop} (h : opP P ld σ o K) :
    ∃ v, K v ∧ YieldsIf P ops (fun _ => True) o v a := by
  unfold opP at h
  split at h
  · rename_i T hT
    obtain ⟨v, hv, hr⟩ := spW_sound (P := P) ha hT h
    exact ⟨v, hv, .inl ⟨hw, fun w _ => hr w⟩⟩
  · split at h
    · rename_i t x ho
      rw [ho] at hl
      cases hl
    · split at h
      · exact h.elim
      · rename_i hk
        split at h
        · rename_i v hv
          have hcongr : execOp (rho σ) o = execOp a.eval o := execOp_congr o (by intro cs b hb; rw [hb] at hs; cases hs) fun x hx => ha.rho hk x (by simpa using hx)
          rw [hcongr] at hv
          exact ⟨v, h, .inl ⟨hw, fun w _ => pureV_sound _ hv w⟩⟩
        · exact h.elim

theorem drW_sound (hΓ : EnvOk P Γ) {ops : Array Oper} (hs : noSel ops = true) {ld : Addr → Value → Prop} {S : World → Prop} (hld : ∀ b v, ld b v → ∀ w, S w → w.cell? b = some v)
    {K : St → World → Prop} {Q : Exit → Act → World → Prop} (hQ : ∀ c a w, ¬ Q (.panic c) a w) (hK : ∀ σ a w, Agr n σ a → K σ w → Q .normal a w) :
    ∀ (r : DA) (ok : Bool) (listed : Array Bool) (σ : St) (a : Act) (w : World), (ok = true → S w) → Agr n σ a → drW P Γ n ops ld S r ok listed K σ w → ∀ f, dep r ≤ f → wpF P ops Q S f listed a w := by
  intro r
  induction r with
  | done =>
    intro ok listed σ a w hS ha h f _
    simp only [drW] at h
    split at h
    · rename_i hr
      exact wpF_done (by simpa [readyB] using hr) (hK σ a w ha h) _
    · exact h.elim
  | pur i r ih =>
    intro ok listed σ a w hS ha h f hf
    simp only [drW] at h
    split at h
    · rename_i o ho
      split at h
      · rename_i hrf
        simp only [Bool.and_eq_true, Bool.or_eq_true, Bool.not_eq_true'] at hrf
        obtain ⟨⟨hr1, hr2⟩, hok⟩ := hrf
        split at h
        · rename_i hw
          have hwant := wantB_sound ha hw
          simp only [dep] at hf
          obtain ⟨f', rfl⟩ : ∃ f', f = f' + 1 := ⟨f - 1, by omega⟩
          cases hl : isLoad o.op with
          | true =>
            have hokt : ok = true := by
              rcases hok with h | h
              · exact h
              · rw [hl] at h; cases h
            obtain ⟨v, hv, hy⟩ := opP_sound (ops := ops) hld ha (noSel_spec hs (Array.mem_of_getElem? ho)) hwant h
            obtain ⟨σ', hσ', ha'⟩ := putK_sound hv ha
            exact wpF_take (T := S) ho hs hQ (fun j oj w w' hj hne hno hT hn => hn (needB_load ho hl hj hne hno) hT) hr2 hr1 hy (hS hokt) (ih ok _ σ' _ w hS ha' hσ' f' (by omega))
          | false =>
            obtain ⟨v, hv, hy⟩ := opP_any (ops := ops) ha (noSel_spec hs (Array.mem_of_getElem? ho)) hl hwant h
            obtain ⟨σ', hσ', ha'⟩ := putK_sound hv ha
            exact wpF_take (T := fun _ => True) ho hs hQ (fun _ _ _ _ _ _ _ _ _ => trivial) hr2 hr1 hy trivial (ih ok _ σ' _ w hS ha' hσ' f' (by omega))
        · exact h.elim
      · exact h.elim
    · exact h.elim
  | skp i r ih =>
    intro ok listed σ a w hS ha h f hf
    simp only [drW] at h
    split at h
    · rename_i o ho
      split at h
      · rename_i hrf
        simp only [Bool.and_eq_true] at hrf
        split at h
        · rename_i hw
          have hwant := wantB_sound ha hw
          obtain ⟨σ', hσ', ha'⟩ := putK_sound h ha
          simp only [dep] at hf
          obtain ⟨f', rfl⟩ : ∃ f', f = f' + 1 := ⟨f - 1, by omega⟩
          exact wpF_take (T := fun _ => True) (v := undef) ho hs hQ (fun _ _ _ _ _ _ _ _ _ => trivial) hrf.2 hrf.1 (.inr ⟨hwant, rfl⟩) trivial (ih ok _ σ' _ w hS ha' hσ' f' (by omega))
        · exact h.elim
      · exact h.elim
    · exact h.elim
  | eff i r ih =>
    intro ok listed σ a w hS ha h f hf
    simp only [drW] at h
    split at h
    · rename_i o ho
      split at h
      · rename_i hr
        split at h
        · rename_i hw
          have hwant := wantB_sound ha hw
          simp only [dep] at hf
          obtain ⟨f', rfl⟩ : ∃ f', f = f' + 1 := ⟨f - 1, by omega⟩
          refine wpF_all (rs := [i]) (by simpa [readyB] using hr) (by simp) fun j hj => ?_
          simp only [List.mem_singleton] at hj
          subst hj
          simp only [wpOp, ho, hwant, if_true]
          refine .inl (opW_sound hΓ ha (noSel_spec hs (Array.mem_of_getElem? ho)) h fun v w' hv => ?_)
          split at hv
          · obtain ⟨hS', hv⟩ := hv
            obtain ⟨σ', hσ', ha'⟩ := putK_sound hv ha
            exact ⟨fun _ _ => hS', ih ok _ σ' _ w' (fun _ => hS') ha' hσ' f' (by omega)⟩
          · rename_i hn
            obtain ⟨σ', hσ', ha'⟩ := putK_sound hv ha
            exact ⟨fun h => (by rw [hn] at h; cases h), ih false _ σ' _ w' (fun h => by cases h) ha' hσ' f' (by omega)⟩
        · exact h.elim
      · exact h.elim
    · exact h.elim
  | two i r j r' ih1 ih2 =>
    intro ok listed σ a w hS ha h f hf
    simp only [drW] at h
    simp only [dep] at hf
    obtain ⟨f', rfl⟩ : ∃ f', f = f' + 1 := ⟨f - 1, by omega⟩
    split at h
    · rename_i hr
      refine wpF_all (rs := [i, j]) (by simpa [readyB] using hr) (by simp) fun k hk => ?_
      simp only [List.mem_cons, List.not_mem_nil, or_false] at hk
      rcases hk with rfl | rfl
      · have h := h.1
        split at h
        · rename_i o ho
          split at h
          · rename_i hw
            have hwant := wantB_sound ha hw
            simp only [wpOp, ho, hwant, if_true]
            refine .inl (opW_sound hΓ ha (noSel_spec hs (Array.mem_of_getElem? ho)) h fun v w' hv => ?_)
            obtain ⟨hS', hv⟩ := hv
            obtain ⟨σ', hσ', ha'⟩ := putK_sound hv ha
            exact ⟨fun _ _ => hS', ih1 ok _ σ' _ w' (fun _ => hS') ha' hσ' f' (by omega)⟩
          · exact h.elim
        · exact h.elim
      · have h := h.2
        split at h
        · rename_i o ho
          split at h
          · rename_i hw
            have hwant := wantB_sound ha hw
            simp only [wpOp, ho, hwant, if_true]
            refine .inl (opW_sound hΓ ha (noSel_spec hs (Array.mem_of_getElem? ho)) h fun v w' hv => ?_)
            obtain ⟨hS', hv⟩ := hv
            obtain ⟨σ', hσ', ha'⟩ := putK_sound hv ha
            exact ⟨fun _ _ => hS', ih2 ok _ σ' _ w' (fun _ => hS') ha' hσ' f' (by omega)⟩
          · exact h.elim
        · exact h.elim
    · exact h.elim
  | spl t r1 r2 ih1 ih2 =>
    intro ok listed σ a w hS ha h f hf
    simp only [drW] at h
    simp only [dep] at hf
    split at h
    · rename_i b hb
      cases b
      · exact ih2 ok _ _ a w hS (ha.spl hb) h f (by omega)
      · exact ih1 ok _ _ a w hS (ha.spl hb) h f (by omega)
    · exact h.elim
end

/-- How a body is gone through. -/
inductive A where
  | leaf
  | reg (r : RA)
  | drw (d : DA)
  | drp (d : DA)
  | seq (a b : A)
  | cond (a b : A)
  | cndL (a b : A)
  | blk (a : A)
  | loop (slots : List Nat) (L : List (List Value → World → Prop) → List Value → World → Prop) (a : A)
  | cut (slots : List Nat) (L : List (List Value → World → Prop) → List Value → World → Prop) (a : A)

abbrev Rho := List (List Value → World → Prop)
abbrev Qt := Exit → St → World → Prop

def seqQ (k : St → World → Prop) (Q : Qt) : Qt
  | .normal, σ, w => k σ w
  | e, σ, w => Q e σ w

def blkQ (id : Nat) (Q : Qt) : Qt
  | .exit i, σ, w => match Nat.beq i id with
    | true => Q .normal σ w
    | false => Q (.exit i) σ w
  | e, σ, w => Q e σ w

def loopQ (slots : List Nat) (N : List Value → World → Prop) (Q : Qt) : Qt
  | .normal, σ, w => match getAll σ slots with
    | some vs => N vs w
    | none => False
  | e, σ, w => Q e σ w

def okOps (ops : Array Oper) : Bool := noSel ops

section
variable (P : Program) (Γ : Env) (n : Nat)

def W : A → Code → Rho → Qt → St → World → Prop
  | .leaf, c, _, Q, σ, w => match c with
    | .skip => Q .normal σ w
    | .label _ => Q .normal σ w
    | .exit id => Q (.exit id) σ w
    | .ret => Q .ret σ w
    | _ => False
  | .reg r, c, _, Q, σ, w => match c with
    | .region _ ops false => match okOps ops with
      | true => rgW P Γ n ops r ops.toList (fun σ w => Q .normal σ w) σ w
      | false => False
    | _ => False
  | .drw d, c, _, Q, σ, w => match c with
    | .region _ ops true => match okOps ops && Nat.ble (dep d) ops.size with
      | true => ∃ S : World → Prop, S w.drew ∧ drW P Γ n ops (fun b v => ∀ w', S w' → w'.cell? b = some v) S d true (Array.replicate ops.size false) (fun σ w => Q .normal σ w) σ w.drew
      | false => False
    | _ => False
  | .drp d, c, _, Q, σ, w => match c with
    | .region _ ops true => match okOps ops && Nat.ble (dep d) ops.size with
      | true => drW P Γ n ops (fun b v => w.drew.cell? b = some v) (fun w' => w' = w.drew) d true (Array.replicate ops.size false) (fun σ w => Q .normal σ w) σ w.drew
      | false => False
    | _ => False
  | .seq a b, c, ρ, Q, σ, w => match c with
    | .seq x y => W a x ρ (seqQ (fun σ w => W b y ρ Q σ w) Q) σ w
    | _ => False
  | .cond a b, c, ρ, Q, σ, w => match c with
    | .cond x p q => match ev σ x with
      | some (.bool t) => cnd t (W a p ρ Q σ w) (W b q ρ Q σ w)
      | _ => False
    | _ => False
  | .cndL a b, c, ρ, Q, σ, w => match c with
    | .cond x p q => match ev σ x with
      | some (.bool true) => W a p ρ Q σ w
      | some (.bool false) => W b q ρ Q σ w
      | _ => False
    | _ => False
  | .blk a, c, ρ, Q, σ, w => match c with
    | .block id x => W a x ρ (blkQ id Q) σ w
    | _ => False
  | .loop slots L _, c, ρ, _, σ, w => match c with
    | .loop _ => match getAll σ slots with
      | some vs => L ρ vs w
      | none => False
    | _ => False
  | .cut slots L _, _, ρ, _, σ, w => match getAll σ slots with
    | some vs => L ρ vs w
    | none => False

/-- What is owed for a cut or a loop. -/
structure Ob where
  slots : List Nat
  L : Rho → List Value → World → Prop
  isLoop : Bool
  a : A
  c : Code
  Q : Rho → Qt

def Ob.goal (o : Ob) (ρ : Rho) (vs : List Value) (w : World) : Prop := W P Γ n o.a o.c ρ (o.Q ρ) (zipS o.slots vs) w

def mkN (I : List Value → World → Prop) (μ : List Value → World → Nat) (vs : List Value) (w : World) : List Value → World → Prop :=
  fun vs' w' => I vs' w' ∧ μ vs' w' < μ vs w

def Ob.holds (o : Ob) : Prop :=
  match o.isLoop with
  | false => ∀ ρ vs w, o.L ρ vs w → o.goal P Γ n ρ vs w
  | true => ∀ ρ vs w, o.L ρ vs w → ∃ (I : List Value → World → Prop) (μ : List Value → World → Nat), I vs w ∧
      ∀ vs w, I vs w → o.goal P Γ n (mkN I μ vs w :: ρ) vs w

def headN : Rho → List Value → World → Prop
  | N :: _ => N
  | [] => fun _ _ => False

def obs : A → Code → (Rho → Qt) → List Ob
  | .seq a b, c, Q => match c with
    | .seq x y => obs a x (fun ρ => seqQ (fun σ w => W P Γ n b y ρ (Q ρ) σ w) (Q ρ)) ++ obs b y Q
    | _ => []
  | .cond a b, c, Q => match c with
    | .cond _ p q => obs a p Q ++ obs b q Q
    | _ => []
  | .cndL a b, c, Q => match c with
    | .cond _ p q => obs a p Q ++ obs b q Q
    | _ => []
  | .blk a, c, Q => match c with
    | .block id x => obs a x (fun ρ => blkQ id (Q ρ))
    | _ => []
  | .loop slots L a, c, Q => match c with
    | .loop x => ⟨slots, L, true, a, x, fun ρ => loopQ slots (headN ρ) (Q ρ.tail)⟩ :: obs a x (fun ρ => loopQ slots (headN ρ) (Q ρ.tail))
    | _ => []
  | .cut slots L a, c, Q => ⟨slots, L, false, a, c, Q⟩ :: obs a c Q
  | _, _, _ => []

def hat (Q : Qt) : Exit → Act → World → Prop
  | .panic _, _, _ => False
  | .outgrown, _, _ => False
  | e, a, w => ∃ σ, Agr n σ a ∧ Q e σ w
end

section
variable {P : Program} {Γ : Env} {n : Nat}

def vsOf (slots : List Nat) (a : Act) : List Value := slots.map fun t => a.tmps.getD t undef

theorem vsOf_eq {σ : St} {a : Act} (ha : Agr n σ a) : ∀ {slots : List Nat} {vs : List Value}, getAll σ slots = some vs → vsOf slots a = vs
  | [], vs, h => by simpa [getAll, vsOf] using h
  | t :: r, vs, h => by
    unfold getAll at h
    split at h
    · cases h
    · rename_i v hv
      split at h
      · cases h
      · rename_i us hus
        cases h
        have ih := vsOf_eq ha hus
        have := ha.2.2 t v hv
        simp only [vsOf, List.map_cons] at ih ⊢
        rw [ih]
        simp [this]

theorem hat_normal {Q : Qt} {σ : St} {a : Act} {w : World} (ha : Agr n σ a) (h : Q .normal σ w) : hat n Q .normal a w := ⟨σ, ha, h⟩

theorem sound (hm : P.follows .mixedOrders = true) (hΓ : EnvOk P Γ) : ∀ (x : A) (c : Code) (Q : Rho → Qt), (∀ o ∈ obs P Γ n x c Q, o.holds P Γ n) →
    ∀ (ρ : Rho) (σ : St) (a : Act) (w : World), Agr n σ a → W P Γ n x c ρ (Q ρ) σ w → c.wp P (hat n (Q ρ)) a w := by
  intro x
  induction x with
  | leaf =>
    intro c Q _ ρ σ a w ha h
    cases c <;> simp only [W] at h <;> try exact h.elim
    · exact wp_skip ⟨σ, ha, h⟩
    · exact wp_exit ⟨σ, ha, h⟩
    · exact wp_label ⟨σ, ha, h⟩
    · exact wp_ret ⟨σ, ha, h⟩
  | reg r =>
    intro c Q hob ρ σ a w ha h
    cases c <;> simp only [W] at h <;> try exact h.elim
    rename_i id ops d
    cases d <;> simp only at h
    · split at h
      · rename_i hs
        refine wp_region ?_
        rw [List.range_eq_range', ← Array.length_toList]
        exact rgW_sound hΓ hs (fun σ a w ha hk => hat_normal ha hk) r ops.toList 0 σ a w (fun j => by simp) ha h
      · exact h.elim
  | drw d =>
    intro c Q hob ρ σ a w ha h
    cases c <;> simp only [W] at h <;> try exact h.elim
    rename_i id ops dr
    cases dr <;> simp only at h
    split at h
    · rename_i hs
      simp only [Bool.and_eq_true] at hs
      obtain ⟨S, hS, h⟩ := h
      exact wp_region_any hm (wpAny_of_wpF (S := S) _ _ _ _ (drW_sound hΓ hs.1 (fun b v hb w' hw' => hb w' hw') (fun c a w hq => hq) (fun σ a w ha hk => hat_normal ha hk) d true _ σ a _ (fun _ => hS) ha h _ (Nat.le_of_ble_eq_true hs.2)))
    · exact h.elim
  | drp d =>
    intro c Q hob ρ σ a w ha h
    cases c <;> simp only [W] at h <;> try exact h.elim
    rename_i id ops dr
    cases dr <;> simp only at h
    split at h
    · rename_i hs
      simp only [Bool.and_eq_true] at hs
      exact wp_region_any hm (wpAny_of_wpF (S := fun w' => w' = w.drew) _ _ _ _ (drW_sound (S := fun w' => w' = w.drew) hΓ hs.1 (fun b v hb w' hw' => by rw [hw']; exact hb) (fun c a w hq => hq) (fun σ a w ha hk => hat_normal ha hk) d true _ σ a _ (fun _ => rfl) ha h _ (Nat.le_of_ble_eq_true hs.2)))
    · exact h.elim
  | seq x y ihx ihy =>
    intro c Q hob ρ σ a w ha h
    cases c <;> simp only [W] at h <;> try exact h.elim
    rename_i cx cy
    simp only [obs, List.mem_append] at hob
    refine wp_seq (wp_mono (ihx cx (fun ρ => seqQ (fun σ w => W P Γ n y cy ρ (Q ρ) σ w) (Q ρ)) (fun o ho => hob o (.inl ho)) ρ σ a w ha h) fun e a w hq => ?_)
    cases e with
    | normal =>
      obtain ⟨σ', ha', h'⟩ := hq
      exact ihy cy Q (fun o ho => hob o (.inr ho)) ρ σ' a w ha' h'
    | _ => exact hq
  | cond x y ihx ihy =>
    intro c Q hob ρ σ a w ha h
    cases c <;> simp only [W] at h <;> try exact h.elim
    rename_i cc cx cy
    simp only [obs, List.mem_append] at hob
    split at h
    · rename_i t ht
      rw [cnd_iff] at h
      refine wp_cond_split (ha.ev ht) (fun h1 => ihx cx Q (fun o ho => hob o (.inl ho)) ρ σ a w ha (h.1 h1)) fun h1 => ihy cy Q (fun o ho => hob o (.inr ho)) ρ σ a w ha (h.2 h1)
    · exact h.elim
  | cndL x y ihx ihy =>
    intro c Q hob ρ σ a w ha h
    cases c <;> simp only [W] at h <;> try exact h.elim
    rename_i cc cx cy
    simp only [obs, List.mem_append] at hob
    split at h
    · rename_i ht
      exact wp_cond_true (ha.ev ht) (ihx cx Q (fun o ho => hob o (.inl ho)) ρ σ a w ha h)
    · rename_i ht
      exact wp_cond_false (ha.ev ht) (ihy cy Q (fun o ho => hob o (.inr ho)) ρ σ a w ha h)
    · exact h.elim
  | blk x ih =>
    intro c Q hob ρ σ a w ha h
    cases c <;> simp only [W] at h <;> try exact h.elim
    rename_i id cx
    simp only [obs] at hob
    refine wp_block (wp_mono (ih cx (fun ρ => blkQ id (Q ρ)) hob ρ σ a w ha h) fun e a w hq => ?_)
    cases e with
    | exit i =>
      obtain ⟨σ', ha', h'⟩ := hq
      simp only [blkQ] at h'
      simp only [Exit.inBlock]
      split at h'
      · rename_i hb
        rw [if_pos (Nat.eq_of_beq_eq_true hb)]
        exact ⟨σ', ha', h'⟩
      · rename_i hb
        rw [if_neg (Nat.ne_of_beq_eq_false hb)]
        exact ⟨σ', ha', h'⟩
    | _ => exact hq
  | loop slots L x ih =>
    intro c Q hob ρ σ a w ha h
    cases c <;> simp only [W] at h <;> try exact h.elim
    rename_i cx
    simp only [obs, List.mem_cons, forall_eq_or_imp] at hob
    split at h
    · rename_i vs hvs
      obtain ⟨I, μ, h0, hround⟩ := hob.1 ρ vs w h
      have hv := vsOf_eq ha hvs
      refine wp_loop (fun a w => Agr n (zipS slots (vsOf slots a)) a ∧ I (vsOf slots a) w) (fun a w => μ (vsOf slots a) w) ⟨by rw [hv]; exact ha.getAll hvs, by rw [hv]; exact h0⟩ ?_
      intro a w ⟨ha, hI⟩
      refine wp_mono (ih cx (fun ρ => loopQ slots (headN ρ) (Q ρ.tail)) hob.2 (mkN I μ (vsOf slots a) w :: ρ) _ a w ha (hround _ w hI)) fun e a' w' hq => ?_
      cases e with
      | normal =>
        obtain ⟨σ', ha', h'⟩ := hq
        simp only [loopQ, headN] at h'
        split at h'
        · rename_i vs' hvs'
          have hv' := vsOf_eq ha' hvs'
          obtain ⟨hI', hμ⟩ := h'
          exact ⟨⟨by rw [hv']; exact ha'.getAll hvs', by rw [hv']; exact hI'⟩, by rw [hv']; exact hμ⟩
        · exact h'.elim
      | _ => exact hq
    · exact h.elim
  | cut slots L x ih =>
    intro c Q hob ρ σ a w ha h
    simp only [W] at h
    simp only [obs, List.mem_cons, forall_eq_or_imp] at hob
    split at h
    · rename_i vs hvs
      exact ih c Q hob.2 ρ _ a w (ha.getAll hvs) (hob.1 ρ vs w h)
    · exact h.elim
end
end Pw
