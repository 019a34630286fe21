/- From a body's formula to the contract of its call. Conditions: none. -/
import Derived.Test.YtmhjekbdpnocaaaPwE
namespace Pw
open Go

def resW (P : Program) (σ : St) (w : World) : List ResultVar → (List Value → Prop) → Prop
  | [], K => K []
  | .tmp t :: r, K => match get σ t with
    | some v => resW P σ w r fun vs => K (v :: vs)
    | none => False
  | .cell a t :: r, K => match get σ a with
    | some (.pointer (some b)) => ldW P (fun b v => w.cell? b = some v) t b fun v => resW P σ w r fun vs => K (v :: vs)
    | _ => False

def oneV (vs : List Value) : Value := match vs with
  | [v] => v
  | vs => .tuple vs.toArray

def retQ (P : Program) (res : Array ResultVar) (K : VW) : Qt
  | .normal, σ, w => resW P σ w res.toList fun vs => K (oneV vs) w
  | .ret, σ, w => resW P σ w res.toList fun vs => K (oneV vs) w
  | _, _, _ => False

def resF (tmps : Array Value) : ResultVar → Sem Value
  | .tmp t => pure (tmps.getD t undef)
  | .cell a t => do loadVar t (← asAddr (tmps.getD a undef))

theorem results_eq (fn : Func) (tmps : Array Value) : results fn tmps = (do
    let vs ← fn.results.mapM (resF tmps)
    pure (if h : vs.size = 1 then vs[0] else .tuple vs)) := by
  unfold results
  congr 1

section
variable {P : Program} {n : Nat}

theorem resW_sound {σ : St} {a : Act} (ha : Agr n σ a) {w : World} : ∀ {l : List ResultVar} {K : List Value → Prop}, resW P σ w l K →
    ∃ vs, K vs ∧ (l.mapM (resF a.tmps)).run P w = .ok vs w
  | [], K, h => ⟨[], h, by simp⟩
  | .tmp t :: r, K, h => by
    simp only [resW] at h
    split at h
    · rename_i v hv
      obtain ⟨vs, hK, hr⟩ := resW_sound ha h
      refine ⟨_, hK, ?_⟩
      have := ha.2.2 t v hv
      simp only [List.mapM_cons, Sem.run_bind, resF, Sem.run_pure, Result.andThen_ok, hr]
      simp [this]
    · exact h.elim
  | .cell c t :: r, K, h => by
    simp only [resW] at h
    split at h
    · rename_i b hb
      obtain ⟨v, h, hl⟩ := ldW_sound (P := P) (S := fun w' => w' = w) (fun b v hb w' hw' => by subst hw'; exact hb) h
      obtain ⟨vs, hK, hr⟩ := resW_sound ha h
      refine ⟨_, hK, ?_⟩
      have := ha.2.2 c _ hb
      have hg : a.tmps.getD c undef = .pointer (some b) := by simp [this]
      have hadd : (asAddr (.pointer (some b)) : Sem Addr).run P w = .ok b w := rfl
      simp only [List.mapM_cons, Sem.run_bind, resF, hg, hadd, Result.andThen_ok, hl w rfl, hr, Sem.run_pure]
    · exact h.elim

theorem retQ_sound {fn : Func} {σ : St} {a : Act} (ha : Agr n σ a) {w : World} {K : VW} (h : resW P σ w fn.results.toList fun vs => K (oneV vs) w) :
    ∃ v, (results fn a.tmps).run P w = .ok v w ∧ K v w := by
  obtain ⟨vs, hK, hr⟩ := resW_sound ha h
  refine ⟨_, ?_, hK⟩
  rw [results_eq, Array.mapM_eq_mapM_toList]
  simp only [Sem.run_bind, Sem.run_map]
  rw [hr]
  simp only [Result.andThen_ok, Sem.run_pure, oneV]
  congr 1
  match vs with
  | [] => simp
  | [v] => simp
  | v :: u :: r => simp

theorem get_zip_range : ∀ (vs : List Value) (k t : Nat) (v : Value), get (zipS (List.range' k vs.length) vs) t = some v → k ≤ t ∧ vs[t - k]? = some v
  | [], k, t, v, h => by simp [zipS, get] at h
  | u :: vs, k, t, v, h => by
    simp only [List.length_cons, List.range'_succ, zipS] at h
    rw [get_cons] at h
    by_cases hk : k = t
    · subst hk; simp at h; subst h; simp
    · simp only [hk, if_false] at h
      obtain ⟨h1, h2⟩ := get_zip_range vs (k + 1) t v h
      refine ⟨by omega, ?_⟩
      rw [show t - k = (t - (k + 1)) + 1 by omega]
      simpa using h2

def startS (vs : List Value) : St := zipS (List.range' 0 vs.length) vs

theorem agr_start {vs : List Value} {m : Nat} (h : vs.length ≤ m) : Agr m (startS vs) { tmps := vs.toArray ++ Array.replicate (m - vs.toArray.size) undef, defers := [] } := by
  refine ⟨by simp; omega, rfl, fun t v ht => ?_⟩
  obtain ⟨_, h2⟩ := get_zip_range vs 0 t v ht
  simp only [Nat.sub_zero] at h2
  have hlt : t < vs.length := (List.getElem?_eq_some_iff.1 h2).1
  rw [Array.getElem?_append_left (by simpa using hlt)]
  simpa using h2

/-- THE CALL: a body's formula, its cuts and loops paid, gives the contract. -/
theorem calls_sound {Γ : Env} (hm : P.follows .mixedOrders = true) (hΓ : EnvOk P Γ) {f : FuncId} {fn : Func} {code : Code} (hf : P.funcs[f]? = some fn) (hb : fn.body = some code)
    (x : A) (K : VW) (hob : ∀ o ∈ obs P Γ fn.ntmps x code (fun _ => retQ P fn.results K), o.holds P Γ fn.ntmps) {vs : List Value} (hlen : vs.length ≤ fn.ntmps) {w : World}
    (h : W P Γ fn.ntmps x code [] (retQ P fn.results K) (startS vs) w) : Calls P f vs.toArray w fun e w' => ∃ v, e = .returned v ∧ K v w' := by
  refine calls_of_wp hf hb (wp_mono (sound hm hΓ x code (fun _ => retQ P fn.results K) hob [] (startS vs) _ w (agr_start hlen) h) fun e a w hq => ?_)
  cases e with
  | normal =>
    obtain ⟨σ', ha', h'⟩ := hq
    obtain ⟨v, hr, hK⟩ := retQ_sound ha' h'
    exact ⟨ha'.2.1, v, hr, v, rfl, hK⟩
  | ret =>
    obtain ⟨σ', ha', h'⟩ := hq
    obtain ⟨v, hr, hK⟩ := retQ_sound ha' h'
    exact ⟨ha'.2.1, v, hr, v, rfl, hK⟩
  | panic c => exact hq.elim
  | outgrown => exact hq.elim
  | exit id => obtain ⟨σ', _, h'⟩ := hq; exact h'.elim
  | goto l => obtain ⟨σ', _, h'⟩ := hq; exact h'.elim
end

/-- What is owed, one after the other. -/
def obAt (l : List Ob) : Nat → Option Ob
  | 0 => match l with
    | [] => none
    | o :: _ => some o
  | k + 1 => match l with
    | [] => none
    | _ :: r => obAt r k

def holdsAt (P : Program) (Γ : Env) (n : Nat) (l : List Ob) (k : Nat) : Prop := ∀ o, obAt l k = some o → o.holds P Γ n

theorem holds_all {P : Program} {Γ : Env} {n : Nat} : ∀ {l : List Ob}, (∀ k, holdsAt P Γ n l k) → ∀ o ∈ l, o.holds P Γ n
  | [], _, o, ho => by cases ho
  | x :: r, h, o, ho => by
    rcases List.mem_cons.1 ho with rfl | ho
    · exact h 0 _ rfl
    · exact holds_all (l := r) (fun k o' ho' => h (k + 1) o' ho') o ho

theorem holdsAt_none {P : Program} {Γ : Env} {n : Nat} {l : List Ob} {k : Nat} (h : obAt l k = none) : holdsAt P Γ n l k := fun o ho => by rw [h] at ho; cases ho

theorem holdsAt_ge {P : Program} {Γ : Env} {n : Nat} : ∀ {l : List Ob} {m k : Nat}, obAt l m = none → m ≤ k → holdsAt P Γ n l k
  | l, m, k, h, hk, o, ho => by
    exfalso
    have key : ∀ (l : List Ob) (m k : Nat), obAt l m = none → m ≤ k → obAt l k = none := by
      intro l
      induction l with
      | nil => intro m k _ _; cases k <;> rfl
      | cons x r ih =>
        intro m k h hk
        cases m with
        | zero => simp [obAt] at h
        | succ m =>
          obtain ⟨k', rfl⟩ : ∃ k', k = k' + 1 := ⟨k - 1, by omega⟩
          exact ih m k' h (by omega)
    rw [key l m k h hk] at ho
    cases ho

/-- The formula that is owed at place k. -/
def goalAt (P : Program) (Γ : Env) (n : Nat) (l : List Ob) (k : Nat) (ρ : Rho) (vs : List Value) (w : World) : Prop :=
  match obAt l k with
  | some o => o.goal P Γ n ρ vs w
  | none => False

def labAt (l : List Ob) (k : Nat) (ρ : Rho) (vs : List Value) (w : World) : Prop :=
  match obAt l k with
  | some o => o.L ρ vs w
  | none => True

def isLoopAt (l : List Ob) (k : Nat) : Bool :=
  match obAt l k with
  | some o => o.isLoop
  | none => false

theorem holdsAt_cut {P : Program} {Γ : Env} {n : Nat} {l : List Ob} {k : Nat} (hl : isLoopAt l k = false) (h : ∀ ρ vs w, labAt l k ρ vs w → goalAt P Γ n l k ρ vs w) : holdsAt P Γ n l k := by
  intro o ho
  unfold isLoopAt at hl
  unfold Ob.holds
  rw [ho] at hl
  simp only at hl
  rw [hl]
  intro ρ vs w hL
  have := h ρ vs w (by unfold labAt; rw [ho]; exact hL)
  unfold goalAt at this
  rw [ho] at this
  exact this

theorem holdsAt_loop {P : Program} {Γ : Env} {n : Nat} {l : List Ob} {k : Nat} (hl : isLoopAt l k = true)
    (h : ∀ ρ vs w, labAt l k ρ vs w → ∃ (I : List Value → World → Prop) (μ : List Value → World → Nat), I vs w ∧ ∀ vs w, I vs w → goalAt P Γ n l k (mkN I μ vs w :: ρ) vs w) : holdsAt P Γ n l k := by
  intro o ho
  unfold isLoopAt at hl
  unfold Ob.holds
  rw [ho] at hl
  simp only at hl
  rw [hl]
  intro ρ vs w hL
  obtain ⟨I, μ, h0, hr⟩ := h ρ vs w (by unfold labAt; rw [ho]; exact hL)
  refine ⟨I, μ, h0, fun vs w hI => ?_⟩
  have := hr vs w hI
  unfold goalAt at this
  rw [ho] at this
  exact this
end Pw
