/- From a body's formula to the contract of its call. Conditions: none. -/
import Derived.Test.YtmkjcheafdionaaGreatPwE
namespace Pw
open Go
def resW (P : Program) (σ : St) (w : World) : List ResultVar -> (List Value -> Prop) -> Prop
 | [], K => K []
 | .tmp t :: r, K => match get σ t with
  | some v => resW P σ w r fun vs => K (v :: vs)
  | none => False
 | .cell a t :: r, K => match get σ a with
  | some (.pointer (some b)) => ldW P (fun b v => w.cell? b = some v) t b fun v => resW P σ w r fun vs => K (v :: vs)
  | _ => False
def oneV (vs : List Value) : Value := match vs with
 | [v] => v
 | vs => .tuple vs.toArray
def retD : List Nat -> World -> (World -> Prop) -> Prop
 | [], w, k => k w
 | d :: D, w, k => w.heap[d]? = some (.deferred (some [])) /\ retD D (w.putObj d (.deferred none)) k
def retQ (P : Program) (res : Array ResultVar) (K : VW) : Qt
 | .normal, D, σ, w => retD D w fun w => resW P σ w res.toList fun vs => K (oneV vs) w
 | .ret, D, σ, w => retD D w fun w => resW P σ w res.toList fun vs => K (oneV vs) w
 | _, _, _, _ => False
def resF (tmps : Array Value) : ResultVar -> Sem Value
 | .tmp t => pure (tmps.getD t undef)
 | .cell a t => do loadVar t (← asAddr (tmps.getD a undef))
theorem results_eq (fn : Func) (tmps : Array Value) : results fn tmps = (do
  let vs ← fn.results.mapM (resF tmps)
  pure (if h : vs.size = 1 then vs[0] else .tuple vs)) := by
 unfold results
 congr 1
section
variable {P : Program} {n : Nat} {B : List Deferred}
theorem resW_sound {σ : St} {a : Act} (ha : Agr n B σ a) {w : World} : ∀ {l : List ResultVar} {K : List Value -> Prop}, resW P σ w l K ->
  ∃ vs, K vs /\ (l.mapM (resF a.tmps)).run P w = .ok vs w
 | [], K, h => ⟨[], h, by simp⟩
 | .tmp t :: r, K, h => by
  simp only [resW] at h
  split at h
  ·rename_i v hv
   obtain ⟨vs, hK, hr⟩ := resW_sound ha h
   refine ⟨_, hK, ?_⟩
   have := ha.2.2 t v hv
   simp only [List.mapM_cons, Sem.run_bind, resF, Sem.run_pure, Result.andThen_ok, hr]
   simp [this]
  ·exact h.elim
 | .cell c t :: r, K, h => by
  simp only [resW] at h
  split at h
  ·rename_i b hb
   obtain ⟨v, h, hl⟩ := ldW_sound (P := P) (S := fun w' => w' = w) (fun b v hb w' hw' => by subst hw'; exact hb) h
   obtain ⟨vs, hK, hr⟩ := resW_sound ha h
   refine ⟨_, hK, ?_⟩
   have := ha.2.2 c _ hb
   have hg : a.tmps.getD c undef = .pointer (some b) := by simp [this]
   have hadd : (asAddr (.pointer (some b)) : Sem Addr).run P w = .ok b w := rfl
   simp only [List.mapM_cons, Sem.run_bind, resF, hg, hadd, Result.andThen_ok, hl w rfl, hr, Sem.run_pure]
  ·exact h.elim
theorem retQ_sound {fn : Func} {σ : St} {a : Act} (ha : Agr n B σ a) {w : World} {K : VW} (h : resW P σ w fn.results.toList fun vs => K (oneV vs) w) :
  ∃ v, (results fn a.tmps).run P w = .ok v w /\ K v w := by
 obtain ⟨vs, hK, hr⟩ := resW_sound ha h
 refine ⟨_, ?_, hK⟩
 rw [results_eq, Array.mapM_eq_mapM_toList]
 simp only [Sem.run_bind, Sem.run_map]
 rw [hr]
 simp only [Result.andThen_ok, Sem.run_pure, oneV]
 congr 1
 match vs with
 | [] => simp
 | [v] => simp
 | v :: u :: r => simp
theorem get_zip_range : ∀ (vs : List Value) (k t : Nat) (v : Value), get (zipS (List.range' k vs.length) vs) t = some v -> k <= t /\ vs[t - k]? = some v
 | [], k, t, v, h => by simp [zipS, get] at h
 | u :: vs, k, t, v, h => by
  simp only [List.length_cons, List.range'_succ, zipS] at h
  rw [get_cons] at h
  by_cases hk : k = t
  ·subst hk; simp at h; subst h; simp
  ·simp only [hk, if_false] at h
   obtain ⟨h1, h2⟩ := get_zip_range vs (k + 1) t v h
   refine ⟨by omega, ?_⟩
   rw [show t - k = (t - (k + 1)) + 1 by omega]
   simpa using h2
def startS (vs : List Value) : St := zipS (List.range' 0 vs.length) vs
theorem agr_start {vs : List Value} {m : Nat} (h : vs.length <= m) : Agr m [] (startS vs) { tmps := vs.toArray ++ Array.replicate (m - vs.toArray.size) undef, defers := [] } := by
 refine ⟨by simp; omega, rfl, fun t v ht => ?_⟩
 obtain ⟨_, h2⟩ := get_zip_range vs 0 t v ht
 simp only [Nat.sub_zero] at h2
 have hlt : t < vs.length := (List.getElem?_eq_some_iff.1 h2).1
 rw [Array.getElem?_append_left (by simpa using hlt)]
 simpa using h2
theorem leave_marks {fn : Func} {tmps : Array Value} {R : Ending -> World -> Prop} {B : List Deferred} : ∀ (D : List Nat) (w : World) (k : World -> Prop), retD D w k -> (∀ w', k w' -> LeavesInM Fence.wide 0 P fn tmps R B .returning w') ->
  LeavesInM Fence.wide 0 P fn tmps R (D.map mk ++ B) .returning w
 | [], w, k, h, hk => hk w h
 | d :: D, w, k, h, hk => ⟨by simp, .inl ⟨d, _, rfl, run_takeDeferred h.1, leave_marks D _ k h.2 hk⟩⟩
theorem calls_sound {Γ : Env} (hm : P.follows .mixedOrders = true) (hΓ : EnvOk P Γ) {f : FuncId} {fn : Func} {code : Code} (hf : P.funcs[f]? = some fn) (hb : fn.body = some code)
  (x : A) (K : VW) (hob : ∀ o ∈ obs P Γ fn.ntmps x code (fun _ => retQ P fn.results K), o.holds P Γ fn.ntmps) {vs : List Value} (hlen : vs.length <= fn.ntmps) {w : World}
  (h : W P Γ fn.ntmps x code [] (retQ P fn.results K) [] (startS vs) w) : Calls P f vs.toArray w fun e w' => ∃ v, e = .returned v /\ K v w' := by
 refine (callsIn_wide (n := 0)).1 (callsIn_of_wp_marks hf hb trivial (wpIn_mono (sound (r := none) (m := 0) (B := []) (Z := fun _ => True) hm hΓ x code (fun _ => retQ P fn.results K) (.inl ⟨rfl, fun _ => trivial⟩) hob [] [] (startS vs) _ w trivial (agr_start hlen) h) fun e a w hq => ?_))
 have fin : ∀ D σ', Agr fn.ntmps (D.map mk ++ []) σ' a -> (retD D w fun w => resW P σ' w fn.results.toList fun vs => K (oneV vs) w) ->
   LeavesInM Fence.wide 0 P fn a.tmps (fun e w' => ∃ v, e = .returned v /\ K v w') a.defers .returning w := by
  intro D σ' ha' h'
  rw [ha'.2.1]
  refine leave_marks D w _ h' fun w' hw' => ?_
  obtain ⟨v, hr, hK⟩ := retQ_sound ha' hw'
  exact ⟨v, hr, v, rfl, hK⟩
 cases e with
 | normal => obtain ⟨D, σ', _, ha', h'⟩ := hq; exact fin D σ' ha' h'
 | ret => obtain ⟨D, σ', _, ha', h'⟩ := hq; exact fin D σ' ha' h'
 | panic c => exact hq.elim
 | outgrown => exact hq.elim
 | exit id => obtain ⟨_, σ', _, _, h'⟩ := hq; exact h'.elim
 | goto l => obtain ⟨_, σ', _, _, h'⟩ := hq; exact h'.elim
end
def obAt (l : List Ob) : Nat -> Option Ob
 | 0 => match l with
  | [] => none
  | o :: _ => some o
 | k + 1 => match l with
  | [] => none
  | _ :: r => obAt r k
def holdsAt (P : Program) (Γ : Env) (n : Nat) (l : List Ob) (k : Nat) : Prop := ∀ o, obAt l k = some o -> o.holds P Γ n
theorem holds_all {P : Program} {Γ : Env} {n : Nat} : ∀ {l : List Ob}, (∀ k, holdsAt P Γ n l k) -> ∀ o ∈ l, o.holds P Γ n
 | [], _, o, ho => by cases ho
 | x :: r, h, o, ho => by
  rcases List.mem_cons.1 ho with rfl | ho
  ·exact h 0 _ rfl
  ·exact holds_all (l := r) (fun k o' ho' => h (k + 1) o' ho') o ho
theorem holdsAt_ge {P : Program} {Γ : Env} {n : Nat} : ∀ {l : List Ob} {m k : Nat}, obAt l m = none -> m <= k -> holdsAt P Γ n l k
 | l, m, k, h, hk, o, ho => by
  exfalso
  have key : ∀ (l : List Ob) (m k : Nat), obAt l m = none -> m <= k -> obAt l k = none := by
   intro l
   induction l with
   | nil => intro m k _ _; cases k <;> rfl
   | cons x r ih =>
    intro m k h hk
    cases m with
    | zero => simp [obAt] at h
    | succ m =>
     obtain ⟨k', rfl⟩ : ∃ k', k = k' + 1 := ⟨k - 1, by omega⟩
     exact ih m k' h (by omega)
  rw [key l m k h hk] at ho
  cases ho
def goalAt (P : Program) (Γ : Env) (n : Nat) (l : List Ob) (k : Nat) (ρ : Rho) (vs : List Value) (w : World) : Prop :=
 match obAt l k with
 | some o => o.goal P Γ n ρ vs w
 | none => False
def labAt (l : List Ob) (k : Nat) (ρ : Rho) (vs : List Value) (w : World) : Prop :=
 match obAt l k with
 | some o => o.L ρ vs w
 | none => True
def kindAt (l : List Ob) (k : Nat) : Option Kd :=
 match obAt l k with
 | some o => some o.kind
 | none => none
theorem holdsAt_cut {P : Program} {Γ : Env} {n : Nat} {l : List Ob} {k : Nat} (hl : kindAt l k = some .cut \/ kindAt l k = some .rf) (h : ∀ ρ vs w, labAt l k ρ vs w -> goalAt P Γ n l k ρ vs w) : holdsAt P Γ n l k := by
 intro o ho
 unfold kindAt at hl
 rw [ho] at hl
 have key : ∀ ρ vs w, o.L ρ vs w -> o.goal P Γ n ρ vs w := by
  intro ρ vs w hL
  have := h ρ vs w (by unfold labAt; rw [ho]; exact hL)
  unfold goalAt at this
  rw [ho] at this
  exact this
 unfold Ob.holds
 rcases hl with hl | hl
 ·simp only [Option.some.injEq] at hl
  rw [hl]
  exact key
 ·simp only [Option.some.injEq] at hl
  rw [hl]
  exact key
theorem holdsAt_loop {P : Program} {Γ : Env} {n : Nat} {l : List Ob} {k : Nat} (hl : kindAt l k = some .loop)
  (h : ∀ ρ vs w, labAt l k ρ vs w -> ∃ (I : List Value -> World -> Prop) (μ : List Value -> World -> Nat), I vs w /\ ∀ vs w, I vs w -> goalAt P Γ n l k (mkN I μ vs w :: ρ) vs w) : holdsAt P Γ n l k := by
 intro o ho
 unfold kindAt at hl
 rw [ho] at hl
 simp only [Option.some.injEq] at hl
 unfold Ob.holds
 rw [hl]
 intro ρ vs w hL
 obtain ⟨I, μ, h0, hr⟩ := h ρ vs w (by unfold labAt; rw [ho]; exact hL)
 refine ⟨I, μ, h0, fun vs w hI => ?_⟩
 have := hr vs w hI
 unfold goalAt at this
 rw [ho] at this
 exact this
theorem callV_of {P : Program} {g : Nat} {S : Spec} {first cap : Array Value} {vs : List Value} {w : World} {K : VW} (hs : Sound P g S) (h : S (first.toList ++ vs ++ cap.toList) w K) : CallV P (.func (.func g) first cap) vs w K := by
 refine ⟨hs.1, ?_⟩
 have := hs.2 _ _ _ h
 have e : first ++ vs.toArray ++ cap = (first.toList ++ vs ++ cap.toList).toArray := by
  apply Array.toList_inj.1; simp
 rw [e]
 exact this
def rfList : Code -> List Code
 | .seq a b => rfList a ++ rfList b
 | .cond _ a b => rfList a ++ rfList b
 | .block _ a => rfList a
 | .loop a => rfList a
 | .scope a => rfList a
 | .rangeFunc g ps a b => .rangeFunc g ps a b :: rfList b
 | _ => []
def nthC : List Code -> Nat -> Code
 | [], _ => .skip
 | c :: _, 0 => c
 | _ :: r, k + 1 => nthC r k
def rfAt (c : Code) (k : Nat) : Code := nthC (rfList c) k
def rfAs : Code -> Code
 | .rangeFunc _ _ a _ => a
 | _ => .skip
def rfBd : Code -> Code
 | .rangeFunc _ _ _ b => b
 | _ => .skip
end Pw
