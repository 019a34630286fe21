/- From a body's formula to the contract of its call. Conditions: none. -/
import Derived.Test.YtfclokkfnkieoaaGreatDoorPwE
namespace Pw
open Go

def resW (P : Program) (σ : St) (w : World) : List ResultVar → (List Value → Prop) → Prop
  | [], K => K []
  | .tmp t :: r, K => match get σ t with
    | some v => resW P σ w r fun vs => K (v :: vs)
    | none => False
  | .cell a t :: r, K => match get σ a with
    | some (.pointer (some b)) => ldW P (fun b v => w.cell? b = some v) t b fun v => resW P σ w r fun vs => K (v :: vs)
    | _ => False

def oneV (vs : List Value) : Value := match vs with
  | [v] => v
  | vs => .tuple vs.toArray

/-- The marks that a function's ranges over functions have left are taken off. -/
def retD : List Nat → World → (World → Prop) → Prop
  | [], w, k => k w
  | d :: D, w, k => w.heap[d]? = some (.deferred (some [])) ∧ retD D (w.putObj d (.deferred none)) k

def retQ (P : Program) (res : Array ResultVar) (K : VW) : Qt
  | .normal, D, σ, w => retD D w fun w => resW P σ w res.toList fun vs => K (oneV vs) w
  | .ret, D, σ, w => retD D w fun w => resW P σ w res.toList fun vs => K (oneV vs) w
  | _, _, _, _ => False

/-- The temporaries on which the results lean. -/
def resT : List ResultVar → List Nat
  | [] => []
  | .tmp t :: r => t :: resT r
  | .cell a _ :: r => a :: resT r

/-- The way out of a function that has deferred a call: what follows is the head of ρ's. -/
def dfQ (res : Array ResultVar) (ρ : Rho) : Qt
  | .normal, D, σ, w => retD D w fun w => match getAll σ (resT res.toList) with
    | some vs => headN ρ vs w
    | none => False
  | .ret, D, σ, w => retD D w fun w => match getAll σ (resT res.toList) with
    | some vs => headN ρ vs w
    | none => False
  | _, _, _, _ => False

def resF (tmps : Array Value) : ResultVar → Sem Value
  | .tmp t => pure (tmps.getD t undef)
  | .cell a t => do loadVar t (← asAddr (tmps.getD a undef))

theorem results_eq (fn : Func) (tmps : Array Value) : results fn tmps = (do
    let vs ← fn.results.mapM (resF tmps)
    pure (if h : vs.size = 1 then vs[0] else .tuple vs)) := by
  unfold results
  congr 1

section
variable {P : Program} {n : Nat} {B : List Deferred}

theorem resW_sound {σ : St} {a : Act} (ha : Agr n B σ a) {w : World} : ∀ {l : List ResultVar} {K : List Value → Prop}, resW P σ w l K →
    ∃ vs, K vs ∧ (l.mapM (resF a.tmps)).run P w = .ok vs w
  | [], K, h => ⟨[], h, by simp⟩
  | .tmp t :: r, K, h => by
    simp only [resW] at h
    split at h
    · rename_i v hv
      obtain ⟨vs, hK, hr⟩ := resW_sound ha h
      refine ⟨_, hK, ?_⟩
      have := ha.2.2 t v hv
      simp only [List.mapM_cons, Sem.run_bind, resF, Sem.run_pure, Result.andThen_ok, hr]
      simp [this]
    · exact h.elim
  | .cell c t :: r, K, h => by
    simp only [resW] at h
    split at h
    · rename_i b hb
      obtain ⟨v, h, hl⟩ := ldW_sound (P := P) (S := fun w' => w' = w) (fun b v hb w' hw' => by subst hw'; exact hb) h
      obtain ⟨vs, hK, hr⟩ := resW_sound ha h
      refine ⟨_, hK, ?_⟩
      have := ha.2.2 c _ hb
      have hg : a.tmps.getD c undef = .pointer (some b) := by simp [this]
      have hadd : (asAddr (.pointer (some b)) : Sem Addr).run P w = .ok b w := rfl
      simp only [List.mapM_cons, Sem.run_bind, resF, hg, hadd, Result.andThen_ok, hl w rfl, hr, Sem.run_pure]
    · exact h.elim

theorem retQ_sound {fn : Func} {σ : St} {a : Act} (ha : Agr n B σ a) {w : World} {K : VW} (h : resW P σ w fn.results.toList fun vs => K (oneV vs) w) :
    ∃ v, (results fn a.tmps).run P w = .ok v w ∧ K v w := by
  obtain ⟨vs, hK, hr⟩ := resW_sound ha h
  refine ⟨_, ?_, hK⟩
  rw [results_eq, Array.mapM_eq_mapM_toList]
  simp only [Sem.run_bind, Sem.run_map]
  rw [hr]
  simp only [Result.andThen_ok, Sem.run_pure, oneV]
  congr 1
  match vs with
  | [] => simp
  | [v] => simp
  | v :: u :: r => simp

theorem get_zip_range : ∀ (vs : List Value) (k t : Nat) (v : Value), get (zipS (List.range' k vs.length) vs) t = some v → k ≤ t ∧ vs[t - k]? = some v
  | [], k, t, v, h => by simp [zipS, get] at h
  | u :: vs, k, t, v, h => by
    simp only [List.length_cons, List.range'_succ, zipS] at h
    rw [get_cons] at h
    by_cases hk : k = t
    · subst hk; simp at h; subst h; simp
    · simp only [hk, if_false] at h
      obtain ⟨h1, h2⟩ := get_zip_range vs (k + 1) t v h
      refine ⟨by omega, ?_⟩
      rw [show t - k = (t - (k + 1)) + 1 by omega]
      simpa using h2

def startS (vs : List Value) : St := zipS (List.range' 0 vs.length) vs

theorem agr_start {vs : List Value} {m : Nat} (h : vs.length ≤ m) : Agr m [] (startS vs) { tmps := vs.toArray ++ Array.replicate (m - vs.toArray.size) undef, defers := [] } := by
  refine ⟨by simp; omega, rfl, fun t v ht => ?_⟩
  obtain ⟨_, h2⟩ := get_zip_range vs 0 t v ht
  simp only [Nat.sub_zero] at h2
  have hlt : t < vs.length := (List.getElem?_eq_some_iff.1 h2).1
  rw [Array.getElem?_append_left (by simpa using hlt)]
  simpa using h2

theorem leave_marks {fn : Func} {tmps : Array Value} {R : Ending → World → Prop} {B : List Deferred} : ∀ (D : List Nat) (w : World) (k : World → Prop), retD D w k → (∀ w', k w' → LeavesInM Fence.wide 0 P fn tmps R B .returning w') →
    LeavesInM Fence.wide 0 P fn tmps R (D.map mk ++ B) .returning w
  | [], w, k, h, hk => hk w h
  | d :: D, w, k, h, hk => ⟨by simp, .inl ⟨d, _, rfl, run_takeDeferred h.1, leave_marks D _ k h.2 hk⟩⟩

/-- THE CALL: a body's formula, its cuts and loops paid, gives the contract. -/
theorem calls_sound {Γ : Env} (hm : P.follows .mixedOrders = true) (hΓ : EnvOk P Γ) {f : FuncId} {fn : Func} {code : Code} (hf : P.funcs[f]? = some fn) (hb : fn.body = some code)
    (x : A) (K : VW) (hob : ∀ o ∈ obs P Γ fn.ntmps x code (fun _ => retQ P fn.results K), o.holds P Γ fn.ntmps) {vs : List Value} (hlen : vs.length ≤ fn.ntmps) {w : World}
    (h : W P Γ fn.ntmps x code [] (retQ P fn.results K) [] (startS vs) w) : Calls P f vs.toArray w fun e w' => ∃ v, e = .returned v ∧ K v w' := by
  refine (callsIn_wide (n := 0)).1 (callsIn_of_wp_marks hf hb trivial (wpIn_mono (sound (r := none) (m := 0) (B := []) (Z := fun _ => True) hm hΓ x code (fun _ => retQ P fn.results K) (.inl ⟨rfl, fun _ => trivial⟩) hob [] [] (startS vs) _ w trivial (agr_start hlen) h) fun e a w hq => ?_))
  have fin : ∀ D σ', Agr fn.ntmps (D.map mk ++ []) σ' a → (retD D w fun w => resW P σ' w fn.results.toList fun vs => K (oneV vs) w) →
      LeavesInM Fence.wide 0 P fn a.tmps (fun e w' => ∃ v, e = .returned v ∧ K v w') a.defers .returning w := by
    intro D σ' ha' h'
    rw [ha'.2.1]
    refine leave_marks D w _ h' fun w' hw' => ?_
    obtain ⟨v, hr, hK⟩ := retQ_sound ha' hw'
    exact ⟨v, hr, v, rfl, hK⟩
  cases e with
  | normal => obtain ⟨D, σ', _, ha', h'⟩ := hq; exact fin D σ' ha' h'
  | ret => obtain ⟨D, σ', _, ha', h'⟩ := hq; exact fin D σ' ha' h'
  | panic c => exact hq.elim
  | outgrown => exact hq.elim
  | exit id => obtain ⟨_, σ', _, _, h'⟩ := hq; exact h'.elim
  | goto l => obtain ⟨_, σ', _, _, h'⟩ := hq; exact h'.elim

/-- What a deferred call is known to do. -/
def SoundD (P : Program) (f : Nat) (S : Spec) : Prop :=
  (∀ args w, (callFunc f args).run P w = .ok (.enter f args) w) ∧
  ∀ vs w K, S vs w K → ∀ u, CallsDIn Fence.wide 0 P f vs.toArray u w fun e u' w' => u' = u ∧ ∃ v, e = .returned v ∧ K v w'

theorem callsD_sound {Γ : Env} (hm : P.follows .mixedOrders = true) (hΓ : EnvOk P Γ) {f : FuncId} {fn : Func} {code : Code} (hf : P.funcs[f]? = some fn) (hb : fn.body = some code)
    (x : A) (hx : noRf x = true) (K : VW) (hob : ∀ o ∈ obs P Γ fn.ntmps x code (fun _ => retQ P fn.results K), o.holds P Γ fn.ntmps) {vs : List Value} (hlen : vs.length ≤ fn.ntmps) {w : World}
    (h : W P Γ fn.ntmps x code [] (retQ P fn.results K) [] (startS vs) w) (u : FrameMode) : CallsDIn Fence.wide 0 P f vs.toArray u w fun e u' w' => u' = u ∧ ∃ v, e = .returned v ∧ K v w' := by
  refine callsDIn_of_wp (R := fun e w' => ∃ v, e = .returned v ∧ K v w') hf hb trivial (wpIn_mono (sound (r := none) (m := 0) (B := []) (Z := fun D => D = []) hm hΓ x code (fun _ => retQ P fn.results K) (.inr hx) hob [] [] (startS vs) _ w rfl (agr_start hlen) h) fun e a w hq => ?_)
  cases e with
  | normal =>
    obtain ⟨D, σ', rfl, ha', h'⟩ := hq
    obtain ⟨v, hr, hK⟩ := retQ_sound ha' h'
    exact ⟨ha'.2.1, v, hr, v, rfl, hK⟩
  | ret =>
    obtain ⟨D, σ', rfl, ha', h'⟩ := hq
    obtain ⟨v, hr, hK⟩ := retQ_sound ha' h'
    exact ⟨ha'.2.1, v, hr, v, rfl, hK⟩
  | panic c => exact hq.elim
  | outgrown => exact hq.elim
  | exit id => obtain ⟨_, σ', _, _, h'⟩ := hq; exact h'.elim
  | goto l => obtain ⟨_, σ', _, _, h'⟩ := hq; exact h'.elim

/-- How the results are read where a deferred call has come between. -/
def resV (P : Program) : List ResultVar → List Value → World → (List Value → Prop) → Prop
  | [], _, _, K => K []
  | .tmp _ :: r, v :: vs, w, K => resV P r vs w fun us => K (v :: us)
  | .cell _ t :: r, v :: vs, w, K => match v with
    | .pointer (some b) => ldW P (fun b v => w.cell? b = some v) t b fun v => resV P r vs w fun us => K (v :: us)
    | _ => False
  | _, _, _, _ => False

/-- What follows a deferred call: its own way, and the results behind it. -/
def dfN (P : Program) (S : Spec) (res : Array ResultVar) (K : VW) (args : List Value) : List Value → World → Prop :=
  fun rs w => S args w fun _ w2 => resV P res.toList rs w2 fun us => K (oneV us) w2

def DEnvOk (P : Program) : Env → Prop
  | [] => True
  | (f, S) :: r => SoundD P f S ∧ DEnvOk P r

theorem dspec_ok : ∀ {Γ : Env} {f : Nat} {S : Spec}, DEnvOk P Γ → spec? Γ f = some S → SoundD P f S
  | [], _, _, _, h => by simp [spec?] at h
  | (n, s) :: r, f, S, hok, h => by
    unfold spec? at h
    split at h
    · rename_i hb
      have := Nat.eq_of_beq_eq_true hb
      subst this
      cases h
      exact hok.1
    · exact dspec_ok hok.2 h

/-- A function that begins by deferring a call: some regions, the last of which ends in the defer statement; behind them the rest. -/
def dfW (P : Program) (Γ Δ : Env) (n : Nat) (x : A) (res : Array ResultVar) (K : VW) : List RA → Code → St → World → Prop
  | [], _, _, _ => False
  | r :: rs, code, σ, w => match code with
    | .seq (.region _ ops false) rest => match rs with
      | _ :: _ => match noSel ops with
        | true => rgW P Γ n ops r ops.toList (fun σ w => dfW P Γ Δ n x res K rs rest σ w) σ w
        | false => False
      | [] => match noSel ops.pop with
        | true => rgW P Γ n ops r ops.pop.toList (fun σ w => match ops.back? with
          | some o => match o.guard, o.op with
            | none, .defer c => match c.callee with
              | .value f => match ev σ f, evs σ c.args.toList with
                | some (.func (.func g) first cap), some vs => match spec? Δ g with
                  | some S => putK n o.dst undef σ fun σ => W P Γ n x rest [dfN P S res K (first.toList ++ vs ++ cap.toList)] (dfQ res [dfN P S res K (first.toList ++ vs ++ cap.toList)]) [] σ w
                  | none => False
                | _, _ => False
              | _ => False
            | _, _ => False
          | none => False) σ w
        | false => False
    | _ => False

/-- The rest behind the regions. -/
def dfRest : List RA → Code → Code
  | [], c => c
  | _ :: rs, c => match c with
    | .seq _ rest => dfRest rs rest
    | c => c
theorem resV_sound {σ : St} {a : Act} (ha : Agr n B σ a) {w : World} : ∀ {l : List ResultVar} {rs : List Value} {K : List Value → Prop}, getAll σ (resT l) = some rs → resV P l rs w K →
    ∃ vs, K vs ∧ (l.mapM (resF a.tmps)).run P w = .ok vs w
  | [], rs, K, _, h => by
    cases rs <;> exact ⟨[], h, by simp⟩
  | .tmp t :: r, rs, K, hg, h => by
    simp only [resT, getAll] at hg
    split at hg
    · cases hg
    · rename_i v hv
      split at hg
      · cases hg
      · rename_i us hus
        cases hg
        simp only [resV] at h
        obtain ⟨vs, hK, hr⟩ := resV_sound ha hus h
        refine ⟨_, hK, ?_⟩
        have := ha.2.2 t v hv
        simp only [List.mapM_cons, Sem.run_bind, resF, Sem.run_pure, Result.andThen_ok, hr]
        simp [this]
  | .cell c t :: r, rs, K, hg, h => by
    simp only [resT, getAll] at hg
    split at hg
    · cases hg
    · rename_i v hv
      split at hg
      · cases hg
      · rename_i us hus
        cases hg
        simp only [resV] at h
        split at h
        · rename_i b
          obtain ⟨v, h, hl⟩ := ldW_sound (P := P) (S := fun w' => w' = w) (fun b v hb w' hw' => by subst hw'; exact hb) h
          obtain ⟨vs, hK, hr⟩ := resV_sound ha hus h
          refine ⟨_, hK, ?_⟩
          have := ha.2.2 c _ hv
          have hg : a.tmps.getD c undef = .pointer (some b) := by simp [this]
          have hadd : (asAddr (.pointer (some b)) : Sem Addr).run P w = .ok b w := rfl
          simp only [List.mapM_cons, Sem.run_bind, resF, hg, hadd, Result.andThen_ok, hl w rfl, hr, Sem.run_pure]
        · exact h.elim

theorem resV_run {fn : Func} {σ : St} {a : Act} (ha : Agr n B σ a) {w : World} {rs : List Value} {K : VW} (hg : getAll σ (resT fn.results.toList) = some rs) (h : resV P fn.results.toList rs w fun vs => K (oneV vs) w) :
    ∃ v, (results fn a.tmps).run P w = .ok v w ∧ K v w := by
  obtain ⟨vs, hK, hr⟩ := resV_sound ha hg h
  refine ⟨_, ?_, hK⟩
  rw [results_eq, Array.mapM_eq_mapM_toList]
  simp only [Sem.run_bind, Sem.run_map]
  rw [hr]
  simp only [Result.andThen_ok, Sem.run_pure, oneV]
  congr 1
  match vs with
  | [] => simp
  | [v] => simp
  | v :: u :: r => simp

theorem df_sound {Γ Δ : Env} (hm : P.follows .mixedOrders = true) (hΓ : EnvOk P Γ) (hΔ : DEnvOk P Δ) {fn : Func} {x : A} {K : VW} :
    ∀ (rs : List RA) (code : Code), (∀ o ∈ obs P Γ fn.ntmps x (dfRest rs code) (dfQ fn.results), o.holds P Γ fn.ntmps) → ∀ (σ : St) (a : Act) (w : World), Agr fn.ntmps [] σ a → dfW P Γ Δ fn.ntmps x fn.results K rs code σ w →
      code.wpIn (fen none) 0 P (bodyPostM Fence.wide 0 P fn fun e w' => ∃ v, e = .returned v ∧ K v w') a w := by
  intro rs
  induction rs with
  | nil => intro code _ σ a w _ h; exact h.elim
  | cons r rs ih =>
    intro code hob σ a w ha h
    unfold dfW at h
    split at h
    · rename_i id ops rest
      simp only [dfRest] at hob
      split at h
      · rename_i r' rs'
        split at h
        · rename_i hs
          refine wpIn_seq (wpIn_region ?_)
          rw [List.range_eq_range', ← Array.length_toList]
          exact rgW_sound (Q := Exit.then (rest.wpIn (fen none) 0 P (bodyPostM Fence.wide 0 P fn fun e w' => ∃ v, e = .returned v ∧ K v w')) _) hΓ hs (fun σ a w ha hk => ih rest hob σ a w ha hk) r ops.toList 0 σ a w (fun j => by simp) ha h
        · exact h.elim
      · split at h
        · rename_i hs
          refine wpIn_seq (wpIn_region ?_)
          have hsel : ∀ o ∈ ops.pop.toList, isSel o.op = false := fun o ho => noSel_spec hs (Array.mem_toList_iff.1 ho)
          have hat' : ∀ j, j < ops.pop.toList.length → ops.pop.toList[j]? = ops[0 + j]? := by
            intro j hj
            simp only [Array.length_toList, Array.size_pop] at hj
            rw [Array.getElem?_toList, Nat.zero_add, Array.getElem?_pop]
            rw [if_pos hj]
          rcases Nat.eq_zero_or_pos ops.size with h0 | hpos
          · have : ops = #[] := Array.eq_empty_of_size_eq_zero h0
            subst this
            exact rgW_tail (r₀ := none) (m := 0) (tl := []) hΓ (fun σ a w ha hk => by simp at hk) r _ 0 σ a w hsel hat' ha h
          · have hlast : List.range ops.size = List.range' 0 ops.pop.toList.length ++ [ops.size - 1] := by
              rw [List.range_eq_range', Array.length_toList, Array.size_pop]
              obtain ⟨k, hk⟩ : ∃ k, ops.size = k + 1 := ⟨ops.size - 1, by omega⟩
              rw [hk, List.range'_concat]
              simp
            rw [hlast]
            refine rgW_tail (Q := Exit.then (rest.wpIn (fen none) 0 P (bodyPostM Fence.wide 0 P fn fun e w' => ∃ v, e = .returned v ∧ K v w')) _) hΓ (fun σ a w ha hk => ?_) r ops.pop.toList 0 σ a w hsel hat' ha h
            have hb : ops.back? = ops[ops.size - 1]? := by simp [Array.back?]
            rw [hb] at hk
            simp only [wpOpsIn]
            split at hk
            · rename_i o ho
              simp only [ho]
              split at hk
              · rename_i c hgu hop
                split at hk
                · rename_i f hc
                  split at hk
                  · rename_i g first cap vs hf hvs
                    split at hk
                    · rename_i S hS
                      obtain ⟨hcall, hsnd⟩ := dspec_ok hΔ hS
                      have hw : Region.wanted o (yielded ops a.tmps) = true := by simp [Region.wanted, hgu]
                      rw [if_pos hw]
                      refine ⟨fun _ _ => trivial, ?_⟩
                      have hmv : c.args.map a.eval = vs.toArray := by
                        apply Array.toList_inj.1
                        simp [ha.evs hvs]
                      have hrun : (Oper.semAt (fen none).round a.eval o).run P w = .ok (.defer { target := .fn (.func g) cap, args := first ++ vs.toArray }) w := by
                        show (execOp a.eval o).run P w = _
                        simp only [execOp, hop, resolve, hc, ha.ev hf, hmv, ofVal_fn, Sem.run_bind, Result.andThen_ok, Sem.run_pure]
                      rw [hrun, Oper.uponIn_defer]
                      obtain ⟨σ', hσ', ha'⟩ := putK_sound (B := [{ target := .fn (.func g) cap, args := first ++ vs.toArray }]) (a := { a with defers := { target := .fn (.func g) cap, args := first ++ vs.toArray } :: a.defers }) hk ⟨ha.1, by rw [ha.2.1], ha.2.2⟩
                      refine wpIn_mono (sound (r := none) (m := 0) (Z := fun _ => True) hm hΓ x rest (dfQ fn.results) (.inl ⟨rfl, fun _ => trivial⟩) hob _ [] σ' _ w trivial ha' hσ') fun e a w hq => ?_
                      have fin : ∀ D σ', Agr fn.ntmps (D.map mk ++ [{ target := .fn (.func g) cap, args := first ++ vs.toArray }]) σ' a →
                          (retD D w fun w => match getAll σ' (resT fn.results.toList) with
                            | some rs => dfN P S fn.results K (first.toList ++ vs ++ cap.toList) rs w
                            | none => False) →
                          LeavesInM Fence.wide 0 P fn a.tmps (fun e w' => ∃ v, e = .returned v ∧ K v w') a.defers .returning w := by
                        intro D σ' ha' h'
                        rw [ha'.2.1]
                        refine leave_marks D w _ h' fun w' hw' => ?_
                        split at hw'
                        · rename_i rs hrs
                          have hd := hsnd _ _ _ hw' .returning
                          refine ⟨by simp, .inr ⟨fen_alone (r := none), .func g, cap, g, (first.toList ++ vs ++ cap.toList).toArray, rfl, ?_, fun _ _ => trivial, hd.mono fun e u' w2 he => ?_⟩⟩
                          · simp only [invoke, hcall]
                            congr 2
                            apply Array.toList_inj.1
                            simp
                          · obtain ⟨rfl, v, rfl, hv⟩ := he
                            obtain ⟨v', hr, hK⟩ := resV_run ha' hrs hv
                            exact ⟨v', hr, v', rfl, hK⟩
                        · exact hw'.elim
                      cases e with
                      | normal => obtain ⟨D, σ', _, ha', h'⟩ := hq; exact fin D σ' ha' h'
                      | ret => obtain ⟨D, σ', _, ha', h'⟩ := hq; exact fin D σ' ha' h'
                      | panic c => exact hq.elim
                      | outgrown => exact hq.elim
                      | exit id => obtain ⟨_, σ', _, _, h'⟩ := hq; exact h'.elim
                      | goto l => obtain ⟨_, σ', _, _, h'⟩ := hq; exact h'.elim
                    · exact hk.elim
                  · exact hk.elim
                · exact hk.elim
              · exact hk.elim
            · exact hk.elim
        · exact h.elim
    · exact h.elim

/-- THE CALL of a function that begins by deferring another. -/
theorem calls_df {Γ Δ : Env} (hm : P.follows .mixedOrders = true) (hΓ : EnvOk P Γ) (hΔ : DEnvOk P Δ) {f : FuncId} {fn : Func} {code : Code} (hf : P.funcs[f]? = some fn) (hb : fn.body = some code)
    (rs : List RA) (x : A) (K : VW) (hob : ∀ o ∈ obs P Γ fn.ntmps x (dfRest rs code) (dfQ fn.results), o.holds P Γ fn.ntmps) {vs : List Value} (hlen : vs.length ≤ fn.ntmps) {w : World}
    (h : dfW P Γ Δ fn.ntmps x fn.results K rs code (startS vs) w) : Calls P f vs.toArray w fun e w' => ∃ v, e = .returned v ∧ K v w' :=
  (callsIn_wide (n := 0)).1 (callsIn_of_wp_marks hf hb trivial (df_sound hm hΓ hΔ rs code hob _ _ _ (agr_start hlen) h))
end

/-- What is owed, one after the other. -/
def obAt (l : List Ob) : Nat → Option Ob
  | 0 => match l with
    | [] => none
    | o :: _ => some o
  | k + 1 => match l with
    | [] => none
    | _ :: r => obAt r k

def holdsAt (P : Program) (Γ : Env) (n : Nat) (l : List Ob) (k : Nat) : Prop := ∀ o, obAt l k = some o → o.holds P Γ n

theorem holds_all {P : Program} {Γ : Env} {n : Nat} : ∀ {l : List Ob}, (∀ k, holdsAt P Γ n l k) → ∀ o ∈ l, o.holds P Γ n
  | [], _, o, ho => by cases ho
  | x :: r, h, o, ho => by
    rcases List.mem_cons.1 ho with rfl | ho
    · exact h 0 _ rfl
    · exact holds_all (l := r) (fun k o' ho' => h (k + 1) o' ho') o ho

theorem holdsAt_none {P : Program} {Γ : Env} {n : Nat} {l : List Ob} {k : Nat} (h : obAt l k = none) : holdsAt P Γ n l k := fun o ho => by rw [h] at ho; cases ho

theorem holdsAt_ge {P : Program} {Γ : Env} {n : Nat} : ∀ {l : List Ob} {m k : Nat}, obAt l m = none → m ≤ k → holdsAt P Γ n l k
  | l, m, k, h, hk, o, ho => by
    exfalso
    have key : ∀ (l : List Ob) (m k : Nat), obAt l m = none → m ≤ k → obAt l k = none := by
      intro l
      induction l with
      | nil => intro m k _ _; cases k <;> rfl
      | cons x r ih =>
        intro m k h hk
        cases m with
        | zero => simp [obAt] at h
        | succ m =>
          obtain ⟨k', rfl⟩ : ∃ k', k = k' + 1 := ⟨k - 1, by omega⟩
          exact ih m k' h (by omega)
    rw [key l m k h hk] at ho
    cases ho

/-- The formula that is owed at place k. -/
def goalAt (P : Program) (Γ : Env) (n : Nat) (l : List Ob) (k : Nat) (ρ : Rho) (vs : List Value) (w : World) : Prop :=
  match obAt l k with
  | some o => o.goal P Γ n ρ vs w
  | none => False

def labAt (l : List Ob) (k : Nat) (ρ : Rho) (vs : List Value) (w : World) : Prop :=
  match obAt l k with
  | some o => o.L ρ vs w
  | none => True

def kindAt (l : List Ob) (k : Nat) : Option Kd :=
  match obAt l k with
  | some o => some o.kind
  | none => none

theorem holdsAt_cut {P : Program} {Γ : Env} {n : Nat} {l : List Ob} {k : Nat} (hl : kindAt l k = some .cut ∨ kindAt l k = some .rf) (h : ∀ ρ vs w, labAt l k ρ vs w → goalAt P Γ n l k ρ vs w) : holdsAt P Γ n l k := by
  intro o ho
  unfold kindAt at hl
  rw [ho] at hl
  have key : ∀ ρ vs w, o.L ρ vs w → o.goal P Γ n ρ vs w := by
    intro ρ vs w hL
    have := h ρ vs w (by unfold labAt; rw [ho]; exact hL)
    unfold goalAt at this
    rw [ho] at this
    exact this
  unfold Ob.holds
  rcases hl with hl | hl
  · simp only [Option.some.injEq] at hl
    rw [hl]
    exact key
  · simp only [Option.some.injEq] at hl
    rw [hl]
    exact key

theorem holdsAt_loop {P : Program} {Γ : Env} {n : Nat} {l : List Ob} {k : Nat} (hl : kindAt l k = some .loop)
    (h : ∀ ρ vs w, labAt l k ρ vs w → ∃ (I : List Value → World → Prop) (μ : List Value → World → Nat), I vs w ∧ ∀ vs w, I vs w → goalAt P Γ n l k (mkN I μ vs w :: ρ) vs w) : holdsAt P Γ n l k := by
  intro o ho
  unfold kindAt at hl
  rw [ho] at hl
  simp only [Option.some.injEq] at hl
  unfold Ob.holds
  rw [hl]
  intro ρ vs w hL
  obtain ⟨I, μ, h0, hr⟩ := h ρ vs w (by unfold labAt; rw [ho]; exact hL)
  refine ⟨I, μ, h0, fun vs w hI => ?_⟩
  have := hr vs w hI
  unfold goalAt at this
  rw [ho] at this
  exact this

theorem callV_of {P : Program} {g : Nat} {S : Spec} {first cap : Array Value} {vs : List Value} {w : World} {K : VW} (hs : Sound P g S) (h : S (first.toList ++ vs ++ cap.toList) w K) : CallV P (.func (.func g) first cap) vs w K := by
  refine ⟨hs.1, ?_⟩
  have := hs.2 _ _ _ h
  have e : first ++ vs.toArray ++ cap = (first.toList ++ vs ++ cap.toList).toArray := by
    apply Array.toList_inj.1; simp
  rw [e]
  exact this

/-- The ranges over functions that a piece of code holds. -/
def rfList : Code → List Code
  | .seq a b => rfList a ++ rfList b
  | .cond _ a b => rfList a ++ rfList b
  | .block _ a => rfList a
  | .loop a => rfList a
  | .scope a => rfList a
  | .rangeFunc g ps a b => .rangeFunc g ps a b :: rfList b
  | _ => []
def nthC : List Code → Nat → Code
  | [], _ => .skip
  | c :: _, 0 => c
  | _ :: r, k + 1 => nthC r k
def rfAt (c : Code) (k : Nat) : Code := nthC (rfList c) k
def rfAs : Code → Code
  | .rangeFunc _ _ a _ => a
  | _ => .skip
def rfBd : Code → Code
  | .rangeFunc _ _ _ b => b
  | _ => .skip
end Pw
