/- The formula of a body: one step an operation, a region, a piece of code; sound for the model's own walk. Conditions: none. -/
import Derived.Test.YtfclokkfnkieoaaGreatDoorPwC
namespace Pw
open Go

/-- What a callee is known to do: its arguments, the world, what may follow. -/
abbrev Spec := List Value → World → VW → Prop
abbrev Env := List (Nat × Spec)

def spec? : Env → Nat → Option Spec
  | [], _ => none
  | (n, s) :: r, f => match Nat.beq n f with
    | true => some s
    | false => spec? r f

def Sound (P : Program) (f : Nat) (S : Spec) : Prop :=
  (∀ args w, (callFunc f args).run P w = .ok (.enter f args) w) ∧
  ∀ vs w K, S vs w K → Calls P f vs.toArray w fun e w' => ∃ v, e = .returned v ∧ K v w'

/-- A callee that the model answers at once. -/
def SoundX (P : Program) (f : Nat) (S : Spec) : Prop :=
  ∀ vs w K, S vs w K → ∃ v w', (callFunc f vs.toArray).run P w = .ok (.value v) w' ∧ K v w'

def EnvOk (P : Program) : Env → Prop
  | [] => True
  | (f, S) :: r => (Sound P f S ∨ SoundX P f S) ∧ EnvOk P r

theorem spec_ok {P : Program} : ∀ {Γ : Env} {f : Nat} {S : Spec}, EnvOk P Γ → spec? Γ f = some S → Sound P f S ∨ SoundX P f S
  | [], _, _, _, h => by simp [spec?] at h
  | (n, s) :: r, f, S, hok, h => by
    unfold spec? at h
    split at h
    · rename_i hb
      have := Nat.eq_of_beq_eq_true hb
      subst this
      cases h
      exact hok.1
    · exact spec_ok hok.2 h

def slV (K : VW) : SW := fun s w => K (.slice s.p s.l s.c) w

/-- An operation that touches the world. -/
def opE (P : Program) (Γ : Env) (σ : St) (o : Oper) (w : World) (K : VW) : Option Prop :=
  match o.op with
  | .load t x => match ev σ x with
    | some (.pointer (some a)) => some (ldW P (fun b v => w.cell? b = some v) t a fun v => K v w)
    | _ => none
  | .store t x y => match ev σ x, ev σ y with
    | some (.pointer (some a)), some v => some (stW P t a v w fun w' => K undef w')
    | _, _ => none
  | .makeSlice t l c => match ev σ l, ev σ c, P.underlying t with
    | some (.int _ l), some (.int _ c), some (.slice e) => match P.info? e with
      | some ti => match ti.zero with
        | some z => match Nat.beq z.cells.size ti.size with
          | true => some (mkS ti.bytes z.cells.toList e l c w (slV K))
          | false => none
        | none => none
      | none => none
    | _, _, _ => none
  | .convert s d x => match ev σ x, P.underlying s, P.underlying d with
    | some (.string b), some .string, some (.slice e) => match P.underlying e with
      | some (.int .u8) => some (stbS e b w (slV K))
      | _ => none
    | some (.slice p l c), some (.slice e), some .string => match P.underlying e with
      | some (.int .u8) => some (btsS ⟨p, l, c⟩ w fun r => K (.string r) w)
      | _ => none
    | _, _, _ => none
  | .call c => match c.callee with
    | .value f => match ev σ f with
      | some (.func (.func f) first captured) => match spec? Γ f, evs σ c.args.toList with
        | some S, some vs => some (S (first.toList ++ vs ++ captured.toList) w K)
        | _, _ => none
      | _ => none
    | .builtin .append => match c.argTypes.toList, evs σ c.args.toList with
      | [st, xt], some [.slice p l c, x] => match P.underlying st with
        | some (.slice e) => match P.info? e with
          | some ti => match ti.zero with
            | some z => match x, P.underlying xt with
              | .slice q m d, some (.slice _) => some (apS ti.size ti.bytes z.cells.toList e ⟨p, l, c⟩ ⟨q, m, d⟩ w (slV K))
              | .int _ m, some (.int _) => match Nat.beq z.cells.size ti.size && z.cells.toList.all okC with
                | true => some (apZ ti.size ti.bytes z.cells.toList e ⟨p, l, c⟩ m w (slV K))
                | false => none
              | .string s, some .string => match z, Nat.beq ti.size 1 && Nat.beq ti.bytes 1 with
                | .int .u8 0, true => some (apT e ⟨p, l, c⟩ s w (slV K))
                | _, _ => none
              | _, _ => none
            | none => none
          | none => none
        | _ => none
      | _, _ => none
    | .builtin .unsafeString => match c.argTypes.toList, evs σ c.args.toList with
      | [pt, _], some [.pointer (some a), .int .i64 n] => match P.underlying pt with
        | some (.pointer e) => match Nat.beq (P.cellsOf e) 1 with
          | true => some (usS e a n w fun r w' => K (.string r) w')
          | false => none
        | _ => none
      | _, _ => none
    | .builtin .copy => match c.argTypes.toList, evs σ c.args.toList with
      | dt :: _ :: _, some [.slice p l c, x] => match P.underlying dt with
        | some (.slice e) => match P.info? e with
          | some ti => match x with
            | .slice q m d => some (cpS ti.size ⟨p, l, c⟩ ⟨q, m, d⟩ w fun n w' => K (.int .i64 n) w')
            | .string s => some (cpT ⟨p, l, c⟩ s w fun n w' => K (.int .i64 n) w')
            | _ => none
          | none => none
        | _ => none
      | _, _ => none
    | _ => none
  | .panic _ => some False
  | _ => none

/-- The model's own run, where it needs nothing known of the world. -/
def opR (P : Program) (σ : St) (o : Oper) (w : World) (K : VW) : Prop :=
  match known σ o.op.operands.toList with
  | false => False
  | true => match (execOp (rho σ) o).run P w with
    | .ok (.value v) w' => K v w'
    | .ok .skip w' => K undef w'
    | _ => False

def opW (P : Program) (Γ : Env) (σ : St) (o : Oper) (w : World) (K : VW) : Prop :=
  match spW P σ o.op with
  | some T => T fun v => K v w
  | none => match opE P Γ σ o w K with
    | some Q => Q
    | none => opR P σ o w K

def isSel : Op → Bool
  | .select .. => true
  | .defer _ => true
  | _ => false

section
variable {P : Program} {Γ : Env}

theorem ofVal_fn (f : Nat) (a b args : Array Value) (w : World) :
    (Deferred.ofValue (.func (.func f) a b) args : Sem Deferred).run P w = .ok { target := .fn (.func f) b, args := a ++ args } w := by
  simp [Deferred.ofValue]

theorem opE_sound (hΓ : EnvOk P Γ) {n : Nat} {B : List Deferred} {σ : St} {a : Act} (ha : Agr n B σ a) {o : Oper} {w : World} {K : VW} {Q' : Prop} (hQ : opE P Γ σ o w K = some Q') (h : Q')
    {next : Act → World → Prop} {Q : Exit → Act → World → Prop} (hnext : ∀ v w', K v w' → next (a.put o.dst v) w') : o.wp P a w next Q := by
  obtain ⟨dst, op, type, pos, after, guard⟩ := o
  unfold Oper.wp
  cases op <;> simp only [opE] at hQ <;> try cases hQ
  case panic x => exact h.elim
  case load t x =>
    split at hQ
    · rename_i b hx
      cases hQ
      obtain ⟨v, hv, hr⟩ := ldW_sound (P := P) (S := fun w' => w' = w) (fun b v hb w' hw' => by subst hw'; exact hb) h
      have := hr w rfl
      simp only [execOp, Instr.loadAt, ha.ev hx, Instr.sureAddr, Sem.run_bind, Sem.run_pure, Result.andThen_ok, this]
      exact hnext _ _ hv
    · cases hQ
  case store t x y =>
    split at hQ
    · rename_i b v hx hy
      cases hQ
      obtain ⟨w', hw', hr⟩ := stW_sound (P := P) h
      simp only [execOp, Instr.storeAt, ha.ev hx, ha.ev hy, Instr.sureAddr, Sem.run_bind, Sem.run_pure, Result.andThen_ok, hr]
      exact hnext _ _ hw'
    · cases hQ
  case makeSlice t l c =>
    split at hQ
    · rename_i k1 l k2 c e hl hc ht
      split at hQ
      · rename_i ti hti
        split at hQ
        · rename_i z hz
          split at hQ
          · rename_i hsz
            cases hQ
            obtain ⟨r, w', hK, hr⟩ := mkS_sound (P := P) (k := k1) (k' := k2) ht hti hz (Nat.eq_of_beq_eq_true hsz) h
            simp only [execOp, ha.ev hl, ha.ev hc, Sem.run_bind, Sem.run_pure, Result.andThen_ok, hr]
            exact hnext _ _ hK
          · cases hQ
        · cases hQ
      · cases hQ
    · cases hQ
  case convert s d x =>
    split at hQ
    · rename_i b e hx hs' hd
      split at hQ
      · rename_i he
        cases hQ
        obtain ⟨r, w', hK, hr⟩ := stbS_sound (P := P) hs' hd he h
        simp only [execOp, ha.ev hx, Sem.run_bind, Sem.run_pure, Result.andThen_ok, hr]
        exact hnext _ _ hK
      · cases hQ
    · rename_i p l c e hx hs' hd
      split at hQ
      · rename_i he
        cases hQ
        obtain ⟨r, hK, hr⟩ := btsS_sound (P := P) hs' hd he h
        simp only [execOp, ha.ev hx, Sem.run_bind, Sem.run_pure, Result.andThen_ok, hr]
        exact hnext _ _ hK
      · cases hQ
    · cases hQ
  case call c =>
    obtain ⟨callee, args, ats⟩ := c
    simp only at hQ
    split at hQ
    · rename_i f
      split at hQ
      · rename_i f' first captured hf
        split at hQ
        · rename_i S vs hS hvs
          cases hQ
          have hm : args.map a.eval = vs.toArray := by
            apply Array.toList_inj.1
            simp [ha.evs hvs]
          have harr : first ++ vs.toArray ++ captured = (first.toList ++ vs ++ captured.toList).toArray := by
            apply Array.toList_inj.1; simp
          rcases spec_ok hΓ hS with ⟨hcall, hsnd⟩ | hx
          · have hc := hsnd _ _ _ h
            simp only [execOp, resolve, hm, ha.ev hf, ofVal_fn, Sem.run_bind, Result.andThen_ok, invoke, hcall, Oper.upon]
            rw [harr]
            refine hc.mono fun e w' he => ?_
            obtain ⟨v, rfl, hv⟩ := he
            exact hnext _ _ hv
          · obtain ⟨v, w', hr, hv⟩ := hx _ _ _ h
            simp only [execOp, resolve, hm, ha.ev hf, ofVal_fn, Sem.run_bind, Result.andThen_ok, invoke, harr, hr]
            exact hnext _ _ hv
        · cases hQ
      · cases hQ
    · split at hQ
      · rename_i st xt p l c' x hts hvs
        have hm : args.map a.eval = #[.slice p l c', x] := by
          apply Array.toList_inj.1
          simp [ha.evs hvs]
        have hat : ats = #[st, xt] := by
          apply Array.toList_inj.1
          simpa using hts
        split at hQ
        · rename_i e hst
          split at hQ
          · rename_i ti hti
            split at hQ
            · rename_i z hz
              split at hQ
              · rename_i q m d e' hxt
                cases hQ
                obtain ⟨r, w', hK, hr⟩ := apS_sound (P := P) (ty := type) (s := ⟨p, l, c'⟩) (x := ⟨q, m, d⟩) hst hxt hti hz h
                simp only [execOp, resolve, hm, hat, Sem.run_bind, Sem.run_pure, Result.andThen_ok, invoke, builtin]
                rw [hr]
                exact hnext _ _ hK
              · rename_i k' m k hxt
                split at hQ
                · rename_i hb
                  cases hQ
                  simp only [Bool.and_eq_true] at hb
                  obtain ⟨r, w', hK, hr⟩ := apZ_sound (P := P) (ty := type) (s := ⟨p, l, c'⟩) (k' := k') hst hxt hti hz (Nat.eq_of_beq_eq_true hb.1) (fun v hv => List.all_eq_true.1 hb.2 v hv) h
                  simp only [execOp, resolve, hm, hat, Sem.run_bind, Sem.run_pure, Result.andThen_ok, invoke, builtin]
                  rw [hr]
                  exact hnext _ _ hK
                · cases hQ
              · rename_i s hxt
                split at hQ
                · rename_i hb
                  cases hQ
                  simp only [Bool.and_eq_true] at hb
                  obtain ⟨r, w', hK, hr⟩ := apT_sound (P := P) (ty := type) (s := ⟨p, l, c'⟩) hst hxt hti hz (Nat.eq_of_beq_eq_true hb.1) (Nat.eq_of_beq_eq_true hb.2) h
                  simp only [execOp, resolve, hm, hat, Sem.run_bind, Sem.run_pure, Result.andThen_ok, invoke, builtin]
                  rw [hr]
                  exact hnext _ _ hK
                · cases hQ
              · cases hQ
            · cases hQ
          · cases hQ
        · cases hQ
      · cases hQ
    · split at hQ
      · rename_i pt it b m hts hvs
        have hm : args.map a.eval = #[.pointer (some b), .int .i64 m] := by
          apply Array.toList_inj.1
          simp [ha.evs hvs]
        have hat : ats = #[pt, it] := by
          apply Array.toList_inj.1
          simpa using hts
        split at hQ
        · rename_i e hpt
          split at hQ
          · rename_i hc
            cases hQ
            obtain ⟨r, w', hK, hr⟩ := usS_sound (P := P) (it := it) (ty := type) hpt (Nat.eq_of_beq_eq_true hc) h
            simp only [execOp, resolve, hm, hat, Sem.run_bind, Sem.run_pure, Result.andThen_ok, invoke, builtin]
            rw [hr]
            exact hnext _ _ hK
          · cases hQ
        · cases hQ
      · cases hQ
    · split at hQ
      · rename_i dt xt rest p l c' x hts hvs
        have hm : args.map a.eval = #[.slice p l c', x] := by
          apply Array.toList_inj.1
          simp [ha.evs hvs]
        have hat : ats = (dt :: xt :: rest).toArray := by
          apply Array.toList_inj.1
          simpa using hts
        split at hQ
        · rename_i e hdt
          split at hQ
          · rename_i ti hti
            split at hQ
            · rename_i q m d
              cases hQ
              obtain ⟨r, w', hK, hr⟩ := cpS_sound (P := P) (ty := type) (rest := rest) (xt := xt) (d := ⟨p, l, c'⟩) (x := ⟨q, m, d⟩) hdt hti h
              simp only [execOp, resolve, hm, hat, Sem.run_bind, Sem.run_pure, Result.andThen_ok, invoke, builtin]
              rw [hr]
              exact hnext _ _ hK
            · rename_i s
              cases hQ
              obtain ⟨r, w', hK, hr⟩ := cpT_sound (P := P) (ty := type) (rest := rest) (xt := xt) (d := ⟨p, l, c'⟩) hdt hti h
              simp only [execOp, resolve, hm, hat, Sem.run_bind, Sem.run_pure, Result.andThen_ok, invoke, builtin]
              rw [hr]
              exact hnext _ _ hK
            · cases hQ
          · cases hQ
        · cases hQ
      · cases hQ
    · cases hQ

/-- An operation's formula gives the model's step. -/
theorem opW_sound (hΓ : EnvOk P Γ) {n : Nat} {B : List Deferred} {σ : St} {a : Act} (ha : Agr n B σ a) {o : Oper} (hs : isSel o.op = false) {w : World} {K : VW} (h : opW P Γ σ o w K)
    {next : Act → World → Prop} {Q : Exit → Act → World → Prop} (hnext : ∀ v w', K v w' → next (a.put o.dst v) w') : o.wp P a w next Q := by
  unfold opW at h
  split at h
  · rename_i T hT
    obtain ⟨v, hv, hr⟩ := spW_sound (P := P) ha hT h
    unfold Oper.wp
    rw [hr w]
    exact hnext _ _ hv
  split at h
  · rename_i Q' hQ
    exact opE_sound hΓ ha hQ h hnext
  · unfold opR at h
    split at h
    · exact h.elim
    · rename_i hk
      have hcongr : execOp (rho σ) o = execOp a.eval o := execOp_congr o (by intro cs b hb; rw [hb] at hs; cases hs) fun x hx => ha.rho hk x (by simpa using hx)
      rw [hcongr] at h
      unfold Oper.wp
      split at h
      · rename_i hr; rw [hr]; exact hnext _ _ h
      · rename_i hr; rw [hr]; exact hnext _ _ h
      · exact h.elim

/-- The wide fence, for a function's frame or for a round's. -/
def fen (r : Option Nat) : Fence := { Fence.wide with round := r }

theorem callsF {r : Option Nat} {m : Nat} {f : FuncId} {args : Array Value} {w : World} {R : Ending → World → Prop} (h : Calls P f args w R) : CallsIn (fen r) m P f args w R :=
  ⟨trivial, fun cs _ => let ⟨e, w', fr, r, s, x⟩ := h cs; ⟨e, w', fr, r, (comesIn_wide (P := P)).2 s, x⟩⟩

theorem rowsF {r : Option Nat} {m : Nat} {row : String} {args : Array Value} {w : World} {R : Value → World → Prop} (h : Rows P row args w R) : RowsIn (fen r) m P row args w R :=
  fun c cs _ => let ⟨v, w', r, s⟩ := h c cs; ⟨v, w', r, (stepsIn_wide (P := P)).2 s⟩

theorem fen_alone {r : Option Nat} {X : Prop} : (fen r).depth.isSome = true → X := fun h => by simp [fen, Fence.wide] at h

theorem wp_up {o : Oper} {a : Act} {w : World} {next : Act → World → Prop} {Q : Exit → Act → World → Prop} {r : Option Nat} {m : Nat} (hd : isSel o.op = false) (h : o.wp P a w next Q) : o.wpIn (fen r) m P a w next Q := by
  refine ⟨fun _ _ => trivial, ?_⟩
  rw [Oper.semAt_eq _ a.eval o (by intro c hc; rw [hc] at hd; cases hd)]
  unfold Oper.wp at h
  generalize (execOp a.eval o).run P w = res at h ⊢
  cases res with
  | ok x w' =>
    cases x <;> simp only [Oper.upon, Oper.uponIn] at h ⊢ <;> first
      | exact h
      | exact ⟨fen_alone, callsF h⟩
      | exact ⟨fen_alone, rowsF h⟩
  | halt x w' => cases x <;> simp only [Oper.upon, Oper.uponIn] at h ⊢ <;> exact h

/-- A call of yield. -/
def Yl (P : Program) (l : Nat) (args : Array Value) (w : World) (K : VW) : Prop :=
  ∃ fn tmps assign body, (Instr.yield l args).run P w = .ok (.round l fn tmps assign body) w ∧ RoundIn Fence.wide 0 P l fn tmps assign body w fun e w' => ∃ u, e = .returned u ∧ K u w'

/-- A call of a function value. -/
def CallV (P : Program) (v : Value) (vs : List Value) (w : World) (K : VW) : Prop :=
  match v with
  | .func (.func g) first cap => (∀ args w, (callFunc g args).run P w = .ok (.enter g args) w) ∧ Calls P g (first ++ vs.toArray ++ cap) w fun e w' => ∃ u, e = .returned u ∧ K u w'
  | .func (.yield l) first _ => Yl P l (first ++ vs.toArray) w K
  | _ => False

theorem CallV.mono {v : Value} {vs : List Value} {w : World} {K K' : VW} (hK : ∀ u w', K u w' → K' u w') (h : CallV P v vs w K) : CallV P v vs w K' := by
  cases v with
  | func f first cap =>
    cases f with
    | func g => exact ⟨h.1, h.2.mono fun e w' he => let ⟨u, hu, hk⟩ := he; ⟨u, hu, hK _ _ hk⟩⟩
    | yield l =>
      obtain ⟨fn, tmps, as, bd, h1, h2⟩ := h
      exact ⟨fn, tmps, as, bd, h1, h2.mono fun e w' he => let ⟨u, hu, hk⟩ := he; ⟨u, hu, hK _ _ hk⟩⟩
    | _ => exact h
  | _ => exact h

/-- A value of a known make. -/
def tyC : List Value → (List Value → Prop) → Prop
  | [], K => K []
  | z :: zs, K => match z with
    | .int k _ => ∃ n : Int, tyC zs fun vs => K (.int k n :: vs)
    | .bool _ => ∃ b : Bool, tyC zs fun vs => K (.bool b :: vs)
    | .string _ => ∃ s : ByteArray, tyC zs fun vs => K (.string s :: vs)
    | .pointer _ => ∃ p : Option Addr, tyC zs fun vs => K (.pointer p :: vs)
    | .slice _ _ _ => ∃ s : Sl, tyC zs fun vs => K (.slice s.p s.l s.c :: vs)
    | .map _ => ∃ m : Option Nat, tyC zs fun vs => K (.map m :: vs)
    | .agg cs => tyC' cs.toList fun us => tyC zs fun vs => K (.agg us.toArray :: vs)
    | _ => ∃ v : Value, tyC zs fun vs => K (v :: vs)
where tyC' : List Value → (List Value → Prop) → Prop
  | [], K => K []
  | z :: zs, K => match z with
    | .int k _ => ∃ n : Int, tyC' zs fun vs => K (.int k n :: vs)
    | .bool _ => ∃ b : Bool, tyC' zs fun vs => K (.bool b :: vs)
    | .string _ => ∃ s : ByteArray, tyC' zs fun vs => K (.string s :: vs)
    | .pointer _ => ∃ p : Option Addr, tyC' zs fun vs => K (.pointer p :: vs)
    | .slice _ _ _ => ∃ s : Sl, tyC' zs fun vs => K (.slice s.p s.l s.c :: vs)
    | .map _ => ∃ m : Option Nat, tyC' zs fun vs => K (.map m :: vs)
    | _ => ∃ v : Value, tyC' zs fun vs => K (v :: vs)

theorem tyC'_ex : ∀ {zs : List Value} {K : List Value → Prop}, tyC.tyC' zs K → ∃ vs, K vs
  | [], K, h => ⟨[], h⟩
  | z :: zs, K, h => by
    unfold tyC.tyC' at h
    split at h
    all_goals (obtain ⟨n, h⟩ := h; obtain ⟨vs, h⟩ := tyC'_ex h; exact ⟨_, h⟩)

theorem tyC_ex : ∀ {zs : List Value} {K : List Value → Prop}, tyC zs K → ∃ vs, K vs
  | [], K, h => ⟨[], h⟩
  | z :: zs, K, h => by
    unfold tyC at h
    split at h
    case _ => obtain ⟨n, h⟩ := h; obtain ⟨vs, h⟩ := tyC_ex h; exact ⟨_, h⟩
    case _ => obtain ⟨n, h⟩ := h; obtain ⟨vs, h⟩ := tyC_ex h; exact ⟨_, h⟩
    case _ => obtain ⟨n, h⟩ := h; obtain ⟨vs, h⟩ := tyC_ex h; exact ⟨_, h⟩
    case _ => obtain ⟨n, h⟩ := h; obtain ⟨vs, h⟩ := tyC_ex h; exact ⟨_, h⟩
    case _ => obtain ⟨n, h⟩ := h; obtain ⟨vs, h⟩ := tyC_ex h; exact ⟨_, h⟩
    case _ => obtain ⟨n, h⟩ := h; obtain ⟨vs, h⟩ := tyC_ex h; exact ⟨_, h⟩
    case _ => obtain ⟨us, h⟩ := tyC'_ex h; obtain ⟨vs, h⟩ := tyC_ex h; exact ⟨_, h⟩
    case _ => obtain ⟨n, h⟩ := h; obtain ⟨vs, h⟩ := tyC_ex h; exact ⟨_, h⟩

def typ (z u : Value) (K : Value → Prop) : Prop := match z with
  | .tuple zs => tyC zs.toList fun vs => u = .tuple vs.toArray ∧ K (.tuple vs.toArray)
  | z => tyC [z] fun vs => match vs with
    | [v] => u = v ∧ K v
    | _ => False

theorem typ_sound {z u : Value} {K : Value → Prop} (h : typ z u K) : K u := by
  unfold typ at h
  split at h
  · obtain ⟨vs, hu, h⟩ := tyC_ex h
    rw [hu]; exact h
  · obtain ⟨vs, h⟩ := tyC_ex h
    split at h
    · obtain ⟨rfl, h⟩ := h; exact h
    · exact h.elim

/-- The call of a function value that is known in the run alone; z: a value of the result's make. -/
def opV (P : Program) (σ : St) (o : Oper) (z : Value) (w : World) (K : VW) : Prop :=
  match o.op with
  | .call c => match c.callee with
    | .value f => match ev σ f, evs σ c.args.toList with
      | some v, some vs => CallV P v vs w fun u w' => typ z u fun u => K u w'
      | _, _ => False
    | _ => False
  | _ => False

theorem opV_sound {r : Option Nat} {m n : Nat} {B : List Deferred} {σ : St} {a : Act} (ha : Agr n B σ a) {o : Oper} {z : Value} {w : World} {K : VW} (h : opV P σ o z w K)
    {next : Act → World → Prop} {Q : Exit → Act → World → Prop} (hnext : ∀ v w', K v w' → next (a.put o.dst v) w') : o.wpIn (fen r) m P a w next Q := by
  obtain ⟨dst, op, type, pos, after, guard⟩ := o
  unfold opV at h
  split at h
  · rename_i c hop
    simp only at hop
    subst hop
    obtain ⟨callee, args, ats⟩ := c
    split at h
    · rename_i f hc
      simp only at hc
      subst hc
      split at h
      · rename_i v vs hf hvs
        have hm : args.map a.eval = vs.toArray := by
          apply Array.toList_inj.1
          simp [ha.evs hvs]
        refine ⟨fun _ _ => trivial, ?_⟩
        rw [Oper.semAt_eq _ a.eval _ (by intro c hc; cases hc)]
        unfold CallV at h
        split at h
        · rename_i g first cap
          obtain ⟨hcall, h⟩ := h
          simp only [execOp, resolve, hm, ha.ev hf, ofVal_fn, Sem.run_bind, Result.andThen_ok, invoke, hcall, Oper.uponIn]
          refine ⟨fen_alone, callsF (h.mono fun e w' he => ?_)⟩
          obtain ⟨u, rfl, hk⟩ := he
          exact hnext _ _ (typ_sound hk)
        · rename_i l first cap
          obtain ⟨fn, tmps, as, bd, h1, h2⟩ := h
          have hof : (Deferred.ofValue (.func (.yield l) first cap) vs.toArray : Sem Deferred).run P w = .ok { target := .fn (.yield l) cap, args := first ++ vs.toArray } w := by
            simp [Deferred.ofValue]
          simp only [execOp, resolve, hm, ha.ev hf, hof, Sem.run_bind, Result.andThen_ok, invoke, h1, Oper.uponIn]
          refine ⟨fen_alone, trivial, fun c cs _ => ?_⟩
          obtain ⟨e, w', he, hs⟩ := h2.2 c cs (room_wide _)
          obtain ⟨u, rfl, hk⟩ := he
          exact ⟨.returned u, w', hnext _ _ (typ_sound hk), hs⟩
        · exact h.elim
      · exact h.elim
    · exact h.elim
  · exact h.elim
end
end Pw
