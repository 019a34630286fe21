/- A small machine of weakest preconditions over the model's code: a walk of a function's body as one plain formula, checked by the kernel. Conditions: none. -/
import Derived.OrdersHeld
import Derived.RangeFuncCalls
import Derived.WalkKit
import Derived.ChangeKeysEq
import Derived.Laws.StructEq
namespace Pw
open Go

/-- The temporaries whose value is known. -/
abbrev St := List (Nat × Value)
def get : St → Nat → Option Value
  | [], _ => none
  | (n, v) :: r, t => match Nat.beq n t with
    | true => some v
    | false => get r t

/-- A constant text. -/
def str (l : List Nat) : ByteArray := ⟨(l.map UInt8.ofNat).toArray⟩

/-- A slice's three words. -/
structure Sl where
  p : Option Addr
  l : Nat
  c : Nat

def ev (σ : St) : Operand → Option Value
  | .tmp t => get σ t
  | .const v => some v
  | .global g => some (.pointer (some ⟨g, 0, none⟩))
  | .func f => some (.func (.func f) #[] #[])

def evs (σ : St) : List Operand → Option (List Value)
  | [] => some []
  | x :: r => match ev σ x with
    | none => none
    | some v => match evs σ r with
      | none => none
      | some vs => some (v :: vs)

/-- The valuation that the model's own run takes. -/
def rho (σ : St) (x : Operand) : Value := match ev σ x with
  | some v => v
  | none => undef

def known (σ : St) : List Operand → Bool
  | [] => true
  | x :: r => match ev σ x with
    | some _ => known σ r
    | none => false

def getAll (σ : St) : List Nat → Option (List Value)
  | [] => some []
  | t :: r => match get σ t with
    | none => none
    | some v => match getAll σ r with
      | none => none
      | some vs => some (v :: vs)

def zipS : List Nat → List Value → St
  | t :: r, v :: vs => (t, v) :: zipS r vs
  | _, _ => []

def Agr (n : Nat) (B : List Deferred) (σ : St) (a : Act) : Prop :=
  a.tmps.size = n ∧ a.defers = B ∧ ∀ t v, get σ t = some v → a.tmps[t]? = some v

theorem get_cons (n : Nat) (v : Value) (r : St) (t : Nat) : get ((n, v) :: r) t = if n = t then some v else get r t := by
  by_cases h : n = t
  · subst h; simp [get]
  · have : Nat.beq n t = false := by
      cases hb : Nat.beq n t with
      | false => rfl
      | true => exact absurd (Nat.eq_of_beq_eq_true hb) h
    simp [get, this, h]

theorem Agr.ev {n : Nat} {B : List Deferred} {σ : St} {a : Act} (h : Agr n B σ a) {x : Operand} {v : Value} (hx : ev σ x = some v) : a.eval x = v := by
  cases x with
  | tmp t => have := h.2.2 t v hx; simp [Act.eval, this]
  | const c => simp [Pw.ev] at hx; simp [Act.eval, hx]
  | global g => simp [Pw.ev] at hx; simp [Act.eval, hx]
  | func f => simp [Pw.ev] at hx; simp [Act.eval, hx]

theorem Agr.rho {n : Nat} {B : List Deferred} {σ : St} {a : Act} (h : Agr n B σ a) : ∀ {l : List Operand}, known σ l = true → ∀ x ∈ l, Pw.rho σ x = a.eval x
  | [], _, _, hx => by cases hx
  | y :: r, hk, x, hx => by
    unfold known at hk
    split at hk
    · rename_i v hv
      rcases List.mem_cons.1 hx with rfl | hx
      · simp [Pw.rho, hv, h.ev hv]
      · exact Agr.rho h hk x hx
    · cases hk

theorem Agr.put {n : Nat} {B : List Deferred} {σ : St} {a : Act} (h : Agr n B σ a) {d : Nat} (hd : d < n) (v : Value) : Agr n B ((d, v) :: σ) (a.put (some d) v) := by
  refine ⟨by simp [Act.put, h.1], by simp [Act.put, h.2.1], fun t u ht => ?_⟩
  rw [get_cons] at ht
  by_cases hdt : d = t
  · subst hdt
    simp at ht
    have : d < a.tmps.size := by rw [h.1]; exact hd
    simp [Act.put, ht, this]
  · simp [hdt] at ht
    simp [Act.put, Array.getElem?_setIfInBounds_ne hdt, h.2.2 t u ht]

theorem Agr.getAll {n : Nat} {B : List Deferred} {σ : St} {a : Act} (h : Agr n B σ a) : ∀ {l : List Nat} {vs : List Value}, Pw.getAll σ l = some vs → Agr n B (zipS l vs) a
  | [], vs, _ => ⟨h.1, h.2.1, fun t v ht => by simp [zipS, get] at ht⟩
  | t :: r, vs, hg => by
    unfold Pw.getAll at hg
    split at hg
    · cases hg
    · rename_i v hv
      split at hg
      · cases hg
      · rename_i us hus
        cases hg
        have ih := Agr.getAll h hus
        refine ⟨h.1, h.2.1, fun u w hu => ?_⟩
        simp only [zipS] at hu
        rw [get_cons] at hu
        by_cases htu : t = u
        · subst htu; simp at hu; subst hu; exact h.2.2 _ _ hv
        · simp [htu] at hu; exact ih.2.2 u w hu

theorem Agr.evs {n : Nat} {B : List Deferred} {σ : St} {a : Act} (h : Agr n B σ a) : ∀ {l : List Operand} {vs : List Value}, Pw.evs σ l = some vs → l.map a.eval = vs
  | [], vs, hg => by simpa [Pw.evs] using hg
  | x :: r, vs, hg => by
    unfold Pw.evs at hg
    split at hg
    · cases hg
    · rename_i v hv
      split at hg
      · cases hg
      · rename_i us hus
        cases hg
        simp [h.ev hv, Agr.evs h hus]

/-- What is known after a temporary has been written. -/
def putK (n : Nat) (dst : Option Tmp) (v : Value) (σ : St) (K : St → Prop) : Prop :=
  match dst with
  | none => K σ
  | some d => match Nat.blt d n with
    | true => K ((d, v) :: σ)
    | false => False

theorem putK_sound {n : Nat} {B : List Deferred} {dst : Option Tmp} {v : Value} {σ : St} {K : St → Prop} {a : Act} (h : putK n dst v σ K) (ha : Agr n B σ a) :
    ∃ σ', K σ' ∧ Agr n B σ' (a.put dst v) := by
  unfold putK at h
  split at h
  · exact ⟨σ, h, ha⟩
  · rename_i d
    split at h
    · rename_i hb
      exact ⟨_, h, ha.put (by simpa [Nat.blt_eq] using hb) v⟩
    · exact h.elim

/-- A run that asks nothing of the world. -/
def pureV (P : Program) : Sem Next → Option Value
  | .pure (.value v) => some v
  | .program k => pureV P (k P)
  | .mark _ k => pureV P k
  | _ => none

theorem pureV_sound {P : Program} : ∀ (s : Sem Next) {v : Value}, pureV P s = some v → ∀ w, s.run P w = .ok (.value v) w := by
  intro s
  induction s with
  | pure a => intro v h w; cases a <;> simp [pureV] at h; subst h; rfl
  | program k ih => intro v h w; exact ih P h w
  | mark m k ih => intro v h w; exact ih h w
  | _ => intro v h w; simp [pureV] at h

/-- In the range of its kind. -/
def inR (k : IntKind) (n : Int) : Prop := k.wrap n = n

/-- A test: one way or the other. -/
def cnd (t : Bool) (X Y : Prop) : Prop := match t with
  | true => X
  | false => Y

/-- A pointer that must not be nil. -/
def nz (p : Option Addr) (K : Addr → Prop) : Prop := match p with
  | some a => K a
  | none => False

theorem cnd_iff {t : Bool} {X Y : Prop} : cnd t X Y ↔ (t = true → X) ∧ (t = false → Y) := by cases t <;> simp [cnd]
theorem nz_iff {p : Option Addr} {K : Addr → Prop} : nz p K ↔ ∃ a, p = some a ∧ K a := by cases p <;> simp [nz]
theorem cnd_prop {c : Prop} [Decidable c] {X Y : Prop} : cnd (decide c) X Y ↔ (c → X) ∧ (¬ c → Y) := by simp [cnd_iff]
theorem cnd_beq {a b : Int} {X Y : Prop} : cnd (a == b) X Y ↔ (a = b → X) ∧ (¬ a = b → Y) := by simp [cnd_iff]
theorem cnd_bne {a b : Int} {X Y : Prop} : cnd (a != b) X Y ↔ (¬ a = b → X) ∧ (a = b → Y) := by simp [cnd_iff]
@[simp] theorem cnd_true {X Y : Prop} : cnd true X Y = X := rfl
@[simp] theorem cnd_false {X Y : Prop} : cnd false X Y = Y := rfl
@[simp] theorem nz_some {a : Addr} {K : Addr → Prop} : nz (some a) K = K a := rfl

abbrev PT := (Value → Prop) → Prop

def subP (p : Option Addr) (l m size : Nat) : Option Addr := if m = l then p else p.map (·.add (l * size))

def maxI : Int := 9223372036854775807

def spBin (op : BinOp) (x y : Value) : Option PT :=
  match x, y with
  | .int k a, .int k' b =>
    match op with
    | .add => match decide (k = k') with
      | true => some fun K => inR k (a + b) ∧ K (.int k (a + b))
      | false => none
    | .sub => match decide (k = k') with
      | true => some fun K => inR k (a - b) ∧ K (.int k (a - b))
      | false => none
    | .mul => match decide (k = k') with
      | true => some fun K => inR k (a * b) ∧ K (.int k (a * b))
      | false => none
    | .quo => match decide (k = k') with
      | true => some fun K => b ≠ 0 ∧ inR k (a.tdiv b) ∧ K (.int k (a.tdiv b))
      | false => none
    | .rem => match decide (k = k') with
      | true => some fun K => b ≠ 0 ∧ K (.int k (a.tmod b))
      | false => none
    | .shl => some fun K => 0 ≤ b ∧ K (.int k (k.wrap (a * 2 ^ (min b.toNat k.bits))))
    | .shr => some fun K => 0 ≤ b ∧ K (.int k (a.fdiv (2 ^ (min b.toNat k.bits))))
    | _ => none
  | .pointer p, .pointer none =>
    match op with
    | .eql => some fun K => K (.bool p.isNone)
    | .neq => some fun K => K (.bool (!p.isNone))
    | _ => none
  | .string a, .string b =>
    match op with
    | .add => some fun K => ((a.size + b.size : Nat) : Int) ≤ maxI ∧ K (.string (a ++ b))
    | .eql => some fun K => K (.bool (decide (a = b)))
    | .neq => some fun K => K (.bool (!decide (a = b)))
    | _ => none
  | _, _ => none

def lowOf (σ : St) : Option Operand → Option Int
  | none => some 0
  | some x => match ev σ x with
    | some (.int _ i) => some i
    | _ => none

/-- Are the cells of two plain structs alike? -/
def eqFs (P : Program) : List Field → Nat → List Value → List Value → Option Bool
  | [], _, [], [] => some true
  | f :: fs, i, x :: xs, y :: ys => match (f.name != "_") && Nat.beq f.offset i with
    | true => match P.underlying f.type, x, y with
      | some (.int _), .int k a, .int k' b => match decide (k = k') with
        | true => match eqFs P fs (i + 1) xs ys with
          | some r => some (a == b && r)
          | none => none
        | false => none
      | some .bool, .bool a, .bool b => match eqFs P fs (i + 1) xs ys with
        | some r => some (a == b && r)
        | none => none
      | some .string, .string a, .string b => match eqFs P fs (i + 1) xs ys with
        | some r => some (decide (a = b) && r)
        | none => none
      | _, _, _ => none
    | false => none
  | _, _, _, _ => none

def eqAg (P : Program) (t : TypeId) (xs ys : List Value) : Option Bool := match P.underlying t with
  | some (.struct fs) => match P.stoodInHeld t || P.eqGuardType P.depth t with
    | false => eqFs P fs.toList 0 xs ys
    | true => none
  | _ => none

/-- Is an interface's value nil? -/
def nif (v : Value) (K : Bool → Prop) : Prop := match v with
  | .nilIface => K true
  | .iface _ _ => K false
  | _ => False

/-- The value of an operation that only reckons, as a condition on what follows. -/
def spW (P : Program) (σ : St) (op : Op) : Option PT :=
  match op with
  | .move x => match ev σ x with
    | some v => some fun K => K v
    | none => none
  | .assign x => match ev σ x with
    | some v => some fun K => K v
    | none => none
  | .pick c x y => match ev σ c with
    | some (.bool b) => match b with
      | true => match ev σ x with
        | some v => some fun K => K v
        | none => none
      | false => match ev σ y with
        | some v => some fun K => K v
        | none => none
    | _ => none
  | .nilCheck x => match ev σ x with
    | some (.pointer p) => some fun K => nz p fun a => K (.pointer (some a))
    | _ => none
  | .binOp op t x y _ => match ev σ y with
   | some .nilIface => match ev σ x with
    | some v => match y, P.underlying t with
      | .const _, some (.interface _) => match op with
        | .eql => some fun K => nif v fun b => K (.bool b)
        | .neq => some fun K => nif v fun b => K (.bool (!b))
        | _ => none
      | _, _ => none
    | none => none
   | vy => match ev σ x, vy with
    | some (.slice p _ _), some (.slice none 0 0) => match P.underlying t with
      | some (.slice _) => match op with
        | .eql => some fun K => K (.bool p.isNone)
        | .neq => some fun K => K (.bool (!p.isNone))
        | _ => none
      | _ => none
    | some (.pointer p), some (.pointer none) => match P.underlying t with
      | some (.pointer _) => spBin op (.pointer p) (.pointer none)
      | _ => none
    | some (.pointer _), some _ => none
    | some (.agg xs), some (.agg ys) => match eqAg P t xs.toList ys.toList with
      | some r => match op with
        | .eql => some fun K => K (.bool r)
        | .neq => some fun K => K (.bool (!r))
        | _ => none
      | none => none
    | some v, some u => spBin op v u
    | _, _ => none
  | .unOp .neg _ x => match ev σ x with
    | some (.int k n) => some fun K => inR k (-n) ∧ K (.int k (-n))
    | _ => none
  | .convert s d x => match ev σ x with
    | some (.int _ n) => match P.underlying s, P.underlying d with
      | some _, some (.int k) => some fun K => inR k n ∧ K (.int k n)
      | _, _ => none
    | _ => none
  | .indexAddr t x i => match ev σ x, ev σ i, P.underlying t with
    | some (.slice p l _), some (.int _ j), some (.slice e) => match P.info? e with
      | some ti => some fun K => nz p fun a => (0 ≤ j ∧ j < l) ∧ K (.pointer (some (a.add (j.toNat * ti.size))))
      | none => none
    | some (.pointer (some a)), some (.int _ j), some (.array l e) => match P.info? e with
      | some ti => some fun K => (0 ≤ j ∧ j < l) ∧ K (.pointer (some (a.add (j.toNat * ti.size))))
      | none => none
    | _, _, _ => none
  | .index t x i => match ev σ x, ev σ i, P.underlying t with
    | some (.string s), some (.int _ j), some .string => some fun K => (0 ≤ j ∧ j < s.size) ∧ K (.int .u8 (s.data.toList.getD j.toNat 0).toNat)
    | _, _, _ => none
  | .slice t x lo hi mx => match mx with
    | some _ => none
    | none => match ev σ x, P.underlying t with
      | some (.string s), some .string => match lowOf σ lo, hi with
        | some l, none => some fun K => (0 ≤ l ∧ l ≤ s.size) ∧ K (.string (s.extract l.toNat s.size))
        | some l, some h => match ev σ h with
          | some (.int _ h) => some fun K => (0 ≤ l ∧ l ≤ h ∧ h ≤ s.size) ∧ K (.string (s.extract l.toNat h.toNat))
          | _ => none
        | none, _ => none
      | some (.slice p n c), some (.slice e) => match P.info? e with
        | none => none
        | some ti => match lowOf σ lo, hi with
          | some l, none => some fun K => (0 ≤ l ∧ l ≤ n) ∧ K (.slice (subP p l.toNat c ti.size) (n - l.toNat) (c - l.toNat))
          | some l, some h => match ev σ h with
            | some (.int _ h) => some fun K => (0 ≤ l ∧ l ≤ h ∧ h ≤ c) ∧ K (.slice (subP p l.toNat c ti.size) (h.toNat - l.toNat) (c - l.toNat))
            | _ => none
          | none, _ => none
      | _, _ => none
  | .call { callee := .builtin .min, args, .. } => match evs σ args.toList with
    | some [.int k a, .int k' b] => match decide (k = k') with
      | true => some fun K => K (.int k (min a b))
      | false => none
    | _ => none
  | .call { callee := .builtin .max, args, .. } => match evs σ args.toList with
    | some [.int k a, .int k' b] => match decide (k = k') with
      | true => some fun K => K (.int k (max a b))
      | false => none
    | _ => none
  | _ => none


section
variable {P : Program} {w : World}

theorem eqGuard_plain (op : BinOp) (t : TypeId) (x y : Operand) (a b : Value) (ha : a ≠ .nilIface) (ha' : ∀ cs, a ≠ .agg cs) :
    (eqGuard op t x y a b).run P w = .ok () w := by
  unfold eqGuard
  cases op <;> simp <;> (split <;> first | rfl | (rename_i h; exact absurd rfl h) | skip) <;> simp_all

theorem str_eq (a b : ByteArray) : (a.toList == b.toList) = decide (a = b) := by
  rw [ByteArray.toList_eq, ByteArray.toList_eq, Bool.eq_iff_iff]
  simp only [beq_iff_eq, decide_eq_true_eq]
  constructor
  · intro h
    cases a; cases b
    simp only [ByteArray.mk.injEq]
    exact Array.toList_inj.1 h
  · intro h; rw [h]

theorem spBin_sound {op : BinOp} {t : TypeId} {x y : Value} {X Y : Operand} {T : PT} {K : Value → Prop}
    (h : spBin op x y = some T) (hK : T K) (hp : ∀ p, x = .pointer p → ∃ e, P.underlying t = some (.pointer e)) :
    ∃ v, K v ∧ ∀ w, (do eqGuard op t X Y x y; binOp op t x y : Sem Value).run P w = .ok v w := by
  unfold spBin at h
  split at h
  · rename_i k a k' b
    have hg : ∀ w, (eqGuard op t X Y (.int k a) (.int k' b)).run P w = .ok () w := fun w => eqGuard_plain op t X Y _ _ (by simp) (by simp)
    split at h
    all_goals first
      | (split at h
         · rename_i hk
           have hk := of_decide_eq_true hk
           subst hk
           simp only [Option.some.injEq] at h
           subst h
           first
             | (obtain ⟨hr, hK⟩ := hK
                refine ⟨_, hK, fun w => ?_⟩
                simp [hg, binOp, Op.intArith, inR] at hr ⊢
                exact hr)
             | (obtain ⟨hb, hr, hK⟩ := hK
                refine ⟨_, hK, fun w => ?_⟩
                simp [hg, binOp, Op.intDiv, inR, hb] at hr ⊢
                exact hr)
             | (obtain ⟨hb, hK⟩ := hK
                refine ⟨_, hK, fun w => ?_⟩
                simp [hg, binOp, Op.intDiv, hb])
         · cases h)
      | (simp only [Option.some.injEq] at h
         subst h
         obtain ⟨hb, hK⟩ := hK
         refine ⟨_, hK, fun w => ?_⟩
         have hb' : ¬ b < 0 := by omega
         simp [hg, binOp, Op.shift, hb'])
      | cases h
  · rename_i p
    obtain ⟨e, he⟩ := hp p rfl
    have hg : ∀ w, (eqGuard op t X Y (.pointer p) (.pointer none)).run P w = .ok () w := fun w => eqGuard_plain op t X Y _ _ (by simp) (by simp)
    have hq : ∀ w, (Op.equal t (.pointer p) (.pointer none)).run P w = .ok p.isNone w := by
      intro w
      have hd : ∀ d, (Op.equalIn (d + 1) t (.pointer p) (.pointer none)).run P w = .ok p.isNone w := by
        intro d
        cases p <;> simp [Op.equalIn, run_underlying he]
      exact hd 9999
    split at h
    · simp only [Option.some.injEq] at h
      subst h
      refine ⟨_, hK, fun w => ?_⟩
      simp [hg, binOp, hq]
    · simp only [Option.some.injEq] at h
      subst h
      refine ⟨_, hK, fun w => ?_⟩
      simp [hg, binOp, hq]
    · cases h
  · rename_i a b
    have hg : ∀ w, (eqGuard op t X Y (.string a) (.string b)).run P w = .ok () w := fun w => eqGuard_plain op t X Y _ _ (by simp) (by simp)
    split at h
    · simp only [Option.some.injEq] at h
      subst h
      obtain ⟨hr, hK⟩ := hK
      refine ⟨_, hK, fun w => ?_⟩
      have hr' : ¬ ((a.size + b.size : Nat) : Int) > IntKind.i64.max := by
        have : IntKind.i64.max = maxI := by decide
        rw [this]; omega
      simp only [Sem.run_bind, hg, Result.andThen_ok, binOp, Op.stringOp, if_neg hr']
      rfl
    · simp only [Option.some.injEq] at h
      subst h
      refine ⟨_, hK, fun w => ?_⟩
      simp only [Sem.run_bind, hg, Result.andThen_ok, binOp, Op.stringOp, str_eq]
      rfl
    · simp only [Option.some.injEq] at h
      subst h
      refine ⟨_, hK, fun w => ?_⟩
      simp only [Sem.run_bind, hg, Result.andThen_ok, binOp, Op.stringOp, str_eq]
      rfl
    · cases h
  · cases h

theorem lowOf_sound {n : Nat} {B : List Deferred} {σ : St} {a : Act} (ha : Agr n B σ a) {lo : Option Operand} {l : Int} (h : lowOf σ lo = some l) :
    (lo = none ∧ l = 0) ∨ ∃ x k, lo = some x ∧ a.eval x = .int k l := by
  unfold lowOf at h
  split at h
  · left; exact ⟨rfl, by simpa using h.symm⟩
  · split at h
    · rename_i x _ i hx
      right
      simp at h
      subst h
      exact ⟨_, _, rfl, ha.ev hx⟩
    · cases h

theorem sb_in (k : IntKind) (i : Int) (y : Nat) (code : BoundsCode) (h0 : 0 ≤ i) (h1 : i ≤ y) (w : World) :
    (Instr.sliceBound (.int k i) y code).run P w = .ok i.toNat w := by
  simp [Instr.sliceBound, asIntOf, h0, h1]

theorem bounds_sound {n : Nat} {B : List Deferred} {σ : St} {a : Act} (ha : Agr n B σ a) {lo hi : Option Operand} {l : Int} {len cap : Nat} {iss : Bool} (hl : lowOf σ lo = some l)
    {h : Int} (hh : (hi = none ∧ h = len) ∨ ∃ x k, hi = some x ∧ a.eval x = .int k h ∧ h ≤ cap) (h0 : 0 ≤ l) (h1 : l ≤ h) (w : World) :
    (Instr.sliceBounds iss len cap (lo.map a.eval) (hi.map a.eval) none).run P w = .ok (l.toNat, h.toNat, cap) w := by
  unfold Instr.sliceBounds
  rcases hh with ⟨rfl, rfl⟩ | ⟨x, k, rfl, hx, hc⟩
  · rcases lowOf_sound ha hl with ⟨rfl, rfl⟩ | ⟨y, ky, rfl, hy⟩
    · simp
    · simp [hy, sb_in _ _ _ _ h0 h1]
  · have hh0 : 0 ≤ h := by omega
    rcases lowOf_sound ha hl with ⟨rfl, rfl⟩ | ⟨y, ky, rfl, hy⟩
    · simp [hx, sb_in _ _ _ _ hh0 hc]
    · have : l ≤ (h.toNat : Int) := by omega
      simp [hx, hy, sb_in _ _ _ _ hh0 hc, sb_in _ _ _ _ h0 this]

theorem sizeOf_run {e : TypeId} {ti : TypeInfo} (h : P.info? e = some ti) (w : World) : (Go.sizeOf e).run P w = .ok ti.size w := by
  simp [Go.sizeOf, typeInfo, h]

theorem part_one {t : TypeId} {d : TypeDesc} {xs : Array Value} {i : Nat} {v : Value} {w : World} (ht : P.underlying t = some d) (hd : d = .bool ∨ d = .string ∨ ∃ k, d = .int k) (hx : xs[i]? = some v) : (part t xs i).run P w = .ok v w := by
  have hp : P.plainKey t = true := by
    unfold Program.plainKey
    rw [ht]
    rcases hd with rfl | rfl | ⟨k, rfl⟩ <;> rfl
  exact run_part_plain w hp hx

theorem eqFs_sound {X Y : Array Value} {w : World} {d : Nat} : ∀ {fs : List Field} {i : Nat} {xs ys : List Value} {r : Bool}, eqFs P fs i xs ys = some r → X.toList.drop i = xs → Y.toList.drop i = ys →
    (Op.eqFields (d + 1) X Y fs).run P w = .ok r w
  | [], i, xs, ys, r, h, hx, hy => by
    cases xs with
    | nil => cases ys with
      | nil => simp [eqFs] at h; subst h; rfl
      | cons => simp [eqFs] at h
    | cons => simp [eqFs] at h
  | f :: fs, i, xs, ys, r, h, hx, hy => by
    match xs, ys with
    | [], _ => simp [eqFs] at h
    | _ :: _, [] => simp [eqFs] at h
    | x :: xs, y :: ys =>
      have hX : X[i]? = some x := by
        have := congrArg (·[0]?) hx
        simpa using this
      have hY : Y[i]? = some y := by
        have := congrArg (·[0]?) hy
        simpa using this
      have hX' : X.toList.drop (i + 1) = xs := by
        have := congrArg List.tail hx
        simpa using this
      have hY' : Y.toList.drop (i + 1) = ys := by
        have := congrArg List.tail hy
        simpa using this
      simp only [eqFs] at h
      split at h
      · rename_i hc
        simp only [Bool.and_eq_true, bne_iff_ne, ne_eq] at hc
        obtain ⟨hn, ho⟩ := hc
        have ho := Nat.eq_of_beq_eq_true ho
        split at h
        · rename_i q k a k' b hu
          split at h
          · rename_i hk
            have hk := of_decide_eq_true hk
            subst hk
            split at h
            · rename_i r' hr
              cases h
              have ih := eqFs_sound (w := w) (d := d) hr hX' hY'
              simp only [Op.eqFields, hn, ne_eq, not_false_eq_true, if_true, Sem.run_bind, ho, part_one hu (.inr (.inr ⟨_, rfl⟩)) hX, part_one hu (.inr (.inr ⟨_, rfl⟩)) hY, Result.andThen_ok, run_equalIn_int w d f.type _ _ a b hu]
              cases hab : a == b <;> simp [ih]
            · cases h
          · cases h
        · rename_i a b hu
          split at h
          · rename_i r' hr
            cases h
            have ih := eqFs_sound (w := w) (d := d) hr hX' hY'
            simp only [Op.eqFields, hn, ne_eq, not_false_eq_true, if_true, Sem.run_bind, ho, part_one hu (.inl rfl) hX, part_one hu (.inl rfl) hY, Result.andThen_ok, run_equalIn_bool w d f.type a b hu]
            cases hab : a == b <;> simp [ih]
          · cases h
        · rename_i a b hu
          split at h
          · rename_i r' hr
            cases h
            have ih := eqFs_sound (w := w) (d := d) hr hX' hY'
            simp only [Op.eqFields, hn, ne_eq, not_false_eq_true, if_true, Sem.run_bind, ho, part_one hu (.inr (.inl rfl)) hX, part_one hu (.inr (.inl rfl)) hY, Result.andThen_ok, run_equalIn_string w d f.type a b hu, str_eq]
            cases hab : decide (a = b) <;> simp [ih]
          · cases h
        · cases h
      · cases h

theorem eqAg_sound {t : TypeId} {xs ys : Array Value} {r : Bool} (h : eqAg P t xs.toList ys.toList = some r) (bop : BinOp) (x y : Operand) (w : World) :
    (eqGuard bop t x y (.agg xs) (.agg ys)).run P w = .ok () w ∧ (Op.equal t (.agg xs) (.agg ys)).run P w = .ok r w := by
  unfold eqAg at h
  split at h
  · rename_i fs hu
    split at h
    · rename_i hc
      simp only [Bool.or_eq_false_iff] at hc
      constructor
      · unfold eqGuard
        cases bop <;> simp [hc.2]
      · have hf : P.fieldsOf t = fs := by
          unfold Program.fieldsOf
          rw [hu]
        have := run_equalIn_struct w 9999 t xs ys (by rw [hf]; exact hu) hc.1
        show (Op.equalIn 10000 t (.agg xs) (.agg ys)).run P w = _
        rw [this, hf]
        exact eqFs_sound h rfl rfl
    · cases h
  · cases h

theorem nif_iff {v : Value} {K : Bool → Prop} (h : nif v K) : (v = .nilIface ∧ K true) ∨ (∃ t u, v = .iface t u) ∧ K false := by
  unfold nif at h
  split at h
  · exact .inl ⟨rfl, h⟩
  · exact .inr ⟨⟨_, _, rfl⟩, h⟩
  · exact h.elim

theorem spW_sound {n : Nat} {B : List Deferred} {σ : St} {a : Act} (ha : Agr n B σ a) {o : Oper} {T : PT} {K : Value → Prop} (h : spW P σ o.op = some T) (hK : T K) :
    ∃ v, K v ∧ ∀ w, (execOp a.eval o).run P w = .ok (.value v) w := by
  obtain ⟨dst, op, type, pos, after, guard⟩ := o
  simp only at h
  cases op with
  | move x =>
    simp only [spW] at h
    split at h
    · rename_i v hx
      simp only [Option.some.injEq] at h
      subst h
      exact ⟨v, hK, fun w => by simp [execOp, ha.ev hx]⟩
    · cases h
  | assign x =>
    simp only [spW] at h
    split at h
    · rename_i v hx
      simp only [Option.some.injEq] at h
      subst h
      exact ⟨v, hK, fun w => by simp [execOp, ha.ev hx]⟩
    · cases h
  | pick c x y =>
    simp only [spW] at h
    split at h
    · rename_i b hc
      split at h
      · split at h
        · rename_i v hx
          simp only [Option.some.injEq] at h
          subst h
          exact ⟨v, hK, fun w => by simp [execOp, ha.ev hc, ha.ev hx, asBool]⟩
        · cases h
      · split at h
        · rename_i v hx
          simp only [Option.some.injEq] at h
          subst h
          exact ⟨v, hK, fun w => by simp [execOp, ha.ev hc, ha.ev hx, asBool]⟩
        · cases h
    · cases h
  | nilCheck x =>
    simp only [spW] at h
    split at h
    · rename_i p hx
      simp only [Option.some.injEq] at h
      subst h
      obtain ⟨b, rfl, hK⟩ := nz_iff.1 hK
      refine ⟨_, hK, fun w => ?_⟩
      simp [execOp, ha.ev hx]
    · cases h
  | binOp bop t x y yt =>
    simp only [spW] at h
    split at h
    · rename_i hy
      split at h
      · rename_i v hx
        split at h
        · rename_i c ms hu
          have key : ∀ b : Bool, ((v = .nilIface ∧ b = true) ∨ (∃ t u, v = .iface t u) ∧ b = false) → ∀ w, (eqGuard bop t x (.const c) v .nilIface).run P w = .ok () w ∧ (Op.equal t v .nilIface).run P w = .ok b w := by
            intro b hb w
            constructor
            · unfold eqGuard
              rcases hb with ⟨rfl, rfl⟩ | ⟨⟨t', u, rfl⟩, rfl⟩ <;> cases bop <;> simp
            · have hd : ∀ d, (Op.equalIn (d + 1) t v .nilIface).run P w = .ok b w := by
                intro d
                rcases hb with ⟨rfl, rfl⟩ | ⟨⟨t', u, rfl⟩, rfl⟩ <;> simp [Op.equalIn, run_underlying hu]
              exact hd 9999
          split at h
          · simp only [Option.some.injEq] at h
            subst h
            rcases nif_iff hK with ⟨hv, hK⟩ | ⟨hv, hK⟩
            · refine ⟨_, hK, fun w => ?_⟩
              have hq := key true (.inl ⟨hv, rfl⟩) w
              subst hv
              simp only [execOp, ha.ev hx, ha.ev hy, Sem.run_bind, hq.1, Result.andThen_ok, binOp, hq.2]
              simp
            · refine ⟨_, hK, fun w => ?_⟩
              have hq := key false (.inr ⟨hv, rfl⟩) w
              obtain ⟨t', u, rfl⟩ := hv
              simp only [execOp, ha.ev hx, ha.ev hy, Sem.run_bind, hq.1, Result.andThen_ok, binOp, hq.2]
              simp
          · simp only [Option.some.injEq] at h
            subst h
            rcases nif_iff hK with ⟨hv, hK⟩ | ⟨hv, hK⟩
            · refine ⟨_, hK, fun w => ?_⟩
              have hq := key true (.inl ⟨hv, rfl⟩) w
              subst hv
              simp only [execOp, ha.ev hx, ha.ev hy, Sem.run_bind, hq.1, Result.andThen_ok, binOp, hq.2]
              simp
            · refine ⟨_, hK, fun w => ?_⟩
              have hq := key false (.inr ⟨hv, rfl⟩) w
              obtain ⟨t', u, rfl⟩ := hv
              simp only [execOp, ha.ev hx, ha.ev hy, Sem.run_bind, hq.1, Result.andThen_ok, binOp, hq.2]
              simp
          · cases h
        · cases h
      · cases h
    · split at h
      · rename_i p l c hx hy
        split at h
        · rename_i e he
          have hq : ∀ w, (Op.equal t (.slice p l c) (.slice none 0 0)).run P w = .ok p.isNone w := by
            intro w
            have hd : ∀ d, (Op.equalIn (d + 1) t (.slice p l c) (.slice none 0 0)).run P w = .ok p.isNone w := by
              intro d
              cases p <;> simp [Op.equalIn, run_underlying he]
            exact hd 9999
          have hg : ∀ w, (eqGuard bop t x y (.slice p l c) (.slice none 0 0)).run P w = .ok () w := fun w => eqGuard_plain bop t x y _ _ (by simp) (by simp)
          split at h
          · simp only [Option.some.injEq] at h
            subst h
            refine ⟨_, hK, fun w => ?_⟩
            simp [execOp, ha.ev hx, ha.ev hy, hg, binOp, hq]
          · simp only [Option.some.injEq] at h
            subst h
            refine ⟨_, hK, fun w => ?_⟩
            simp [execOp, ha.ev hx, ha.ev hy, hg, binOp, hq]
          · cases h
        · cases h
      · rename_i p hx hy
        split at h
        · rename_i e he
          obtain ⟨v, hv, hr⟩ := spBin_sound (P := P) (t := t) (X := x) (Y := y) h hK (fun _ _ => ⟨e, he⟩)
          refine ⟨v, hv, fun w => ?_⟩
          have := hr w
          simp only [execOp, ha.ev hx, ha.ev hy]
          simp only [Sem.run_bind] at this ⊢
          rw [this]; rfl
        · cases h
      · cases h
      · rename_i xs ys hx hy
        split at h
        · rename_i r hr
          have hq := eqAg_sound hr bop x y
          split at h
          · simp only [Option.some.injEq] at h
            subst h
            refine ⟨_, hK, fun w => ?_⟩
            simp [execOp, ha.ev hx, ha.ev hy, (hq w).1, binOp, (hq w).2]
          · simp only [Option.some.injEq] at h
            subst h
            refine ⟨_, hK, fun w => ?_⟩
            simp [execOp, ha.ev hx, ha.ev hy, (hq w).1, binOp, (hq w).2]
          · cases h
        · cases h
      · rename_i v u _ _ _ hnp _ _ hv hu
        obtain ⟨v', hv', hr⟩ := spBin_sound (P := P) (t := t) (X := x) (Y := y) h hK (fun p hp => by subst hp; simp_all)
        refine ⟨v', hv', fun w => ?_⟩
        have := hr w
        simp only [execOp, ha.ev hv, ha.ev hu]
        simp only [Sem.run_bind] at this ⊢
        rw [this]; rfl
      · cases h
  | unOp uop t x =>
    cases uop <;> simp only [spW] at h <;> try cases h
    split at h
    · rename_i k m hx
      simp only [Option.some.injEq] at h
      subst h
      obtain ⟨hr, hK⟩ := hK
      refine ⟨_, hK, fun w => ?_⟩
      simp [execOp, ha.ev hx, Op.unary, Op.intArith, inR] at hr ⊢
      exact hr
    · cases h
  | convert s d x =>
    simp only [spW] at h
    split at h
    · rename_i k m hx
      split at h
      · rename_i ds k' hs hd
        simp only [Option.some.injEq] at h
        subst h
        obtain ⟨hr, hK⟩ := hK
        refine ⟨_, hK, fun w => ?_⟩
        simp [execOp, ha.ev hx, convert, run_underlying hs, run_underlying hd, Conv.intToInt, inR] at hr ⊢
        exact hr
      · cases h
    · cases h
  | indexAddr t x i =>
    simp only [spW] at h
    split at h
    · rename_i p l c k j e hx hi he
      split at h
      · rename_i ti hti
        simp only [Option.some.injEq] at h
        subst h
        obtain ⟨b, rfl, ⟨h0, h1⟩, hK⟩ := nz_iff.1 hK
        refine ⟨_, hK, fun w => ?_⟩
        simp [execOp, ha.ev hx, ha.ev hi, Instr.indexAt, asIntOf, run_underlying he, h0, h1, sizeOf_run hti]
      · cases h
    · rename_i p k j l e hx hi he
      split at h
      · rename_i ti hti
        simp only [Option.some.injEq] at h
        subst h
        obtain ⟨⟨h0, h1⟩, hK⟩ := hK
        refine ⟨_, hK, fun w => ?_⟩
        simp [execOp, ha.ev hx, ha.ev hi, Instr.indexAt, Instr.sureAddr, asIntOf, run_underlying he, h0, h1, sizeOf_run hti]
      · cases h
    · cases h
  | index t x i =>
    simp only [spW] at h
    split at h
    · rename_i s k j hx hi he
      simp only [Option.some.injEq] at h
      subst h
      obtain ⟨⟨h0, h1⟩, hK⟩ := hK
      refine ⟨_, hK, fun w => ?_⟩
      have h2 : j.toNat < s.size := by omega
      have h3 : s[j.toNat]? = some (s.data.toList.getD j.toNat 0) := by
        have : j.toNat < s.data.toList.length := by simpa using h2
        simp [h2]
        rfl
      simp [execOp, ha.ev hx, ha.ev hi, Instr.index, asIntOf, run_underlying he, h0, h3]
    · cases h
  | slice t x lo hi mx =>
    simp only [spW] at h
    split at h
    · cases h
    · split at h
      · rename_i s hx he
        split at h
        · rename_i l hl
          simp only [Option.some.injEq] at h
          subst h
          obtain ⟨⟨h0, h1⟩, hK⟩ := hK
          refine ⟨_, hK, fun w => ?_⟩
          have := bounds_sound (P := P) ha (hi := none) (iss := false) (cap := s.size) hl (.inl ⟨rfl, rfl⟩) h0 h1 w
          simp at this
          simp [execOp, ha.ev hx, Instr.sliceAt, Instr.slice, run_underlying he, this]
        · rename_i l h' hl
          split at h
          · rename_i kh hv hhv
            simp only [Option.some.injEq] at h
            subst h
            obtain ⟨⟨h0, h1, h2⟩, hK⟩ := hK
            refine ⟨_, hK, fun w => ?_⟩
            have := bounds_sound (P := P) ha (hi := some h') (iss := false) (len := s.size) (cap := s.size) hl (.inr ⟨_, _, rfl, ha.ev hhv, h2⟩) h0 h1 w
            simp at this
            simp [execOp, ha.ev hx, Instr.sliceAt, Instr.slice, run_underlying he, this]
          · cases h
        · cases h
      · rename_i p m c e hx he
        split at h
        · cases h
        · rename_i ti hti
          split at h
          · rename_i l hl
            simp only [Option.some.injEq] at h
            subst h
            obtain ⟨⟨h0, h1⟩, hK⟩ := hK
            refine ⟨_, hK, fun w => ?_⟩
            have := bounds_sound (P := P) ha (hi := none) (iss := true) (cap := c) hl (.inl ⟨rfl, rfl⟩) h0 h1 w
            simp at this
            simp [execOp, ha.ev hx, Instr.sliceAt, Instr.slice, run_underlying he, this, sizeOf_run hti, subP]
          · rename_i l h' hl
            split at h
            · rename_i kh hv hhv
              simp only [Option.some.injEq] at h
              subst h
              obtain ⟨⟨h0, h1, h2⟩, hK⟩ := hK
              refine ⟨_, hK, fun w => ?_⟩
              have := bounds_sound (P := P) ha (hi := some h') (iss := true) (len := m) (cap := c) hl (.inr ⟨_, _, rfl, ha.ev hhv, h2⟩) h0 h1 w
              simp at this
              simp [execOp, ha.ev hx, Instr.sliceAt, Instr.slice, run_underlying he, this, sizeOf_run hti, subP]
            · cases h
          · cases h
      · cases h
  | call c =>
    obtain ⟨callee, args, ats⟩ := c
    cases callee with
    | builtin b =>
      cases b <;> simp only [spW] at h <;> try cases h
      all_goals
        split at h
        · rename_i k x k' y he
          split at h
          · rename_i hk
            have hk := of_decide_eq_true hk
            subst hk
            simp only [Option.some.injEq] at h
            subst h
            refine ⟨_, hK, fun w => ?_⟩
            have hm := ha.evs he
            have hm' : args.map a.eval = #[.int k x, .int k y] := by
              apply Array.toList_inj.1
              simp [hm]
            simp [execOp, resolve, hm', invoke, builtin, Builtin.min_, Builtin.max_, Builtin.min2, Builtin.max2]
            first
              | (rw [Int.min_def]; split <;> split <;> omega)
              | (rw [Int.max_def]; split <;> split <;> omega)
          · cases h
        · cases h
    | _ => simp [spW] at h
  | _ => simp [spW] at h
end
end Pw
