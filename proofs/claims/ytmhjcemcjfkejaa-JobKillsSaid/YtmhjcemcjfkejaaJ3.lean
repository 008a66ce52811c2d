/- The calculus, third part: the operations. -/
import Derived.Test.YtmhjcemcjfkejaaJ2
namespace Go.Proofs.Ytmhjcemcjfkejaa
open Go.RowKit
set_option linter.unusedVariables false
set_option linter.unusedSimpArgs false

/-! ## Facts on types -/
section
variable (P : Program)
def fOff (s f : Nat) : Option Nat :=
  match P.underlying s with
  | some (.struct fs) => (fs[f]?).bind fun fd => (P.info? fd.type).bind fun i => if i.size = 0 then none else some fd.offset
  | _ => none
def szOf (t : Nat) : Option (Bool × Nat) :=
  match P.underlying t, P.info? t with
  | some d, some i => some (match d with | .struct _ | .array _ _ => true | _ => false, i.size)
  | _, _ => none
/-- a slice's or an array's element: (an array's length; the element's type; its cells) -/
def elOf (t : Nat) : Option (Option Nat × Nat × Nat) :=
  match P.underlying t with
  | some (.slice e) => (P.info? e).map fun i => (none, e, i.size)
  | some (.array m e) => (P.info? e).map fun i => (some m, e, i.size)
  | _ => none
def zeroOf (t : Nat) : Option (List Value) := (P.info? t).bind fun i => i.zero.map fun z => z.cells.toList
def fldsOf (t : Nat) : Option (List (Nat × Nat)) :=
  match P.underlying t with
  | some (.struct fs) => fs.toList.mapM fun fd => (P.info? fd.type).map fun i => (fd.offset, i.size)
  | _ => none
structure FoE where (s f o : Nat) (h : fOff P s f = some o)
structure SzE where (t : Nat) (g : Bool) (s : Nat) (h : szOf P t = some (g, s))
structure ElE where (t : Nat) (m : Option Nat) (e s : Nat) (h : elOf P t = some (m, e, s))
structure ZeE where (t : Nat) (z : List Value) (h : zeroOf P t = some z)
structure FlE where (t : Nat) (l : List (Nat × Nat)) (h : fldsOf P t = some l)
def ptOf (t : Nat) : Option Nat := match P.underlying t with | some (.pointer e) => some e | _ => none
structure PtE where (t e : Nat) (h : ptOf P t = some e)
/-- a struct whose fields are ints (false) and bools (true), a cell each -/
def flatOf (t : Nat) : Option (List Bool) :=
  match P.underlying t with
  | some (.struct fs) => if P.stoodInHeld t || P.eqGuardType P.depth t then none else fs.toList.zipIdx.mapM fun q =>
      if q.1.offset = q.2 && q.1.name != "_" && (P.info? q.1.type).any (fun i => i.size == 1) then match P.underlying q.1.type with | some (.int _) => some false | some .bool => some true | _ => none else none
  | _ => none
structure EqE where (t : Nat) (l : List Bool) (h : flatOf P t = some l)
def isBoT (t : Nat) : Bool := match P.underlying t with | some .bool => true | _ => false
structure BoE where (t : Nat) (h : isBoT P t = true)
def isStT (t : Nat) : Bool := match P.underlying t with | some .string => true | _ => false
structure StE where (t : Nat) (h : isStT P t = true)
structure ByE where (t n : Nat) (h : (P.info? t).map (·.bytes) = some n)
def ikOf (t : Nat) : Option IntKind := match P.underlying t with | some (.int k) => some k | _ => none
structure IkE where (t : Nat) (k : IntKind) (h : ikOf P t = some k)
structure Tab where
  iks : List (IkE P)
  bys : List (ByE P)
  eqs : List (EqE P)
  bos : List (BoE P)
  sts : List (StE P)
  pts : List (PtE P)
  fos : List (FoE P)
  szs : List (SzE P)
  els : List (ElE P)
  zes : List (ZeE P)
  fls : List (FlE P)
end
section
variable {P : Program}
def foIn : List (FoE P) → Nat → Nat → Option Nat
  | [], _, _ => none
  | x :: r, s, f => bif Nat.beq x.s s && Nat.beq x.f f then some x.o else foIn r s f
def szIn : List (SzE P) → Nat → Option (Bool × Nat)
  | [], _ => none
  | x :: r, t => bif Nat.beq x.t t then some (x.g, x.s) else szIn r t
def elIn : List (ElE P) → Nat → Option (Option Nat × Nat × Nat)
  | [], _ => none
  | x :: r, t => bif Nat.beq x.t t then some (x.m, x.e, x.s) else elIn r t
def zeIn : List (ZeE P) → Nat → Option (List Value)
  | [], _ => none
  | x :: r, t => bif Nat.beq x.t t then some x.z else zeIn r t
def flIn : List (FlE P) → Nat → Option (List (Nat × Nat))
  | [], _ => none
  | x :: r, t => bif Nat.beq x.t t then some x.l else flIn r t
def ptIn : List (PtE P) → Nat → Bool
  | [], _ => false
  | x :: r, t => bif Nat.beq x.t t then true else ptIn r t
def eqIn : List (EqE P) → Nat → Option (List Bool)
  | [], _ => none
  | x :: r, t => bif Nat.beq x.t t then some x.l else eqIn r t
def boIn : List (BoE P) → Nat → Bool
  | [], _ => false
  | x :: r, t => Nat.beq x.t t || boIn r t
def stIn : List (StE P) → Nat → Bool
  | [], _ => false
  | x :: r, t => Nat.beq x.t t || stIn r t
def byIn : List (ByE P) → Nat → Option Nat
  | [], _ => none
  | x :: r, t => bif Nat.beq x.t t then some x.n else byIn r t
def ikIn : List (IkE P) → Nat → Option IntKind
  | [], _ => none
  | x :: r, t => bif Nat.beq x.t t then some x.k else ikIn r t
theorem ikIn_ok {t : Nat} {k : IntKind} : ∀ {l : List (IkE P)}, ikIn l t = some k → P.underlying t = some (.int k)
  | [], h => by cases h
  | x :: r, h => by
    simp only [ikIn] at h
    cases hb : Nat.beq x.t t with
    | false => rw [hb] at h; exact ikIn_ok (l := r) h
    | true =>
      rw [hb] at h
      simp [Nat.beq_eq] at hb h
      have := x.h
      rw [hb, h] at this
      unfold ikOf at this
      split at this <;> simp_all
theorem byIn_ok {t : Nat} {o} : ∀ {l : List (ByE P)}, byIn l t = some o → (P.info? t).map (·.bytes) = some o
  | [], h => by cases h
  | x :: r, h => by
    simp only [byIn] at h
    cases hb : Nat.beq x.t t with
    | false => rw [hb] at h; exact byIn_ok (l := r) h
    | true => rw [hb] at h; simp [Nat.beq_eq] at hb h; rw [← hb, ← h]; exact x.h
theorem eqIn_ok {t : Nat} {o} : ∀ {l : List (EqE P)}, eqIn l t = some o → flatOf P t = some o
  | [], h => by cases h
  | x :: r, h => by
    simp only [eqIn] at h
    cases hb : Nat.beq x.t t with
    | false => rw [hb] at h; exact eqIn_ok (l := r) h
    | true => rw [hb] at h; simp [Nat.beq_eq] at hb h; rw [← hb, ← h]; exact x.h
theorem boIn_ok {t : Nat} : ∀ {l : List (BoE P)}, boIn l t = true → P.underlying t = some .bool
  | [], h => by cases h
  | x :: r, h => by
    simp only [boIn, Bool.or_eq_true, Nat.beq_eq] at h
    rcases h with h | h
    · have := x.h
      unfold isBoT at this
      subst h
      split at this <;> simp_all
    · exact boIn_ok (l := r) h
theorem stIn_ok {t : Nat} : ∀ {l : List (StE P)}, stIn l t = true → P.underlying t = some .string
  | [], h => by cases h
  | x :: r, h => by
    simp only [stIn, Bool.or_eq_true, Nat.beq_eq] at h
    rcases h with h | h
    · have := x.h
      unfold isStT at this
      subst h
      split at this <;> simp_all
    · exact stIn_ok (l := r) h
theorem ptIn_ok {t : Nat} : ∀ {l : List (PtE P)}, ptIn l t = true → P.underlying t = some (.pointer (P.pointee t))
  | [], h => by cases h
  | x :: r, h => by
    simp only [ptIn] at h
    cases hb : Nat.beq x.t t with
    | false => rw [hb] at h; exact ptIn_ok (l := r) h
    | true =>
      simp [Nat.beq_eq] at hb
      have := x.h
      rw [hb] at this
      unfold ptOf at this
      unfold Program.pointee
      split at this <;> simp_all
theorem foIn_ok {s f o : Nat} : ∀ {l : List (FoE P)}, foIn l s f = some o → fOff P s f = some o
  | [], h => by cases h
  | x :: r, h => by
    simp only [foIn] at h
    cases hb : (Nat.beq x.s s && Nat.beq x.f f) with
    | false => rw [hb] at h; exact foIn_ok (l := r) h
    | true =>
      rw [hb] at h
      simp [Nat.beq_eq] at hb h
      rw [← hb.1, ← hb.2, ← h]
      exact x.h
theorem szIn_ok {t : Nat} {o} : ∀ {l : List (SzE P)}, szIn l t = some o → szOf P t = some o
  | [], h => by cases h
  | x :: r, h => by
    simp only [szIn] at h
    cases hb : Nat.beq x.t t with
    | false => rw [hb] at h; exact szIn_ok (l := r) h
    | true => rw [hb] at h; simp [Nat.beq_eq] at hb h; rw [← hb, ← h]; exact x.h
theorem elIn_ok {t : Nat} {o} : ∀ {l : List (ElE P)}, elIn l t = some o → elOf P t = some o
  | [], h => by cases h
  | x :: r, h => by
    simp only [elIn] at h
    cases hb : Nat.beq x.t t with
    | false => rw [hb] at h; exact elIn_ok (l := r) h
    | true => rw [hb] at h; simp [Nat.beq_eq] at hb h; rw [← hb, ← h]; exact x.h
theorem zeIn_ok {t : Nat} {o} : ∀ {l : List (ZeE P)}, zeIn l t = some o → zeroOf P t = some o
  | [], h => by cases h
  | x :: r, h => by
    simp only [zeIn] at h
    cases hb : Nat.beq x.t t with
    | false => rw [hb] at h; exact zeIn_ok (l := r) h
    | true => rw [hb] at h; simp [Nat.beq_eq] at hb h; rw [← hb, ← h]; exact x.h
theorem flIn_ok {t : Nat} {o} : ∀ {l : List (FlE P)}, flIn l t = some o → fldsOf P t = some o
  | [], h => by cases h
  | x :: r, h => by
    simp only [flIn] at h
    cases hb : Nat.beq x.t t with
    | false => rw [hb] at h; exact flIn_ok (l := r) h
    | true => rw [hb] at h; simp [Nat.beq_eq] at hb h; rw [← hb, ← h]; exact x.h
end

/-! ## Operations that read alone -/
section
variable {P : Program} {B : Base} {e : Env} {K : List Ent} {d : Option Tmp} {t : TypeId} {p : String} {af : Array Edge} {g : Option (Nat × Bool)}

theorem FS_move {x : Operand} {v : Value} (hx : e.ev x = some v) : FS P B ⟨d, .move x, t, p, af, g⟩ e K v := by
  intro w ρ _ ha
  have := ha x (by simp [Op.operands]) v hx
  simp [execOp, this]
theorem FS_assign {x : Operand} {v : Value} (hx : e.ev x = some v) : FS P B ⟨d, .assign x, t, p, af, g⟩ e K v := by
  intro w ρ _ ha
  have := ha x (by simp [Op.operands]) v hx
  simp [execOp, this]
theorem FS_pick {c x y : Operand} {b : Bool} {v : Value} (hc : e.ev c = some (.bool b)) (hv : (bif b then e.ev x else e.ev y) = some v) : FS P B ⟨d, .pick c x y, t, p, af, g⟩ e K v := by
  intro w ρ _ ha
  have h1 := ha c (by simp [Op.operands]) _ hc
  cases b with
  | true => have h2 := ha x (by simp [Op.operands]) _ hv; simp [execOp, h1, h2, asBool]
  | false => have h2 := ha y (by simp [Op.operands]) _ hv; simp [execOp, h1, h2, asBool]
theorem FS_nilCheck {x : Operand} {a : Addr} (hx : e.ev x = some (.pointer (some a))) : FS P B ⟨d, .nilCheck x, t, p, af, g⟩ e K (.pointer (some a)) := by
  intro w ρ _ ha
  have := ha x (by simp [Op.operands]) _ hx
  simp [execOp, this]
theorem FS_not {s : TypeId} {x : Operand} {b : Bool} (hx : e.ev x = some (.bool b)) : FS P B ⟨d, .unOp .not s x, t, p, af, g⟩ e K (.bool (!b)) := by
  intro w ρ _ ha
  have := ha x (by simp [Op.operands]) _ hx
  simp [execOp, this, Op.unary]

/-- The value of an operation on two ints of one kind. -/
def intBin (op : BinOp) (k : IntKind) (a b : Int) : Option Value :=
  match op with
  | .add => some (.int k (k.wrap (a + b)))
  | .sub => some (.int k (k.wrap (a - b)))
  | .mul => some (.int k (k.wrap (a * b)))
  | .eql => some (.bool (a == b))
  | .neq => some (.bool (a != b))
  | .lss => some (.bool (decide (a < b)))
  | .leq => some (.bool (decide (a ≤ b)))
  | .gtr => some (.bool (decide (a > b)))
  | .geq => some (.bool (decide (a ≥ b)))
  | _ => none
theorem FS_int {op : BinOp} {s s' : TypeId} {x y : Operand} {k : IntKind} {a b : Int} {v : Value} (hx : e.ev x = some (.int k a)) (hy : e.ev y = some (.int k b)) (hv : intBin op k a b = some v) :
    FS P B ⟨d, .binOp op s x y s', t, p, af, g⟩ e K v := by
  intro w ρ _ ha
  have h1 := ha x (by simp [Op.operands]) _ hx
  have h2 := ha y (by simp [Op.operands]) _ hy
  cases op <;> simp [intBin] at hv <;> subst hv <;> simp [execOp, h1, h2, eqGuard, binOp, Op.intArith, Op.intCmp]
/-- A sum that fits. -/
theorem FS_add {s s' : TypeId} {x y : Operand} {a b : Int} (hx : e.ev x = some (.int .i64 a)) (hy : e.ev y = some (.int .i64 b)) (h0 : -9223372036854775808 ≤ a + b) (h1 : a + b ≤ 9223372036854775807) :
    FS P B ⟨d, .binOp .add s x y s', t, p, af, g⟩ e K (.int .i64 (a + b)) := by
  refine FS_int hx hy ?_
  simp only [intBin]
  rw [IntWalk.i64_in _ (by omega)]
theorem FS_sub {s s' : TypeId} {x y : Operand} {a b : Int} (hx : e.ev x = some (.int .i64 a)) (hy : e.ev y = some (.int .i64 b)) (h0 : -9223372036854775808 ≤ a - b) (h1 : a - b ≤ 9223372036854775807) :
    FS P B ⟨d, .binOp .sub s x y s', t, p, af, g⟩ e K (.int .i64 (a - b)) := by
  refine FS_int hx hy ?_
  simp only [intBin]
  rw [IntWalk.i64_in _ (by omega)]
theorem FS_mul {s s' : TypeId} {x y : Operand} {a b : Int} (hx : e.ev x = some (.int .i64 a)) (hy : e.ev y = some (.int .i64 b)) (h0 : -9223372036854775808 ≤ a * b) (h1 : a * b ≤ 9223372036854775807) :
    FS P B ⟨d, .binOp .mul s x y s', t, p, af, g⟩ e K (.int .i64 (a * b)) := by
  refine FS_int hx hy ?_
  simp only [intBin]
  rw [IntWalk.i64_in _ ⟨h0, h1⟩]
theorem FS_ptrNil (T : Tab P) {s s' : TypeId} {x : Operand} {a : Option Addr} (hx : e.ev x = some (.pointer a)) (hp : ptIn T.pts s = true) :
    FS P B ⟨d, .binOp .eql s x (.const (.pointer none)) s', t, p, af, g⟩ e K (.bool a.isNone) := by
  intro w ρ _ ha
  have h1 := ha x (by simp [Op.operands]) _ hx
  have h2 := ha (.const (.pointer none)) (by simp [Op.operands]) (.pointer none) rfl
  have h3 := run_eql_pointer_nil w s a (ptIn_ok hp)
  simp [execOp, h1, h2, eqGuard, h3]
theorem FS_ptrNotNil (T : Tab P) {s s' : TypeId} {x : Operand} {a : Option Addr} (hx : e.ev x = some (.pointer a)) (hp : ptIn T.pts s = true) :
    FS P B ⟨d, .binOp .neq s x (.const (.pointer none)) s', t, p, af, g⟩ e K (.bool !a.isNone) := by
  intro w ρ _ ha
  have h1 := ha x (by simp [Op.operands]) _ hx
  have h2 := ha (.const (.pointer none)) (by simp [Op.operands]) (.pointer none) rfl
  have h3 := run_neq_pointer_nil w s a (ptIn_ok hp)
  simp [execOp, h1, h2, eqGuard, h3]
theorem FS_extract {x : Operand} {vs : Array Value} {i : Nat} {v : Value} (hx : e.ev x = some (.tuple vs)) (hv : vs[i]? = some v) : FS P B ⟨d, .extract x i, t, p, af, g⟩ e K v := by
  intro w ρ _ ha
  have := ha x (by simp [Op.operands]) _ hx
  simp [execOp, this, Instr.extract, hv]
theorem FS_field (T : Tab P) {s f o b q : Nat} {x : Operand} (hx : e.ev x = some (.pointer (some ⟨b, q, none⟩))) (hf : foIn T.fos s f = some o) : FS P B ⟨d, .fieldAddr s x f, t, p, af, g⟩ e K (.pointer (some ⟨b, q + o, none⟩)) := by
  intro w ρ _ ha
  have h1 := ha x (by simp [Op.operands]) _ hx
  have h2 := foIn_ok hf
  unfold fOff at h2
  split at h2
  · rename_i fs hu
    cases hfd : fs[f]? with
    | none => simp [hfd] at h2
    | some fd =>
      cases hi : P.info? fd.type with
      | none => simp [hfd, hi] at h2
      | some i =>
        simp only [hfd, hi, Option.bind_some] at h2
        split at h2
        · cases h2
        · rename_i hz
          injection h2 with h2
          subst h2
          simp [execOp, h1, Instr.fieldAt, run_underlying hu, hfd, Instr.sureAddr, fieldPlace, sizeOf, typeInfo, hi, hz, Addr.add]
  · cases h2
theorem elOf_slice {s ee z : Nat} (h2 : elOf P s = some (none, ee, z)) : P.underlying s = some (.slice ee) ∧ ∃ i, P.info? ee = some i ∧ i.size = z := by
  unfold elOf at h2
  split at h2
  · rename_i e' hu
    cases hi : P.info? e' with
    | none => simp [hi] at h2
    | some j =>
      simp only [hi, Option.map_some, Option.some.injEq, Prod.mk.injEq, true_and] at h2
      obtain ⟨rfl, rfl⟩ := h2
      exact ⟨hu, j, hi, rfl⟩
  · rename_i m' e' hu
    cases hi : P.info? e' <;> simp [hi] at h2
  · cases h2
theorem elOf_array {s ee z m : Nat} (h2 : elOf P s = some (some m, ee, z)) : P.underlying s = some (.array m ee) ∧ ∃ i, P.info? ee = some i ∧ i.size = z := by
  unfold elOf at h2
  split at h2
  · rename_i e' hu
    cases hi : P.info? e' <;> simp [hi] at h2
  · rename_i m' e' hu
    cases hi : P.info? e' with
    | none => simp [hi] at h2
    | some j =>
      simp only [hi, Option.map_some, Option.some.injEq, Prod.mk.injEq] at h2
      obtain ⟨rfl, rfl, rfl⟩ := h2
      exact ⟨hu, j, hi, rfl⟩
  · cases h2
theorem FS_index (T : Tab P) {s ee z : Nat} {x y : Operand} {b q len cap : Nat} {k : IntKind} {i : Int} (hx : e.ev x = some (.slice (some ⟨b, q, none⟩) len cap)) (hy : e.ev y = some (.int k i)) (ht : elIn T.els s = some (none, ee, z))
    (h0 : 0 ≤ i) (h1 : i < len) : FS P B ⟨d, .indexAddr s x y, t, p, af, g⟩ e K (.pointer (some ⟨b, q + i.toNat * z, none⟩)) := by
  intro w ρ _ ha
  have hx := ha x (by simp [Op.operands]) _ hx
  have hy := ha y (by simp [Op.operands]) _ hy
  obtain ⟨hu, j, hi, rfl⟩ := elOf_slice (elIn_ok ht)
  simp [execOp, hx, hy, Instr.indexAt, asIntOf, run_underlying hu, h0, h1, sizeOf, typeInfo, hi, Addr.add]
theorem FS_indexA (T : Tab P) {s ee z m : Nat} {x y : Operand} {b q : Nat} {k : IntKind} {i : Int} (hx : e.ev x = some (.pointer (some ⟨b, q, none⟩))) (hy : e.ev y = some (.int k i)) (ht : elIn T.els s = some (some m, ee, z))
    (h0 : 0 ≤ i) (h1 : i < m) : FS P B ⟨d, .indexAddr s x y, t, p, af, g⟩ e K (.pointer (some ⟨b, q + i.toNat * z, none⟩)) := by
  intro w ρ _ ha
  have hx := ha x (by simp [Op.operands]) _ hx
  have hy := ha y (by simp [Op.operands]) _ hy
  obtain ⟨hu, j, hi, rfl⟩ := elOf_array (elIn_ok ht)
  simp [execOp, hx, hy, Instr.indexAt, asIntOf, run_underlying hu, h0, h1, sizeOf, typeInfo, hi, Addr.add, Instr.sureAddr]
theorem FS_len (T : Tab P) {x : Operand} {s ee z : Nat} {A : Option Addr} {len cap : Nat} (hx : e.ev x = some (.slice A len cap)) (ht : elIn T.els s = some (none, ee, z)) :
    FS P B ⟨d, .call { callee := .builtin .len, args := #[x], argTypes := #[s] }, t, p, af, g⟩ e K (.int .i64 len) := by
  intro w ρ _ ha
  have hx := ha x (by simp [Op.operands, Call.operands]) _ hx
  simp [execOp, resolve, hx, invoke, builtin, Builtin.len_, run_underlying (elOf_slice (elIn_ok ht)).1, goInt]
end
end Go.Proofs.Ytmhjcemcjfkejaa
