/- The calculus, second part: one lemma a kind of operation: what it answers, what it needs of the frame and of memory. Stated over any program P, with a table T of facts on its types. -/
import Derived.Test.YtmhjcemcjfkejaaJ
namespace Go.Proofs.Ytmhjcemcjfkejaa
open Go.RowKit

/-- The frame ρ says what e says, at the operands of o. -/
def Ag (e : Env) (o : Oper) (ρ : Operand → Value) : Prop := ∀ x ∈ o.op.operands.toList, ∀ u, e.ev x = some u → ρ x = u
theorem EnvOK.ag {e : Env} {a : Act} (h : EnvOK e a) (o : Oper) : Ag e o a.eval := fun _ _ _ hx => h.ev hx

/-- An operation that reads alone answers v. -/
def FS (P : Program) (B : Base) (o : Oper) (e : Env) (K : List Ent) (v : Value) : Prop :=
  ∀ w ρ, SM B K w → Ag e o ρ → (execOp ρ o).run P w = .ok (.value v) w
/-- An operation answers v i and leaves K' i, for some i. -/
def LS (P : Program) (B : Base) (o : Oper) (e : Env) (K : List Ent) {ι : Type} (v : ι → Value) (K' : ι → List Ent) : Prop :=
  ∀ w a, SM B K w → Ag e o a.eval → ∀ (next : Act → World → Prop) (Q : Exit → Act → World → Prop), (∀ i w', SM B (K' i) w' → next (a.put o.dst (v i)) w') → o.wp P a w next Q

theorem FS.ls {P : Program} {B : Base} {o : Oper} {e : Env} {K : List Ent} {v : Value} (h : FS P B o e K v) : LS P B o e K (fun _ : Unit => v) (fun _ => K) := by
  intro w a hw ha next Q hn
  unfold Oper.wp
  rw [h w a.eval hw ha]
  exact hn () w hw

section
variable {P : Program} {Fin : Exit → Act → World → Prop} {B : Base} {n : Nat} {k : List It} {e : Env} {K : List Ent} {ops : Array Oper} {rest : List Oper}

def RJ (P : Program) (Fin : Exit → Act → World → Prop) (B : Base) (n : Nat) (ops : Array Oper) (l : List Oper) (e : Env) (K : List Ent) (k : List It) : Prop :=
  ∀ a w, AS n e a → SM B K w → wpList P ops (wpS P Fin k) l a w

theorem JS_region {id : Nat} {l : List Oper} (h : RJ P Fin B n l.toArray l e K k) : JS P Fin B n (.c (.region id l.toArray false) :: k) e K :=
  fun a w ha hw => wp_region_lit (h a w ha hw)
theorem RJ_nil (h : JS P Fin B n k e K) : RJ P Fin B n ops [] e K k := fun a w ha hw => wpList_nil (h a w ha hw)
theorem RJ_loud {d : Option Tmp} {op : Op} {t : TypeId} {p : String} {af : Array Edge} {ι : Type} {v : ι → Value} {K' : ι → List Ent} (hs : LS P B ⟨d, op, t, p, af, none⟩ e K v K') (hd : (d.all fun x => Nat.blt x n) = true)
    (h : ∀ i, RJ P Fin B n ops rest (e.put d (v i)) (K' i) k) : RJ P Fin B n ops (⟨d, op, t, p, af, none⟩ :: rest) e K k := by
  intro a w ha hw
  refine wpList_plain rfl fun Kn hK => hs w a hw (ha.ok.ag _) _ _ fun i w' hw' => hK _ _ (h i _ w' (ha.put fun x hx => ?_) hw')
  subst hx
  simpa [Nat.blt_eq] using hd
theorem RJ_float {d : Option Tmp} {op : Op} {t : TypeId} {p : String} {af : Array Edge} {v : Value} (hs : FS P B ⟨d, op, t, p, af, none⟩ e K v) (hd : (d.all fun x => Nat.blt x n) = true)
    (h : RJ P Fin B n ops rest (e.put d v) K k) : RJ P Fin B n ops (⟨d, op, t, p, af, none⟩ :: rest) e K k := RJ_loud hs.ls hd fun _ => h

def boolOf : Value → Option Bool
  | .bool b => some b
  | _ => none
theorem yielded_of {a : Act} {j : Nat} {d : Tmp} {u : Value} (hj : (ops[j]?).bind (·.dst) = some d) (he : EnvOK e a) (hd : e.get d = some u) : yielded ops a.tmps j = boolOf u := by
  unfold yielded
  simp only [hj, Option.bind_some, he d u hd]
  cases u <;> rfl
theorem RJ_skip_ {o : Oper} {j : Nat} {want : Bool} {d : Tmp} {u : Value} (hg : o.guard = some (j, want)) (hj : (ops[j]?).bind (·.dst) = some d) (hd : e.get d = some u) (hu : u ≠ .bool want) (ho : (o.dst.all fun x => Nat.blt x n) = true)
    (h : RJ P Fin B n ops rest (e.put o.dst undef) K k) : RJ P Fin B n ops (o :: rest) e K k := by
  intro a w ha hw
  refine wpList_skip ?_ (h _ w (ha.put fun x hx => ?_) hw)
  · simp only [Region.wanted, hg, yielded_of hj ha.ok hd]
    cases u <;> simp [boolOf] at hu ⊢
    exact hu
  · rw [hx] at ho
    simpa [Nat.blt_eq] using ho
/-- The guard says no. -/
theorem RJ_no {d' : Option Tmp} {op : Op} {t : TypeId} {p : String} {af : Array Edge} {j : Nat} {want : Bool} {d : Tmp} (hj : (ops[j]?).bind (·.dst) = some d) (hd : e.get d = some (.bool !want)) (ho : (d'.all fun x => Nat.blt x n) = true)
    (h : RJ P Fin B n ops rest (e.put d' undef) K k) : RJ P Fin B n ops (⟨d', op, t, p, af, some (j, want)⟩ :: rest) e K k :=
  RJ_skip_ rfl hj hd (by cases want <;> simp) ho h
/-- The guard itself was passed over. -/
theorem RJ_none {d' : Option Tmp} {op : Op} {t : TypeId} {p : String} {af : Array Edge} {j : Nat} {want : Bool} {d : Tmp} (hj : (ops[j]?).bind (·.dst) = some d) (hd : e.get d = some undef) (ho : (d'.all fun x => Nat.blt x n) = true)
    (h : RJ P Fin B n ops rest (e.put d' undef) K k) : RJ P Fin B n ops (⟨d', op, t, p, af, some (j, want)⟩ :: rest) e K k :=
  RJ_skip_ rfl hj hd (by simp [undef]) ho h
/-- The guard says yes. -/
theorem RJ_yes {d' : Option Tmp} {op : Op} {t : TypeId} {p : String} {af : Array Edge} {j : Nat} {want : Bool} {d : Tmp} (hj : (ops[j]?).bind (·.dst) = some d) (hd : e.get d = some (.bool want))
    (h : RJ P Fin B n ops (⟨d', op, t, p, af, none⟩ :: rest) e K k) : RJ P Fin B n ops (⟨d', op, t, p, af, some (j, want)⟩ :: rest) e K k := by
  intro a w ha hw
  have h1 := h a w ha hw
  have hw : Region.wanted ⟨d', op, t, p, af, some (j, want)⟩ (yielded ops a.tmps) = true := by simp [Region.wanted, yielded_of hj ha.ok hd, boolOf]
  unfold wpList at h1 ⊢
  rw [if_pos hw]
  rw [if_pos (by rfl)] at h1
  exact h1
/-- Not known yet: two ways. -/
theorem RJ_ask {d' : Option Tmp} {op : Op} {t : TypeId} {p : String} {af : Array Edge} {j : Nat} {want b : Bool} {d : Tmp} (hj : (ops[j]?).bind (·.dst) = some d) (hd : e.get d = some (.bool b))
    (hy : b = want → RJ P Fin B n ops (⟨d', op, t, p, af, none⟩ :: rest) ((d, .bool want) :: e) K k) (hno : b = (!want) → RJ P Fin B n ops (⟨d', op, t, p, af, some (j, want)⟩ :: rest) ((d, .bool !want) :: e) K k) :
    RJ P Fin B n ops (⟨d', op, t, p, af, some (j, want)⟩ :: rest) e K k := by
  intro a w ha hw
  have up : ∀ u, e.get d = some u → AS n ((d, u) :: e) a := fun u hu => ⟨ha.df, ha.sz, fun i v hv => by
    rw [Env.get_cons] at hv
    by_cases hi : d = i
    · subst hi
      simp at hv
      subst hv
      exact ha.ok d u hu
    · rw [if_neg hi] at hv
      exact ha.ok i v hv⟩
  by_cases hb : b = want
  · subst hb
    exact (RJ_yes (e := (d, .bool b) :: e) hj (by simp [Env.get]) (hy rfl)) a w (up _ hd) hw
  · have hb' : b = !want := by cases b <;> cases want <;> simp_all
    subst hb'
    exact hno rfl a w (up _ hd) hw
end
end Go.Proofs.Ytmhjcemcjfkejaa
