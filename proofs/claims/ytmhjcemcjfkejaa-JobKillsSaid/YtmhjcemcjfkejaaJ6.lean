/- The calculus, sixth part: a region that draws its order. Operations that only read may be carried out early or late; those that do more stand in one row. -/
import Derived.Test.YtmhjcemcjfkejaaJ5
namespace Go.Proofs.Ytmhjcemcjfkejaa
open Go.RowKit
set_option linter.unusedVariables false
set_option linter.unusedSimpArgs false

/-- What operation i waits for. -/
def dep (ops : Array Oper) (i : Nat) : List Nat := match ops[i]? with | some o => (o.after.toList.filter (Region.binds .any)).map (·.on) | none => []
def dstOf (ops : Array Oper) (i : Nat) : Option Tmp := (ops[i]?).bind (·.dst)
def slotsOf : List Operand → List Nat
  | [] => []
  | .tmp t :: r => t :: slotsOf r
  | _ :: r => slotsOf r
def guardSlots (ops : Array Oper) : Option (Nat × Bool) → List Nat
  | some (j, _) => (dstOf ops j).toList
  | none => []
/-- The slots that operation i looks at. -/
def readsOf (ops : Array Oper) (i : Nat) : List Nat :=
  match ops[i]? with
  | some o => guardSlots ops o.guard ++ slotsOf o.op.operands.toList
  | none => []

section
variable (P : Program) (ops : Array Oper) (Q : Exit → Act → World → Prop)
/-- Operations X are done; whatever order is drawn for the others, Q. -/
def wpX (X : List Nat) (a : Act) (w : World) : Prop :=
  ∀ (fuel : Nat) (listed : Array Bool), listed.size = ops.size → (∀ i, i < ops.size → listed[i]? = some (decide (i ∈ X))) → ops.size ≤ fuel + X.length → X.Nodup → (∀ i ∈ X, i < ops.size) → wpAny P .any ops Q fuel listed a w
end

section
variable {P : Program} {ops : Array Oper} {Q : Exit → Act → World → Prop}

theorem mem_ready {listed : Array Bool} {i : Nat} : i ∈ Region.ready .any ops listed ↔ i < ops.size ∧ (listed[i]?).getD true = false ∧ ∀ j ∈ dep ops i, (listed[j]?).getD false = true := by
  unfold Region.ready
  rw [List.mem_filter, List.mem_range]
  simp only [Array.getD_eq_getD_getElem?]
  constructor
  · rintro ⟨hi, h⟩
    simp only [Bool.and_eq_true, Bool.not_eq_true'] at h
    refine ⟨hi, h.1, fun j hj => ?_⟩
    unfold dep at hj
    cases ho : ops[i]? with
    | none => simp [ho] at hj
    | some o =>
      simp only [ho, Option.map_some, Option.getD_some] at hj h
      obtain ⟨ed, hed, rfl⟩ := List.mem_map.1 hj
      obtain ⟨hm, hb⟩ := List.mem_filter.1 hed
      have h2 := h.2
      rw [← Array.all_toList, List.all_eq_true] at h2
      have := h2 ed hm
      rw [hb] at this
      simpa using this
  · rintro ⟨hi, h1, h2⟩
    refine ⟨hi, ?_⟩
    have ho : ops[i]? = some ops[i] := Array.getElem?_eq_getElem hi
    simp only [h1, Bool.not_false, Bool.true_and, ho, Option.map_some, Option.getD_some]
    rw [← Array.all_toList, List.all_eq_true]
    intro ed hed
    cases hb : Region.binds .any ed with
    | false => rfl
    | true =>
      simp only [Bool.not_true, Bool.false_or]
      refine h2 ed.on ?_
      unfold dep
      simp only [ho]
      exact List.mem_map.2 ⟨ed, List.mem_filter.2 ⟨hed, hb⟩, rfl⟩

theorem all_of_many {X : List Nat} {m : Nat} (hn : X.Nodup) (hX : ∀ i ∈ X, i < m) (hm : m ≤ X.length) : ∀ i, i < m → i ∈ X := by
  intro i hi
  rcases Classical.em (i ∈ X) with h | h
  · exact h
  · exfalso
    have hsub : (i :: X) ⊆ List.range m := by
      intro j hj
      rcases List.mem_cons.1 hj with rfl | hj
      · exact List.mem_range.2 hi
      · exact List.mem_range.2 (hX j hj)
    have := (List.Nodup.length_le_of_subset (List.nodup_cons.2 ⟨h, hn⟩) hsub)
    simp at this
    omega

theorem wpX_intro {X : List Nat} {a : Act} {w : World}
    (hend : (∀ i, i < ops.size → i ∈ X) → Q .normal a w) (hsome : (∀ i, i < ops.size → i ∈ X) ∨ ∃ i, i < ops.size ∧ i ∉ X ∧ ∀ j ∈ dep ops i, j ∈ X)
    (hlt : ∀ i, i < ops.size → ∀ j ∈ dep ops i, j < i)
    (h : ∀ i, i < ops.size → i ∉ X → (∀ j ∈ dep ops i, j ∈ X) → wpOp P ops Q i (wpX P ops Q (i :: X)) a w) : wpX P ops Q X a w := by
  intro fuel listed hsz hl hf hn hX
  have rd : ∀ i, i ∈ Region.ready .any ops listed ↔ i < ops.size ∧ i ∉ X ∧ ∀ j ∈ dep ops i, j ∈ X := by
    intro i
    rw [mem_ready]
    constructor
    · rintro ⟨hi, h1, h2⟩
      refine ⟨hi, ?_, fun j hj => ?_⟩
      · rw [hl i hi] at h1
        simpa using h1
      · have h3 := h2 j hj
        rw [hl j (Nat.lt_trans (hlt i hi j hj) hi)] at h3
        simpa using h3
    · rintro ⟨hi, h1, h2⟩
      refine ⟨hi, ?_, fun j hj => ?_⟩
      · rw [hl i hi]
        simpa using h1
      · rw [hl j (Nat.lt_trans (hlt i hi j hj) hi)]
        simpa using h2 j hj
  have hempty : Region.ready .any ops listed = [] → Q .normal a w := by
    intro he
    refine hend ?_
    rcases hsome with hs | ⟨i, hi⟩
    · exact hs
    · have := (rd i).2 hi
      rw [he] at this
      cases this
  cases fuel with
  | zero =>
    have hall : ∀ i, i < ops.size → i ∈ X := all_of_many hn hX (by omega)
    refine ⟨?_, hend hall⟩
    rw [List.eq_nil_iff_forall_not_mem]
    intro i hi
    obtain ⟨h1, h2, _⟩ := (rd i).1 hi
    exact h2 (hall i h1)
  | succ fuel =>
    refine ⟨hempty, fun i hi => ?_⟩
    obtain ⟨h1, h2, h3⟩ := (rd i).1 hi
    refine wpOp_mono (fun a w hx => hx fuel (listed.setIfInBounds i true) (by simpa using hsz) (fun j hj => ?_) (by simp; omega) (List.nodup_cons.2 ⟨h2, hn⟩) (fun j hj => ?_)) (h i h1 h2 h3)
    · by_cases hij : i = j
      · subst hij
        have : i < listed.size := by omega
        simp [this]
      · rw [Array.getElem?_setIfInBounds_ne hij, hl j hj]
        simp [Ne.symm hij]
    · rcases List.mem_cons.1 hj with rfl | hj
      · exact h1
      · exact hX j hj
end
end Go.Proofs.Ytmhjcemcjfkejaa
