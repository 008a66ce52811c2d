/- The calculus, eighteenth part: parts of values; a slice's tail. -/
import Derived.Test.YtmhjcemcjfkejaaJ17
namespace Go.Proofs.Ytmhjcemcjfkejaa
open Go.RowKit
set_option linter.unusedVariables false
set_option linter.unusedSimpArgs false
section
variable {P : Program} {B : Base} {e : Env} {K : List Ent} {d : Option Tmp} {t : TypeId} {p : String} {af : Array Edge} {g : Option (Nat × Bool)}
theorem run_partv {w : World} {o : Nat} {ty : TypeId} {gs : Bool × Nat} {cs : List Value} {v : Value} (hs : szOf P ty = some gs) (hv : ldv gs cs o = some v) : (part ty cs.toArray o).run P w = .ok v w := by
  obtain ⟨g, s⟩ := gs
  obtain ⟨d, i, hd, hi, rfl, rfl⟩ := szOf_spec hs
  have hagg : (isAgg ty).run P w = .ok d.isRow w := by
    unfold isAgg
    rw [Sem.run_bind, run_underlying hd w]
    cases d <;> simp [TypeDesc.isRow]
  unfold ldv at hv
  cases hrow : d.isRow with
  | true =>
    simp only [hrow, cond_true] at hv
    cases hle : Nat.ble (o + i.size) cs.length with
    | false => simp [hle] at hv
    | true =>
      simp only [hle, cond_true, Option.some.injEq] at hv
      subst hv
      simp [part, hagg, hrow, sizeOf, typeInfo, hi]
  | false =>
    simp only [hrow, cond_false] at hv
    simp [part, hagg, hrow, hv]
theorem FS_indexV (T : Tab P) {s ee z m : Nat} {x y : Operand} {cs : List Value} {k : IntKind} {i : Int} {gs : Bool × Nat} {v : Value} (hx : e.ev x = some (.agg cs.toArray)) (hy : e.ev y = some (.int k i)) (ht : elIn T.els s = some (some m, ee, z)) (hs : szIn T.szs ee = some gs)
    (h0 : 0 ≤ i) (h1 : i < m) (hv : ldv gs cs (i.toNat * z) = some v) : FS P B ⟨d, .index s x y, t, p, af, g⟩ e K v := by
  intro w ρ _ ha
  have hx := ha x (by simp [Op.operands]) _ hx
  have hy := ha y (by simp [Op.operands]) _ hy
  obtain ⟨hu, j, hi, rfl⟩ := elOf_array (elIn_ok ht)
  have := run_partv (w := w) (szIn_ok hs) hv
  simp [execOp, hx, hy, Instr.index, asIntOf, run_underlying hu, h0, h1, sizeOf, typeInfo, hi, this]
/-- An array out of its parts. -/
theorem FS_buildA (T : Tab P) {s ee zz m : Nat} {ps : List (Nat × Operand)} {vs : List (Nat × Value)} {z cs : List Value} (hz : zeIn T.zes s = some z) (ht : elIn T.els s = some (some m, ee, zz)) (hp : partsL e ps = some vs)
    (hc : fillL (fun i => some (i * zz, zz)) z vs = some cs) : FS P B ⟨d, .build s ps.toArray, t, p, af, g⟩ e K (.agg cs.toArray) := by
  intro w ρ hw ha
  obtain ⟨i, v, hi, hz, hv⟩ := zeroOf_spec (zeIn_ok hz)
  obtain ⟨hu, j, hj, rfl⟩ := elOf_array (elIn_ok ht)
  have hmap := partsL_map (ρ := ρ) hp (fun q hq u hu => ha q.2 (by simp [Op.operands]; exact ⟨q.1, hq⟩) u hu)
  have hfill := fill_of hc
  have hfill' : Instr.fill (fun i => some (i * j.size, j.size)) z.toArray (ps.map fun q => (q.1, ρ q.2)) = some cs.toArray := by
    rw [hmap]
    exact hfill
  have hzero : (zeroValue s).run P w = .ok v w := by simp [zeroValue, typeInfo, hi, hz]
  have hsz : (sizeOf ee).run P w = .ok j.size w := by simp [sizeOf, typeInfo, hj]
  unfold execOp
  simp only [Instr.build, Sem.run_bind, hzero, Result.andThen_ok, run_underlying hu w, hsz, hv]
  simp [hfill']
end
/-- s[1:], of a slice of one's own: x was its first element; n are left. -/
def Sl.tl (x : List Value) (n : Nat) : Option Sl → Option Sl
  | none => none
  | some s => if n + s.k = 0 then some ⟨s.b, s.pre, 0⟩ else some ⟨s.b, s.pre ++ x, s.k⟩
theorem Sl.tl_v {x : List Value} {n z : Nat} {b k : Nat} {pre : List Value} (hx : x.length = z) :
    Value.slice (slA (Sl.addr (some ⟨b, pre, k⟩)) (Sl.cap (n + 1) (some ⟨b, pre, k⟩)) 1 z) (n + 1 - 1) (Sl.cap (n + 1) (some ⟨b, pre, k⟩) - 1) = .slice (Sl.addr (Sl.tl x n (some ⟨b, pre, k⟩))) n (Sl.cap n (Sl.tl x n (some ⟨b, pre, k⟩))) := by
  by_cases h : n + k = 0
  · have hn : n = 0 := by omega
    have hk : k = 0 := by omega
    subst hn; subst hk
    simp [Sl.tl, slA, Sl.addr, Sl.cap]
  · have hne : Sl.cap (n + 1) (some ⟨b, pre, k⟩) ≠ 1 := by simp only [Sl.cap]; omega
    rw [show Sl.addr (some ⟨b, pre, k⟩) = some ⟨b, pre.length, none⟩ from rfl, slA_some hne]
    simp only [Sl.tl, h, if_false]
    simp only [Sl.addr, Sl.cap, Nat.one_mul, List.length_append, hx]
    congr 1
    omega
theorem Sl.tl_imp {α : Type} {f : α → List Value} {T z : Nat} (hf : ∀ x, (f x).length = z) {x : α} {l : List α} {s : Option Sl} : Imp [Sl.e T z (rows f (x :: l)) s] [Sl.e T z (rows f l) (Sl.tl (f x) l.length s)] := by
  cases s with
  | none =>
    refine ⟨fun w hw e he => ?_, [], by simp [Sl.tl, blks_one, Sl.e, Ent.one]⟩
    have := Sl.none_nil (hw _ (List.mem_singleton.2 rfl))
    have h2 : (rows f (x :: l)).length = 0 := by rw [this]; rfl
    rw [rows_length hf, List.length_cons] at h2
    simp only [List.mem_singleton] at he
    subst he
    have h3 : rows f l = [] := by
      apply List.length_eq_zero_iff.1
      rw [rows_length hf]
      rw [Nat.add_mul] at h2
      omega
    exact (show (Sl.e T z (rows f l) none).ok w from ⟨.cells #[] 0 (0, 0), by simp, h3⟩)
  | some s =>
    obtain ⟨b, pre, k⟩ := s
    by_cases h : l.length + k = 0
    · have hn : l = [] := List.length_eq_zero_iff.1 (by omega)
      subst hn
      rw [show Sl.tl (f x) ([] : List α).length (some ⟨b, pre, k⟩) = some ⟨b, pre, 0⟩ from if_pos h]
      refine ⟨fun w hw e he => ?_, [], by simp [blks_one, Sl.e, Ent.one]⟩
      simp only [List.mem_singleton] at he
      subst he
      obtain ⟨o, ho, r, hr, rfl⟩ := hw _ (List.mem_singleton.2 rfl)
      exact ⟨_, ho, f x ++ r, by simp, by simp [rows]⟩
    · rw [Sl.shift]
      simp only [Sl.tl, h, if_false]
      exact Imp.refl _
end Go.Proofs.Ytmhjcemcjfkejaa
