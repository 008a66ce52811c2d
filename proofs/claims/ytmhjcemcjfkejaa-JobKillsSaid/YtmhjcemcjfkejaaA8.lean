/- a task's turns -/
import Derived.Test.YtmhjcemcjfkejaaA7
namespace Go.Proofs.Ytmhjcemcjfkejaa
open Go.RowKit
open Go.Proofs
set_option linter.unusedVariables false
set_option linter.unusedSimpArgs false
set_option linter.unnecessarySimpa false
set_option maxRecDepth 20000
def idxF {α : Type} (p : α → Bool) (xs : List α) : Int := match xs.findIdx? p with
  | some i => i
  | none => -1
theorem idxF_at {α : Type} {p : α → Bool} {xs : List α} {i : Nat} (hi : i < xs.length) (h1 : p xs[i] = true) (h : ∀ k (h : k < xs.length), k < i → p (xs[k]'h) = false) : idxF p xs = i := by
  have : xs.findIdx? p = some i := List.findIdx?_eq_some_iff_getElem.2 ⟨hi, h1, fun k hk => by simp [h k (by omega) hk]⟩
  simp [idxF, this]
theorem idxF_end {α : Type} {p : α → Bool} {xs : List α} {i : Nat} (hi : ¬ i < xs.length) (h : ∀ k (h : k < xs.length), k < i → p (xs[k]'h) = false) : idxF p xs = -1 := by
  have : xs.findIdx? p = none := List.findIdx?_eq_none_iff.2 fun x hx => by
    obtain ⟨k, hk, rfl⟩ := List.getElem_of_mem hx
    exact h k hk (by omega)
  simp [idxF, this]
theorem idxF_any {α : Type} {p : α → Bool} {xs : List α} : decide (idxF p xs ≥ 0) = xs.any p := by
  cases h : xs.findIdx? p with
  | none =>
    have := List.findIdx?_eq_none_iff.1 h
    have h2 : xs.any p = false := by rw [List.any_eq_false]; intro x hx; simp [this x hx]
    simp [idxF, h, h2]
  | some i =>
    obtain ⟨hi, h1, _⟩ := List.findIdx?_eq_some_iff_getElem.1 h
    have h2 : xs.any p = true := List.any_eq_true.2 ⟨_, List.getElem_mem hi, h1⟩
    simp only [idxF, h, h2, decide_eq_true_eq]
    omega
/-- What is asked of memory stays true while memory only grows. -/
def Keeps {α : Type} (p : α → World → Prop) : Prop := ∀ x w w', Only [] w w' → p x w → p x w'
theorem Keeps.true {α : Type} : Keeps (fun (_ : α) _ => True) := fun _ _ _ _ h => h
theorem indexI_c (A : Option Addr) (ca : Nat) (xs : List Int) (fid : Nat) (first cap : Array Value) (p : Int → Bool) (q : Int → World → Prop) (hq : Keeps q) (hcall : callable Try.prog fid = true) (hctr : ∀ x, x ∈ xs → Ctr Try.prog fid (first.toList ++ [vi x] ++ cap.toList) (q x) [] (fun _ : Unit => .bool (p x)) (fun _ => [])) : Ctr Try.prog 58 [.slice A xs.length ca, .func (.func fid) first cap] (fun w => RowAt w A (rows vi1 xs) ∧ xs.length ≤ 4294967296 ∧ ∀ x, x ∈ xs → q x w) ([]) (fun _ : Unit => vi (idxF p xs)) (fun _ => []) := by
  refine Ctr.of Try.func58 rfl (Nat.le_of_ble_eq_true rfl) fun w hw => ?_
  refine JS_live [(0, _), (1, _)] rfl ?_
  refine JS_seq ?_
  refine JS_region ?_
  refine RJ_float (FS_assign rfl) rfl ?_
  refine RJ_nil ?_
  refine JS_seq ?_
  refine JS_seq ?_
  refine JS_region ?_
  refine RJ_float (FS_move rfl) rfl ?_
  refine RJ_float (FS_len Try.tab rfl rfl) rfl ?_
  refine RJ_float (FS_move rfl) rfl ?_
  refine RJ_nil ?_
  refine JS_block ?_
  refine JS_loopF (ι := {i : Nat // i ≤ xs.length ∧ ∀ k (h : k < xs.length), k < i → p (xs[k]'h) = false}) [(0, _), (1, _), (7, _)] (fun ⟨i, hi⟩ => [(8, vi (i : Int))]) (fun _ => _) (fun ⟨i, hi⟩ => xs.length - i) ⟨0, by omega, by omega⟩ rfl (fun _ h => h) (fun ⟨i, hi⟩ => ?_)
  refine JS_live [(8, _), (0, _), (1, _), (7, _)] rfl ?_
  have hb := hw.2.1
  refine JS_seq ?_
  refine JS_region ?_
  refine RJ_float (FS_int rfl rfl rfl) rfl ?_
  refine RJ_nil ?_
  refine JS_seq ?_
  refine JS_condD rfl (fun h9 => ?_) (fun h9 => ?_)
  · have h9 : i < xs.length := by omega
    obtain ⟨b1, q1, rfl, r1⟩ := hw.1.part vi1l (by decide) h9
    refine JS_skip ?_
    refine JS_seq ?_
    refine JS_block ?_
    refine JS_seq ?_
    refine JS_region ?_
    refine RJ_float (FS_move rfl) rfl ?_
    refine RJ_float (FS_assign rfl) rfl ?_
    refine RJ_nil ?_
    refine JS_seq ?_
    refine JS_region ?_
    refine RJ_float (FS_move rfl) rfl ?_
    refine RJ_float (FS_move rfl) rfl ?_
    refine RJ_float (FS_move rfl) rfl ?_
    refine RJ_float (FS_index Try.tab rfl rfl rfl (by omega) (by omega)) rfl ?_
    refine RJ_float (FS_loadB0 Try.tab rfl rfl own0 r1 rfl) rfl ?_
    refine RJ_fun (LS_funv' rfl rfl rfl (hctr xs[i] (List.getElem_mem h9)) hcall (fun w h => hq _ _ _ h.only (hw.2.2 _ (List.getElem_mem h9)))) rfl ?_
    refine RJ_nil ?_
    refine JS_live [(8, _), (0, _), (1, _), (7, _), (5, _), (16, _)] rfl ?_
    refine JS_cond rfl (fun h16 => ?_) (fun h16 => ?_)
    · 
      refine JS_seq ?_
      refine JS_region ?_
      refine RJ_float (FS_move rfl) rfl ?_
      refine RJ_float (FS_assign rfl) rfl ?_
      refine RJ_nil ?_
      refine JS_live [(4, _)] rfl ?_
      exact JS_retv rfl (.tmp rfl .nil) (by rw [idxF_at h9 h16 hi.2]; rfl)
    · 
      refine JS_skip ?_
      refine JS_blk ?_
      refine JS_region ?_
      refine RJ_float (FS_add rfl rfl (by omega) (by omega)) rfl ?_
      refine RJ_float (FS_move rfl) rfl ?_
      refine RJ_nil ?_
      exact JS_againF ⟨i + 1, by omega, fa_succ hi.2 fun _ => h16⟩ (by simp; omega) rfl (fun _ h => h)
  · have h9 : ¬ i < xs.length := by omega
    refine JS_exit rfl ?_
    refine JS_seq ?_
    refine JS_region ?_
    refine RJ_float (FS_assign rfl) rfl ?_
    refine RJ_nil ?_
    exact JS_retv rfl (.tmp rfl .nil) (by rw [idxF_end h9 hi.2]; rfl)
theorem containsI_c (A : Option Addr) (ca : Nat) (xs : List Int) (fid : Nat) (first cap : Array Value) (p : Int → Bool) (q : Int → World → Prop) (hq : Keeps q) (hcall : callable Try.prog fid = true) (hctr : ∀ x, x ∈ xs → Ctr Try.prog fid (first.toList ++ [vi x] ++ cap.toList) (q x) [] (fun _ : Unit => .bool (p x)) (fun _ => [])) : Ctr Try.prog 51 [.slice A xs.length ca, .func (.func fid) first cap] (fun w => RowAt w A (rows vi1 xs) ∧ xs.length ≤ 4294967296 ∧ ∀ x, x ∈ xs → q x w) ([]) (fun _ : Unit => .bool (xs.any p)) (fun _ => []) := by
  refine Ctr.of Try.func51 rfl (Nat.le_of_ble_eq_true rfl) fun w hw => ?_
  refine JS_live [(0, _), (1, _)] rfl ?_
  refine JS_seq ?_
  refine JS_region ?_
  refine RJ_float (FS_assign rfl) rfl ?_
  refine RJ_nil ?_
  refine JS_seq ?_
  refine JS_region ?_
  refine RJ_float (FS_move rfl) rfl ?_
  refine RJ_float (FS_move rfl) rfl ?_
  refine RJ_fun (LS_fun (Try.can rfl) (indexI_c _ _ xs _ _ _ p q hq hcall hctr) rfl (fun w h => ⟨h.rowB rfl hw.1, hw.2.1, fun x hx => hq _ _ _ h.only (hw.2.2 x hx)⟩)) rfl ?_
  refine RJ_float (FS_int rfl rfl rfl) rfl ?_
  refine RJ_float (FS_assign rfl) rfl ?_
  refine RJ_nil ?_
  exact JS_retv rfl (.tmp rfl .nil) (by rw [← idxF_any]; rfl)
theorem bad_c (t : Int) : Ctr Try.prog 50 [vi t] (fun _ => True) ([]) (fun _ : Unit => .bool (!demandB t)) (fun _ => []) := by
  refine Ctr.of Try.func50 rfl (Nat.le_of_ble_eq_true rfl) fun w hw => ?_
  refine JS_live [(0, _)] rfl ?_
  refine JS_seq ?_
  refine JS_region ?_
  refine RJ_float (FS_assign rfl) rfl ?_
  refine RJ_nil ?_
  refine JS_seq ?_
  refine JS_region ?_
  refine RJ_float (FS_move rfl) rfl ?_
  refine RJ_fun (LS_fun (Try.can rfl) (demand_c _) rfl (fun _ _ => trivial)) rfl ?_
  refine RJ_float (FS_not rfl) rfl ?_
  refine RJ_float (FS_assign rfl) rfl ?_
  refine RJ_nil ?_
  exact JS_retv rfl (.tmp rfl .nil) (rfl)
end Go.Proofs.Ytmhjcemcjfkejaa
