/- rows of jobs that are made anew -/
import Derived.Test.YtmhjcemcjfkejaaA3
namespace Go.Proofs.Ytmhjcemcjfkejaa
open Go.RowKit
open Go.Proofs
set_option linter.unusedVariables false
set_option linter.unusedSimpArgs false
set_option linter.unnecessarySimpa false
set_option maxRecDepth 20000
theorem Job.one (x : Job) : (Job.cs x).all (·.oneCell') = true := rfl
theorem Ev.one (x : Ev) : (Ev.cs x).all (·.oneCell') = true := rfl
theorem vi1one (x : Int) : (vi1 x).all (·.oneCell') = true := rfl
theorem rows_nil {α : Type} {f : α → List Value} {z : Nat} (hf : ∀ x, (f x).length = z) (hz : 0 < z) {l : List α} (h : rows f l = []) : l = [] := by
  cases l with
  | nil => rfl
  | cons x r => exact absurd h (rows_ne hf hz (i := 0) (by simp))
theorem RowAt.nil {α : Type} {f : α → List Value} {z : Nat} (hf : ∀ x, (f x).length = z) (hz : 0 < z) {l : List α} {w : World} (h : RowAt w none (rows f l)) : l = [] := by
  rcases h with h | ⟨b, q, hA, _⟩
  · exact rows_nil hf hz h
  · cases hA
theorem place_c (b o : Nat) (A : Option Addr) (ca : Nat) (js : List Job) (j : Job) : Ctr Try.prog 55 [vp b o, agg j.cs] (fun w => w.rangeAt b o [.slice A js.length ca] ∧ RowAt w A (rows Job.cs js) ∧ JobsOk js) ([]) (fun _ : Unit => .tuple #[vi (posJ js j), .bool (atJ js j)]) (fun _ => []) := by
  refine Ctr.of Try.func55 rfl (Nat.le_of_ble_eq_true rfl) fun w hw => ?_
  refine JS_live [(0, _), (1, _)] rfl ?_
  refine JS_seq ?_
  refine JS_region ?_
  refine RJ_loud (LS_box rfl rfl) rfl fun b3 => ?_
  refine RJ_mem [_] rfl ?_
  refine RJ_float (FS_assign rfl) rfl ?_
  refine RJ_float (FS_assign rfl) rfl ?_
  refine RJ_nil ?_
  refine JS_seq ?_
  refine JS_drawn Try.mixed [(0, false), (4, false), (1, false), (2, false), (3, false), (5, true), (6, false), (7, false), (8, false), (9, false)] (by kernel_rfl) fun R1 => ?_
  refine HQ_p R1 rfl rfl (fun _ => (FS_move rfl)) rfl ?_
  refine HQ_l R1 rfl rfl (FS_loadK Try.tab 0 rfl rfl rfl rfl) rfl ?_
  refine HQ_p R1 rfl rfl (fun _ => (FS_nilCheck rfl)) rfl ?_
  refine HQ_p R1 rfl rfl (fun _ => (FS_field Try.tab rfl rfl)) rfl ?_
  refine HQ_l R1 rfl rfl (FS_loadB Try.tab rfl rfl own0 hw.1 rfl) rfl ?_
  refine HQ_fun R1 rfl rfl (LS_fun (Try.can rfl) (bsearch_c _ _ js j) rfl (fun w h => ⟨h.rowB rfl hw.2.1, hw.2.2⟩)) rfl ?_
  refine HQ_p R1 rfl rfl (fun _ => (FS_extract rfl rfl)) rfl ?_
  refine HQ_p R1 rfl rfl (fun _ => (FS_extract rfl rfl)) rfl ?_
  refine HQ_p R1 rfl rfl (fun _ => (FS_assign rfl)) rfl ?_
  refine HQ_p R1 rfl rfl (fun _ => (FS_assign rfl)) rfl ?_
  refine HQ_end R1 rfl ?_
  clear R1
  refine JS_live [(4, _), (5, _)] rfl ?_
  exact JS_retv rfl (.tmp rfl (.tmp rfl .nil)) (rfl)
theorem cloneJ_c (A : Option Addr) (ca : Nat) (xs : List Job) : Ctr Try.prog 23 [.slice A xs.length ca] (fun w => RowAt w A (rows Job.cs xs) ∧ xs.length ≤ 4294967296) ([]) (fun s : Option Sl => .slice (Sl.addr s) xs.length (Sl.cap xs.length s)) (fun s => [Sl.e 51 7 (rows Job.cs xs) s]) := by
  refine Ctr.of Try.func23 rfl (Nat.le_of_ble_eq_true rfl) fun w hw => ?_
  refine JS_live [(0, _)] rfl ?_
  refine JS_seq ?_
  refine JS_region ?_
  refine RJ_float (FS_assign rfl) rfl ?_
  refine RJ_nil ?_
  refine JS_seq ?_
  refine JS_seq ?_
  refine JS_region ?_
  refine RJ_float (FS_move rfl) rfl ?_
  refine RJ_float (FS_sliceNil Try.tab rfl rfl) rfl ?_
  refine RJ_nil ?_
  refine JS_cond rfl (fun h4 => ?_) (fun h4 => ?_)
  · try simp only [Bool.and_eq_true, Bool.or_eq_true, Bool.and_eq_false_iff, Bool.or_eq_false_iff, Bool.not_eq_true', Bool.not_eq_false', decide_eq_true_eq, decide_eq_false_iff_not, beq_iff_eq, bne_iff_ne, beq_eq_false_iff_ne, bne_eq_false_iff_eq] at h4
    obtain rfl : A = none := by simpa using h4
    obtain rfl := hw.1.nil Job.csl (by decide)
    refine JS_weakK (fun _ h => h.addNil 51 7) ?_
    refine JS_seq ?_
    refine JS_region ?_
    refine RJ_float (FS_assign rfl) rfl ?_
    refine RJ_nil ?_
    exact JS_return none [0] rfl (.tmp rfl .nil) (rfl) (by decide) (rfl)
  · try simp only [Bool.and_eq_true, Bool.or_eq_true, Bool.and_eq_false_iff, Bool.or_eq_false_iff, Bool.not_eq_true', Bool.not_eq_false', decide_eq_true_eq, decide_eq_false_iff_not, beq_iff_eq, bne_iff_ne, beq_eq_false_iff_ne, bne_eq_false_iff_eq] at h4
    refine JS_skip ?_
    refine JS_seq ?_
    refine JS_region ?_
    refine RJ_loud (LS_buildSlice Try.tab rfl rfl rfl rfl rfl rfl) rfl fun b5 => ?_
    refine RJ_mem [_] rfl ?_
    refine RJ_weakK (fun _ h => h.asSl 0 0 7 rfl (by decide)) ?_
    refine RJ_mem [_] rfl ?_
    refine RJ_float (FS_move rfl) rfl ?_
    refine RJ_loud (LS_appR Job.cs Try.tab 0 Job.csl Job.one (s := some ⟨b5, [], 0⟩) (xs := []) (ys := xs) rfl rfl rfl (fun w h => h.rowB rfl hw.1) rfl rfl rfl rfl rfl rfl (by have := hw.2; simp; omega)) rfl fun s => ?_
    refine RJ_mem [_] rfl ?_
    refine RJ_float (FS_assign rfl) rfl ?_
    refine RJ_nil ?_
    exact JS_return s [0] rfl (.tmp rfl .nil) (rfl) (by decide) (rfl)
theorem cloneI_c (A : Option Addr) (ca : Nat) (xs : List Int) : Ctr Try.prog 37 [.slice A xs.length ca] (fun w => RowAt w A (rows vi1 xs) ∧ xs.length ≤ 4294967296) ([]) (fun s : Option Sl => .slice (Sl.addr s) xs.length (Sl.cap xs.length s)) (fun s => [Sl.e 3 1 (rows vi1 xs) s]) := by
  refine Ctr.of Try.func37 rfl (Nat.le_of_ble_eq_true rfl) fun w hw => ?_
  refine JS_live [(0, _)] rfl ?_
  refine JS_seq ?_
  refine JS_region ?_
  refine RJ_float (FS_assign rfl) rfl ?_
  refine RJ_nil ?_
  refine JS_seq ?_
  refine JS_seq ?_
  refine JS_region ?_
  refine RJ_float (FS_move rfl) rfl ?_
  refine RJ_float (FS_sliceNil Try.tab rfl rfl) rfl ?_
  refine RJ_nil ?_
  refine JS_cond rfl (fun h4 => ?_) (fun h4 => ?_)
  · try simp only [Bool.and_eq_true, Bool.or_eq_true, Bool.and_eq_false_iff, Bool.or_eq_false_iff, Bool.not_eq_true', Bool.not_eq_false', decide_eq_true_eq, decide_eq_false_iff_not, beq_iff_eq, bne_iff_ne, beq_eq_false_iff_ne, bne_eq_false_iff_eq] at h4
    obtain rfl : A = none := by simpa using h4
    obtain rfl := hw.1.nil vi1l (by decide)
    refine JS_weakK (fun _ h => h.addNil 3 1) ?_
    refine JS_seq ?_
    refine JS_region ?_
    refine RJ_float (FS_assign rfl) rfl ?_
    refine RJ_nil ?_
    exact JS_return none [0] rfl (.tmp rfl .nil) (rfl) (by decide) (rfl)
  · try simp only [Bool.and_eq_true, Bool.or_eq_true, Bool.and_eq_false_iff, Bool.or_eq_false_iff, Bool.not_eq_true', Bool.not_eq_false', decide_eq_true_eq, decide_eq_false_iff_not, beq_iff_eq, bne_iff_ne, beq_eq_false_iff_ne, bne_eq_false_iff_eq] at h4
    refine JS_skip ?_
    refine JS_seq ?_
    refine JS_region ?_
    refine RJ_loud (LS_buildSlice Try.tab rfl rfl rfl rfl rfl rfl) rfl fun b5 => ?_
    refine RJ_mem [_] rfl ?_
    refine RJ_weakK (fun _ h => h.asSl 0 0 1 rfl (by decide)) ?_
    refine RJ_mem [_] rfl ?_
    refine RJ_float (FS_move rfl) rfl ?_
    refine RJ_loud (LS_appR vi1 Try.tab 0 vi1l vi1one (s := some ⟨b5, [], 0⟩) (xs := []) (ys := xs) rfl rfl rfl (fun w h => h.rowB rfl hw.1) rfl rfl rfl rfl rfl rfl (by have := hw.2; simp; omega)) rfl fun s => ?_
    refine RJ_mem [_] rfl ?_
    refine RJ_float (FS_assign rfl) rfl ?_
    refine RJ_nil ?_
    exact JS_return s [0] rfl (.tmp rfl .nil) (rfl) (by decide) (rfl)
end Go.Proofs.Ytmhjcemcjfkejaa
