/- meters; a task's turns -/
import Derived.Test.YtmhjcemcjfkejaaA6
namespace Go.Proofs.Ytmhjcemcjfkejaa
open Go.RowKit
open Go.Proofs
set_option linter.unusedVariables false
set_option linter.unusedSimpArgs false
set_option linter.unnecessarySimpa false
set_option maxRecDepth 20000
structure Verd where
  (over done kill : Bool)
  deriving DecidableEq
abbrev Verd.cs (v : Verd) : List Value := [.bool v.over, .bool v.done, .bool v.kill]
def limitT (t : Task) (level : Int) : Int := if level = 1 then t.cHigh else t.cLow
def Job.zero : Job := ⟨0, 0, 0, 0, 0, 0, 0⟩
def chargeOk (j : Job) (t : Task) (level : Int) : Bool := decide (JobsOk [j]) && t.ok && levelB level
def chargeJ (j : Job) (t : Task) (level : Int) : Job × Verd × Int :=
  if chargeOk j t level = true then
    ({ j with used := j.used + 1 }, ⟨(level == 1) && (j.used + 1 == t.cLow) && !(j.used + 1 == j.demand), j.used + 1 == j.demand, !(j.used + 1 == j.demand) && (j.used + 1 == limitT t level)⟩, 0)
  else (Job.zero, ⟨false, false, false⟩, 1300)
theorem JobsOk.one {j : Job} (h : JobsOk [j]) : j.ok = true := (h.2 0 (by simp)).1
theorem Job.ok_bounds {j : Job} (h : j.ok = true) : 0 ≤ j.prio ∧ j.prio ≤ 255 ∧ 0 ≤ j.release ∧ j.release ≤ 1099511627776 ∧ j.release < j.deadline ∧ 1 ≤ j.demand ∧ j.demand ≤ 65535 ∧ 0 ≤ j.used ∧ j.used < j.demand ∧ 0 ≤ j.task ∧ j.task < 6 ∧ 0 ≤ j.seq := by
  simp only [Job.ok, clockB, demandB, Bool.and_eq_true, decide_eq_true_eq] at h
  omega
theorem Task.ok_bounds {t : Task} (h : t.ok = true) : (t.kind = 0 ∨ t.kind = 1) ∧ 1 ≤ t.period ∧ t.period ≤ 1024 ∧ 1 ≤ t.deadline ∧ t.deadline ≤ t.period ∧ 1 ≤ t.cLow ∧ t.cLow ≤ t.cHigh ∧ t.cHigh ≤ t.deadline ∧ 0 ≤ t.prio ∧ t.prio ≤ 255 := by
  simp only [Task.ok, Bool.and_eq_true, Bool.or_eq_true, beq_iff_eq, decide_eq_true_eq] at h
  omega
theorem limit_c (b o : Nat) (t : Task) (l : Int) : Ctr Try.prog 43 [vp b o, vi l] (fun w => w.rangeAt b o t.cs) ([]) (fun _ : Unit => vi (limitT t l)) (fun _ => []) := by
  refine Ctr.of Try.func43 rfl (Nat.le_of_ble_eq_true rfl) fun w hw => ?_
  refine JS_live [(0, _), (1, _)] rfl ?_
  refine JS_seq ?_
  refine JS_region ?_
  refine RJ_float (FS_assign rfl) rfl ?_
  refine RJ_nil ?_
  refine JS_seq ?_
  refine JS_seq ?_
  refine JS_region ?_
  refine RJ_float (FS_move rfl) rfl ?_
  refine RJ_float (FS_int rfl rfl rfl) rfl ?_
  refine RJ_nil ?_
  refine JS_condE rfl (fun h6 => ?_) (fun h6 => ?_)
  · refine JS_seq ?_
    refine JS_region ?_
    refine RJ_float (FS_move rfl) rfl ?_
    refine RJ_float (FS_nilCheck rfl) rfl ?_
    refine RJ_float (FS_field Try.tab rfl rfl) rfl ?_
    refine RJ_float (FS_loadB Try.tab rfl rfl own0 hw rfl) rfl ?_
    refine RJ_float (FS_assign rfl) rfl ?_
    refine RJ_nil ?_
    refine JS_live [(4, _)] rfl ?_
    exact JS_retv rfl (.tmp rfl .nil) (by simp [one, limitT, h6])
  · refine JS_skip ?_
    refine JS_seq ?_
    refine JS_region ?_
    refine RJ_float (FS_move rfl) rfl ?_
    refine RJ_float (FS_nilCheck rfl) rfl ?_
    refine RJ_float (FS_field Try.tab rfl rfl) rfl ?_
    refine RJ_float (FS_loadB Try.tab rfl rfl own0 hw rfl) rfl ?_
    refine RJ_float (FS_assign rfl) rfl ?_
    refine RJ_nil ?_
    refine JS_live [(4, _)] rfl ?_
    exact JS_retv rfl (.tmp rfl .nil) (by simp [one, limitT, h6])
theorem charge_c (j : Job) (t : Task) (level : Int) : Ctr Try.prog 22 [agg j.cs, agg t.cs, vi level] (fun _ => True) ([]) (fun _ : Unit => .tuple #[agg (chargeJ j t level).1.cs, agg (chargeJ j t level).2.1.cs, vi (chargeJ j t level).2.2]) (fun _ => []) := by
  refine Ctr.of Try.func22 rfl (Nat.le_of_ble_eq_true rfl) fun w hw => ?_
  refine JS_live [(0, _), (1, _), (2, _)] rfl ?_
  refine JS_seq ?_
  refine JS_region ?_
  refine RJ_loud (LS_box rfl rfl) rfl fun b3 => ?_
  refine RJ_mem [_] rfl ?_
  refine RJ_loud (LS_box rfl rfl) rfl fun b4 => ?_
  refine RJ_mem [_, _] rfl ?_
  refine RJ_loud (LS_alloc Try.tab rfl) rfl fun b6 => ?_
  refine RJ_mem [_, _, _] rfl ?_
  refine RJ_loud (LS_alloc Try.tab rfl) rfl fun b7 => ?_
  refine RJ_mem [_, _, _, _] rfl ?_
  refine RJ_float (FS_assign rfl) rfl ?_
  refine RJ_nil ?_
  refine JS_seq ?_
  refine JS_seq ?_
  refine JS_region ?_
  refine RJ_float (FS_loadK Try.tab 0 rfl rfl rfl rfl) rfl ?_
  refine RJ_loud (LS_buildSlice Try.tab rfl rfl rfl rfl rfl rfl) rfl fun b11 => ?_
  refine RJ_mem [_, _, _, _, _] rfl ?_
  refine RJ_fun (LS_fun (Try.can rfl) (mayJobs_c _ _ [j]) rfl (fun w h => ⟨h.row 4 rfl, by simp⟩)) rfl ?_
  refine RJ_float (FS_not rfl) rfl ?_
  refine RJ_float (FS_move rfl) rfl ?_
  refine RJ_g rfl rfl gvF (fun hg => (FS_loadK Try.tab 1 rfl rfl rfl rfl)) rfl ?_
  refine RJ_gfun rfl rfl gvF (fun hg => (LS_under [(15, _)] (LE_cons (gx hg rfl) LE_nil) (LS_fun (Try.can rfl) (taskMay_c t) rfl (fun _ _ => trivial)))) rfl ?_
  refine RJ_g rfl rfl gvF (fun hg => (FS_not (gx hg rfl))) rfl ?_
  refine RJ_float (FS_or rfl rfl) rfl ?_
  refine RJ_float (FS_move rfl) rfl ?_
  refine RJ_g rfl rfl gvF (fun hg => (FS_move rfl)) rfl ?_
  refine RJ_g rfl rfl gvF (fun hg => (FS_int (gx hg rfl) rfl rfl)) rfl ?_
  refine RJ_g rfl rfl gvF (fun hg => (FS_move (gx hg rfl))) rfl ?_
  refine RJ_g rfl rfl gv2T (fun hg => (FS_move rfl)) rfl ?_
  refine RJ_g rfl rfl gv2T (fun hg => (FS_int (gx hg rfl) rfl rfl)) rfl ?_
  refine RJ_g rfl rfl gvF (fun hg => (FS_and (gx hg rfl) (gx2 hg rfl))) rfl ?_
  refine RJ_float (FS_or rfl rfl) rfl ?_
  refine RJ_nil ?_
  refine JS_live [(2, _), (3, _), (4, _), (6, _), (7, _), (26, _)] rfl ?_
  refine JS_cond rfl (fun h26 => ?_) (fun h26 => ?_)
  · try simp only [Bool.and_eq_true, Bool.or_eq_true, Bool.and_eq_false_iff, Bool.or_eq_false_iff, Bool.not_eq_true', Bool.not_eq_false', decide_eq_true_eq, decide_eq_false_iff_not, beq_iff_eq, bne_iff_ne, beq_eq_false_iff_ne, bne_eq_false_iff_eq] at h26
    have hc : chargeJ j t level = (Job.zero, ⟨false, false, false⟩, 1300) := by unfold chargeJ; rw [if_neg]; simp only [chargeOk, levelB]; grind
    refine JS_seq ?_
    refine JS_region ?_
    refine RJ_float (FS_build Try.tab rfl rfl rfl rfl) rfl ?_
    refine RJ_float (FS_build Try.tab rfl rfl rfl rfl) rfl ?_
    refine RJ_loud (LS_store Try.tab (i := 2) rfl rfl rfl rfl rfl rfl rfl rfl) rfl fun _ => ?_
    refine RJ_mem [_, _, _, _, _] rfl ?_
    refine RJ_loud (LS_store Try.tab (i := 3) rfl rfl rfl rfl rfl rfl rfl rfl) rfl fun _ => ?_
    refine RJ_mem [_, _, _, _, _] rfl ?_
    refine RJ_float (FS_assign rfl) rfl ?_
    refine RJ_nil ?_
    exact JS_retv rfl (.cell rfl (szOf_in Try.tab rfl) (List.mem_of_getElem? (i := 2) rfl) rfl (.cell rfl (szOf_in Try.tab rfl) (List.mem_of_getElem? (i := 3) rfl) rfl (.tmp rfl .nil))) (by rw [hc]; rfl)
  · try simp only [Bool.and_eq_true, Bool.or_eq_true, Bool.and_eq_false_iff, Bool.or_eq_false_iff, Bool.not_eq_true', Bool.not_eq_false', decide_eq_true_eq, decide_eq_false_iff_not, beq_iff_eq, bne_iff_ne, beq_eq_false_iff_ne, bne_eq_false_iff_eq] at h26
    have hok := Job.ok_bounds (JobsOk.one h26.1.1)
    have hc : chargeOk j t level = true := by simp only [chargeOk, levelB]; grind
    have hc := (show chargeJ j t level = _ from if_pos hc)
    refine JS_skip ?_
    refine JS_seq ?_
    refine JS_region ?_
    refine RJ_float (FS_field Try.tab rfl rfl) rfl ?_
    refine RJ_float (FS_loadK Try.tab 0 rfl rfl rfl rfl) rfl ?_
    refine RJ_float (FS_add rfl rfl (by omega) (by omega)) rfl ?_
    refine RJ_float (FS_field Try.tab rfl rfl) rfl ?_
    refine RJ_loud (LS_store Try.tab (i := 0) rfl rfl rfl rfl rfl rfl rfl rfl) rfl fun _ => ?_
    refine RJ_mem [_, _, _, _, _] rfl ?_
    refine RJ_nil ?_
    refine JS_seq ?_
    refine JS_region ?_
    refine RJ_float (FS_field Try.tab rfl rfl) rfl ?_
    refine RJ_float (FS_loadK Try.tab 0 rfl rfl rfl rfl) rfl ?_
    refine RJ_float (FS_field Try.tab rfl rfl) rfl ?_
    refine RJ_float (FS_loadK Try.tab 0 rfl rfl rfl rfl) rfl ?_
    refine RJ_float (FS_int rfl rfl rfl) rfl ?_
    refine RJ_float (FS_assign rfl) rfl ?_
    refine RJ_nil ?_
    refine JS_live [(2, _), (3, _), (4, _), (6, _), (7, _), (9, _)] rfl ?_
    refine JS_seq ?_
    refine JS_drawn Try.mixed [(0, false), (1, false), (14, false), (15, false), (2, false), (16, false), (3, false), (4, false), (6, false), (5, false), (7, false), (8, false), (9, false), (10, false), (11, false), (17, false), (12, false), (18, false), (20, false), (13, false), (19, false), (21, true), (22, false), (23, false), (24, false), (25, true), (26, true), (27, false)] (by kernel_rfl) fun R1 => ?_
    refine HQ_l R1 rfl rfl (FS_loadK Try.tab 0 rfl rfl rfl rfl) rfl ?_
    refine HQ_p R1 rfl rfl (fun _ => (FS_move rfl)) rfl ?_
    refine HQ_p R1 rfl rfl (fun _ => (FS_move rfl)) rfl ?_
    refine HQ_p R1 rfl rfl (fun _ => (FS_move rfl)) rfl ?_
    refine HQ_p R1 rfl rfl (fun _ => (FS_int rfl rfl rfl)) rfl ?_
    refine HQ_p R1 rfl rfl (fun _ => (FS_not rfl)) rfl ?_
    refine HQ_p R1 rfl rfl (fun _ => (FS_move rfl)) rfl ?_
    refine HQ_pg R1 rfl rfl rfl rfl gvT (fun hg _ => (FS_field Try.tab rfl rfl)) rfl ?_
    refine HQ_pg R1 rfl rfl rfl rfl gvT (fun hg _ => (FS_field Try.tab rfl rfl)) rfl ?_
    refine HQ_lg R1 rfl rfl rfl rfl gvT (fun hg => (FS_loadK Try.tab 0 (gx hg rfl) rfl rfl rfl)) rfl ?_
    refine HQ_lg R1 rfl rfl rfl rfl gvT (fun hg => (FS_loadK Try.tab 1 (gx hg rfl) rfl rfl rfl)) rfl ?_
    refine HQ_pg R1 rfl rfl rfl rfl gvT (fun hg _ => (FS_int (gx hg rfl) (gx hg rfl) rfl)) rfl ?_
    refine HQ_p R1 rfl rfl (fun _ => (FS_and rfl rfl)) rfl ?_
    refine HQ_p R1 rfl rfl (fun _ => (FS_move rfl)) rfl ?_
    refine HQ_pg R1 rfl rfl rfl rfl gvT (fun hg _ => (FS_move rfl)) rfl ?_
    refine HQ_p R1 rfl rfl (fun _ => (FS_move rfl)) rfl ?_
    refine HQ_pg R1 rfl rfl rfl rfl gvT (fun hg _ => (FS_not (gx hg rfl))) rfl ?_
    refine HQ_pg R1 rfl rfl rfl rfl gvT (fun hg _ => (FS_field Try.tab rfl rfl)) rfl ?_
    refine HQ_pg R1 rfl rfl rfl rfl gvT (fun hg _ => (FS_move rfl)) rfl ?_
    refine HQ_p R1 rfl rfl (fun _ => (FS_and rfl rfl)) rfl ?_
    refine HQ_lg R1 rfl rfl rfl rfl gvT (fun hg => (FS_loadK Try.tab 0 (gx hg rfl) rfl rfl rfl)) rfl ?_
    refine HQ_gfun R1 rfl rfl rfl rfl gvT (fun hg => (LS_under [(4, _), (58, _)] (LE_cons rfl (LE_cons (gx hg rfl) LE_nil)) (LS_fun (Try.can rfl) (limit_c _ _ t _) rfl (fun w h => h.range 1 rfl)))) rfl ?_
    refine HQ_pg R1 rfl rfl rfl rfl gvT (fun hg _ => (FS_int (gx hg rfl) (gx hg rfl) rfl)) rfl ?_
    refine HQ_p R1 rfl rfl (fun _ => (FS_and rfl rfl)) rfl ?_
    refine HQ_p R1 rfl rfl (fun _ => (FS_build Try.tab rfl rfl rfl rfl)) rfl ?_
    refine HQ_loudC R1 [19] rfl rfl (LS_store Try.tab (i := 2) rfl rfl rfl rfl rfl rfl rfl rfl) rfl (by kernel_rfl) (fun _ => ⟨(cert_ofg rfl rfl rfl gvT (fun hg => (FS_loadK Try.tab 0 (gx hg rfl) rfl rfl rfl)) rfl rfl), trivial⟩) fun _ => ?_
    refine HQ_mem [_, _, _, _, _] rfl ?_
    refine HQ_loud0 R1 rfl rfl (LS_store Try.tab (i := 3) rfl rfl rfl rfl rfl rfl rfl rfl) rfl (by kernel_rfl) fun _ => ?_
    refine HQ_mem [_, _, _, _, _] rfl ?_
    refine HQ_p R1 rfl rfl (fun _ => (FS_assign rfl)) rfl ?_
    refine HQ_end R1 rfl ?_
    clear R1
    refine JS_live [(6, _), (7, _), (8, _)] rfl ?_
    exact JS_retv rfl (.cell rfl (szOf_in Try.tab rfl) (List.mem_of_getElem? (i := 2) rfl) rfl (.cell rfl (szOf_in Try.tab rfl) (List.mem_of_getElem? (i := 3) rfl) rfl (.tmp rfl .nil))) (by rw [hc]; rfl)
end Go.Proofs.Ytmhjcemcjfkejaa
