/- leaves of jobs -/
import Derived.Test.YtmhjcemcjfkejaaTab
namespace Go.Proofs.Ytmhjcemcjfkejaa
open Go.RowKit
open Go.Proofs
set_option linter.unusedVariables false
set_option linter.unusedSimpArgs false
set_option linter.unnecessarySimpa false
set_option maxRecDepth 20000
structure Task where
  (kind period deadline cLow cHigh prio : Int)
  deriving DecidableEq
abbrev Task.cs (t : Task) : List Value := [vi t.kind, vi t.period, vi t.deadline, vi t.cLow, vi t.cHigh, vi t.prio]
structure Job where
  (task seq prio release deadline demand used : Int)
  deriving DecidableEq
abbrev Job.cs (j : Job) : List Value := [vi j.task, vi j.seq, vi j.prio, vi j.release, vi j.deadline, vi j.demand, vi j.used]
structure Ev where
  (kind part task value : Int)
  deriving DecidableEq
abbrev Ev.cs (j : Ev) : List Value := [vi j.kind, vi j.part, vi j.task, vi j.value]

theorem retF {p : Prop} [Decidable p] (h : ¬p) : one [.bool false] = .bool (decide p) := by simp [one, h]
theorem retT {p : Prop} [Decidable p] (h : p) : one [.bool true] = .bool (decide p) := by simp [one, h]
theorem retD {p q : Prop} [Decidable p] [Decidable q] (h : p ↔ q) : one [.bool (decide p)] = .bool (decide q) := by simp [one, h]
def clockB (t : Int) : Bool := decide (t ≥ 0) && decide (t ≤ 1099511627776)
def demandB (d : Int) : Bool := decide (d ≥ 1) && decide (d ≤ 65535)
def levelB (x : Int) : Bool := (x == 0) || (x == 1)
def Task.ok (t : Task) : Bool := ((t.kind == 0) || (t.kind == 1)) && decide (t.period ≥ 1) && decide (t.period ≤ 1024) && decide (t.deadline ≥ 1) && decide (t.deadline ≤ t.period) && decide (t.cLow ≥ 1) && decide (t.cLow ≤ t.cHigh) && decide (t.cHigh ≤ t.deadline) && decide (t.prio ≥ 0) && decide (t.prio ≤ 255)
def Job.ok (j : Job) : Bool := decide (j.prio ≥ 0) && decide (j.prio ≤ 255) && clockB j.release && decide (j.deadline > j.release) && demandB j.demand && decide (j.used ≥ 0) && decide (j.used < j.demand) && decide (j.task ≥ 0) && decide (j.task < 6) && decide (j.seq ≥ 0)
def cmpI (a b : Int) : Int := if a < b then -1 else if a > b then 1 else 0
theorem clock_c (t : Int) : Ctr Try.prog 16 [vi t] (fun _ => True) ([]) (fun _ : Unit => .bool (clockB t)) (fun _ => []) := by
  refine Ctr.of Try.func16 rfl (Nat.le_of_ble_eq_true rfl) fun w hw => ?_
  refine JS_live [(0, _)] rfl ?_
  refine JS_seq ?_
  refine JS_region ?_
  refine RJ_float (FS_assign rfl) rfl ?_
  refine RJ_nil ?_
  refine JS_seq ?_
  refine JS_region ?_
  refine RJ_float (FS_move rfl) rfl ?_
  refine RJ_float (FS_int rfl rfl rfl) rfl ?_
  refine RJ_float (FS_move rfl) rfl ?_
  refine RJ_g rfl rfl gvT (fun hg => (FS_move rfl)) rfl ?_
  refine RJ_g rfl rfl gvT (fun hg => (FS_int (gx hg rfl) rfl rfl)) rfl ?_
  refine RJ_float (FS_and rfl rfl) rfl ?_
  refine RJ_float (FS_assign rfl) rfl ?_
  refine RJ_nil ?_
  refine JS_live [(2, _)] rfl ?_
  exact JS_retv rfl (.tmp rfl .nil) (rfl)
theorem demand_c (t : Int) : Ctr Try.prog 36 [vi t] (fun _ => True) ([]) (fun _ : Unit => .bool (demandB t)) (fun _ => []) := by
  refine Ctr.of Try.func36 rfl (Nat.le_of_ble_eq_true rfl) fun w hw => ?_
  refine JS_live [(0, _)] rfl ?_
  refine JS_seq ?_
  refine JS_region ?_
  refine RJ_float (FS_assign rfl) rfl ?_
  refine RJ_nil ?_
  refine JS_seq ?_
  refine JS_region ?_
  refine RJ_float (FS_move rfl) rfl ?_
  refine RJ_float (FS_int rfl rfl rfl) rfl ?_
  refine RJ_float (FS_move rfl) rfl ?_
  refine RJ_g rfl rfl gvT (fun hg => (FS_move rfl)) rfl ?_
  refine RJ_g rfl rfl gvT (fun hg => (FS_int (gx hg rfl) rfl rfl)) rfl ?_
  refine RJ_float (FS_and rfl rfl) rfl ?_
  refine RJ_float (FS_assign rfl) rfl ?_
  refine RJ_nil ?_
  refine JS_live [(2, _)] rfl ?_
  exact JS_retv rfl (.tmp rfl .nil) (rfl)
theorem level_c (t : Int) : Ctr Try.prog 25 [vi t] (fun _ => True) ([]) (fun _ : Unit => .bool (levelB t)) (fun _ => []) := by
  refine Ctr.of Try.func25 rfl (Nat.le_of_ble_eq_true rfl) fun w hw => ?_
  refine JS_live [(0, _)] rfl ?_
  refine JS_seq ?_
  refine JS_region ?_
  refine RJ_float (FS_assign rfl) rfl ?_
  refine RJ_nil ?_
  refine JS_seq ?_
  refine JS_region ?_
  refine RJ_float (FS_move rfl) rfl ?_
  refine RJ_float (FS_int rfl rfl rfl) rfl ?_
  refine RJ_float (FS_move rfl) rfl ?_
  refine RJ_g rfl rfl gvF (fun hg => (FS_move rfl)) rfl ?_
  refine RJ_g rfl rfl gvF (fun hg => (FS_int (gx hg rfl) rfl rfl)) rfl ?_
  refine RJ_float (FS_or rfl rfl) rfl ?_
  refine RJ_float (FS_assign rfl) rfl ?_
  refine RJ_nil ?_
  refine JS_live [(2, _)] rfl ?_
  exact JS_retv rfl (.tmp rfl .nil) (rfl)
theorem num_c (t : Int) : Ctr Try.prog 6 [vi t] (fun _ => True) ([]) (fun _ : Unit => vi t) (fun _ => []) := by
  refine Ctr.of Try.func6 rfl (Nat.le_of_ble_eq_true rfl) fun w hw => ?_
  refine JS_live [(0, _)] rfl ?_
  refine JS_seq ?_
  refine JS_region ?_
  refine RJ_float (FS_assign rfl) rfl ?_
  refine RJ_nil ?_
  refine JS_seq ?_
  refine JS_region ?_
  refine RJ_float (FS_move rfl) rfl ?_
  refine RJ_float (FS_assign rfl) rfl ?_
  refine RJ_nil ?_
  exact JS_retv rfl (.tmp rfl .nil) (rfl)
theorem taskMay_c (t : Task) : Ctr Try.prog 42 [agg t.cs] (fun _ => True) ([]) (fun _ : Unit => .bool t.ok) (fun _ => []) := by
  refine Ctr.of Try.func42 rfl (Nat.le_of_ble_eq_true rfl) fun w hw => ?_
  refine JS_live [(0, _)] rfl ?_
  refine JS_seq ?_
  refine JS_region ?_
  refine RJ_loud (LS_box rfl rfl) rfl fun b1 => ?_
  refine RJ_mem [_] rfl ?_
  refine RJ_float (FS_assign rfl) rfl ?_
  refine RJ_nil ?_
  refine JS_seq ?_
  refine JS_region ?_
  refine RJ_float (FS_field Try.tab rfl rfl) rfl ?_
  refine RJ_float (FS_loadK Try.tab 0 rfl rfl rfl rfl) rfl ?_
  refine RJ_float (FS_int rfl rfl rfl) rfl ?_
  refine RJ_float (FS_move rfl) rfl ?_
  refine RJ_g rfl rfl gvF (fun hg => (FS_field Try.tab rfl rfl)) rfl ?_
  refine RJ_g rfl rfl gvF (fun hg => (FS_loadK Try.tab 0 (gx hg rfl) rfl rfl rfl)) rfl ?_
  refine RJ_g rfl rfl gvF (fun hg => (FS_int (gx hg rfl) rfl rfl)) rfl ?_
  refine RJ_float (FS_or rfl rfl) rfl ?_
  refine RJ_float (FS_assign rfl) rfl ?_
  refine RJ_nil ?_
  refine JS_live [(1, _), (3, _)] rfl ?_
  refine JS_seq ?_
  refine JS_region ?_
  refine RJ_float (FS_move rfl) rfl ?_
  refine RJ_float (FS_move rfl) rfl ?_
  refine RJ_g rfl rfl gvT (fun hg => (FS_field Try.tab rfl rfl)) rfl ?_
  refine RJ_g rfl rfl gvT (fun hg => (FS_loadK Try.tab 0 (gx hg rfl) rfl rfl rfl)) rfl ?_
  refine RJ_g rfl rfl gvT (fun hg => (FS_int (gx hg rfl) rfl rfl)) rfl ?_
  refine RJ_float (FS_and rfl rfl) rfl ?_
  refine RJ_float (FS_move rfl) rfl ?_
  refine RJ_g rfl rfl gvT (fun hg => (FS_field Try.tab rfl rfl)) rfl ?_
  refine RJ_g rfl rfl gvT (fun hg => (FS_loadK Try.tab 0 (gx hg rfl) rfl rfl rfl)) rfl ?_
  refine RJ_g rfl rfl gvT (fun hg => (FS_int (gx hg rfl) rfl rfl)) rfl ?_
  refine RJ_float (FS_and rfl rfl) rfl ?_
  refine RJ_float (FS_move rfl) rfl ?_
  refine RJ_g rfl rfl gvT (fun hg => (FS_field Try.tab rfl rfl)) rfl ?_
  refine RJ_g rfl rfl gvT (fun hg => (FS_loadK Try.tab 0 (gx hg rfl) rfl rfl rfl)) rfl ?_
  refine RJ_g rfl rfl gvT (fun hg => (FS_int (gx hg rfl) rfl rfl)) rfl ?_
  refine RJ_float (FS_and rfl rfl) rfl ?_
  refine RJ_float (FS_move rfl) rfl ?_
  refine RJ_g rfl rfl gvT (fun hg => (FS_field Try.tab rfl rfl)) rfl ?_
  refine RJ_g rfl rfl gvT (fun hg => (FS_loadK Try.tab 0 (gx hg rfl) rfl rfl rfl)) rfl ?_
  refine RJ_g rfl rfl gvT (fun hg => (FS_field Try.tab rfl rfl)) rfl ?_
  refine RJ_g rfl rfl gvT (fun hg => (FS_loadK Try.tab 0 (gx hg rfl) rfl rfl rfl)) rfl ?_
  refine RJ_g rfl rfl gvT (fun hg => (FS_int (gx hg rfl) (gx hg rfl) rfl)) rfl ?_
  refine RJ_float (FS_and rfl rfl) rfl ?_
  refine RJ_float (FS_move rfl) rfl ?_
  refine RJ_g rfl rfl gvT (fun hg => (FS_field Try.tab rfl rfl)) rfl ?_
  refine RJ_g rfl rfl gvT (fun hg => (FS_loadK Try.tab 0 (gx hg rfl) rfl rfl rfl)) rfl ?_
  refine RJ_g rfl rfl gvT (fun hg => (FS_int (gx hg rfl) rfl rfl)) rfl ?_
  refine RJ_float (FS_and rfl rfl) rfl ?_
  refine RJ_float (FS_move rfl) rfl ?_
  refine RJ_g rfl rfl gvT (fun hg => (FS_field Try.tab rfl rfl)) rfl ?_
  refine RJ_g rfl rfl gvT (fun hg => (FS_loadK Try.tab 0 (gx hg rfl) rfl rfl rfl)) rfl ?_
  refine RJ_g rfl rfl gvT (fun hg => (FS_field Try.tab rfl rfl)) rfl ?_
  refine RJ_g rfl rfl gvT (fun hg => (FS_loadK Try.tab 0 (gx hg rfl) rfl rfl rfl)) rfl ?_
  refine RJ_g rfl rfl gvT (fun hg => (FS_int (gx hg rfl) (gx hg rfl) rfl)) rfl ?_
  refine RJ_float (FS_and rfl rfl) rfl ?_
  refine RJ_float (FS_move rfl) rfl ?_
  refine RJ_g rfl rfl gvT (fun hg => (FS_field Try.tab rfl rfl)) rfl ?_
  refine RJ_g rfl rfl gvT (fun hg => (FS_loadK Try.tab 0 (gx hg rfl) rfl rfl rfl)) rfl ?_
  refine RJ_g rfl rfl gvT (fun hg => (FS_field Try.tab rfl rfl)) rfl ?_
  refine RJ_g rfl rfl gvT (fun hg => (FS_loadK Try.tab 0 (gx hg rfl) rfl rfl rfl)) rfl ?_
  refine RJ_g rfl rfl gvT (fun hg => (FS_int (gx hg rfl) (gx hg rfl) rfl)) rfl ?_
  refine RJ_float (FS_and rfl rfl) rfl ?_
  refine RJ_float (FS_move rfl) rfl ?_
  refine RJ_g rfl rfl gvT (fun hg => (FS_field Try.tab rfl rfl)) rfl ?_
  refine RJ_g rfl rfl gvT (fun hg => (FS_loadK Try.tab 0 (gx hg rfl) rfl rfl rfl)) rfl ?_
  refine RJ_g rfl rfl gvT (fun hg => (FS_int (gx hg rfl) rfl rfl)) rfl ?_
  refine RJ_float (FS_and rfl rfl) rfl ?_
  refine RJ_float (FS_move rfl) rfl ?_
  refine RJ_g rfl rfl gvT (fun hg => (FS_field Try.tab rfl rfl)) rfl ?_
  refine RJ_g rfl rfl gvT (fun hg => (FS_loadK Try.tab 0 (gx hg rfl) rfl rfl rfl)) rfl ?_
  refine RJ_g rfl rfl gvT (fun hg => (FS_int (gx hg rfl) rfl rfl)) rfl ?_
  refine RJ_float (FS_and rfl rfl) rfl ?_
  refine RJ_float (FS_assign rfl) rfl ?_
  refine RJ_nil ?_
  refine JS_live [(2, _)] rfl ?_
  exact JS_retv rfl (.tmp rfl .nil) (rfl)
theorem job_c (b o : Nat) (j : Job) : Ctr Try.prog 54 [vp b o] (fun w => w.rangeAt b o j.cs) ([]) (fun _ : Unit => .bool j.ok) (fun _ => []) := by
  refine Ctr.of Try.func54 rfl (Nat.le_of_ble_eq_true rfl) fun w hw => ?_
  refine JS_live [(0, _)] rfl ?_
  refine JS_seq ?_
  refine JS_region ?_
  refine RJ_float (FS_assign rfl) rfl ?_
  refine RJ_nil ?_
  refine JS_seq ?_
  refine JS_drawn Try.mixed [(0, false), (1, false), (2, false), (3, false), (4, false), (5, false), (6, false), (7, false), (8, false), (9, false), (10, false), (11, false), (12, false), (13, false), (14, false), (15, false), (16, false), (17, true), (18, false), (19, false), (20, false), (24, false), (21, false), (25, false), (22, false), (26, false), (23, false), (27, false), (28, false), (29, false), (30, false), (31, false), (32, false), (33, false), (34, false), (35, true), (36, false), (37, false), (38, false), (39, false), (40, false), (41, false), (42, false), (43, false), (44, false), (45, false), (49, false), (46, false), (50, false), (47, false), (51, false), (48, false), (52, false), (53, false), (54, false), (55, false), (56, false), (57, false), (58, false), (59, false), (60, false), (61, false), (62, false), (63, false), (64, false), (65, false), (66, false), (67, false), (68, false), (69, false), (70, false), (71, false), (72, false), (73, false), (74, false), (75, false), (76, false)] (by kernel_rfl) fun R1 => ?_
  refine HQ_p R1 rfl rfl (fun _ => (FS_move rfl)) rfl ?_
  refine HQ_p R1 rfl rfl (fun _ => (FS_nilCheck rfl)) rfl ?_
  refine HQ_p R1 rfl rfl (fun _ => (FS_field Try.tab rfl rfl)) rfl ?_
  refine HQ_l R1 rfl rfl (FS_loadB Try.tab rfl rfl own0 hw rfl) rfl ?_
  refine HQ_p R1 rfl rfl (fun _ => (FS_int rfl rfl rfl)) rfl ?_
  refine HQ_p R1 rfl rfl (fun _ => (FS_move rfl)) rfl ?_
  refine HQ_pg R1 rfl rfl rfl rfl gvT (fun hg _ => (FS_move rfl)) rfl ?_
  refine HQ_pg R1 rfl rfl rfl rfl gvT (fun hg _ => (FS_nilCheck (gx hg rfl))) rfl ?_
  refine HQ_pg R1 rfl rfl rfl rfl gvT (fun hg _ => (FS_field Try.tab (gx hg rfl) rfl)) rfl ?_
  refine HQ_lg R1 rfl rfl rfl rfl gvT (fun hg => (FS_loadB Try.tab (gx hg rfl) rfl own0 hw rfl)) rfl ?_
  refine HQ_pg R1 rfl rfl rfl rfl gvT (fun hg _ => (FS_int (gx hg rfl) rfl rfl)) rfl ?_
  refine HQ_p R1 rfl rfl (fun _ => (FS_and rfl rfl)) rfl ?_
  refine HQ_p R1 rfl rfl (fun _ => (FS_move rfl)) rfl ?_
  refine HQ_pg R1 rfl rfl rfl rfl gvT (fun hg _ => (FS_move rfl)) rfl ?_
  refine HQ_pg R1 rfl rfl rfl rfl gvT (fun hg _ => (FS_nilCheck (gx hg rfl))) rfl ?_
  refine HQ_pg R1 rfl rfl rfl rfl gvT (fun hg _ => (FS_field Try.tab (gx hg rfl) rfl)) rfl ?_
  refine HQ_lg R1 rfl rfl rfl rfl gvT (fun hg => (FS_loadB Try.tab (gx hg rfl) rfl own0 hw rfl)) rfl ?_
  refine HQ_gfun R1 rfl rfl rfl rfl gvT (fun hg => (LS_under [(19, _)] (LE_cons (gx hg rfl) LE_nil) (LS_fun (Try.can rfl) (clock_c _) rfl (fun _ _ => trivial)))) rfl ?_
  refine HQ_p R1 rfl rfl (fun _ => (FS_and rfl rfl)) rfl ?_
  refine HQ_p R1 rfl rfl (fun _ => (FS_move rfl)) rfl ?_
  refine HQ_pg R1 rfl rfl rfl rfl gvT (fun hg _ => (FS_move rfl)) rfl ?_
  refine HQ_pg R1 rfl rfl rfl rfl gvT (fun hg _ => (FS_move rfl)) rfl ?_
  refine HQ_pg R1 rfl rfl rfl rfl gvT (fun hg _ => (FS_nilCheck (gx hg rfl))) rfl ?_
  refine HQ_pg R1 rfl rfl rfl rfl gvT (fun hg _ => (FS_nilCheck (gx hg rfl))) rfl ?_
  refine HQ_pg R1 rfl rfl rfl rfl gvT (fun hg _ => (FS_field Try.tab (gx hg rfl) rfl)) rfl ?_
  refine HQ_pg R1 rfl rfl rfl rfl gvT (fun hg _ => (FS_field Try.tab (gx hg rfl) rfl)) rfl ?_
  refine HQ_lg R1 rfl rfl rfl rfl gvT (fun hg => (FS_loadB Try.tab (gx hg rfl) rfl own0 hw rfl)) rfl ?_
  refine HQ_lg R1 rfl rfl rfl rfl gvT (fun hg => (FS_loadB Try.tab (gx hg rfl) rfl own0 hw rfl)) rfl ?_
  refine HQ_pg R1 rfl rfl rfl rfl gvT (fun hg _ => (FS_int (gx hg rfl) (gx hg rfl) rfl)) rfl ?_
  refine HQ_p R1 rfl rfl (fun _ => (FS_and rfl rfl)) rfl ?_
  refine HQ_p R1 rfl rfl (fun _ => (FS_move rfl)) rfl ?_
  refine HQ_pg R1 rfl rfl rfl rfl gvT (fun hg _ => (FS_move rfl)) rfl ?_
  refine HQ_pg R1 rfl rfl rfl rfl gvT (fun hg _ => (FS_nilCheck (gx hg rfl))) rfl ?_
  refine HQ_pg R1 rfl rfl rfl rfl gvT (fun hg _ => (FS_field Try.tab (gx hg rfl) rfl)) rfl ?_
  refine HQ_lg R1 rfl rfl rfl rfl gvT (fun hg => (FS_loadB Try.tab (gx hg rfl) rfl own0 hw rfl)) rfl ?_
  refine HQ_gfun R1 rfl rfl rfl rfl gvT (fun hg => (LS_under [(37, _)] (LE_cons (gx hg rfl) LE_nil) (LS_fun (Try.can rfl) (demand_c _) rfl (fun _ _ => trivial)))) rfl ?_
  refine HQ_p R1 rfl rfl (fun _ => (FS_and rfl rfl)) rfl ?_
  refine HQ_p R1 rfl rfl (fun _ => (FS_move rfl)) rfl ?_
  refine HQ_pg R1 rfl rfl rfl rfl gvT (fun hg _ => (FS_move rfl)) rfl ?_
  refine HQ_pg R1 rfl rfl rfl rfl gvT (fun hg _ => (FS_nilCheck (gx hg rfl))) rfl ?_
  refine HQ_pg R1 rfl rfl rfl rfl gvT (fun hg _ => (FS_field Try.tab (gx hg rfl) rfl)) rfl ?_
  refine HQ_lg R1 rfl rfl rfl rfl gvT (fun hg => (FS_loadB Try.tab (gx hg rfl) rfl own0 hw rfl)) rfl ?_
  refine HQ_pg R1 rfl rfl rfl rfl gvT (fun hg _ => (FS_int (gx hg rfl) rfl rfl)) rfl ?_
  refine HQ_p R1 rfl rfl (fun _ => (FS_and rfl rfl)) rfl ?_
  refine HQ_p R1 rfl rfl (fun _ => (FS_move rfl)) rfl ?_
  refine HQ_pg R1 rfl rfl rfl rfl gvT (fun hg _ => (FS_move rfl)) rfl ?_
  refine HQ_pg R1 rfl rfl rfl rfl gvT (fun hg _ => (FS_move rfl)) rfl ?_
  refine HQ_pg R1 rfl rfl rfl rfl gvT (fun hg _ => (FS_nilCheck (gx hg rfl))) rfl ?_
  refine HQ_pg R1 rfl rfl rfl rfl gvT (fun hg _ => (FS_nilCheck (gx hg rfl))) rfl ?_
  refine HQ_pg R1 rfl rfl rfl rfl gvT (fun hg _ => (FS_field Try.tab (gx hg rfl) rfl)) rfl ?_
  refine HQ_pg R1 rfl rfl rfl rfl gvT (fun hg _ => (FS_field Try.tab (gx hg rfl) rfl)) rfl ?_
  refine HQ_lg R1 rfl rfl rfl rfl gvT (fun hg => (FS_loadB Try.tab (gx hg rfl) rfl own0 hw rfl)) rfl ?_
  refine HQ_lg R1 rfl rfl rfl rfl gvT (fun hg => (FS_loadB Try.tab (gx hg rfl) rfl own0 hw rfl)) rfl ?_
  refine HQ_pg R1 rfl rfl rfl rfl gvT (fun hg _ => (FS_int (gx hg rfl) (gx hg rfl) rfl)) rfl ?_
  refine HQ_p R1 rfl rfl (fun _ => (FS_and rfl rfl)) rfl ?_
  refine HQ_p R1 rfl rfl (fun _ => (FS_move rfl)) rfl ?_
  refine HQ_pg R1 rfl rfl rfl rfl gvT (fun hg _ => (FS_move rfl)) rfl ?_
  refine HQ_pg R1 rfl rfl rfl rfl gvT (fun hg _ => (FS_nilCheck (gx hg rfl))) rfl ?_
  refine HQ_pg R1 rfl rfl rfl rfl gvT (fun hg _ => (FS_field Try.tab (gx hg rfl) rfl)) rfl ?_
  refine HQ_lg R1 rfl rfl rfl rfl gvT (fun hg => (FS_loadB Try.tab (gx hg rfl) rfl own0 hw rfl)) rfl ?_
  refine HQ_pg R1 rfl rfl rfl rfl gvT (fun hg _ => (FS_int (gx hg rfl) rfl rfl)) rfl ?_
  refine HQ_p R1 rfl rfl (fun _ => (FS_and rfl rfl)) rfl ?_
  refine HQ_p R1 rfl rfl (fun _ => (FS_move rfl)) rfl ?_
  refine HQ_pg R1 rfl rfl rfl rfl gvT (fun hg _ => (FS_move rfl)) rfl ?_
  refine HQ_pg R1 rfl rfl rfl rfl gvT (fun hg _ => (FS_nilCheck (gx hg rfl))) rfl ?_
  refine HQ_pg R1 rfl rfl rfl rfl gvT (fun hg _ => (FS_field Try.tab (gx hg rfl) rfl)) rfl ?_
  refine HQ_lg R1 rfl rfl rfl rfl gvT (fun hg => (FS_loadB Try.tab (gx hg rfl) rfl own0 hw rfl)) rfl ?_
  refine HQ_pg R1 rfl rfl rfl rfl gvT (fun hg _ => (FS_int (gx hg rfl) rfl rfl)) rfl ?_
  refine HQ_p R1 rfl rfl (fun _ => (FS_and rfl rfl)) rfl ?_
  refine HQ_p R1 rfl rfl (fun _ => (FS_move rfl)) rfl ?_
  refine HQ_pg R1 rfl rfl rfl rfl gvT (fun hg _ => (FS_move rfl)) rfl ?_
  refine HQ_pg R1 rfl rfl rfl rfl gvT (fun hg _ => (FS_nilCheck (gx hg rfl))) rfl ?_
  refine HQ_pg R1 rfl rfl rfl rfl gvT (fun hg _ => (FS_field Try.tab (gx hg rfl) rfl)) rfl ?_
  refine HQ_lg R1 rfl rfl rfl rfl gvT (fun hg => (FS_loadB Try.tab (gx hg rfl) rfl own0 hw rfl)) rfl ?_
  refine HQ_pg R1 rfl rfl rfl rfl gvT (fun hg _ => (FS_int (gx hg rfl) rfl rfl)) rfl ?_
  refine HQ_p R1 rfl rfl (fun _ => (FS_and rfl rfl)) rfl ?_
  refine HQ_p R1 rfl rfl (fun _ => (FS_assign rfl)) rfl ?_
  refine HQ_end R1 rfl ?_
  clear R1
  refine JS_live [(2, _)] rfl ?_
  exact JS_retv rfl (.tmp rfl .nil) (rfl)
theorem isNaN_c (t : Int) : Ctr Try.prog 66 [vi t] (fun _ => True) ([]) (fun _ : Unit => .bool false) (fun _ => []) := by
  refine Ctr.of Try.func66 rfl (Nat.le_of_ble_eq_true rfl) fun w hw => ?_
  refine JS_live [(0, _)] rfl ?_
  refine JS_seq ?_
  refine JS_region ?_
  refine RJ_float (FS_assign rfl) rfl ?_
  refine RJ_nil ?_
  refine JS_seq ?_
  refine JS_region ?_
  refine RJ_float (FS_move rfl) rfl ?_
  refine RJ_float (FS_move rfl) rfl ?_
  refine RJ_float (FS_int rfl rfl rfl) rfl ?_
  refine RJ_float (FS_assign rfl) rfl ?_
  refine RJ_nil ?_
  exact JS_retv rfl (.tmp rfl .nil) (by simp [one])
theorem compare_c (x y : Int) : Ctr Try.prog 64 [vi x, vi y] (fun _ => True) ([]) (fun _ : Unit => vi (cmpI x y)) (fun _ => []) := by
  refine Ctr.of Try.func64 rfl (Nat.le_of_ble_eq_true rfl) fun w hw => ?_
  refine JS_live [(0, _), (1, _)] rfl ?_
  refine JS_seq ?_
  refine JS_region ?_
  refine RJ_float (FS_assign rfl) rfl ?_
  refine RJ_nil ?_
  refine JS_seq ?_
  refine JS_region ?_
  refine RJ_float (FS_move rfl) rfl ?_
  refine RJ_fun (LS_fun (Try.can rfl) (isNaN_c _) rfl (fun _ _ => trivial)) rfl ?_
  refine RJ_float (FS_assign rfl) rfl ?_
  refine RJ_nil ?_
  refine JS_seq ?_
  refine JS_region ?_
  refine RJ_float (FS_move rfl) rfl ?_
  refine RJ_fun (LS_fun (Try.can rfl) (isNaN_c _) rfl (fun _ _ => trivial)) rfl ?_
  refine RJ_float (FS_assign rfl) rfl ?_
  refine RJ_nil ?_
  refine JS_seq ?_
  refine JS_seq ?_
  refine JS_region ?_
  refine RJ_float (FS_move rfl) rfl ?_
  refine RJ_nil ?_
  refine JS_else rfl ?_
  refine JS_skip ?_
  refine JS_seq ?_
  refine JS_seq ?_
  refine JS_region ?_
  refine RJ_float (FS_move rfl) rfl ?_
  refine RJ_nil ?_
  refine JS_live [(0, _), (1, _), (13, _)] rfl ?_
  refine JS_else rfl ?_
  refine JS_skip ?_
  refine JS_seq ?_
  refine JS_seq ?_
  refine JS_region ?_
  refine RJ_float (FS_move rfl) rfl ?_
  refine RJ_float (FS_move rfl) rfl ?_
  refine RJ_float (FS_int rfl rfl rfl) rfl ?_
  refine RJ_nil ?_
  refine JS_condD rfl (fun h16 => ?_) (fun h16 => ?_)
  · refine JS_seq ?_
    refine JS_region ?_
    refine RJ_float (FS_assign rfl) rfl ?_
    refine RJ_nil ?_
    exact JS_retv rfl (.tmp rfl .nil) (by simp only [one, cmpI]; split <;> (try split) <;> first | rfl | omega)
  · refine JS_skip ?_
    refine JS_seq ?_
    refine JS_seq ?_
    refine JS_region ?_
    refine RJ_float (FS_move rfl) rfl ?_
    refine RJ_float (FS_move rfl) rfl ?_
    refine RJ_float (FS_int rfl rfl rfl) rfl ?_
    refine RJ_nil ?_
    refine JS_live [(19, _)] rfl ?_
    refine JS_condD rfl (fun h19 => ?_) (fun h19 => ?_)
    · refine JS_seq ?_
      refine JS_region ?_
      refine RJ_float (FS_assign rfl) rfl ?_
      refine RJ_nil ?_
      exact JS_retv rfl (.tmp rfl .nil) (by simp only [one, cmpI]; split <;> (try split) <;> first | rfl | omega)
    · refine JS_skip ?_
      refine JS_seq ?_
      refine JS_region ?_
      refine RJ_float (FS_assign rfl) rfl ?_
      refine RJ_nil ?_
      exact JS_retv rfl (.tmp rfl .nil) (by simp only [one, cmpI]; split <;> (try split) <;> first | rfl | omega)
theorem take_all {α : Type} {xs ys : List α} {i : Nat} (hl : xs.length = ys.length) (hi : ¬ i < xs.length) (h : xs.take i = ys.take i) : xs = ys := by
  rw [List.take_of_length_le (by omega), List.take_of_length_le (by omega)] at h
  exact h
theorem take_more {α : Type} {xs ys : List α} {i : Nat} (h1 : i < xs.length) (h2 : i < ys.length) (h : xs.take i = ys.take i) (he : xs[i] = ys[i]) : xs.take (i + 1) = ys.take (i + 1) := by
  rw [List.take_succ_eq_append_getElem h1, List.take_succ_eq_append_getElem h2, h, he]
theorem Ev.csl (x : Ev) : (Ev.cs x).length = 4 := rfl
theorem Job.csl (x : Job) : (Job.cs x).length = 7 := rfl
theorem Task.csl (x : Task) : (Task.cs x).length = 6 := rfl
theorem Ev.cs_eq (x y : Ev) : eqvL [false, false, false, false] x.cs y.cs = some (decide (x = y)) := by
  cases x; cases y
  simp [eqvL, eqv1, Ev.mk.injEq]
  grind
theorem sameEvents_c (A C : Option Addr) (ca cb : Nat) (xs ys : List Ev) : Ctr Try.prog 9 [.slice A xs.length ca, .slice C ys.length cb] (fun w => RowAt w A (rows Ev.cs xs) ∧ RowAt w C (rows Ev.cs ys) ∧ xs.length ≤ 4294967296) ([]) (fun _ : Unit => .bool (decide (xs = ys))) (fun _ => []) := by
  refine Ctr.of Try.func9 rfl (Nat.le_of_ble_eq_true rfl) fun w hw => ?_
  refine JS_live [(0, _), (1, _)] rfl ?_
  refine JS_seq ?_
  refine JS_region ?_
  refine RJ_float (FS_assign rfl) rfl ?_
  refine RJ_nil ?_
  refine JS_seq ?_
  refine JS_seq ?_
  refine JS_region ?_
  refine RJ_float (FS_move rfl) rfl ?_
  refine RJ_float (FS_len Try.tab rfl rfl) rfl ?_
  refine RJ_float (FS_move rfl) rfl ?_
  refine RJ_float (FS_len Try.tab rfl rfl) rfl ?_
  refine RJ_float (FS_int rfl rfl rfl) rfl ?_
  refine RJ_nil ?_
  refine JS_condN rfl (fun h10 => ?_) (fun h10 => ?_)
  · have h10 : xs.length ≠ ys.length := by omega
    refine JS_seq ?_
    refine JS_region ?_
    refine RJ_float (FS_assign rfl) rfl ?_
    refine RJ_nil ?_
    refine JS_live [(4, _)] rfl ?_
    exact JS_retv rfl (.tmp rfl .nil) (by simp only [one]; rw [decide_eq_false]; intro h; exact h10 (by rw [h]))
  · have h10 : xs.length = ys.length := by omega
    refine JS_skip ?_
    refine JS_seq ?_
    refine JS_seq ?_
    refine JS_region ?_
    refine RJ_float (FS_assign rfl) rfl ?_
    refine RJ_nil ?_
    refine JS_block ?_
    refine JS_loopF (ι := {i : Nat // i ≤ xs.length ∧ xs.take i = ys.take i}) [(0, _), (1, _)] (fun ⟨i, hi⟩ => [(5, vi (i : Int))]) (fun _ => _) (fun ⟨i, hi⟩ => xs.length - i) ⟨0, by simp⟩ rfl (fun _ h => h) (fun ⟨i, hi⟩ => ?_)
    refine JS_live [(5, _), (0, _), (1, _)] rfl ?_
    have hb := hw.2.2
    refine JS_seq ?_
    refine JS_seq ?_
    refine JS_region ?_
    refine RJ_float (FS_move rfl) rfl ?_
    refine RJ_float (FS_move rfl) rfl ?_
    refine RJ_float (FS_len Try.tab rfl rfl) rfl ?_
    refine RJ_float (FS_int rfl rfl rfl) rfl ?_
    refine RJ_nil ?_
    refine JS_condD rfl (fun h14 => ?_) (fun h14 => ?_)
    · have h14 : i < xs.length := by omega
      obtain ⟨b1, q1, rfl, r1⟩ := hw.1.part Ev.csl (by decide) h14
      obtain ⟨b2, q2, rfl, r2⟩ := hw.2.1.part Ev.csl (by decide) (show i < ys.length by omega)
      refine JS_skip ?_
      refine JS_seq ?_
      refine JS_block ?_
      refine JS_seq ?_
      refine JS_drawn Try.mixed [(0, false), (1, false), (4, false), (5, false), (2, false), (6, false), (3, false), (7, false), (8, false)] (by kernel_rfl) fun R1 => ?_
      refine HQ_p R1 rfl rfl (fun _ => (FS_move rfl)) rfl ?_
      refine HQ_p R1 rfl rfl (fun _ => (FS_move rfl)) rfl ?_
      refine HQ_p R1 rfl rfl (fun _ => (FS_move rfl)) rfl ?_
      refine HQ_p R1 rfl rfl (fun _ => (FS_move rfl)) rfl ?_
      refine HQ_p R1 rfl rfl (fun _ => (FS_index Try.tab rfl rfl rfl (by omega) (by omega))) rfl ?_
      refine HQ_p R1 rfl rfl (fun _ => (FS_index Try.tab rfl rfl rfl (by omega) (by omega))) rfl ?_
      refine HQ_l R1 rfl rfl (FS_loadB0 Try.tab rfl rfl own0 r1 rfl) rfl ?_
      refine HQ_l R1 rfl rfl (FS_loadB0 Try.tab rfl rfl own0 r2 rfl) rfl ?_
      refine HQ_p R1 rfl rfl (fun _ => (FS_flatNeq Try.tab rfl rfl rfl (Ev.cs_eq _ _))) rfl ?_
      refine HQ_end R1 rfl ?_
      clear R1
      refine JS_live [(5, _), (0, _), (1, _), (25, _)] rfl ?_
      refine JS_cond rfl (fun h25 => ?_) (fun h25 => ?_)
      · try simp only [Bool.and_eq_true, Bool.or_eq_true, Bool.and_eq_false_iff, Bool.or_eq_false_iff, Bool.not_eq_true', Bool.not_eq_false', decide_eq_true_eq, decide_eq_false_iff_not, beq_iff_eq, bne_iff_ne, beq_eq_false_iff_ne, bne_eq_false_iff_eq] at h25
        refine JS_seq ?_
        refine JS_region ?_
        refine RJ_float (FS_assign rfl) rfl ?_
        refine RJ_nil ?_
        exact JS_retv rfl (.tmp rfl .nil) (by simp only [one]; rw [decide_eq_false]; intro h; subst h; simp at h25)
      · try simp only [Bool.and_eq_true, Bool.or_eq_true, Bool.and_eq_false_iff, Bool.or_eq_false_iff, Bool.not_eq_true', Bool.not_eq_false', decide_eq_true_eq, decide_eq_false_iff_not, beq_iff_eq, bne_iff_ne, beq_eq_false_iff_ne, bne_eq_false_iff_eq] at h25
        refine JS_skip ?_
        refine JS_blk ?_
        refine JS_region ?_
        refine RJ_float (FS_move rfl) rfl ?_
        refine RJ_float (FS_add rfl rfl (by omega) (by omega)) rfl ?_
        refine RJ_float (FS_assign rfl) rfl ?_
        refine RJ_nil ?_
        exact JS_againF ⟨i + 1, by omega, take_more h14 (by omega) hi.2 (by simpa using h25)⟩ (by simp; omega) rfl (fun _ h => h)
    · have h14 : ¬ i < xs.length := by omega
      refine JS_exit rfl ?_
      refine JS_seq ?_
      refine JS_region ?_
      refine RJ_float (FS_assign rfl) rfl ?_
      refine RJ_nil ?_
      refine JS_live [(4, _)] rfl ?_
      exact JS_retv rfl (.tmp rfl .nil) (by simp only [one]; rw [decide_eq_true]; exact take_all h10 h14 hi.2)
end Go.Proofs.Ytmhjcemcjfkejaa
