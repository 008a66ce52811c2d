/- task.Pick, Late, Release -/
import Derived.Test.YtmhjcemcjfkejaaA8
namespace Go.Proofs.Ytmhjcemcjfkejaa
open Go.RowKit
open Go.Proofs
set_option linter.unusedVariables false
set_option linter.unusedSimpArgs false
set_option linter.unnecessarySimpa false
set_option maxRecDepth 20000
abbrev turnsCs (last : Int) (A : Option Addr) (ca : Nat) (picks : List Int) : List Value := [vi last, .slice A picks.length ca]
abbrev pairCs (t : Task) (last : Int) (A : Option Addr) (ca : Nat) (picks : List Int) : List Value := [vi t.kind, vi t.period, vi t.deadline, vi t.cLow, vi t.cHigh, vi t.prio, vi last, .slice A picks.length ca]
theorem pair_t {w : World} {b o : Nat} {t : Task} {last : Int} {A : Option Addr} {ca : Nat} {picks : List Int} (h : w.rangeAt b o (pairCs t last A ca picks)) : w.rangeAt b (o + 0) t.cs := rangeAt_pre (cs := turnsCs last A ca picks) h
theorem pair_s {w : World} {b o : Nat} {t : Task} {last : Int} {A : Option Addr} {ca : Nat} {picks : List Int} (h : w.rangeAt b o (pairCs t last A ca picks)) : w.rangeAt b (o + 6) (turnsCs last A ca picks) := rangeAt_mid (pre := t.cs) h
def pairB (t : Task) (last : Int) (picks : List Int) : Bool := t.ok && decide (last ≥ -1) && decide (last ≤ 1099511627776) && decide ((picks.length : Int) ≤ 4) && !(picks.any fun d => !demandB d)
theorem pairB_bounds {t : Task} {last : Int} {picks : List Int} (h : pairB t last picks = true) : t.ok = true ∧ -1 ≤ last ∧ last ≤ 1099511627776 ∧ picks.length ≤ 4 := by
  simp only [pairB, Bool.and_eq_true, decide_eq_true_eq] at h
  exact ⟨h.1.1.1.1, by omega, by omega, by omega⟩
def soonB (t : Task) (last now : Int) : Bool := (last == -1) || decide (now ≥ last + t.period)
def comesB (t : Task) (last : Int) (picks : List Int) (now : Int) : Bool := if t.kind = 0 then now % t.period == 0 else decide ((picks.length : Int) > 0) && soonB t last now
def lateB (t : Task) (last : Int) (picks : List Int) (now : Int) : Bool := pairB t last picks && clockB now && (t.kind == 1) && decide ((picks.length : Int) > 0) && !soonB t last now
/-- task.Pick: the picks behind it, the last tick, the error. -/
def pickT (t : Task) (last : Int) (picks : List Int) (d : Int) : Int × List Int × Int :=
  if pairB t last picks = false ∨ demandB d = false then (0, [], 1100) else if picks.length = 4 then (0, [], 1101) else (last, picks ++ [d], 0)
def releaseT (t : Task) (last : Int) (picks : List Int) (now : Int) : Int × List Int × Int × Bool :=
  if pairB t last picks = false ∨ clockB now = false then (0, [], 0, false) else if comesB t last picks now = false then (last, picks, 0, false) else match picks with
  | [] => (now, [], t.cLow, true)
  | d :: r => (now, r, d, true)
theorem RowAt.tl {w : World} {A : Option Addr} {ca : Nat} {d : Int} {r : List Int} (h : RowAt w A (rows vi1 (d :: r))) (hc : (d :: r).length ≤ ca) : RowAt w (slA A ca 1 1) (rows vi1 r) := by
  have := h.slice (z := 1) (rows_length vi1l _) (l := 1) (m := (d :: r).length) (by simp) (Nat.le_refl _) hc
  have h2 : ((rows vi1 (d :: r)).drop (1 * 1)).take (((d :: r).length - 1) * 1) = rows vi1 r := by
    rw [rows_drop vi1l, List.take_of_length_le (by rw [rows_length vi1l]; simp)]
    rfl
  rwa [h2] at this
theorem pairMay_c (b o : Nat) (t : Task) (last : Int) (A : Option Addr) (ca : Nat) (picks : List Int) : Ctr Try.prog 35 [vp b o] (fun w => w.rangeAt b o (pairCs t last A ca picks) ∧ RowAt w A (rows vi1 picks) ∧ picks.length ≤ 4294967296) ([]) (fun _ : Unit => .bool (pairB t last picks)) (fun _ => []) := by
  refine Ctr.of Try.func35 rfl (Nat.le_of_ble_eq_true rfl) fun w hw => ?_
  refine JS_live [(0, _)] rfl ?_
  refine JS_seq ?_
  refine JS_region ?_
  refine RJ_float (FS_assign rfl) rfl ?_
  refine RJ_nil ?_
  refine JS_seq ?_
  refine JS_region ?_
  refine RJ_float (FS_assign rfl) rfl ?_
  refine RJ_nil ?_
  refine JS_seq ?_
  refine JS_region ?_
  refine RJ_float (FS_move rfl) rfl ?_
  refine RJ_float (FS_nilCheck rfl) rfl ?_
  refine RJ_float (FS_field Try.tab rfl rfl) rfl ?_
  refine RJ_float (FS_loadB Try.tab rfl rfl own0 hw.1 rfl) rfl ?_
  refine RJ_fun (LS_fun (Try.can rfl) (taskMay_c t) rfl (fun _ _ => trivial)) rfl ?_
  refine RJ_float (FS_move rfl) rfl ?_
  refine RJ_g rfl rfl gvT (fun hg => (FS_move rfl)) rfl ?_
  refine RJ_g rfl rfl gvT (fun hg => (FS_nilCheck (gx hg rfl))) rfl ?_
  refine RJ_g rfl rfl gvT (fun hg => (FS_field Try.tab (gx hg rfl) rfl)) rfl ?_
  refine RJ_g rfl rfl gvT (fun hg => (FS_field Try.tab (gx hg rfl) rfl)) rfl ?_
  refine RJ_g rfl rfl gvT (fun hg => (FS_loadB Try.tab (gx hg rfl) rfl own0 (pair_s hw.1) rfl)) rfl ?_
  refine RJ_g rfl rfl gvT (fun hg => (FS_int (gx hg rfl) rfl rfl)) rfl ?_
  refine RJ_float (FS_and rfl rfl) rfl ?_
  refine RJ_float (FS_move rfl) rfl ?_
  refine RJ_g rfl rfl gvT (fun hg => (FS_move rfl)) rfl ?_
  refine RJ_g rfl rfl gvT (fun hg => (FS_nilCheck (gx hg rfl))) rfl ?_
  refine RJ_g rfl rfl gvT (fun hg => (FS_field Try.tab (gx hg rfl) rfl)) rfl ?_
  refine RJ_g rfl rfl gvT (fun hg => (FS_field Try.tab (gx hg rfl) rfl)) rfl ?_
  refine RJ_g rfl rfl gvT (fun hg => (FS_loadB Try.tab (gx hg rfl) rfl own0 (pair_s hw.1) rfl)) rfl ?_
  refine RJ_g rfl rfl gvT (fun hg => (FS_int (gx hg rfl) rfl rfl)) rfl ?_
  refine RJ_float (FS_and rfl rfl) rfl ?_
  refine RJ_float (FS_move rfl) rfl ?_
  refine RJ_g rfl rfl gvT (fun hg => (FS_move rfl)) rfl ?_
  refine RJ_g rfl rfl gvT (fun hg => (FS_nilCheck (gx hg rfl))) rfl ?_
  refine RJ_g rfl rfl gvT (fun hg => (FS_field Try.tab (gx hg rfl) rfl)) rfl ?_
  refine RJ_g rfl rfl gvT (fun hg => (FS_field Try.tab (gx hg rfl) rfl)) rfl ?_
  refine RJ_g rfl rfl gvT (fun hg => (FS_loadB Try.tab (gx hg rfl) rfl own0 (pair_s hw.1) rfl)) rfl ?_
  refine RJ_g rfl rfl gvT (fun hg => (FS_len Try.tab (gx hg rfl) rfl)) rfl ?_
  refine RJ_g rfl rfl gvT (fun hg => (FS_int (gx hg rfl) rfl rfl)) rfl ?_
  refine RJ_float (FS_and rfl rfl) rfl ?_
  refine RJ_float (FS_move rfl) rfl ?_
  refine RJ_g rfl rfl gvT (fun hg => (FS_move rfl)) rfl ?_
  refine RJ_g rfl rfl gvT (fun hg => (FS_nilCheck (gx hg rfl))) rfl ?_
  refine RJ_g rfl rfl gvT (fun hg => (FS_field Try.tab (gx hg rfl) rfl)) rfl ?_
  refine RJ_g rfl rfl gvT (fun hg => (FS_field Try.tab (gx hg rfl) rfl)) rfl ?_
  refine RJ_g rfl rfl gvT (fun hg => (FS_loadB Try.tab (gx hg rfl) rfl own0 (pair_s hw.1) rfl)) rfl ?_
  refine RJ_g rfl rfl gvT (fun hg => (FS_move rfl)) rfl ?_
  refine RJ_gfun rfl rfl gvT (fun hg => (LS_under [(39, _), (40, _)] (LE_cons (gx hg rfl) (LE_cons (gx hg rfl) LE_nil)) (LS_fun (Try.can rfl) (containsI_c _ _ picks 50 #[] #[] (fun d => !demandB d) (fun _ _ => True) Keeps.true (Try.can rfl) (fun x _ => bad_c x)) rfl (fun w h => ⟨h.rowB rfl hw.2.1, hw.2.2, fun _ _ => trivial⟩)))) rfl ?_
  refine RJ_g rfl rfl gvT (fun hg => (FS_not (gx hg rfl))) rfl ?_
  refine RJ_float (FS_and rfl rfl) rfl ?_
  refine RJ_float (FS_assign rfl) rfl ?_
  refine RJ_nil ?_
  refine JS_live [(2, _)] rfl ?_
  exact JS_retv rfl (.tmp rfl .nil) (rfl)
theorem soon_c (b o : Nat) (t : Task) (last : Int) (A : Option Addr) (ca : Nat) (picks : List Int) (now : Int) : Ctr Try.prog 38 [vp b o, vi now] (fun w => w.rangeAt b o (pairCs t last A ca picks) ∧ pairB t last picks = true) ([]) (fun _ : Unit => .bool (soonB t last now)) (fun _ => []) := by
  refine Ctr.of Try.func38 rfl (Nat.le_of_ble_eq_true rfl) fun w hw => ?_
  have hb := pairB_bounds hw.2
  have hb2 := Task.ok_bounds hb.1
  refine JS_live [(0, _), (1, _)] rfl ?_
  refine JS_seq ?_
  refine JS_region ?_
  refine RJ_float (FS_assign rfl) rfl ?_
  refine RJ_nil ?_
  refine JS_seq ?_
  refine JS_drawn Try.mixed [(0, false), (1, false), (2, false), (3, false), (4, false), (5, false), (6, false), (7, false), (8, false), (13, false), (9, false), (14, false), (10, false), (15, false), (11, false), (16, false), (12, false), (17, false), (18, false), (19, false), (20, false), (21, false)] (by kernel_rfl) fun R1 => ?_
  refine HQ_p R1 rfl rfl (fun _ => (FS_move rfl)) rfl ?_
  refine HQ_p R1 rfl rfl (fun _ => (FS_nilCheck rfl)) rfl ?_
  refine HQ_p R1 rfl rfl (fun _ => (FS_field Try.tab rfl rfl)) rfl ?_
  refine HQ_p R1 rfl rfl (fun _ => (FS_field Try.tab rfl rfl)) rfl ?_
  refine HQ_l R1 rfl rfl (FS_loadB Try.tab rfl rfl own0 (pair_s hw.1) rfl) rfl ?_
  refine HQ_p R1 rfl rfl (fun _ => (FS_int rfl rfl rfl)) rfl ?_
  refine HQ_p R1 rfl rfl (fun _ => (FS_move rfl)) rfl ?_
  refine HQ_pg R1 rfl rfl rfl rfl gvF (fun hg _ => (FS_move rfl)) rfl ?_
  refine HQ_pg R1 rfl rfl rfl rfl gvF (fun hg _ => (FS_move rfl)) rfl ?_
  refine HQ_pg R1 rfl rfl rfl rfl gvF (fun hg _ => (FS_move rfl)) rfl ?_
  refine HQ_pg R1 rfl rfl rfl rfl gvF (fun hg _ => (FS_nilCheck (gx hg rfl))) rfl ?_
  refine HQ_pg R1 rfl rfl rfl rfl gvF (fun hg _ => (FS_nilCheck (gx hg rfl))) rfl ?_
  refine HQ_pg R1 rfl rfl rfl rfl gvF (fun hg _ => (FS_field Try.tab (gx hg rfl) rfl)) rfl ?_
  refine HQ_pg R1 rfl rfl rfl rfl gvF (fun hg _ => (FS_field Try.tab (gx hg rfl) rfl)) rfl ?_
  refine HQ_pg R1 rfl rfl rfl rfl gvF (fun hg _ => (FS_field Try.tab (gx hg rfl) rfl)) rfl ?_
  refine HQ_pg R1 rfl rfl rfl rfl gvF (fun hg _ => (FS_field Try.tab (gx hg rfl) rfl)) rfl ?_
  refine HQ_lg R1 rfl rfl rfl rfl gvF (fun hg => (FS_loadB Try.tab (gx hg rfl) rfl own0 (pair_s hw.1) rfl)) rfl ?_
  refine HQ_lg R1 rfl rfl rfl rfl gvF (fun hg => (FS_loadB Try.tab (gx hg rfl) rfl own0 (pair_t hw.1) rfl)) rfl ?_
  refine HQ_pg R1 rfl rfl rfl rfl gvF (fun hg _ => (FS_add (gx hg rfl) (gx hg rfl) (by omega) (by omega))) rfl ?_
  refine HQ_pg R1 rfl rfl rfl rfl gvF (fun hg _ => (FS_int (gx hg rfl) (gx hg rfl) rfl)) rfl ?_
  refine HQ_p R1 rfl rfl (fun _ => (FS_or rfl rfl)) rfl ?_
  refine HQ_p R1 rfl rfl (fun _ => (FS_assign rfl)) rfl ?_
  refine HQ_end R1 rfl ?_
  clear R1
  refine JS_live [(4, _)] rfl ?_
  exact JS_retv rfl (.tmp rfl .nil) (rfl)
theorem comes_c (b o : Nat) (t : Task) (last : Int) (A : Option Addr) (ca : Nat) (picks : List Int) (now : Int) : Ctr Try.prog 53 [vp b o, vi now] (fun w => w.rangeAt b o (pairCs t last A ca picks) ∧ pairB t last picks = true ∧ 0 ≤ now) ([]) (fun _ : Unit => .bool (comesB t last picks now)) (fun _ => []) := by
  refine Ctr.of Try.func53 rfl (Nat.le_of_ble_eq_true rfl) fun w hw => ?_
  have hb := pairB_bounds hw.2.1
  have hb2 := Task.ok_bounds hb.1
  have hnow := hw.2.2
  refine JS_live [(0, _), (1, _)] rfl ?_
  refine JS_seq ?_
  refine JS_region ?_
  refine RJ_float (FS_assign rfl) rfl ?_
  refine RJ_nil ?_
  refine JS_seq ?_
  refine JS_seq ?_
  refine JS_region ?_
  refine RJ_float (FS_move rfl) rfl ?_
  refine RJ_float (FS_nilCheck rfl) rfl ?_
  refine RJ_float (FS_field Try.tab rfl rfl) rfl ?_
  refine RJ_float (FS_field Try.tab rfl rfl) rfl ?_
  refine RJ_float (FS_loadB Try.tab rfl rfl own0 (pair_t hw.1) rfl) rfl ?_
  refine RJ_float (FS_int rfl rfl rfl) rfl ?_
  refine RJ_nil ?_
  refine JS_condE rfl (fun h10 => ?_) (fun h10 => ?_)
  · refine JS_seq ?_
    refine JS_region ?_
    refine RJ_float (FS_move rfl) rfl ?_
    refine RJ_float (FS_move rfl) rfl ?_
    refine RJ_float (FS_nilCheck rfl) rfl ?_
    refine RJ_float (FS_field Try.tab rfl rfl) rfl ?_
    refine RJ_float (FS_field Try.tab rfl rfl) rfl ?_
    refine RJ_float (FS_loadB Try.tab rfl rfl own0 (pair_t hw.1) rfl) rfl ?_
    refine RJ_float (FS_rem rfl rfl (by omega) (by omega)) rfl ?_
    refine RJ_float (FS_int rfl rfl rfl) rfl ?_
    refine RJ_float (FS_assign rfl) rfl ?_
    refine RJ_nil ?_
    refine JS_live [(4, _)] rfl ?_
    exact JS_retv rfl (.tmp rfl .nil) (by simp [one, comesB, h10])
  · refine JS_skip ?_
    refine JS_seq ?_
    refine JS_region ?_
    refine RJ_float (FS_move rfl) rfl ?_
    refine RJ_float (FS_nilCheck rfl) rfl ?_
    refine RJ_float (FS_field Try.tab rfl rfl) rfl ?_
    refine RJ_float (FS_field Try.tab rfl rfl) rfl ?_
    refine RJ_float (FS_loadB Try.tab rfl rfl own0 (pair_s hw.1) rfl) rfl ?_
    refine RJ_float (FS_len Try.tab rfl rfl) rfl ?_
    refine RJ_float (FS_int rfl rfl rfl) rfl ?_
    refine RJ_float (FS_move rfl) rfl ?_
    refine RJ_g rfl rfl gvT (fun hg => (FS_move rfl)) rfl ?_
    refine RJ_g rfl rfl gvT (fun hg => (FS_move rfl)) rfl ?_
    refine RJ_gfun rfl rfl gvT (fun hg => (LS_under [(27, _), (28, _)] (LE_cons (gx hg rfl) (LE_cons (gx hg rfl) LE_nil)) (LS_fun (Try.can rfl) (soon_c _ _ t last A ca picks now) rfl (fun w h => ⟨h.rangeB own0 hw.1, hw.2.1⟩)))) rfl ?_
    refine RJ_float (FS_and rfl rfl) rfl ?_
    refine RJ_float (FS_assign rfl) rfl ?_
    refine RJ_nil ?_
    refine JS_live [(4, _)] rfl ?_
    exact JS_retv rfl (.tmp rfl .nil) (by simp [one, comesB, h10])
theorem late_c (t : Task) (last : Int) (A : Option Addr) (ca : Nat) (picks : List Int) (now : Int) : Ctr Try.prog 18 [agg t.cs, agg (turnsCs last A ca picks), vi now] (fun w => RowAt w A (rows vi1 picks) ∧ picks.length ≤ 4294967296 ∧ picks.length ≤ ca) ([]) (fun _ : Unit => .bool (lateB t last picks now)) (fun _ => []) := by
  refine Ctr.of Try.func18 rfl (Nat.le_of_ble_eq_true rfl) fun w hw => ?_
  refine JS_live [(0, _), (1, _), (2, _)] rfl ?_
  refine JS_seq ?_
  refine JS_region ?_
  refine RJ_loud (LS_box rfl rfl) rfl fun b3 => ?_
  refine RJ_mem [_] rfl ?_
  refine RJ_loud (LS_box rfl rfl) rfl fun b4 => ?_
  refine RJ_mem [_, _] rfl ?_
  refine RJ_float (FS_assign rfl) rfl ?_
  refine RJ_nil ?_
  refine JS_seq ?_
  refine JS_region ?_
  refine RJ_float (FS_loadK Try.tab 0 rfl rfl rfl rfl) rfl ?_
  refine RJ_float (FS_loadK Try.tab 1 rfl rfl rfl rfl) rfl ?_
  refine RJ_float (FS_build Try.tab rfl rfl rfl rfl) rfl ?_
  refine RJ_loud (LS_box rfl rfl) rfl fun b11 => ?_
  refine RJ_mem [_, _, _] rfl ?_
  refine RJ_float (FS_assign rfl) rfl ?_
  refine RJ_nil ?_
  refine JS_live [(2, _), (7, _)] rfl ?_
  refine JS_seq ?_
  refine JS_region ?_
  refine RJ_float (FS_move rfl) rfl ?_
  refine RJ_fun (LS_fun (Try.can rfl) (pairMay_c _ _ t last A ca picks) rfl (fun w h => ⟨h.range 2 rfl, h.rowB rfl hw.1, hw.2.1⟩)) rfl ?_
  refine RJ_float (FS_move rfl) rfl ?_
  refine RJ_g rfl rfl gvT (fun hg => (FS_move rfl)) rfl ?_
  refine RJ_gfun rfl rfl gvT (fun hg => (LS_under [(15, _)] (LE_cons (gx hg rfl) LE_nil) (LS_fun (Try.can rfl) (clock_c _) rfl (fun _ _ => trivial)))) rfl ?_
  refine RJ_float (FS_and rfl rfl) rfl ?_
  refine RJ_float (FS_move rfl) rfl ?_
  refine RJ_g rfl rfl gvT (fun hg => (FS_move rfl)) rfl ?_
  refine RJ_g rfl rfl gvT (fun hg => (FS_nilCheck (gx hg rfl))) rfl ?_
  refine RJ_g rfl rfl gvT (fun hg => (FS_field Try.tab (gx hg rfl) rfl)) rfl ?_
  refine RJ_g rfl rfl gvT (fun hg => (FS_field Try.tab (gx hg rfl) rfl)) rfl ?_
  refine RJ_g rfl rfl gvT (fun hg => (FS_loadK Try.tab 2 (gx hg rfl) rfl rfl rfl)) rfl ?_
  refine RJ_g rfl rfl gvT (fun hg => (FS_int (gx hg rfl) rfl rfl)) rfl ?_
  refine RJ_float (FS_and rfl rfl) rfl ?_
  refine RJ_float (FS_move rfl) rfl ?_
  refine RJ_g rfl rfl gvT (fun hg => (FS_move rfl)) rfl ?_
  refine RJ_g rfl rfl gvT (fun hg => (FS_nilCheck (gx hg rfl))) rfl ?_
  refine RJ_g rfl rfl gvT (fun hg => (FS_field Try.tab (gx hg rfl) rfl)) rfl ?_
  refine RJ_g rfl rfl gvT (fun hg => (FS_field Try.tab (gx hg rfl) rfl)) rfl ?_
  refine RJ_g rfl rfl gvT (fun hg => (FS_loadK Try.tab 2 (gx hg rfl) rfl rfl rfl)) rfl ?_
  refine RJ_g rfl rfl gvT (fun hg => (FS_len Try.tab (gx hg rfl) rfl)) rfl ?_
  refine RJ_g rfl rfl gvT (fun hg => (FS_int (gx hg rfl) rfl rfl)) rfl ?_
  refine RJ_float (FS_and rfl rfl) rfl ?_
  refine RJ_float (FS_move rfl) rfl ?_
  refine RJ_g rfl rfl gvT (fun hg => (FS_move rfl)) rfl ?_
  refine RJ_g rfl rfl gvT (fun hg => (FS_move rfl)) rfl ?_
  refine RJ_gfun rfl rfl gvT (fun hg => (LS_under [(36, _), (37, _)] (LE_cons (gx hg rfl) (LE_cons (gx hg rfl) LE_nil)) (LS_fun (Try.can rfl) (soon_c _ _ t last A ca picks now) rfl (fun w h => ⟨h.range 2 rfl, by simp only [Bool.and_eq_true] at hg; exact hg.1.1.1⟩)))) rfl ?_
  refine RJ_g rfl rfl gvT (fun hg => (FS_not (gx hg rfl))) rfl ?_
  refine RJ_float (FS_and rfl rfl) rfl ?_
  refine RJ_float (FS_assign rfl) rfl ?_
  refine RJ_nil ?_
  refine JS_live [(6, _)] rfl ?_
  exact JS_retv rfl (.tmp rfl .nil) (rfl)
theorem pickT_c (t : Task) (last : Int) (A : Option Addr) (ca : Nat) (picks : List Int) (d : Int) : Ctr Try.prog 17 [agg t.cs, agg (turnsCs last A ca picks), vi d] (fun w => RowAt w A (rows vi1 picks) ∧ picks.length ≤ 4294967296 ∧ picks.length ≤ ca) ([]) (fun s : Option Sl => .tuple #[agg [vi (pickT t last picks d).1, .slice (Sl.addr s) (pickT t last picks d).2.1.length (Sl.cap (pickT t last picks d).2.1.length s)], vi (pickT t last picks d).2.2]) (fun s => [Sl.e 3 1 (rows vi1 (pickT t last picks d).2.1) s]) := by
  refine Ctr.of Try.func17 rfl (Nat.le_of_ble_eq_true rfl) fun w hw => ?_
  refine JS_live [(0, _), (1, _), (2, _)] rfl ?_
  refine JS_seq ?_
  refine JS_region ?_
  refine RJ_loud (LS_box rfl rfl) rfl fun b3 => ?_
  refine RJ_mem [_] rfl ?_
  refine RJ_loud (LS_box rfl rfl) rfl fun b4 => ?_
  refine RJ_mem [_, _] rfl ?_
  refine RJ_loud (LS_alloc Try.tab rfl) rfl fun b6 => ?_
  refine RJ_mem [_, _, _] rfl ?_
  refine RJ_float (FS_assign rfl) rfl ?_
  refine RJ_nil ?_
  refine JS_seq ?_
  refine JS_region ?_
  refine RJ_float (FS_loadK Try.tab 0 rfl rfl rfl rfl) rfl ?_
  refine RJ_float (FS_loadK Try.tab 1 rfl rfl rfl rfl) rfl ?_
  refine RJ_float (FS_build Try.tab rfl rfl rfl rfl) rfl ?_
  refine RJ_loud (LS_box rfl rfl) rfl fun b12 => ?_
  refine RJ_mem [_, _, _, _] rfl ?_
  refine RJ_float (FS_assign rfl) rfl ?_
  refine RJ_nil ?_
  refine JS_live [(2, _), (4, _), (6, _), (8, _)] rfl ?_
  refine JS_seq ?_
  refine JS_block ?_
  refine JS_seq ?_
  refine JS_region ?_
  refine RJ_float (FS_move rfl) rfl ?_
  refine RJ_fun (LS_fun (Try.can rfl) (pairMay_c _ _ t last A ca picks) rfl (fun w h => ⟨h.range 3 rfl, h.rowB rfl hw.1, hw.2.1⟩)) rfl ?_
  refine RJ_float (FS_not rfl) rfl ?_
  refine RJ_float (FS_move rfl) rfl ?_
  refine RJ_g rfl rfl gvF (fun hg => (FS_move rfl)) rfl ?_
  refine RJ_gfun rfl rfl gvF (fun hg => (LS_under [(18, _)] (LE_cons (gx hg rfl) LE_nil) (LS_fun (Try.can rfl) (demand_c _) rfl (fun _ _ => trivial)))) rfl ?_
  refine RJ_g rfl rfl gvF (fun hg => (FS_not (gx hg rfl))) rfl ?_
  refine RJ_float (FS_or rfl rfl) rfl ?_
  refine RJ_float (FS_assign rfl) rfl ?_
  refine RJ_nil ?_
  refine JS_live [(2, _), (4, _), (6, _), (13, _)] rfl ?_
  refine JS_cond rfl (fun h13 => ?_) (fun h13 => ?_)
  · try simp only [Bool.and_eq_true, Bool.or_eq_true, Bool.and_eq_false_iff, Bool.or_eq_false_iff, Bool.not_eq_true', Bool.not_eq_false', decide_eq_true_eq, decide_eq_false_iff_not, beq_iff_eq, bne_iff_ne, beq_eq_false_iff_ne, bne_eq_false_iff_eq] at h13
    have hp : pickT t last picks d = (0, [], 1100) := by unfold pickT; rw [if_pos h13]
    refine JS_seq ?_
    refine JS_region ?_
    refine RJ_float (FS_build Try.tab rfl rfl rfl rfl) rfl ?_
    refine RJ_loud (LS_store Try.tab (i := 2) rfl rfl rfl rfl rfl rfl rfl rfl) rfl fun _ => ?_
    refine RJ_mem [_, _, _, _] rfl ?_
    refine RJ_float (FS_assign rfl) rfl ?_
    refine RJ_nil ?_
    refine JS_weakK (fun _ h => h.addNil 3 1) ?_
    refine JS_mem [_, _, _, _, _] rfl ?_
    exact JS_return none [4] rfl (.cell rfl (szOf_in Try.tab rfl) (List.mem_of_getElem? (i := 2) rfl) rfl (.tmp rfl .nil)) (by rw [hp]; rfl) (by decide) (by rw [hp]; rfl)
  · try simp only [Bool.and_eq_true, Bool.or_eq_true, Bool.and_eq_false_iff, Bool.or_eq_false_iff, Bool.not_eq_true', Bool.not_eq_false', decide_eq_true_eq, decide_eq_false_iff_not, beq_iff_eq, bne_iff_ne, beq_eq_false_iff_ne, bne_eq_false_iff_eq] at h13
    refine JS_seq ?_
    refine JS_region ?_
    refine RJ_float (FS_field Try.tab rfl rfl) rfl ?_
    refine RJ_float (FS_loadK Try.tab 1 rfl rfl rfl rfl) rfl ?_
    refine RJ_float (FS_len Try.tab rfl rfl) rfl ?_
    refine RJ_float (FS_int rfl rfl rfl) rfl ?_
    refine RJ_float (FS_assign rfl) rfl ?_
    refine RJ_nil ?_
    refine JS_condE rfl (fun h23 => ?_) (fun h23 => ?_)
    · have hp : pickT t last picks d = (0, [], 1101) := by unfold pickT; rw [if_neg (by simpa using h13), if_pos (by omega)]
      refine JS_seq ?_
      refine JS_region ?_
      refine RJ_float (FS_build Try.tab rfl rfl rfl rfl) rfl ?_
      refine RJ_loud (LS_store Try.tab (i := 2) rfl rfl rfl rfl rfl rfl rfl rfl) rfl fun _ => ?_
      refine RJ_mem [_, _, _, _] rfl ?_
      refine RJ_float (FS_assign rfl) rfl ?_
      refine RJ_nil ?_
      refine JS_weakK (fun _ h => h.addNil 3 1) ?_
      refine JS_mem [_, _, _, _, _] rfl ?_
      refine JS_live [(6, _), (7, _)] rfl ?_
      exact JS_return none [4] rfl (.cell rfl (szOf_in Try.tab rfl) (List.mem_of_getElem? (i := 2) rfl) rfl (.tmp rfl .nil)) (by rw [hp]; rfl) (by decide) (by rw [hp]; rfl)
    · have hp : pickT t last picks d = (last, picks ++ [d], 0) := by unfold pickT; rw [if_neg (by simpa using h13), if_neg (by omega)]
      refine JS_skip ?_
      refine JS_blk ?_
      refine JS_seq ?_
      refine JS_region ?_
      refine RJ_float (FS_field Try.tab rfl rfl) rfl ?_
      refine RJ_float (FS_loadK Try.tab 1 rfl rfl rfl rfl) rfl ?_
      refine RJ_loud (LS_pure' (Try.can rfl) (cloneI_c _ _ picks) rfl (fun w h => ⟨h.rowB rfl hw.1, hw.2.1⟩)) rfl fun s1 => ?_
      refine RJ_mem [_, _, _, _, _] rfl ?_
      refine RJ_float (FS_move rfl) rfl ?_
      refine RJ_loud (LS_buildSlice Try.tab rfl rfl rfl rfl rfl rfl) rfl fun b33 => ?_
      refine RJ_mem [_, _, _, _, _, _] rfl ?_
      refine RJ_loud (LS_app1 vi1 Try.tab 4 5 (r := d) vi1l vi1one (fun _ _ => trivial) rfl rfl rfl rfl rfl rfl rfl rfl rfl rfl hw.2.1) rfl fun s2 => ?_
      refine RJ_mem [_, _, _, _, _, _] rfl ?_
      refine RJ_float (FS_field Try.tab rfl rfl) rfl ?_
      refine RJ_loud (LS_store Try.tab (i := 1) rfl rfl rfl rfl rfl rfl rfl rfl) rfl fun _ => ?_
      refine RJ_mem [_, _, _, _, _, _] rfl ?_
      refine RJ_nil ?_
      refine JS_live [(4, _), (6, _)] rfl ?_
      refine JS_seq ?_
      refine JS_region ?_
      refine RJ_float (FS_loadK Try.tab 1 rfl rfl rfl rfl) rfl ?_
      refine RJ_loud (LS_store Try.tab (i := 2) rfl rfl rfl rfl rfl rfl rfl rfl) rfl fun _ => ?_
      refine RJ_mem [_, _, _, _, _, _] rfl ?_
      refine RJ_float (FS_assign rfl) rfl ?_
      refine RJ_nil ?_
      exact JS_return s2 [4] rfl (.cell rfl (szOf_in Try.tab rfl) (List.mem_of_getElem? (i := 2) rfl) rfl (.tmp rfl .nil)) (by rw [hp]; rfl) (by decide) (by rw [hp]; rfl)
theorem release_c (t : Task) (last : Int) (A : Option Addr) (ca : Nat) (picks : List Int) (now : Int) : Ctr Try.prog 40 [agg t.cs, agg (turnsCs last A ca picks), vi now] (fun w => RowAt w A (rows vi1 picks) ∧ picks.length ≤ 4294967296 ∧ picks.length ≤ ca) ([]) (fun s : Option Sl => .tuple #[agg [vi (releaseT t last picks now).1, .slice (Sl.addr s) (releaseT t last picks now).2.1.length (Sl.cap (releaseT t last picks now).2.1.length s)], vi (releaseT t last picks now).2.2.1, .bool (releaseT t last picks now).2.2.2]) (fun s => [Sl.e 3 1 (rows vi1 (releaseT t last picks now).2.1) s]) := by
  refine Ctr.of Try.func40 rfl (Nat.le_of_ble_eq_true rfl) fun w hw => ?_
  refine JS_live [(0, _), (1, _), (2, _)] rfl ?_
  refine JS_seq ?_
  refine JS_region ?_
  refine RJ_loud (LS_box rfl rfl) rfl fun b3 => ?_
  refine RJ_mem [_] rfl ?_
  refine RJ_loud (LS_box rfl rfl) rfl fun b4 => ?_
  refine RJ_mem [_, _] rfl ?_
  refine RJ_loud (LS_alloc Try.tab rfl) rfl fun b6 => ?_
  refine RJ_mem [_, _, _] rfl ?_
  refine RJ_float (FS_assign rfl) rfl ?_
  refine RJ_float (FS_assign rfl) rfl ?_
  refine RJ_nil ?_
  refine JS_seq ?_
  refine JS_region ?_
  refine RJ_float (FS_loadK Try.tab 0 rfl rfl rfl rfl) rfl ?_
  refine RJ_float (FS_loadK Try.tab 1 rfl rfl rfl rfl) rfl ?_
  refine RJ_float (FS_build Try.tab rfl rfl rfl rfl) rfl ?_
  refine RJ_loud (LS_box rfl rfl) rfl fun b14 => ?_
  refine RJ_mem [_, _, _, _] rfl ?_
  refine RJ_float (FS_assign rfl) rfl ?_
  refine RJ_nil ?_
  refine JS_live [(2, _), (4, _), (6, _), (9, _)] rfl ?_
  refine JS_seq ?_
  refine JS_block ?_
  refine JS_seq ?_
  refine JS_region ?_
  refine RJ_float (FS_move rfl) rfl ?_
  refine RJ_fun (LS_fun (Try.can rfl) (pairMay_c _ _ t last A ca picks) rfl (fun w h => ⟨h.range 3 rfl, h.rowB rfl hw.1, hw.2.1⟩)) rfl ?_
  refine RJ_float (FS_not rfl) rfl ?_
  refine RJ_float (FS_move rfl) rfl ?_
  refine RJ_g rfl rfl gvF (fun hg => (FS_move rfl)) rfl ?_
  refine RJ_gfun rfl rfl gvF (fun hg => (LS_under [(20, _)] (LE_cons (gx hg rfl) LE_nil) (LS_fun (Try.can rfl) (clock_c _) rfl (fun _ _ => trivial)))) rfl ?_
  refine RJ_g rfl rfl gvF (fun hg => (FS_not (gx hg rfl))) rfl ?_
  refine RJ_float (FS_or rfl rfl) rfl ?_
  refine RJ_float (FS_assign rfl) rfl ?_
  refine RJ_nil ?_
  refine JS_live [(2, _), (4, _), (6, _), (9, _), (15, _)] rfl ?_
  refine JS_cond rfl (fun h15 => ?_) (fun h15 => ?_)
  · try simp only [Bool.and_eq_true, Bool.or_eq_true, Bool.and_eq_false_iff, Bool.or_eq_false_iff, Bool.not_eq_true', Bool.not_eq_false', decide_eq_true_eq, decide_eq_false_iff_not, beq_iff_eq, bne_iff_ne, beq_eq_false_iff_ne, bne_eq_false_iff_eq] at h15
    have hp : releaseT t last picks now = (0, [], 0, false) := by unfold releaseT; rw [if_pos h15]
    refine JS_seq ?_
    refine JS_region ?_
    refine RJ_float (FS_build Try.tab rfl rfl rfl rfl) rfl ?_
    refine RJ_loud (LS_store Try.tab (i := 2) rfl rfl rfl rfl rfl rfl rfl rfl) rfl fun _ => ?_
    refine RJ_mem [_, _, _, _] rfl ?_
    refine RJ_float (FS_assign rfl) rfl ?_
    refine RJ_float (FS_assign rfl) rfl ?_
    refine RJ_nil ?_
    refine JS_weakK (fun _ h => h.addNil 3 1) ?_
    refine JS_mem [_, _, _, _, _] rfl ?_
    exact JS_return none [4] rfl (.cell rfl (szOf_in Try.tab rfl) (List.mem_of_getElem? (i := 2) rfl) rfl (.tmp rfl (.tmp rfl .nil))) (by rw [hp]; rfl) (by decide) (by rw [hp]; rfl)
  · try simp only [Bool.and_eq_true, Bool.or_eq_true, Bool.and_eq_false_iff, Bool.or_eq_false_iff, Bool.not_eq_true', Bool.not_eq_false', decide_eq_true_eq, decide_eq_false_iff_not, beq_iff_eq, bne_iff_ne, beq_eq_false_iff_ne, bne_eq_false_iff_eq] at h15
    have hnow : 0 ≤ now := by have := h15.2; simp only [clockB, Bool.and_eq_true, decide_eq_true_eq] at this; omega
    refine JS_seq ?_
    refine JS_region ?_
    refine RJ_float (FS_move rfl) rfl ?_
    refine RJ_float (FS_move rfl) rfl ?_
    refine RJ_fun (LS_fun (Try.can rfl) (comes_c _ _ t last A ca picks now) rfl (fun w h => ⟨h.range 3 rfl, h15.1, hnow⟩)) rfl ?_
    refine RJ_float (FS_not rfl) rfl ?_
    refine RJ_float (FS_assign rfl) rfl ?_
    refine RJ_nil ?_
    refine JS_cond rfl (fun h25 => ?_) (fun h25 => ?_)
    · try simp only [Bool.and_eq_true, Bool.or_eq_true, Bool.and_eq_false_iff, Bool.or_eq_false_iff, Bool.not_eq_true', Bool.not_eq_false', decide_eq_true_eq, decide_eq_false_iff_not, beq_iff_eq, bne_iff_ne, beq_eq_false_iff_ne, bne_eq_false_iff_eq] at h25
      have hp : releaseT t last picks now = (last, picks, 0, false) := by unfold releaseT; rw [if_neg (by simpa using h15), if_pos (by simpa using h25)]
      refine JS_seq ?_
      refine JS_region ?_
      refine RJ_float (FS_field Try.tab rfl rfl) rfl ?_
      refine RJ_float (FS_loadK Try.tab 1 rfl rfl rfl rfl) rfl ?_
      refine RJ_loud (LS_pure' (Try.can rfl) (cloneI_c _ _ picks) rfl (fun w h => ⟨h.rowB rfl hw.1, hw.2.1⟩)) rfl fun s1 => ?_
      refine RJ_mem [_, _, _, _, _] rfl ?_
      refine RJ_float (FS_field Try.tab rfl rfl) rfl ?_
      refine RJ_loud (LS_store Try.tab (i := 1) rfl rfl rfl rfl rfl rfl rfl rfl) rfl fun _ => ?_
      refine RJ_mem [_, _, _, _, _] rfl ?_
      refine RJ_nil ?_
      refine JS_live [(4, _), (6, _)] rfl ?_
      refine JS_seq ?_
      refine JS_region ?_
      refine RJ_float (FS_loadK Try.tab 1 rfl rfl rfl rfl) rfl ?_
      refine RJ_loud (LS_store Try.tab (i := 2) rfl rfl rfl rfl rfl rfl rfl rfl) rfl fun _ => ?_
      refine RJ_mem [_, _, _, _, _] rfl ?_
      refine RJ_float (FS_assign rfl) rfl ?_
      refine RJ_float (FS_assign rfl) rfl ?_
      refine RJ_nil ?_
      exact JS_return s1 [4] rfl (.cell rfl (szOf_in Try.tab rfl) (List.mem_of_getElem? (i := 2) rfl) rfl (.tmp rfl (.tmp rfl .nil))) (by rw [hp]; rfl) (by decide) (by rw [hp]; rfl)
    · try simp only [Bool.and_eq_true, Bool.or_eq_true, Bool.and_eq_false_iff, Bool.or_eq_false_iff, Bool.not_eq_true', Bool.not_eq_false', decide_eq_true_eq, decide_eq_false_iff_not, beq_iff_eq, bne_iff_ne, beq_eq_false_iff_ne, bne_eq_false_iff_eq] at h25
      refine JS_skip ?_
      refine JS_blk ?_
      refine JS_seq ?_
      refine JS_region ?_
      refine RJ_float (FS_move rfl) rfl ?_
      refine RJ_float (FS_nilCheck rfl) rfl ?_
      refine RJ_float (FS_field Try.tab rfl rfl) rfl ?_
      refine RJ_float (FS_field Try.tab rfl rfl) rfl ?_
      refine RJ_float (FS_loadK Try.tab 3 rfl rfl rfl rfl) rfl ?_
      refine RJ_float (FS_assign rfl) rfl ?_
      refine RJ_nil ?_
      refine JS_live [(2, _), (4, _), (6, _), (9, _), (10, _)] rfl ?_
      refine JS_seq ?_
      refine JS_seq ?_
      refine JS_region ?_
      refine RJ_float (FS_move rfl) rfl ?_
      refine RJ_float (FS_nilCheck rfl) rfl ?_
      refine RJ_float (FS_field Try.tab rfl rfl) rfl ?_
      refine RJ_float (FS_field Try.tab rfl rfl) rfl ?_
      refine RJ_float (FS_loadK Try.tab 3 rfl rfl rfl rfl) rfl ?_
      refine RJ_float (FS_len Try.tab rfl rfl) rfl ?_
      refine RJ_float (FS_int rfl rfl rfl) rfl ?_
      refine RJ_nil ?_
      refine JS_condD rfl (fun h46 => ?_) (fun h46 => ?_)
      · obtain ⟨d, r, rfl⟩ : ∃ d r, picks = d :: r := by
          cases picks with
          | nil => simp at h46
          | cons d r => exact ⟨d, r, rfl⟩
        have hp : releaseT t last (d :: r) now = (now, r, d, true) := by unfold releaseT; rw [if_neg (by simpa using h15), if_neg (by simpa using h25)]
        have r0 := hw.1.partT vi1l (by decide) (i := 0) (by simp)
        refine JS_seq ?_
        refine JS_region ?_
        refine RJ_float (FS_move rfl) rfl ?_
        refine RJ_float (FS_nilCheck rfl) rfl ?_
        refine RJ_float (FS_field Try.tab rfl rfl) rfl ?_
        refine RJ_float (FS_field Try.tab rfl rfl) rfl ?_
        refine RJ_float (FS_loadK Try.tab 3 rfl rfl rfl rfl) rfl ?_
        refine RJ_float (FS_indexT Try.tab rfl rfl rfl r0.1 (by decide) (by simp)) rfl ?_
        refine RJ_float (FS_loadB0 Try.tab rfl rfl own0 r0.2 rfl) rfl ?_
        refine RJ_float (FS_assign rfl) rfl ?_
        refine RJ_nil ?_
        refine JS_live [(2, _), (4, _), (6, _), (9, _), (10, _)] rfl ?_
        refine JS_region ?_
        refine RJ_float (FS_move rfl) rfl ?_
        refine RJ_float (FS_nilCheck rfl) rfl ?_
        refine RJ_float (FS_field Try.tab rfl rfl) rfl ?_
        refine RJ_float (FS_field Try.tab rfl rfl) rfl ?_
        refine RJ_float (FS_loadK Try.tab 3 rfl rfl rfl rfl) rfl ?_
        refine RJ_float (FS_slice Try.tab rfl rfl ⟨.i64, (rfl : _ = some (vi ((1 : Nat) : Int)))⟩ rfl (by first | (have := hw.2.2; simp at this ⊢; omega) | (simp)) (by first | (have := hw.2.2; simp at this ⊢; omega) | (simp))) rfl ?_
        refine RJ_loud (LS_pure' (Try.can rfl) (cloneI_c _ _ r) rfl (fun w h => ⟨h.rowB rfl (hw.1.tl hw.2.2), by have := hw.2.1; simp at this; omega⟩)) rfl fun s1 => ?_
        refine RJ_mem [_, _, _, _, _] rfl ?_
        refine RJ_float (FS_field Try.tab rfl rfl) rfl ?_
        refine RJ_loud (LS_store Try.tab (i := 1) rfl rfl rfl rfl rfl rfl rfl rfl) rfl fun _ => ?_
        refine RJ_mem [_, _, _, _, _] rfl ?_
        refine RJ_nil ?_
        refine JS_live [(2, _), (4, _), (6, _), (10, _)] rfl ?_
        refine JS_seq ?_
        refine JS_region ?_
        refine RJ_float (FS_move rfl) rfl ?_
        refine RJ_float (FS_field Try.tab rfl rfl) rfl ?_
        refine RJ_loud (LS_store Try.tab (i := 1) rfl rfl rfl rfl rfl rfl rfl rfl) rfl fun _ => ?_
        refine RJ_mem [_, _, _, _, _] rfl ?_
        refine RJ_nil ?_
        refine JS_seq ?_
        refine JS_region ?_
        refine RJ_float (FS_loadK Try.tab 1 rfl rfl rfl rfl) rfl ?_
        refine RJ_float (FS_move rfl) rfl ?_
        refine RJ_loud (LS_store Try.tab (i := 2) rfl rfl rfl rfl rfl rfl rfl rfl) rfl fun _ => ?_
        refine RJ_mem [_, _, _, _, _] rfl ?_
        refine RJ_float (FS_assign rfl) rfl ?_
        refine RJ_float (FS_assign rfl) rfl ?_
        refine RJ_nil ?_
        refine JS_live [(6, _), (7, _), (8, _)] rfl ?_
        exact JS_return s1 [4] rfl (.cell rfl (szOf_in Try.tab rfl) (List.mem_of_getElem? (i := 2) rfl) rfl (.tmp rfl (.tmp rfl .nil))) (by rw [hp]; rfl) (by decide) (by rw [hp]; rfl)
      · obtain rfl : picks = [] := by
          cases picks with
          | nil => rfl
          | cons d r => simp at h46
        have hp : releaseT t last [] now = (now, [], t.cLow, true) := by unfold releaseT; rw [if_neg (by simpa using h15), if_neg (by simpa using h25)]
        refine JS_weakK (fun _ h => h.addNil 3 1) ?_
        refine JS_mem [_, _, _, _, _] rfl ?_
        refine JS_region ?_
        refine RJ_float (FS_field Try.tab rfl rfl) rfl ?_
        refine RJ_loud (LS_store Try.tab (i := 1) rfl rfl rfl rfl rfl rfl rfl rfl) rfl fun _ => ?_
        refine RJ_mem [_, _, _, _, _] rfl ?_
        refine RJ_nil ?_
        refine JS_live [(2, _), (4, _), (6, _), (10, _)] rfl ?_
        refine JS_seq ?_
        refine JS_region ?_
        refine RJ_float (FS_move rfl) rfl ?_
        refine RJ_float (FS_field Try.tab rfl rfl) rfl ?_
        refine RJ_loud (LS_store Try.tab (i := 1) rfl rfl rfl rfl rfl rfl rfl rfl) rfl fun _ => ?_
        refine RJ_mem [_, _, _, _, _] rfl ?_
        refine RJ_nil ?_
        refine JS_seq ?_
        refine JS_region ?_
        refine RJ_float (FS_loadK Try.tab 1 rfl rfl rfl rfl) rfl ?_
        refine RJ_float (FS_move rfl) rfl ?_
        refine RJ_loud (LS_store Try.tab (i := 2) rfl rfl rfl rfl rfl rfl rfl rfl) rfl fun _ => ?_
        refine RJ_mem [_, _, _, _, _] rfl ?_
        refine RJ_float (FS_assign rfl) rfl ?_
        refine RJ_float (FS_assign rfl) rfl ?_
        refine RJ_nil ?_
        refine JS_live [(6, _), (7, _), (8, _)] rfl ?_
        exact JS_return none [4] rfl (.cell rfl (szOf_in Try.tab rfl) (List.mem_of_getElem? (i := 2) rfl) rfl (.tmp rfl (.tmp rfl .nil))) (by rw [hp]; rfl) (by decide) (by rw [hp]; rfl)
end Go.Proofs.Ytmhjcemcjfkejaa
