/- rows of jobs -/
import Derived.Test.YtmhjcemcjfkejaaA1
namespace Go.Proofs.Ytmhjcemcjfkejaa
open Go.RowKit
open Go.Proofs
set_option linter.unusedVariables false
set_option linter.unusedSimpArgs false
set_option linter.unnecessarySimpa false
set_option maxRecDepth 20000
abbrev vi1 (x : Int) : List Value := [vi x]
theorem vi1l (x : Int) : (vi1 x).length = 1 := rfl
theorem fa_succ {n i : Nat} {p : (k : Nat) → k < n → Prop} (h : ∀ k hk, k < i → p k hk) (hi : ∀ h : i < n, p i h) : ∀ k hk, k < i + 1 → p k hk := fun k hk hki => by
  rcases Nat.lt_or_ge k i with h' | h'
  · exact h k hk h'
  · have : k = i := by omega
    subst this
    exact hi hk
def orI : List Int → Int
  | [] => 0
  | x :: r => if x = 0 then orI r else x
theorem orI_skip : ∀ (l : List Int) (i : Nat), (∀ k (h : k < l.length), k < i → l[k] = 0) → orI l = orI (l.drop i)
  | [], i, _ => by simp
  | x :: r, 0, _ => by simp
  | x :: r, i + 1, h => by
    have h0 := h 0 (by simp) (by omega)
    simp at h0
    simp only [orI, h0, if_true, List.drop_succ_cons]
    exact orI_skip r i fun k hk hki => h (k + 1) (by simp; omega) (by omega)
theorem orI_at {l : List Int} {i : Nat} (hi : i < l.length) (h : ∀ k (h : k < l.length), k < i → l[k] = 0) (hne : l[i] ≠ 0) : orI l = l[i] := by
  rw [orI_skip l i h, List.drop_eq_getElem_cons hi, orI, if_neg hne]
theorem orI_end {l : List Int} {i : Nat} (hi : ¬ i < l.length) (h : ∀ k (h : k < l.length), k < i → l[k] = 0) : orI l = 0 := by
  rw [orI_skip l i h, List.drop_of_length_le (by omega), orI]
def cmpJ (a b : Job) : Int := orI [cmpI a.prio b.prio, cmpI a.release b.release, cmpI a.task b.task]
def JobsOk (js : List Job) : Prop := js.length ≤ 16 ∧ ∀ i (h : i < js.length), js[i].ok = true ∧ (0 < i → cmpJ (js[i - 1]'(by omega)) js[i] < 0)
instance : DecidablePred JobsOk := fun js => by unfold JobsOk; infer_instance
theorem or_c (A : Option Addr) (ca : Nat) (xs : List Int) : Ctr Try.prog 63 [.slice A xs.length ca] (fun w => RowAt w A (rows vi1 xs) ∧ xs.length ≤ 4294967296) ([]) (fun _ : Unit => vi (orI xs)) (fun _ => []) := by
  refine Ctr.of Try.func63 rfl (Nat.le_of_ble_eq_true rfl) fun w hw => ?_
  refine JS_live [(0, _)] rfl ?_
  refine JS_seq ?_
  refine JS_region ?_
  refine RJ_float (FS_assign rfl) rfl ?_
  refine RJ_nil ?_
  refine JS_seq ?_
  refine JS_region ?_
  refine RJ_float (FS_assign rfl) rfl ?_
  refine RJ_nil ?_
  refine JS_seq ?_
  refine JS_seq ?_
  refine JS_region ?_
  refine RJ_float (FS_move rfl) rfl ?_
  refine RJ_float (FS_len Try.tab rfl rfl) rfl ?_
  refine RJ_float (FS_move rfl) rfl ?_
  refine RJ_nil ?_
  refine JS_block ?_
  refine JS_loopF (ι := {i : Nat // i ≤ xs.length ∧ ∀ k (h : k < xs.length), k < i → xs[k]'h = 0}) [(3, _), (6, _), (7, _)] (fun ⟨i, hi⟩ => [(8, vi (i : Int))]) (fun _ => _) (fun ⟨i, hi⟩ => xs.length - i) ⟨0, by omega, by omega⟩ rfl (fun _ h => h) (fun ⟨i, hi⟩ => ?_)
  refine JS_live [(8, _), (3, _), (6, _), (7, _)] rfl ?_
  have hb := hw.2
  refine JS_seq ?_
  refine JS_region ?_
  refine RJ_float (FS_int rfl rfl rfl) rfl ?_
  refine RJ_nil ?_
  refine JS_seq ?_
  refine JS_condD rfl (fun h9 => ?_) (fun h9 => ?_)
  · have h9 : i < xs.length := by omega
    obtain ⟨b1, q1, rfl, r1⟩ := hw.1.part vi1l (by decide) h9
    refine JS_skip ?_
    refine JS_seq ?_
    refine JS_block ?_
    refine JS_seq ?_
    refine JS_region ?_
    refine RJ_float (FS_index Try.tab rfl rfl rfl (by omega) (by omega)) rfl ?_
    refine RJ_float (FS_loadB0 Try.tab rfl rfl own0 r1 rfl) rfl ?_
    refine RJ_float (FS_assign rfl) rfl ?_
    refine RJ_nil ?_
    refine JS_seq ?_
    refine JS_region ?_
    refine RJ_float (FS_move rfl) rfl ?_
    refine RJ_float (FS_move rfl) rfl ?_
    refine RJ_float (FS_int rfl rfl rfl) rfl ?_
    refine RJ_nil ?_
    refine JS_condN rfl (fun h14 => ?_) (fun h14 => ?_)
    · refine JS_seq ?_
      refine JS_region ?_
      refine RJ_float (FS_move rfl) rfl ?_
      refine RJ_float (FS_assign rfl) rfl ?_
      refine RJ_nil ?_
      refine JS_live [(2, _)] rfl ?_
      exact JS_retv rfl (.tmp rfl .nil) (by rw [orI_at h9 hi.2 h14]; rfl)
    · refine JS_skip ?_
      refine JS_blk ?_
      refine JS_region ?_
      refine RJ_float (FS_add rfl rfl (by omega) (by omega)) rfl ?_
      refine RJ_float (FS_move rfl) rfl ?_
      refine RJ_nil ?_
      refine JS_live [(3, _), (6, _), (7, _), (8, _)] rfl ?_
      exact JS_againF ⟨i + 1, by omega, fa_succ hi.2 fun _ => h14⟩ (by simp; omega) rfl (fun _ h => h)
  · have h9 : ¬ i < xs.length := by omega
    refine JS_exit rfl ?_
    refine JS_seq ?_
    refine JS_region ?_
    refine RJ_float (FS_move rfl) rfl ?_
    refine RJ_float (FS_assign rfl) rfl ?_
    refine RJ_nil ?_
    exact JS_retv rfl (.tmp rfl .nil) (by rw [orI_end h9 hi.2]; rfl)
theorem compareJ_c (a b : Job) : Ctr Try.prog 59 [agg a.cs, agg b.cs] (fun _ => True) ([]) (fun _ : Unit => vi (cmpJ a b)) (fun _ => []) := by
  refine Ctr.of Try.func59 rfl (Nat.le_of_ble_eq_true rfl) fun w hw => ?_
  refine JS_live [(0, _), (1, _)] rfl ?_
  refine JS_seq ?_
  refine JS_region ?_
  refine RJ_loud (LS_box rfl rfl) rfl fun b2 => ?_
  refine RJ_mem [_] rfl ?_
  refine RJ_loud (LS_box rfl rfl) rfl fun b3 => ?_
  refine RJ_mem [_, _] rfl ?_
  refine RJ_float (FS_assign rfl) rfl ?_
  refine RJ_nil ?_
  refine JS_seq ?_
  refine JS_drawn Try.mixed [(0, false), (2, false), (5, false), (7, false), (10, false), (12, false), (1, false), (3, false), (6, false), (8, false), (11, false), (13, false), (4, true), (9, true), (14, true), (15, true), (16, true), (17, false)] (by kernel_rfl) fun R1 => ?_
  refine HQ_p R1 rfl rfl (fun _ => (FS_field Try.tab rfl rfl)) rfl ?_
  refine HQ_p R1 rfl rfl (fun _ => (FS_field Try.tab rfl rfl)) rfl ?_
  refine HQ_p R1 rfl rfl (fun _ => (FS_field Try.tab rfl rfl)) rfl ?_
  refine HQ_p R1 rfl rfl (fun _ => (FS_field Try.tab rfl rfl)) rfl ?_
  refine HQ_p R1 rfl rfl (fun _ => (FS_field Try.tab rfl rfl)) rfl ?_
  refine HQ_p R1 rfl rfl (fun _ => (FS_field Try.tab rfl rfl)) rfl ?_
  refine HQ_l R1 rfl rfl (FS_loadK Try.tab 0 rfl rfl rfl rfl) rfl ?_
  refine HQ_l R1 rfl rfl (FS_loadK Try.tab 1 rfl rfl rfl rfl) rfl ?_
  refine HQ_l R1 rfl rfl (FS_loadK Try.tab 0 rfl rfl rfl rfl) rfl ?_
  refine HQ_l R1 rfl rfl (FS_loadK Try.tab 1 rfl rfl rfl rfl) rfl ?_
  refine HQ_l R1 rfl rfl (FS_loadK Try.tab 0 rfl rfl rfl rfl) rfl ?_
  refine HQ_l R1 rfl rfl (FS_loadK Try.tab 1 rfl rfl rfl rfl) rfl ?_
  refine HQ_fun R1 rfl rfl (LS_fun (Try.can rfl) (compare_c _ _) rfl (fun _ _ => trivial)) rfl ?_
  refine HQ_fun R1 rfl rfl (LS_fun (Try.can rfl) (compare_c _ _) rfl (fun _ _ => trivial)) rfl ?_
  refine HQ_fun R1 rfl rfl (LS_fun (Try.can rfl) (compare_c _ _) rfl (fun _ _ => trivial)) rfl ?_
  refine HQ_new R1 rfl rfl (LS_buildSlice Try.tab rfl rfl rfl rfl rfl rfl) rfl fun b20 => ?_
  refine HQ_mem [_, _, _] rfl ?_
  refine HQ_fun R1 rfl rfl (LS_fun (Try.can rfl) (or_c _ _ [cmpI a.prio b.prio, cmpI a.release b.release, cmpI a.task b.task]) rfl (fun w h => ⟨h.row 2 rfl, Nat.le_of_ble_eq_true rfl⟩)) rfl ?_
  refine HQ_p R1 rfl rfl (fun _ => (FS_assign rfl)) rfl ?_
  refine HQ_end R1 rfl ?_
  clear R1
  refine JS_live [(4, _)] rfl ?_
  exact JS_retv rfl (.tmp rfl .nil) (rfl)
theorem mayRow_c (b o : Nat) (A : Option Addr) (ca : Nat) (js : List Job) : Ctr Try.prog 52 [vp b o] (fun w => w.rangeAt b o [.slice A js.length ca] ∧ RowAt w A (rows Job.cs js) ∧ js.length ≤ 4294967296) ([]) (fun _ : Unit => .bool (decide (JobsOk js))) (fun _ => []) := by
  refine Ctr.of Try.func52 rfl (Nat.le_of_ble_eq_true rfl) fun w hw => ?_
  refine JS_live [(0, _)] rfl ?_
  refine JS_seq ?_
  refine JS_region ?_
  refine RJ_float (FS_assign rfl) rfl ?_
  refine RJ_nil ?_
  refine JS_seq ?_
  refine JS_seq ?_
  refine JS_region ?_
  refine RJ_float (FS_move rfl) rfl ?_
  refine RJ_float (FS_nilCheck rfl) rfl ?_
  refine RJ_float (FS_field Try.tab rfl rfl) rfl ?_
  refine RJ_float (FS_loadB Try.tab rfl rfl own0 hw.1 rfl) rfl ?_
  refine RJ_float (FS_len Try.tab rfl rfl) rfl ?_
  refine RJ_float (FS_move rfl) rfl ?_
  refine RJ_nil ?_
  refine JS_block ?_
  refine JS_loopF (ι := {i : Nat // i ≤ js.length ∧ ∀ k (h : k < js.length), k < i → (js[k]'h).ok = true ∧ (0 < k → cmpJ (js[k - 1]'(Nat.lt_of_le_of_lt (Nat.sub_le _ _) h)) (js[k]'h) < 0)}) [(0, _), (8, _)] (fun ⟨i, hi⟩ => [(9, vi (i : Int))]) (fun _ => _) (fun ⟨i, hi⟩ => js.length - i) ⟨0, by omega, by omega⟩ rfl (fun _ h => h) (fun ⟨i, hi⟩ => ?_)
  refine JS_live [(9, _), (0, _), (8, _)] rfl ?_
  have hb := hw.2.2
  refine JS_seq ?_
  refine JS_region ?_
  refine RJ_float (FS_int rfl rfl rfl) rfl ?_
  refine RJ_nil ?_
  refine JS_seq ?_
  refine JS_condD rfl (fun h10 => ?_) (fun h10 => ?_)
  · have h10 : i < js.length := by omega
    obtain ⟨b1, q1, rfl, r1⟩ := hw.2.1.part Job.csl (by decide) h10
    have r0 : 0 < i → w.rangeAt b1 (q1 + ((i : Int) - 1).toNat * 7) (js[i - 1]'(by omega)).cs := fun h0 => by
      obtain ⟨b2, q2, hA, r2⟩ := hw.2.1.part Job.csl (by decide) (show i - 1 < js.length by omega)
      injection hA with hA
      injection hA with hb hq
      subst hb hq
      rw [show ((i : Int) - 1).toNat = i - 1 by omega]
      exact r2
    refine JS_skip ?_
    refine JS_seq ?_
    refine JS_block ?_
    refine JS_seq ?_
    refine JS_region ?_
    refine RJ_float (FS_move rfl) rfl ?_
    refine RJ_float (FS_assign rfl) rfl ?_
    refine RJ_nil ?_
    refine JS_seq ?_
    refine JS_drawn Try.mixed [(0, false), (4, false), (1, false), (2, false), (3, false), (5, false), (6, true), (7, false), (8, false), (9, false), (10, false), (11, false), (12, false), (16, false), (20, false), (24, false), (13, false), (17, false), (21, false), (14, false), (22, false), (15, false), (23, false), (18, false), (25, false), (19, false), (26, false), (27, true), (28, false), (29, false), (30, false)] (by kernel_rfl) fun R1 => ?_
    refine HQ_p R1 rfl rfl (fun _ => (FS_move rfl)) rfl ?_
    refine HQ_p R1 rfl rfl (fun _ => (FS_move rfl)) rfl ?_
    refine HQ_p R1 rfl rfl (fun _ => (FS_nilCheck rfl)) rfl ?_
    refine HQ_p R1 rfl rfl (fun _ => (FS_field Try.tab rfl rfl)) rfl ?_
    refine HQ_l R1 rfl rfl (FS_loadB Try.tab rfl rfl own0 hw.1 rfl) rfl ?_
    refine HQ_p R1 rfl rfl (fun _ => (FS_index Try.tab rfl rfl rfl (by omega) (by omega))) rfl ?_
    refine HQ_fun R1 rfl rfl (LS_fun (Try.can rfl) (job_c _ _ js[i]) rfl (fun w h => h.rangeB own0 r1)) rfl ?_
    refine HQ_p R1 rfl rfl (fun _ => (FS_not rfl)) rfl ?_
    refine HQ_p R1 rfl rfl (fun _ => (FS_move rfl)) rfl ?_
    refine HQ_pg R1 rfl rfl rfl rfl gvF (fun hg _ => (FS_move rfl)) rfl ?_
    refine HQ_pg R1 rfl rfl rfl rfl gvF (fun hg _ => (FS_int (gx hg rfl) rfl rfl)) rfl ?_
    refine HQ_pg R1 rfl rfl rfl rfl gvF (fun hg _ => (FS_move (gx hg rfl))) rfl ?_
    refine HQ_pg R1 rfl rfl rfl rfl gv2T (fun hg _ => (FS_move rfl)) rfl ?_
    refine HQ_pg R1 rfl rfl rfl rfl gv2T (fun hg _ => (FS_move rfl)) rfl ?_
    refine HQ_pg R1 rfl rfl rfl rfl gv2T (fun hg _ => (FS_move rfl)) rfl ?_
    refine HQ_pg R1 rfl rfl rfl rfl gv2T (fun hg _ => (FS_move rfl)) rfl ?_
    refine HQ_pg R1 rfl rfl rfl rfl gv2T (fun hg _ => (FS_nilCheck (gx hg rfl))) rfl ?_
    refine HQ_pg R1 rfl rfl rfl rfl gv2T (fun hg _ => (FS_sub (gx hg rfl) rfl (by simp at hg; omega) (by simp at hg; omega))) rfl ?_
    refine HQ_pg R1 rfl rfl rfl rfl gv2T (fun hg _ => (FS_nilCheck (gx hg rfl))) rfl ?_
    refine HQ_pg R1 rfl rfl rfl rfl gv2T (fun hg _ => (FS_field Try.tab (gx hg rfl) rfl)) rfl ?_
    refine HQ_pg R1 rfl rfl rfl rfl gv2T (fun hg _ => (FS_field Try.tab (gx hg rfl) rfl)) rfl ?_
    refine HQ_lg R1 rfl rfl rfl rfl gv2T (fun hg => (FS_loadB Try.tab (gx hg rfl) rfl own0 hw.1 rfl)) rfl ?_
    refine HQ_lg R1 rfl rfl rfl rfl gv2T (fun hg => (FS_loadB Try.tab (gx hg rfl) rfl own0 hw.1 rfl)) rfl ?_
    refine HQ_pg R1 rfl rfl rfl rfl gv2T (fun hg _ => (FS_index Try.tab (gx hg rfl) (gx hg rfl) rfl (by simp at hg; omega) (by simp at hg; omega))) rfl ?_
    refine HQ_pg R1 rfl rfl rfl rfl gv2T (fun hg _ => (FS_index Try.tab (gx hg rfl) (gx hg rfl) rfl (by omega) (by omega))) rfl ?_
    refine HQ_lg R1 rfl rfl rfl rfl gv2T (fun hg => (FS_loadB0 Try.tab (gx hg rfl) rfl own0 (r0 (by simp at hg; omega)) rfl)) rfl ?_
    refine HQ_lg R1 rfl rfl rfl rfl gv2T (fun hg => (FS_loadB0 Try.tab (gx hg rfl) rfl own0 r1 rfl)) rfl ?_
    refine HQ_gfun R1 rfl rfl rfl rfl gv2T (fun hg => (LS_under [(31, _), (38, _)] (LE_cons (gx hg rfl) (LE_cons (gx hg rfl) LE_nil)) (LS_fun (Try.can rfl) (compareJ_c _ _) rfl (fun _ _ => trivial)))) rfl ?_
    refine HQ_pg R1 rfl rfl rfl rfl gv2T (fun hg _ => (FS_int (gx hg rfl) rfl rfl)) rfl ?_
    refine HQ_pg R1 rfl rfl rfl rfl gvF (fun hg _ => (FS_and (gx hg rfl) (gx2 hg rfl))) rfl ?_
    refine HQ_p R1 rfl rfl (fun _ => (FS_or rfl rfl)) rfl ?_
    refine HQ_end R1 rfl ?_
    clear R1
    refine JS_live [(9, _), (0, _), (8, _), (42, _)] rfl ?_
    refine JS_cond rfl (fun h42 => ?_) (fun h42 => ?_)
    · try simp only [Bool.and_eq_true, Bool.or_eq_true, Bool.and_eq_false_iff, Bool.or_eq_false_iff, Bool.not_eq_true', Bool.not_eq_false', decide_eq_true_eq, decide_eq_false_iff_not, beq_iff_eq, bne_iff_ne, beq_eq_false_iff_ne, bne_eq_false_iff_eq] at h42
      refine JS_seq ?_
      refine JS_region ?_
      refine RJ_float (FS_assign rfl) rfl ?_
      refine RJ_nil ?_
      exact JS_retv rfl (.tmp rfl .nil) (retF fun h => by
        have h2 := h.2 i h10
        rcases h42 with h3 | h3
        · rw [h3] at h2; simp at h2
        · have := h2.2 (by omega); omega)
    · try simp only [Bool.and_eq_true, Bool.or_eq_true, Bool.and_eq_false_iff, Bool.or_eq_false_iff, Bool.not_eq_true', Bool.not_eq_false', decide_eq_true_eq, decide_eq_false_iff_not, beq_iff_eq, bne_iff_ne, beq_eq_false_iff_ne, bne_eq_false_iff_eq] at h42
      refine JS_skip ?_
      refine JS_blk ?_
      refine JS_region ?_
      refine RJ_float (FS_add rfl rfl (by omega) (by omega)) rfl ?_
      refine RJ_float (FS_move rfl) rfl ?_
      refine RJ_nil ?_
      exact JS_againF ⟨i + 1, by omega, fa_succ hi.2 fun _ => ⟨by simpa using h42.1, fun h0 => by have := h42.2; omega⟩⟩ (by simp; omega) rfl (fun _ h => h)
  · have h10 : ¬ i < js.length := by omega
    refine JS_exit rfl ?_
    refine JS_seq ?_
    refine JS_region ?_
    refine RJ_float (FS_move rfl) rfl ?_
    refine RJ_float (FS_nilCheck rfl) rfl ?_
    refine RJ_float (FS_field Try.tab rfl rfl) rfl ?_
    refine RJ_float (FS_loadB Try.tab rfl rfl own0 hw.1 rfl) rfl ?_
    refine RJ_float (FS_len Try.tab rfl rfl) rfl ?_
    refine RJ_float (FS_int rfl rfl rfl) rfl ?_
    refine RJ_float (FS_assign rfl) rfl ?_
    refine RJ_nil ?_
    refine JS_live [(2, _)] rfl ?_
    exact JS_retv rfl (.tmp rfl .nil) (retD ⟨fun h => ⟨by omega, fun k hk => hi.2 k hk (by omega)⟩, fun h => by have := h.1; omega⟩)
theorem mayJobs_c (A : Option Addr) (ca : Nat) (js : List Job) : Ctr Try.prog 39 [.slice A js.length ca] (fun w => RowAt w A (rows Job.cs js) ∧ js.length ≤ 4294967296) ([]) (fun _ : Unit => .bool (decide (JobsOk js))) (fun _ => []) := by
  refine Ctr.of Try.func39 rfl (Nat.le_of_ble_eq_true rfl) fun w hw => ?_
  refine JS_live [(0, _)] rfl ?_
  refine JS_seq ?_
  refine JS_region ?_
  refine RJ_float (FS_assign rfl) rfl ?_
  refine RJ_nil ?_
  refine JS_seq ?_
  refine JS_region ?_
  refine RJ_float (FS_move rfl) rfl ?_
  refine RJ_float (FS_build Try.tab rfl rfl rfl rfl) rfl ?_
  refine RJ_loud (LS_box rfl rfl) rfl fun b6 => ?_
  refine RJ_mem [_] rfl ?_
  refine RJ_float (FS_assign rfl) rfl ?_
  refine RJ_nil ?_
  refine JS_seq ?_
  refine JS_region ?_
  refine RJ_float (FS_move rfl) rfl ?_
  refine RJ_fun (LS_fun (Try.can rfl) (mayRow_c _ _ _ _ js) rfl (fun w h => ⟨h.range 0 rfl, h.rowB rfl hw.1, hw.2⟩)) rfl ?_
  refine RJ_float (FS_assign rfl) rfl ?_
  refine RJ_nil ?_
  refine JS_live [(2, _)] rfl ?_
  exact JS_retv rfl (.tmp rfl .nil) (rfl)
end Go.Proofs.Ytmhjcemcjfkejaa
