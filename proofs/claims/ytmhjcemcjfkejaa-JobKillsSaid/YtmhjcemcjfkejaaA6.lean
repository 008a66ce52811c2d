/- Put and Missed -/
import Derived.Test.YtmhjcemcjfkejaaA5
namespace Go.Proofs.Ytmhjcemcjfkejaa
open Go.RowKit
open Go.Proofs
set_option linter.unusedVariables false
set_option linter.unusedSimpArgs false
set_option linter.unnecessarySimpa false
set_option maxRecDepth 20000
theorem posJ_le (js : List Job) (j : Job) : posJ js j ≤ js.length := (List.takeWhile_prefix _).length_le
def putJ (js : List Job) (j : Job) : Int × List Job :=
  if ¬ JobsOk js ∨ j.ok = false ∨ atJ js j = true then (1200, []) else if js.length = 16 then (1201, []) else (0, insJ js (posJ js j) j)
def missedJ (js : List Job) (now : Int) : List Job × List Job :=
  if JobsOk js then (js.filter fun x => !decide (x.deadline ≤ now), js.filter fun x => decide (x.deadline ≤ now)) else ([], [])
theorem filter_more {α : Type} {p : α → Bool} {l : List α} {i : Nat} (hi : i < l.length) : (l.take (i + 1)).filter p = (l.take i).filter p ++ if p l[i] then [l[i]] else [] := by
  rw [List.take_succ_eq_append_getElem hi, List.filter_append]
  congr 1
  by_cases h : p l[i] = true <;> simp [h]
theorem put_c (A : Option Addr) (ca : Nat) (js : List Job) (j : Job) : Ctr Try.prog 41 [.slice A js.length ca, agg j.cs] (fun w => RowAt w A (rows Job.cs js) ∧ js.length ≤ 4294967296) ([]) (fun s : Option Sl => .tuple #[.slice (Sl.addr s) (putJ js j).2.length (Sl.cap (putJ js j).2.length s), vi (putJ js j).1]) (fun s => [Sl.e 51 7 (rows Job.cs (putJ js j).2) s]) := by
  refine Ctr.of Try.func41 rfl (Nat.le_of_ble_eq_true rfl) fun w hw => ?_
  refine JS_live [(0, _), (1, _)] rfl ?_
  refine JS_seq ?_
  refine JS_region ?_
  refine RJ_loud (LS_box rfl rfl) rfl fun b3 => ?_
  refine RJ_mem [_] rfl ?_
  refine RJ_float (FS_assign rfl) rfl ?_
  refine RJ_float (FS_assign rfl) rfl ?_
  refine RJ_nil ?_
  refine JS_seq ?_
  refine JS_region ?_
  refine RJ_float (FS_move rfl) rfl ?_
  refine RJ_float (FS_build Try.tab rfl rfl rfl rfl) rfl ?_
  refine RJ_float (FS_loadK Try.tab 0 rfl rfl rfl rfl) rfl ?_
  refine RJ_float (FS_build Try.tab rfl rfl rfl rfl) rfl ?_
  refine RJ_loud (LS_box rfl rfl) rfl fun b13 => ?_
  refine RJ_mem [_, _] rfl ?_
  refine RJ_float (FS_assign rfl) rfl ?_
  refine RJ_nil ?_
  refine JS_live [(0, _), (3, _), (6, _)] rfl ?_
  refine JS_seq ?_
  refine JS_seq ?_
  refine JS_region ?_
  refine RJ_float (FS_move rfl) rfl ?_
  refine RJ_float (FS_nilCheck rfl) rfl ?_
  refine RJ_float (FS_field Try.tab rfl rfl) rfl ?_
  refine RJ_fun (LS_fun (Try.can rfl) (mayRow_c _ _ _ _ js) rfl (fun w h => ⟨rangeAt_pre (pre := [_]) (h.range 1 rfl), h.rowB rfl hw.1, hw.2⟩)) rfl ?_
  refine RJ_float (FS_not rfl) rfl ?_
  refine RJ_float (FS_move rfl) rfl ?_
  refine RJ_g rfl rfl gvF (fun hg => (FS_move rfl)) rfl ?_
  refine RJ_g rfl rfl gvF (fun hg => (FS_nilCheck (gx hg rfl))) rfl ?_
  refine RJ_g rfl rfl gvF (fun hg => (FS_field Try.tab (gx hg rfl) rfl)) rfl ?_
  refine RJ_gfun rfl rfl gvF (fun hg => (LS_under [(22, _)] (LE_cons (gx hg rfl) LE_nil) (LS_fun (Try.can rfl) (job_c _ _ j) rfl (fun w h => rangeAt_mid (pre := [_]) (h.range 1 rfl))))) rfl ?_
  refine RJ_g rfl rfl gvF (fun hg => (FS_not (gx hg rfl))) rfl ?_
  refine RJ_float (FS_or rfl rfl) rfl ?_
  refine RJ_nil ?_
  refine JS_live [(0, _), (3, _), (6, _), (25, _)] rfl ?_
  refine JS_cond rfl (fun h25 => ?_) (fun h25 => ?_)
  · try simp only [Bool.and_eq_true, Bool.or_eq_true, Bool.and_eq_false_iff, Bool.or_eq_false_iff, Bool.not_eq_true', Bool.not_eq_false', decide_eq_true_eq, decide_eq_false_iff_not, beq_iff_eq, bne_iff_ne, beq_eq_false_iff_ne, bne_eq_false_iff_eq] at h25
    have hput : putJ js j = (1200, []) := by unfold putJ; rw [if_pos]; rcases h25 with h | h; exact .inl h; exact .inr (.inl h)
    refine JS_seq ?_
    refine JS_region ?_
    refine RJ_float (FS_assign rfl) rfl ?_
    refine RJ_float (FS_assign rfl) rfl ?_
    refine RJ_nil ?_
    refine JS_weakK (fun _ h => h.addNil 51 7) ?_
    refine JS_mem [_, _, _] rfl ?_
    exact JS_return none [2] rfl (.tmp rfl (.tmp rfl .nil)) (by rw [hput]; rfl) (by decide) (by rw [hput]; rfl)
  · try simp only [Bool.and_eq_true, Bool.or_eq_true, Bool.and_eq_false_iff, Bool.or_eq_false_iff, Bool.not_eq_true', Bool.not_eq_false', decide_eq_true_eq, decide_eq_false_iff_not, beq_iff_eq, bne_iff_ne, beq_eq_false_iff_ne, bne_eq_false_iff_eq] at h25
    refine JS_skip ?_
    refine JS_seq ?_
    refine JS_drawn Try.mixed [(0, false), (3, false), (1, false), (2, false), (4, true), (5, false), (6, false), (7, false), (8, false), (9, false)] (by kernel_rfl) fun R1 => ?_
    refine HQ_p R1 rfl rfl (fun _ => (FS_move rfl)) rfl ?_
    refine HQ_l R1 rfl rfl (FS_loadK Try.tab 0 rfl rfl rfl rfl) rfl ?_
    refine HQ_p R1 rfl rfl (fun _ => (FS_nilCheck rfl)) rfl ?_
    refine HQ_p R1 rfl rfl (fun _ => (FS_field Try.tab rfl rfl)) rfl ?_
    refine HQ_fun R1 rfl rfl (LS_fun (Try.can rfl) (place_c _ _ _ _ js j) rfl (fun w h => ⟨rangeAt_pre (pre := [_]) (h.range 1 rfl), h.rowB rfl hw.1, h25.1⟩)) rfl ?_
    refine HQ_p R1 rfl rfl (fun _ => (FS_move rfl)) rfl ?_
    refine HQ_p R1 rfl rfl (fun _ => (FS_extract rfl rfl)) rfl ?_
    refine HQ_p R1 rfl rfl (fun _ => (FS_extract rfl rfl)) rfl ?_
    refine HQ_p R1 rfl rfl (fun _ => (FS_assign rfl)) rfl ?_
    refine HQ_p R1 rfl rfl (fun _ => (FS_assign rfl)) rfl ?_
    refine HQ_end R1 rfl ?_
    clear R1
    refine JS_live [(0, _), (3, _), (7, _), (8, _)] rfl ?_
    refine JS_seq ?_
    refine JS_block ?_
    refine JS_seq ?_
    refine JS_region ?_
    refine RJ_float (FS_move rfl) rfl ?_
    refine RJ_float (FS_assign rfl) rfl ?_
    refine RJ_nil ?_
    refine JS_cond rfl (fun h34 => ?_) (fun h34 => ?_)
    · try simp only [Bool.and_eq_true, Bool.or_eq_true, Bool.and_eq_false_iff, Bool.or_eq_false_iff, Bool.not_eq_true', Bool.not_eq_false', decide_eq_true_eq, decide_eq_false_iff_not, beq_iff_eq, bne_iff_ne, beq_eq_false_iff_ne, bne_eq_false_iff_eq] at h34
      have hput : putJ js j = (1200, []) := by unfold putJ; rw [if_pos]; exact .inr (.inr h34)
      refine JS_seq ?_
      refine JS_region ?_
      refine RJ_float (FS_assign rfl) rfl ?_
      refine RJ_float (FS_assign rfl) rfl ?_
      refine RJ_nil ?_
      refine JS_weakK (fun _ h => h.addNil 51 7) ?_
      refine JS_mem [_, _, _] rfl ?_
      exact JS_return none [2] rfl (.tmp rfl (.tmp rfl .nil)) (by rw [hput]; rfl) (by decide) (by rw [hput]; rfl)
    · try simp only [Bool.and_eq_true, Bool.or_eq_true, Bool.and_eq_false_iff, Bool.or_eq_false_iff, Bool.not_eq_true', Bool.not_eq_false', decide_eq_true_eq, decide_eq_false_iff_not, beq_iff_eq, bne_iff_ne, beq_eq_false_iff_ne, bne_eq_false_iff_eq] at h34
      refine JS_seq ?_
      refine JS_region ?_
      refine RJ_float (FS_move rfl) rfl ?_
      refine RJ_float (FS_len Try.tab rfl rfl) rfl ?_
      refine RJ_float (FS_int rfl rfl rfl) rfl ?_
      refine RJ_float (FS_assign rfl) rfl ?_
      refine RJ_nil ?_
      refine JS_condE rfl (fun h36 => ?_) (fun h36 => ?_)
      · have hput : putJ js j = (1201, []) := by unfold putJ; rw [if_neg, if_pos (by omega)]; intro h; rcases h with h | h | h; exact h h25.1; simp [h25.2] at h; simp [h34] at h
        refine JS_seq ?_
        refine JS_region ?_
        refine RJ_float (FS_assign rfl) rfl ?_
        refine RJ_float (FS_assign rfl) rfl ?_
        refine RJ_nil ?_
        refine JS_weakK (fun _ h => h.addNil 51 7) ?_
        refine JS_mem [_, _, _] rfl ?_
        refine JS_live [(4, _), (5, _)] rfl ?_
        exact JS_return none [2] rfl (.tmp rfl (.tmp rfl .nil)) (by rw [hput]; rfl) (by decide) (by rw [hput]; rfl)
      · have hput : putJ js j = (0, insJ js (posJ js j) j) := by unfold putJ; rw [if_neg, if_neg (by omega)]; intro h; rcases h with h | h | h; exact h h25.1; simp [h25.2] at h; simp [h34] at h
        refine JS_skip ?_
        refine JS_blk ?_
        refine JS_seq ?_
        refine JS_drawn Try.mixed [(0, false), (2, false), (3, false), (1, false), (4, true), (5, true), (6, false), (7, false)] (by kernel_rfl) fun R2 => ?_
        refine HQ_p R2 rfl rfl (fun _ => (FS_move rfl)) rfl ?_
        refine HQ_p R2 rfl rfl (fun _ => (FS_move rfl)) rfl ?_
        refine HQ_l R2 rfl rfl (FS_loadK Try.tab 0 rfl rfl rfl rfl) rfl ?_
        refine HQ_two R2 (i := 1) (j := 4) (by kernel_rfl) rfl rfl rfl rfl (fun F => (LS_pure' (Try.can rfl) (cloneJ_c _ _ _) rfl (fun w h => ⟨h.rowB rfl hw.1, hw.2⟩))) (fun F => (LS_buildSlice Try.tab rfl rfl rfl rfl rfl rfl)) rfl rfl fun s1 b44 => ?_
        refine HQ_mem [_, _, _, _] rfl ?_
        refine HQ_loud0 R2 rfl rfl (LS_call' [2, 3] [0, 1] rfl (Try.can rfl) (insert_c _ js (posJ js j) _ j (posJ_le js j) hw.2) rfl (by decide) (fun _ _ => trivial)) rfl (by kernel_rfl) fun s2 => ?_
        refine HQ_mem [_, _, _] rfl ?_
        refine HQ_p R2 rfl rfl (fun _ => (FS_assign rfl)) rfl ?_
        refine HQ_p R2 rfl rfl (fun _ => (FS_assign rfl)) rfl ?_
        refine HQ_end R2 rfl ?_
        clear R2
        refine JS_live [(4, _), (5, _)] rfl ?_
        exact JS_return s2 [0] rfl (.tmp rfl (.tmp rfl .nil)) (by rw [hput]; rfl) (by decide) (by rw [hput]; rfl)
theorem missed_c (A : Option Addr) (ca : Nat) (js : List Job) (now : Int) : Ctr Try.prog 20 [.slice A js.length ca, vi now] (fun w => RowAt w A (rows Job.cs js) ∧ js.length ≤ 4294967296) ([]) (fun s : Option Sl × Option Sl => .tuple #[.slice (Sl.addr s.1) (missedJ js now).1.length (Sl.cap (missedJ js now).1.length s.1), .slice (Sl.addr s.2) (missedJ js now).2.length (Sl.cap (missedJ js now).2.length s.2)]) (fun s => [Sl.e 51 7 (rows Job.cs (missedJ js now).1) s.1, Sl.e 51 7 (rows Job.cs (missedJ js now).2) s.2]) := by
  refine Ctr.of Try.func20 rfl (Nat.le_of_ble_eq_true rfl) fun w hw => ?_
  refine JS_live [(0, _), (1, _)] rfl ?_
  refine JS_seq ?_
  refine JS_region ?_
  refine RJ_float (FS_assign rfl) rfl ?_
  refine RJ_float (FS_assign rfl) rfl ?_
  refine RJ_nil ?_
  refine JS_seq ?_
  refine JS_seq ?_
  refine JS_region ?_
  refine RJ_float (FS_move rfl) rfl ?_
  refine RJ_fun (LS_fun (Try.can rfl) (mayJobs_c _ _ js) rfl (fun w h => ⟨h.rowB rfl hw.1, hw.2⟩)) rfl ?_
  refine RJ_float (FS_not rfl) rfl ?_
  refine RJ_nil ?_
  refine JS_cond rfl (fun h12 => ?_) (fun h12 => ?_)
  · try simp only [Bool.and_eq_true, Bool.or_eq_true, Bool.and_eq_false_iff, Bool.or_eq_false_iff, Bool.not_eq_true', Bool.not_eq_false', decide_eq_true_eq, decide_eq_false_iff_not, beq_iff_eq, bne_iff_ne, beq_eq_false_iff_ne, bne_eq_false_iff_eq] at h12
    have hm : missedJ js now = ([], []) := by unfold missedJ; rw [if_neg (by simpa using h12)]
    refine JS_weakK (fun _ h => (h.addNil 51 7).addNil 51 7) ?_
    refine JS_mem [_, _] rfl ?_
    refine JS_seq ?_
    refine JS_region ?_
    refine RJ_float (FS_assign rfl) rfl ?_
    refine RJ_float (FS_assign rfl) rfl ?_
    refine RJ_nil ?_
    exact JS_return (none, none) [0, 1] rfl (.tmp rfl (.tmp rfl .nil)) (by rw [hm]; rfl) (by decide) (by rw [hm]; rfl)
  · try simp only [Bool.and_eq_true, Bool.or_eq_true, Bool.and_eq_false_iff, Bool.or_eq_false_iff, Bool.not_eq_true', Bool.not_eq_false', decide_eq_true_eq, decide_eq_false_iff_not, beq_iff_eq, bne_iff_ne, beq_eq_false_iff_ne, bne_eq_false_iff_eq] at h12
    refine JS_skip ?_
    refine JS_seq ?_
    refine JS_region ?_
    refine RJ_float (FS_assign rfl) rfl ?_
    refine RJ_float (FS_assign rfl) rfl ?_
    refine RJ_nil ?_
    refine JS_seq ?_
    refine JS_seq ?_
    refine JS_region ?_
    refine RJ_float (FS_move rfl) rfl ?_
    refine RJ_float (FS_len Try.tab rfl rfl) rfl ?_
    refine RJ_float (FS_move rfl) rfl ?_
    refine RJ_nil ?_
    refine JS_block ?_
    refine JS_weakK (fun _ h => (h.addNil 51 7).addNil 51 7) ?_
    refine JS_mem [_, _] rfl ?_
    refine JS_loopF (ι := {q : Nat × List Job × List Job × Option Sl × Option Sl // q.1 ≤ js.length ∧ q.2.1 = (js.take q.1).filter (fun x => !decide (x.deadline ≤ now)) ∧ q.2.2.1 = (js.take q.1).filter (fun x => decide (x.deadline ≤ now))}) [(1, _), (13, _), (14, _)] (fun ⟨(i, l1, l2, s1, s2), hl⟩ => [(15, vi (i : Int)), (6, .slice (Sl.addr s1) l1.length (Sl.cap l1.length s1)), (7, .slice (Sl.addr s2) l2.length (Sl.cap l2.length s2))]) (fun ⟨(i, l1, l2, s1, s2), hl⟩ => [Sl.e 51 7 (rows Job.cs l1) s1, Sl.e 51 7 (rows Job.cs l2) s2]) (fun ⟨(i, l1, l2, s1, s2), hl⟩ => js.length - i) ⟨(0, [], [], none, none), by simp⟩ rfl (fun _ h => h) (fun ⟨(i, l1, l2, s1, s2), hl⟩ => ?_)
    refine JS_live [(15, _), (6, _), (7, _), (1, _), (13, _), (14, _)] rfl ?_
    obtain ⟨hl1, hl2, hl3⟩ := hl
    simp only at hl1 hl2 hl3
    have hb := hw.2
    have hll1 : l1.length ≤ js.length := by rw [hl2]; exact Nat.le_trans (List.length_filter_le _ _) (by simp; omega)
    have hll2 : l2.length ≤ js.length := by rw [hl3]; exact Nat.le_trans (List.length_filter_le _ _) (by simp; omega)
    refine JS_seq ?_
    refine JS_region ?_
    refine RJ_float (FS_int rfl rfl rfl) rfl ?_
    refine RJ_nil ?_
    refine JS_seq ?_
    refine JS_condD rfl (fun h16 => ?_) (fun h16 => ?_)
    · have h16 : i < js.length := by omega
      obtain ⟨b1, q1, rfl, r1⟩ := hw.1.part Job.csl (by decide) h16
      refine JS_skip ?_
      refine JS_seq ?_
      refine JS_block ?_
      refine JS_seq ?_
      refine JS_region ?_
      refine RJ_float (FS_index Try.tab rfl rfl rfl (by omega) (by omega)) rfl ?_
      refine RJ_float (FS_loadB0 Try.tab rfl rfl own0 r1 rfl) rfl ?_
      refine RJ_loud (LS_alloc Try.tab rfl) rfl fun b9 => ?_
      refine RJ_mem [_, _, _] rfl ?_
      refine RJ_loud (LS_store Try.tab (i := 2) rfl rfl rfl rfl rfl rfl rfl rfl) rfl fun _ => ?_
      refine RJ_mem [_, _, _] rfl ?_
      refine RJ_nil ?_
      refine JS_seq ?_
      refine JS_region ?_
      refine RJ_float (FS_field Try.tab rfl rfl) rfl ?_
      refine RJ_float (FS_loadK Try.tab 2 rfl rfl rfl rfl) rfl ?_
      refine RJ_float (FS_move rfl) rfl ?_
      refine RJ_float (FS_int rfl rfl rfl) rfl ?_
      refine RJ_nil ?_
      refine JS_condD rfl (fun h22 => ?_) (fun h22 => ?_)
      · refine JS_region ?_
        refine RJ_float (FS_move rfl) rfl ?_
        refine RJ_float (FS_loadK Try.tab 2 rfl rfl rfl rfl) rfl ?_
        refine RJ_loud (LS_buildSlice Try.tab rfl rfl rfl rfl rfl rfl) rfl fun b25 => ?_
        refine RJ_mem [_, _, _, _] rfl ?_
        refine RJ_loud (LS_app1 Job.cs Try.tab 1 3 (r := js[i]) Job.csl Job.one (fun _ _ => trivial) rfl rfl rfl rfl rfl rfl rfl rfl rfl rfl (by omega)) rfl fun s' => ?_
        refine RJ_mem [_, _, _, _] rfl ?_
        refine RJ_float (FS_assign rfl) rfl ?_
        refine RJ_nil ?_
        refine JS_live [(15, _), (6, _), (1, _), (13, _), (14, _), (7, _)] rfl ?_
        refine JS_blk ?_
        refine JS_region ?_
        refine RJ_float (FS_add rfl rfl (by omega) (by omega)) rfl ?_
        refine RJ_float (FS_move rfl) rfl ?_
        refine RJ_nil ?_
        exact JS_againF ⟨(i + 1, l1, l2 ++ [js[i]], s1, s'), by simp only [filter_more h16, ← hl2, ← hl3]; simp [h22]; omega⟩ (by simp; omega) rfl (fun _ h => h.pick (is := [0, 1]) (by decide))
      · refine JS_region ?_
        refine RJ_float (FS_move rfl) rfl ?_
        refine RJ_float (FS_loadK Try.tab 2 rfl rfl rfl rfl) rfl ?_
        refine RJ_loud (LS_buildSlice Try.tab rfl rfl rfl rfl rfl rfl) rfl fun b29 => ?_
        refine RJ_mem [_, _, _, _] rfl ?_
        refine RJ_loud (LS_app1 Job.cs Try.tab 0 3 (r := js[i]) Job.csl Job.one (fun _ _ => trivial) rfl rfl rfl rfl rfl rfl rfl rfl rfl rfl (by omega)) rfl fun s' => ?_
        refine RJ_mem [_, _, _, _] rfl ?_
        refine RJ_float (FS_assign rfl) rfl ?_
        refine RJ_nil ?_
        refine JS_live [(15, _), (7, _), (1, _), (13, _), (14, _), (6, _)] rfl ?_
        refine JS_blk ?_
        refine JS_region ?_
        refine RJ_float (FS_add rfl rfl (by omega) (by omega)) rfl ?_
        refine RJ_float (FS_move rfl) rfl ?_
        refine RJ_nil ?_
        exact JS_againF ⟨(i + 1, l1 ++ [js[i]], l2, s', s2), by simp only [filter_more h16, ← hl2, ← hl3]; simp [h22]; omega⟩ (by simp; omega) rfl (fun _ h => h.pick (is := [0, 1]) (by decide))
    · have h16 : ¬ i < js.length := by omega
      have hm : missedJ js now = (l1, l2) := by
        unfold missedJ
        rw [if_pos (by simpa using h12), hl2, hl3, List.take_of_length_le (by omega)]
      refine JS_exit rfl ?_
      refine JS_seq ?_
      refine JS_region ?_
      refine RJ_float (FS_move rfl) rfl ?_
      refine RJ_float (FS_move rfl) rfl ?_
      refine RJ_float (FS_assign rfl) rfl ?_
      refine RJ_float (FS_assign rfl) rfl ?_
      refine RJ_nil ?_
      refine JS_live [(4, _), (5, _)] rfl ?_
      exact JS_return (s1, s2) [0, 1] rfl (.tmp rfl (.tmp rfl .nil)) (by rw [hm]; rfl) (by decide) (by rw [hm]; rfl)
end Go.Proofs.Ytmhjcemcjfkejaa
