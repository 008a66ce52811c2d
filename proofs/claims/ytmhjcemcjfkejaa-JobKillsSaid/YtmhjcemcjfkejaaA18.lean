/- a part's schedule: contracts at a state that is written out; what New and Pick refuse -/
import Derived.Test.YtmhjcemcjfkejaaA17
namespace Go.Proofs.Ytmhjcemcjfkejaa
open Go.RowKit
open Go.Proofs
set_option linter.unusedVariables false
set_option linter.unusedSimpArgs false
set_option linter.unnecessarySimpa false
set_option maxRecDepth 20000
theorem new_bad (idx : Int) (p : Part) (hok : newOk idx p = false) : Ctr Try.prog 5 [vi idx, agg p.cs] (fun w => p.at w) ([]) (fun _ : Unit => .tuple #[.pointer none, vi 1400]) (fun _ => []) := by
  refine Ctr.of Try.func5 rfl (Nat.le_of_ble_eq_true rfl) fun w hw => ?_
  refine JS_live [(0, _), (1, _)] rfl ?_
  refine JS_seq ?_
  refine JS_region ?_
  refine RJ_loud (LS_box rfl rfl) rfl fun b3 => ?_
  refine RJ_mem [_] rfl ?_
  refine RJ_float (FS_assign rfl) rfl ?_
  refine RJ_float (FS_assign rfl) rfl ?_
  refine RJ_nil ?_
  refine JS_seq ?_
  refine JS_region ?_
  refine RJ_float (FS_loadK Try.tab 0 rfl rfl rfl rfl) rfl ?_
  refine RJ_loud (LS_buildSlice Try.tab rfl rfl rfl rfl rfl rfl) rfl fun b11 => ?_
  refine RJ_mem [_, _] rfl ?_
  refine RJ_float (FS_build Try.tab rfl rfl rfl rfl) rfl ?_
  refine RJ_loud (LS_alloc Try.tab rfl) rfl fun b6 => ?_
  refine RJ_mem [_, _, _] rfl ?_
  refine RJ_loud (LS_store Try.tab (i := 2) rfl rfl rfl rfl rfl rfl rfl rfl) rfl fun _ => ?_
  refine RJ_mem [_, _, _] rfl ?_
  refine RJ_nil ?_
  refine JS_seq ?_
  refine JS_seq ?_
  refine JS_region ?_
  refine RJ_float (FS_move rfl) rfl ?_
  refine RJ_float (FS_int rfl rfl rfl) rfl ?_
  refine RJ_float (FS_move rfl) rfl ?_
  refine RJ_g rfl rfl gvF (fun hg => (FS_move rfl)) rfl ?_
  refine RJ_g rfl rfl gvF (fun hg => (FS_int (gx hg rfl) rfl rfl)) rfl ?_
  refine RJ_float (FS_or rfl rfl) rfl ?_
  refine RJ_float (FS_move rfl) rfl ?_
  refine RJ_g rfl rfl gvF (fun hg => (FS_loadK Try.tab 2 rfl rfl rfl rfl)) rfl ?_
  refine RJ_gfun rfl rfl gvF (fun hg => (LS_under [(20, _)] (LE_cons (gx hg rfl) LE_nil) (LS_fun (Try.can rfl) (check_c (aloneC b11 p)) rfl (fun w h => ⟨.inr ⟨b11, 0, rfl, h.range 1 rfl⟩, .inl rfl, .inl rfl, fun x hx => by simp only [aloneC, List.mem_singleton] at hx; subst hx; exact Part.keeps _ _ _ h.only hw, by simp [aloneC], by simp [aloneC], by simp [aloneC]⟩)))) rfl ?_
  refine RJ_g rfl rfl gvF (fun hg => (FS_int (gx hg rfl) rfl rfl)) rfl ?_
  refine RJ_float (FS_or rfl rfl) rfl ?_
  refine RJ_nil ?_
  refine JS_live [(0, _), (3, _), (23, _)] rfl ?_
  refine JS_cond rfl (fun h23 => ?_) (fun h23 => ?_)
  · try simp only [Bool.and_eq_true, Bool.or_eq_true, Bool.and_eq_false_iff, Bool.or_eq_false_iff, Bool.not_eq_true', Bool.not_eq_false', decide_eq_true_eq, decide_eq_false_iff_not, beq_iff_eq, bne_iff_ne, beq_eq_false_iff_ne, bne_eq_false_iff_eq] at h23
    refine JS_seq ?_
    refine JS_region ?_
    refine RJ_float (FS_assign rfl) rfl ?_
    refine RJ_float (FS_assign rfl) rfl ?_
    refine RJ_nil ?_
    exact JS_retv rfl (.tmp rfl (.tmp rfl .nil)) (rfl)
  · try simp only [Bool.and_eq_true, Bool.or_eq_true, Bool.and_eq_false_iff, Bool.or_eq_false_iff, Bool.not_eq_true', Bool.not_eq_false', decide_eq_true_eq, decide_eq_false_iff_not, beq_iff_eq, bne_iff_ne, beq_eq_false_iff_ne, bne_eq_false_iff_eq] at h23
    simp only [newOk, aloneC_b b11, Bool.not_eq_false', Bool.or_eq_true, decide_eq_true_eq, bne_iff_ne] at hok h23
    rcases hok with (h | h) | h
    · omega
    · omega
    · exact absurd (h23.2) (by simpa [aloneC_b b11] using h)
theorem pick_bad (b o : Nat) (idx lvl : Int) (ptrs : List Nat) (st : Option Sl) (i d now : Int) (hb : i < 0 ∨ i ≥ ptrs.length ∨ clockB now = false) : Ctr Try.prog 7 [vp b o, vi i, vi d, vi now] (fun w => w.rangeAt b o [vi idx, vi lvl, .slice (Sl.addr st) ptrs.length (Sl.cap ptrs.length st)]) ([]) (fun _ : Unit => .tuple #[.slice none 0 0, vi 1400]) (fun _ => []) := by
  refine Ctr.of Try.func7 rfl (Nat.le_of_ble_eq_true rfl) fun w hw => ?_
  refine JS_live [(0, _), (1, _), (2, _), (3, _)] rfl ?_
  refine JS_seq ?_
  refine JS_region ?_
  refine RJ_float (FS_assign rfl) rfl ?_
  refine RJ_float (FS_assign rfl) rfl ?_
  refine RJ_nil ?_
  refine JS_seq ?_
  refine JS_block ?_
  refine JS_seq ?_
  refine JS_region ?_
  refine RJ_float (FS_move rfl) rfl ?_
  refine RJ_float (FS_ptrNil Try.tab rfl rfl) rfl ?_
  refine RJ_float (FS_assign rfl) rfl ?_
  refine RJ_nil ?_
  refine JS_else rfl ?_
  refine JS_seq ?_
  refine JS_region ?_
  refine RJ_float (FS_move rfl) rfl ?_
  refine RJ_float (FS_int rfl rfl rfl) rfl ?_
  refine RJ_float (FS_move rfl) rfl ?_
  refine RJ_g rfl rfl gvF (fun hg => (FS_move rfl)) rfl ?_
  refine RJ_g rfl rfl gvF (fun hg => (FS_move rfl)) rfl ?_
  refine RJ_g rfl rfl gvF (fun hg => (FS_nilCheck (gx hg rfl))) rfl ?_
  refine RJ_g rfl rfl gvF (fun hg => (FS_field Try.tab (gx hg rfl) rfl)) rfl ?_
  refine RJ_g rfl rfl gvF (fun hg => (FS_loadB Try.tab (gx hg rfl) rfl own0 hw rfl)) rfl ?_
  refine RJ_g rfl rfl gvF (fun hg => (FS_len Try.tab (gx hg rfl) rfl)) rfl ?_
  refine RJ_g rfl rfl gvF (fun hg => (FS_int (gx hg rfl) (gx hg rfl) rfl)) rfl ?_
  refine RJ_float (FS_or rfl rfl) rfl ?_
  refine RJ_float (FS_move rfl) rfl ?_
  refine RJ_g rfl rfl gvF (fun hg => (FS_move rfl)) rfl ?_
  refine RJ_gfun rfl rfl gvF (fun hg => (LS_under [(29, _)] (LE_cons (gx hg rfl) LE_nil) (LS_fun (Try.can rfl) (clock_c _) rfl (fun _ _ => trivial)))) rfl ?_
  refine RJ_g rfl rfl gvF (fun hg => (FS_not (gx hg rfl))) rfl ?_
  refine RJ_float (FS_or rfl rfl) rfl ?_
  refine RJ_float (FS_assign rfl) rfl ?_
  refine RJ_nil ?_
  refine JS_live [(0, _), (1, _), (2, _), (3, _), (16, _)] rfl ?_
  refine JS_cond rfl (fun h16 => ?_) (fun h16 => ?_)
  · try simp only [Bool.and_eq_true, Bool.or_eq_true, Bool.and_eq_false_iff, Bool.or_eq_false_iff, Bool.not_eq_true', Bool.not_eq_false', decide_eq_true_eq, decide_eq_false_iff_not, beq_iff_eq, bne_iff_ne, beq_eq_false_iff_ne, bne_eq_false_iff_eq] at h16
    refine JS_seq ?_
    refine JS_region ?_
    refine RJ_float (FS_assign rfl) rfl ?_
    refine RJ_float (FS_assign rfl) rfl ?_
    refine RJ_nil ?_
    exact JS_retv rfl (.tmp rfl (.tmp rfl .nil)) (rfl)
  · try simp only [Bool.and_eq_true, Bool.or_eq_true, Bool.and_eq_false_iff, Bool.or_eq_false_iff, Bool.not_eq_true', Bool.not_eq_false', decide_eq_true_eq, decide_eq_false_iff_not, beq_iff_eq, bne_iff_ne, beq_eq_false_iff_ne, bne_eq_false_iff_eq] at h16
    rcases hb with h | h | h
    · exact absurd h16.1.1 (by omega)
    · exact absurd h16.1.2 (by omega)
    · rw [h] at h16; simp at h16
theorem pickB (L : LocL) {M : Lc} {b : Nat} (hM : L.m = M) (hB : L.b = b) (i d now : Int) (hb : i < 0 ∨ i ≥ M.runs.length ∨ clockB now = false) : Ctr Try.prog 7 [vp b 0, vi i, vi d, vi now] (fun w => (locB L).ok w) [] (fun _ : Unit => .tuple #[.slice none 0 0, vi 1400]) (fun _ => []) := by
  subst hM hB
  exact (pick_bad L.b 0 L.idx L.lvl (ptrsR L.runs) L.st i d now (by simpa [LocL.m] using hb)).pre fun w _ h => rangeAt_pre (pre := [_, _, _]) (locB_range h)
theorem pickM (L : LocL) {M : Lc} {b : Nat} (hM : L.m = M) (hB : L.b = b) (i : Nat) (d now : Int) (hi : i < M.runs.length) (hs : M.small) (hnow : clockB now = true) :
    Ctr Try.prog 7 [vp b 0, vi (i : Int), vi d, vi now] (fun _ => True) [locB L] (fun q : {q : LocL × Option Sl // q.1.m = (M.pick i d now).1 ∧ q.1.b = b} => .tuple #[evV (M.pick i d now).2.1 q.1.2, vi (M.pick i d now).2.2])
      (fun q => [locB q.1.1, evsE (M.pick i d now).2.1 q.1.2]) := by subst hM hB; exact pickW L i d now hi hs hnow
theorem beginM (L : LocL) {M : Lc} {b : Nat} (hM : L.m = M) (hB : L.b = b) (now : Int) (hs : M.small) (hjs : M.js.length ≤ 65536) (hc : clockB now = true) :
    Ctr Try.prog 8 [vp b 0, vi now] (fun _ => True) [locB L] (fun q : {q : LocL × Option Sl // q.1.m = (M.begin now).1 ∧ q.1.b = b} => .tuple #[evV (M.begin now).2 q.1.2, vi 0])
      (fun q => [locB q.1.1, evsE (M.begin now).2 q.1.2]) := by subst hM hB; exact begin_c L now hs hjs hc
theorem runM (L : LocL) {M : Lc} {b : Nat} (hM : L.m = M) (hB : L.b = b) (hj : ∀ j rest, M.js = j :: rest → 0 ≤ j.task ∧ j.task.toNat < M.runs.length) (hs : M.small) :
    Ctr Try.prog 10 [vp b 0] (fun _ => True) [locB L] (fun q : {q : LocL × Option Sl // q.1.m = M.run.2.1 ∧ q.1.b = b} => .tuple #[agg M.run.1.cs, evV M.run.2.2 q.1.2, vi M.noneE])
      (fun q => [locB q.1.1, evsE M.run.2.2 q.1.2]) := by subst hM hB; exact runW L hj hs
theorem failM (L : LocL) {M : Lc} {b : Nat} (hM : L.m = M) (hB : L.b = b) (hs : M.small) :
    Ctr Try.prog 11 [vp b 0] (fun _ => True) [locB L] (fun q : {q : LocL × Option Sl // q.1.m = M.fail.1 ∧ q.1.b = b} => .tuple #[evV M.fail.2 q.1.2, vi M.noneE])
      (fun q => [locB q.1.1, evsE M.fail.2 q.1.2]) := by subst hM hB; exact failW L hs
theorem readyM (L : LocL) {M : Lc} {b : Nat} (hM : L.m = M) (hB : L.b = b) : Ctr Try.prog 12 [vp b 0] (fun w => (locB L).ok w) [] (fun _ : Unit => .bool (decide ((M.js.length : Int) > 0))) (fun _ => []) := by subst hM hB; exact readyW L
theorem jobsM (L : LocL) {M : Lc} {b : Nat} (hM : L.m = M) (hB : L.b = b) (hs : M.js.length ≤ 4294967296) : Ctr Try.prog 13 [vp b 0] (fun w => (locB L).ok w) [] (fun s : Option Sl => .slice (Sl.addr s) M.js.length (Sl.cap M.js.length s)) (fun s => [jobsE M.js s]) := by subst hM hB; exact jobsW L hs
end Go.Proofs.Ytmhjcemcjfkejaa
