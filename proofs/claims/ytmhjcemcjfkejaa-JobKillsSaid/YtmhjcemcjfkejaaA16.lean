/- a part's schedule as a whole: New, Pick, Run, Fail -/
import Derived.Test.YtmhjcemcjfkejaaA15
namespace Go.Proofs.Ytmhjcemcjfkejaa
open Go.RowKit
open Go.Proofs
set_option linter.unusedVariables false
set_option linter.unusedSimpArgs false
set_option linter.unnecessarySimpa false
set_option maxRecDepth 20000
def newRn (t : Task) : Rn := ⟨t, -1, [], 0⟩
def Lc.new (idx : Int) (p : Part) : Lc := ⟨idx, p.level, p.tasks.map newRn, []⟩
def aloneC (b : Nat) (p : Part) : Cfg := ⟨1, 1, [p], some ⟨b, 0, none⟩, 1, [], none, 0, [], none, 0⟩
theorem aloneC_b (b : Nat) (p : Part) : checkB (aloneC b p) = checkB (aloneC 0 p) := rfl
/-- May there be a schedule? -/
def newOk (idx : Int) (p : Part) : Bool := !(decide (idx < 0) || decide (idx ≥ 8) || (checkB (aloneC 0 p) != 0))
theorem runE_new {rs : List RunL} {r : Nat} {t : Task} : Imp [.row runB rs, runE r t (-1) [] none 0] [.row runB (rs ++ [⟨r, t, -1, [], none, 0⟩])] := by
  refine (Imp.left [_] ?_).trans (Imp.row_add (f := runB) ⟨r, t, -1, [], none, 0⟩)
  refine ⟨fun w hw e he => ?_, [], by simp [blks, runB, Ent.star, Sl.e, Ent.one, Ent.c]⟩
  simp only [List.mem_singleton] at he
  subst he
  intro e he
  simp only [List.mem_cons, List.not_mem_nil, or_false] at he
  rcases he with rfl | rfl
  · exact hw _ (List.mem_singleton.2 rfl)
  · exact (show (Sl.e 3 1 [] none).ok w from ⟨.cells #[] 0 (0, 0), by simp, rfl⟩)
theorem ptrCone (x : Nat) : (ptrC x).all (·.oneCell') = true := rfl
theorem new_c (idx : Int) (p : Part) (hok : newOk idx p = true) (hlen : p.tasks.length ≤ 65536) : Ctr Try.prog 5 [vi idx, agg p.cs] (fun w => p.at w) ([]) (fun q : {L : LocL // L.m = Lc.new idx p} => .tuple #[vp q.1.b 0, vi 0]) (fun q => [locB q.1]) := by
  refine Ctr.of Try.func5 rfl (Nat.le_of_ble_eq_true rfl) fun w hw => ?_
  refine JS_live [(0, _), (1, _)] rfl ?_
  refine JS_seq ?_
  refine JS_region ?_
  refine RJ_loud (LS_box rfl rfl) rfl fun b3 => ?_
  refine RJ_mem [_] rfl ?_
  refine RJ_float (FS_assign rfl) rfl ?_
  refine RJ_float (FS_assign rfl) rfl ?_
  refine RJ_nil ?_
  refine JS_seq ?_
  refine JS_region ?_
  refine RJ_float (FS_loadK Try.tab 0 rfl rfl rfl rfl) rfl ?_
  refine RJ_loud (LS_buildSlice Try.tab rfl rfl rfl rfl rfl rfl) rfl fun b11 => ?_
  refine RJ_mem [_, _] rfl ?_
  refine RJ_float (FS_build Try.tab rfl rfl rfl rfl) rfl ?_
  refine RJ_loud (LS_alloc Try.tab rfl) rfl fun b6 => ?_
  refine RJ_mem [_, _, _] rfl ?_
  refine RJ_loud (LS_store Try.tab (i := 2) rfl rfl rfl rfl rfl rfl rfl rfl) rfl fun _ => ?_
  refine RJ_mem [_, _, _] rfl ?_
  refine RJ_nil ?_
  refine JS_seq ?_
  refine JS_seq ?_
  refine JS_region ?_
  refine RJ_float (FS_move rfl) rfl ?_
  refine RJ_float (FS_int rfl rfl rfl) rfl ?_
  refine RJ_float (FS_move rfl) rfl ?_
  refine RJ_g rfl rfl gvF (fun hg => (FS_move rfl)) rfl ?_
  refine RJ_g rfl rfl gvF (fun hg => (FS_int (gx hg rfl) rfl rfl)) rfl ?_
  refine RJ_float (FS_or rfl rfl) rfl ?_
  refine RJ_float (FS_move rfl) rfl ?_
  refine RJ_g rfl rfl gvF (fun hg => (FS_loadK Try.tab 2 rfl rfl rfl rfl)) rfl ?_
  refine RJ_gfun rfl rfl gvF (fun hg => (LS_under [(20, _)] (LE_cons (gx hg rfl) LE_nil) (LS_fun (Try.can rfl) (check_c (aloneC b11 p)) rfl (fun w h => ⟨.inr ⟨b11, 0, rfl, h.range 1 rfl⟩, .inl rfl, .inl rfl, fun x hx => by simp only [aloneC, List.mem_singleton] at hx; subst hx; exact Part.keeps _ _ _ h.only hw, by simp [aloneC], by simp [aloneC], by simp [aloneC]⟩)))) rfl ?_
  refine RJ_g rfl rfl gvF (fun hg => (FS_int (gx hg rfl) rfl rfl)) rfl ?_
  refine RJ_float (FS_or rfl rfl) rfl ?_
  refine RJ_nil ?_
  refine JS_live [(0, _), (3, _), (23, _)] rfl ?_
  refine JS_cond rfl (fun h23 => ?_) (fun h23 => ?_)
  · try simp only [Bool.and_eq_true, Bool.or_eq_true, Bool.and_eq_false_iff, Bool.or_eq_false_iff, Bool.not_eq_true', Bool.not_eq_false', decide_eq_true_eq, decide_eq_false_iff_not, beq_iff_eq, bne_iff_ne, beq_eq_false_iff_ne, bne_eq_false_iff_eq] at h23
    simp only [newOk, aloneC_b b11, Bool.not_eq_true', Bool.or_eq_false_iff, decide_eq_false_iff_not, bne_eq_false_iff_eq] at hok h23
    rcases h23 with (h | h) | h
    · exact absurd h hok.1.1
    · exact absurd h hok.1.2
    · exact (h hok.2).elim
  · try simp only [Bool.and_eq_true, Bool.or_eq_true, Bool.and_eq_false_iff, Bool.or_eq_false_iff, Bool.not_eq_true', Bool.not_eq_false', decide_eq_true_eq, decide_eq_false_iff_not, beq_iff_eq, bne_iff_ne, beq_eq_false_iff_ne, bne_eq_false_iff_eq] at h23
    refine JS_skip ?_
    refine JS_seq ?_
    refine JS_region ?_
    refine RJ_float (FS_move rfl) rfl ?_
    refine RJ_float (FS_field Try.tab rfl rfl) rfl ?_
    refine RJ_float (FS_loadK Try.tab 0 rfl rfl rfl rfl) rfl ?_
    refine RJ_float (FS_build Try.tab rfl rfl rfl rfl) rfl ?_
    refine RJ_loud (LS_box rfl rfl) rfl fun b28 => ?_
    refine RJ_mem [_, _, _, _] rfl ?_
    refine RJ_float (FS_assign rfl) rfl ?_
    refine RJ_nil ?_
    refine JS_weakK (fun _ h => h.addNil 61 1) ?_
    refine JS_imp ((Imp.row_nil runB).left [_, _, _, _, _]) ?_
    refine JS_mem [_, _, _, _, _, _] rfl ?_
    refine JS_live [(3, _), (7, _)] rfl ?_
    refine JS_seq ?_
    refine JS_seq ?_
    refine JS_region ?_
    refine RJ_float (FS_field Try.tab rfl rfl) rfl ?_
    refine RJ_float (FS_loadK Try.tab 0 rfl rfl rfl rfl) rfl ?_
    refine RJ_float (FS_len Try.tab rfl rfl) rfl ?_
    refine RJ_float (FS_move rfl) rfl ?_
    refine RJ_nil ?_
    refine JS_block ?_
    refine JS_loopF (ι := {q : Nat × List RunL × Option Sl // q.1 ≤ p.tasks.length ∧ q.2.1.map RunL.m = (p.tasks.take q.1).map newRn}) [(7, _), (30, _), (31, _)] (fun ⟨(i, rs, st), hi1, hrs⟩ => [(32, vi (i : Int))]) (fun ⟨(i, rs, st), hi1, hrs⟩ => [Ent.c b3 32 p.cs, Ent.c b11 32 p.cs, Ent.c b6 56 (aloneC b11 p).cs, locE b28 idx p.level (ptrsR rs) st [] none, ptrE (ptrsR rs) st, .row runB rs]) (fun ⟨(i, rs, st), hi1, hrs⟩ => p.tasks.length - i) ⟨(0, [], none), by simp, by simp⟩ rfl (fun _ h => h) (fun ⟨(i, rs, st), hi1, hrs⟩ => ?_)
    refine JS_live [(32, _), (7, _), (30, _), (31, _)] rfl ?_
    simp only at hi1 hrs
    have hrl : rs.length = i := by have := congrArg List.length hrs; simp at this; omega
    have hpl : (ptrsR rs).length = i := by simp [hrl]
    refine JS_seq ?_
    refine JS_region ?_
    refine RJ_float (FS_int rfl rfl rfl) rfl ?_
    refine RJ_nil ?_
    refine JS_seq ?_
    refine JS_condD rfl (fun h33 => ?_) (fun h33 => ?_)
    · have h33 : i < p.tasks.length := by omega
      have r1 := hw.1.partT Task.csl (by decide) h33
      refine JS_skip ?_
      refine JS_seq ?_
      refine JS_block ?_
      refine JS_seq ?_
      refine JS_region ?_
      refine RJ_float (FS_indexT Try.tab rfl rfl rfl r1.1 (by omega) (by omega)) rfl ?_
      refine RJ_float (FS_loadB0 Try.tab rfl rfl own0 r1.2 rfl) rfl ?_
      refine RJ_loud (LS_alloc Try.tab rfl) rfl fun b9 => ?_
      refine RJ_mem [_, _, _, _, _, _, _] rfl ?_
      refine RJ_loud (LS_store Try.tab (i := 6) rfl rfl rfl rfl rfl rfl rfl rfl) rfl fun _ => ?_
      refine RJ_mem [_, _, _, _, _, _, _] rfl ?_
      refine RJ_nil ?_
      refine JS_drawn Try.mixed [(0, false), (1, false), (5, false), (6, false), (2, false), (7, false), (3, false), (4, false), (8, true), (9, true), (10, true), (11, false), (12, false), (13, true)] (by kernel_rfl) fun R1 => ?_
      refine HQ_p R1 rfl rfl (fun _ => (FS_move rfl)) rfl ?_
      refine HQ_p R1 rfl rfl (fun _ => (FS_move rfl)) rfl ?_
      refine HQ_l R1 rfl rfl (FS_loadK Try.tab 6 rfl rfl rfl rfl) rfl ?_
      refine HQ_p R1 rfl rfl (fun _ => (FS_build Try.tab rfl rfl rfl rfl)) rfl ?_
      refine HQ_p R1 rfl rfl (fun _ => (FS_nilCheck rfl)) rfl ?_
      refine HQ_p R1 rfl rfl (fun _ => (FS_build Try.tab rfl rfl rfl rfl)) rfl ?_
      refine HQ_p R1 rfl rfl (fun _ => (FS_field Try.tab rfl rfl)) rfl ?_
      refine HQ_l R1 rfl rfl (FS_loadK Try.tab 3 rfl rfl rfl rfl) rfl ?_
      refine HQ_new R1 rfl rfl (LS_box rfl rfl) rfl fun b44 => ?_
      refine HQ_mem [_, _, _, _, _, _, _, _] rfl ?_
      refine HQ_new R1 rfl rfl (LS_buildSlice Try.tab rfl rfl rfl rfl rfl rfl) rfl fun b45 => ?_
      refine HQ_mem [_, _, _, _, _, _, _, _, _] rfl ?_
      refine HQ_loud0 R1 rfl rfl (LS_app1 ptrC Try.tab 4 8 (r := b44) ptrCl ptrCone (fun _ _ => trivial) rfl rfl rfl rfl rfl rfl rfl rfl rfl rfl (by omega)) rfl (by kernel_rfl) fun s' => ?_
      refine HQ_mem [_, _, _, _, _, _, _, _, _] rfl ?_
      refine HQ_p R1 rfl rfl (fun _ => (FS_nilCheck rfl)) rfl ?_
      refine HQ_p R1 rfl rfl (fun _ => (FS_field Try.tab rfl rfl)) rfl ?_
      refine HQ_loud0 R1 rfl rfl (LS_store Try.tab (i := 3) rfl rfl rfl rfl rfl rfl rfl rfl) rfl (by kernel_rfl) fun _ => ?_
      refine HQ_mem [_, _, _, _, _, _, _, _, _] rfl ?_
      refine HQ_end R1 rfl ?_
      clear R1
      refine JS_live [(32, _), (7, _), (30, _), (31, _)] rfl ?_
      refine JS_blk ?_
      refine JS_region ?_
      refine RJ_float (FS_add rfl rfl (by omega) (by omega)) rfl ?_
      refine RJ_float (FS_move rfl) rfl ?_
      refine RJ_nil ?_
      have hpt : ptrsR (rs ++ [⟨b44, p.tasks[i], -1, [], none, 0⟩]) = ptrsR rs ++ [b44] := by simp
      exact JS_againF ⟨(i + 1, rs ++ [⟨b44, p.tasks[i], -1, [], none, 0⟩], s'), by simp; omega, by simp only [List.take_succ_eq_append_getElem h33, List.map_append, hrs]; rfl⟩ (by simp; omega) rfl (fun _ h => by simp only [hpt]; exact (h.pick (is := [0, 1, 2, 3, 4, 5, 7]) (by decide)).imp (Imp.left [_, _, _, _, _] runE_new))
    · obtain rfl : i = p.tasks.length := by omega
      rw [List.take_length] at hrs
      refine JS_exit rfl ?_
      refine JS_seq ?_
      refine JS_region ?_
      refine RJ_float (FS_move rfl) rfl ?_
      refine RJ_float (FS_assign rfl) rfl ?_
      refine RJ_float (FS_assign rfl) rfl ?_
      refine RJ_nil ?_
      refine JS_weakK (fun _ h => h.addNil 51 7) ?_
      refine JS_imp (Imp.packs [3, 4, 6, 5] [] (by decide)) ?_
      refine JS_mem [_] rfl ?_
      exact JS_return ⟨⟨b28, idx, p.level, rs, st, [], none⟩, by simp only [LocL.m, hrs]; rfl⟩ [0] rfl (.tmp rfl (.tmp rfl .nil)) (rfl) (by decide) (rfl)
end Go.Proofs.Ytmhjcemcjfkejaa
