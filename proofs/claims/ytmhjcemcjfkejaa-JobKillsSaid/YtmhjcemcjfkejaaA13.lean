/- a part's schedule: what reads, Pick -/
import Derived.Test.YtmhjcemcjfkejaaA12
namespace Go.Proofs.Ytmhjcemcjfkejaa
open Go.RowKit
open Go.Proofs
set_option linter.unusedVariables false
set_option linter.unusedSimpArgs false
set_option linter.unnecessarySimpa false
set_option maxRecDepth 20000
abbrev ptrC (b : Nat) : List Value := [vp b 0]
theorem ptrCl (b : Nat) : (ptrC b).length = 1 := rfl
abbrev locCs (idx lvl : Int) (ptrs : List Nat) (st : Option Sl) (js : List Job) (sj : Option Sl) : List Value := [vi idx, vi lvl, .slice (Sl.addr st) ptrs.length (Sl.cap ptrs.length st), .slice (Sl.addr sj) js.length (Sl.cap js.length sj)]
abbrev runCs (t : Task) (last : Int) (picks : List Int) (sp : Option Sl) (seq : Int) : List Value :=
  [vi t.kind, vi t.period, vi t.deadline, vi t.cLow, vi t.cHigh, vi t.prio, vi last, .slice (Sl.addr sp) picks.length (Sl.cap picks.length sp), vi seq]
abbrev locE (b : Nat) (idx lvl : Int) (ptrs : List Nat) (st : Option Sl) (js : List Job) (sj : Option Sl) : Ent := Ent.c b 60 (locCs idx lvl ptrs st js sj)
abbrev ptrE (ptrs : List Nat) (st : Option Sl) : Ent := Sl.e 61 1 (rows ptrC ptrs) st
abbrev jobsE (js : List Job) (sj : Option Sl) : Ent := Sl.e 51 7 (rows Job.cs js) sj
abbrev evsE (es : List Ev) (s : Option Sl) : Ent := Sl.e 40 4 (rows Ev.cs es) s
abbrev intsE (xs : List Int) (s : Option Sl) : Ent := Sl.e 3 1 (rows vi1 xs) s
abbrev runE (r : Nat) (t : Task) (last : Int) (picks : List Int) (sp : Option Sl) (seq : Int) : Ent := Ent.c r 66 (runCs t last picks sp seq)
/-- Local.Pick: the turns behind it, what is told, the error. -/
def pickL (idx : Int) (t : Task) (last : Int) (picks : List Int) (i d now : Int) : Int × List Int × List Ev × Int :=
  if (pickT t last picks d).2.2 ≠ 0 then (last, picks, [], (pickT t last picks d).2.2)
  else (last, picks ++ [d], if lateB t last (picks ++ [d]) now = true then [⟨2, idx, i, last + t.period - now⟩] else [], 0)
theorem pickT_ok {t : Task} {last : Int} {picks : List Int} {d : Int} (h : (pickT t last picks d).2.2 = 0) : pickT t last picks d = (last, picks ++ [d], 0) ∧ pairB t last picks = true := by
  unfold pickT at h ⊢
  split at h
  · simp at h
  · split at h
    · simp at h
    · rename_i h1 h2
      rw [if_neg h1, if_neg h2]
      simp only [not_or, Bool.not_eq_false] at h1
      exact ⟨rfl, h1.1⟩
theorem fld_at {α : Type} {f : α → List Value} {z : Nat} (hf : ∀ x, (f x).length = z) {l : List α} {i : Nat} (hi : i < l.length) : ldv (true, z) (rows f l) (i * z) = some (agg (f l[i])) := ld_rec hf (by simp [hi])
theorem ptr_at {l : List Nat} {i r : Nat} {s : Nat} (hi : l[i]? = some r) : ldv (false, s) (rows ptrC l) (i * 1) = some (vp r 0) := ld_fld (o := 0) ptrCl hi (by decide) rfl
theorem rows_ne1 {α : Type} {f : α → List Value} {z : Nat} (hf : ∀ x, (f x).length = z) (hz : 0 < z) {l : List α} {i : Nat} {x : α} (hi : l[i]? = some x) : rows f l ≠ [] := rows_ne hf hz (List.getElem?_eq_some_iff.1 hi).1
theorem event_c (b o : Nat) (idx k i v : Int) : Ctr Try.prog 19 [vp b o, vi k, vi i, vi v] (fun w => w.rangeAt b o [vi idx]) ([]) (fun _ : Unit => agg (Ev.cs ⟨k, idx, i, v⟩)) (fun _ => []) := by
  refine Ctr.of Try.func19 rfl (Nat.le_of_ble_eq_true rfl) fun w hw => ?_
  refine JS_live [(0, _), (1, _), (2, _), (3, _)] rfl ?_
  refine JS_seq ?_
  refine JS_region ?_
  refine RJ_loud (LS_alloc Try.tab rfl) rfl fun b8 => ?_
  refine RJ_mem [_] rfl ?_
  refine RJ_nil ?_
  refine JS_seq ?_
  refine JS_region ?_
  refine RJ_float (FS_move rfl) rfl ?_
  refine RJ_float (FS_move rfl) rfl ?_
  refine RJ_float (FS_nilCheck rfl) rfl ?_
  refine RJ_float (FS_field Try.tab rfl rfl) rfl ?_
  refine RJ_float (FS_loadB Try.tab rfl rfl own0 hw rfl) rfl ?_
  refine RJ_float (FS_move rfl) rfl ?_
  refine RJ_float (FS_move rfl) rfl ?_
  refine RJ_float (FS_build Try.tab rfl rfl rfl rfl) rfl ?_
  refine RJ_loud (LS_store Try.tab (i := 0) rfl rfl rfl rfl rfl rfl rfl rfl) rfl fun _ => ?_
  refine RJ_mem [_] rfl ?_
  refine RJ_nil ?_
  refine JS_live [(8, _)] rfl ?_
  exact JS_retv rfl (.cell rfl (szOf_in Try.tab rfl) (List.mem_of_getElem? (i := 0) rfl) rfl .nil) (rfl)
theorem ready_c (b : Nat) (v0 v1 v2 : Value) (js : List Job) (sj : Option Sl) : Ctr Try.prog 12 [vp b 0] (fun w => w.rangeAt b 0 [v0, v1, v2, .slice (Sl.addr sj) js.length (Sl.cap js.length sj)]) ([]) (fun _ : Unit => .bool (decide ((js.length : Int) > 0))) (fun _ => []) := by
  refine Ctr.of Try.func12 rfl (Nat.le_of_ble_eq_true rfl) fun w hw => ?_
  refine JS_live [(0, _)] rfl ?_
  refine JS_seq ?_
  refine JS_region ?_
  refine RJ_float (FS_assign rfl) rfl ?_
  refine RJ_nil ?_
  refine JS_seq ?_
  refine JS_region ?_
  refine RJ_float (FS_move rfl) rfl ?_
  refine RJ_float (FS_ptrNotNil Try.tab rfl rfl) rfl ?_
  refine RJ_float (FS_move rfl) rfl ?_
  refine RJ_g rfl rfl gvT (fun hg => (FS_move rfl)) rfl ?_
  refine RJ_g rfl rfl gvT (fun hg => (FS_nilCheck (gx hg rfl))) rfl ?_
  refine RJ_g rfl rfl gvT (fun hg => (FS_field Try.tab (gx hg rfl) rfl)) rfl ?_
  refine RJ_g rfl rfl gvT (fun hg => (FS_loadB Try.tab (gx hg rfl) rfl own0 hw rfl)) rfl ?_
  refine RJ_g rfl rfl gvT (fun hg => (FS_len Try.tab (gx hg rfl) rfl)) rfl ?_
  refine RJ_g rfl rfl gvT (fun hg => (FS_int (gx hg rfl) rfl rfl)) rfl ?_
  refine RJ_float (FS_and rfl rfl) rfl ?_
  refine RJ_float (FS_assign rfl) rfl ?_
  refine RJ_nil ?_
  refine JS_live [(2, _)] rfl ?_
  exact JS_retv rfl (.tmp rfl .nil) (rfl)
theorem jobs_c (b : Nat) (v0 v1 v2 : Value) (js : List Job) (A : Option Addr) (ca : Nat) : Ctr Try.prog 13 [vp b 0] (fun w => w.rangeAt b 0 [v0, v1, v2, .slice A js.length ca] ∧ RowAt w A (rows Job.cs js) ∧ js.length ≤ 4294967296) ([]) (fun s : Option Sl => .slice (Sl.addr s) js.length (Sl.cap js.length s)) (fun s => [jobsE js s]) := by
  refine Ctr.of Try.func13 rfl (Nat.le_of_ble_eq_true rfl) fun w hw => ?_
  refine JS_live [(0, _)] rfl ?_
  refine JS_seq ?_
  refine JS_region ?_
  refine RJ_float (FS_assign rfl) rfl ?_
  refine RJ_nil ?_
  refine JS_seq ?_
  refine JS_seq ?_
  refine JS_region ?_
  refine RJ_float (FS_move rfl) rfl ?_
  refine RJ_float (FS_ptrNil Try.tab rfl rfl) rfl ?_
  refine RJ_nil ?_
  refine JS_else rfl ?_
  refine JS_skip ?_
  refine JS_seq ?_
  refine JS_region ?_
  refine RJ_float (FS_move rfl) rfl ?_
  refine RJ_float (FS_nilCheck rfl) rfl ?_
  refine RJ_float (FS_field Try.tab rfl rfl) rfl ?_
  refine RJ_float (FS_loadB Try.tab rfl rfl own0 hw.1 rfl) rfl ?_
  refine RJ_loud (LS_pure' (Try.can rfl) (cloneJ_c _ _ js) rfl (fun w h => ⟨h.rowB rfl hw.2.1, hw.2.2⟩)) rfl fun s => ?_
  refine RJ_mem [_] rfl ?_
  refine RJ_float (FS_assign rfl) rfl ?_
  refine RJ_nil ?_
  refine JS_live [(2, _)] rfl ?_
  exact JS_return s [0] rfl (.tmp rfl .nil) (rfl) (by decide) (rfl)
theorem pickL_c (b r i : Nat) (idx lvl : Int) (ptrs : List Nat) (st : Option Sl) (js : List Job) (sj sp : Option Sl) (t : Task) (last : Int) (picks : List Int) (seq : Int) (d now : Int) (hi : ptrs[i]? = some r) (hb : picks.length ≤ 4294967296) (hl : ptrs.length ≤ 4294967296) (hnow : clockB now = true) : Ctr Try.prog 7 [vp b 0, vi (i : Int), vi d, vi now] (fun _ => True) ([locE b idx lvl ptrs st js sj, ptrE ptrs st, runE r t last picks sp seq, intsE picks sp]) (fun s : Option Sl × Option Sl => .tuple #[.slice (Sl.addr s.2) (pickL idx t last picks i d now).2.2.1.length (Sl.cap (pickL idx t last picks i d now).2.2.1.length s.2), vi (pickL idx t last picks i d now).2.2.2]) (fun s => [locE b idx lvl ptrs st js sj, ptrE ptrs st, runE r t (pickL idx t last picks i d now).1 (pickL idx t last picks i d now).2.1 s.1 seq, intsE (pickL idx t last picks i d now).2.1 s.1, evsE (pickL idx t last picks i d now).2.2.1 s.2]) := by
  refine Ctr.of Try.func7 rfl (Nat.le_of_ble_eq_true rfl) fun w hw => ?_
  have hil := (List.getElem?_eq_some_iff.1 hi).1
  have hnow2 : 0 ≤ now ∧ now ≤ 1099511627776 := by simp only [clockB, Bool.and_eq_true, decide_eq_true_eq] at hnow; omega
  refine JS_have (p := picks.length ≤ Sl.cap picks.length sp) (fun w h => h.capLe vi1l (by decide) 3 rfl) fun hcap => ?_
  refine JS_live [(0, _), (1, _), (2, _), (3, _)] rfl ?_
  refine JS_seq ?_
  refine JS_region ?_
  refine RJ_float (FS_assign rfl) rfl ?_
  refine RJ_float (FS_assign rfl) rfl ?_
  refine RJ_nil ?_
  refine JS_seq ?_
  refine JS_block ?_
  refine JS_seq ?_
  refine JS_region ?_
  refine RJ_float (FS_move rfl) rfl ?_
  refine RJ_float (FS_ptrNil Try.tab rfl rfl) rfl ?_
  refine RJ_float (FS_assign rfl) rfl ?_
  refine RJ_nil ?_
  refine JS_else rfl ?_
  refine JS_seq ?_
  refine JS_region ?_
  refine RJ_float (FS_move rfl) rfl ?_
  refine RJ_float (FS_int rfl rfl rfl) rfl ?_
  refine RJ_float (FS_move rfl) rfl ?_
  refine RJ_g rfl rfl gvF (fun hg => (FS_move rfl)) rfl ?_
  refine RJ_g rfl rfl gvF (fun hg => (FS_move rfl)) rfl ?_
  refine RJ_g rfl rfl gvF (fun hg => (FS_nilCheck (gx hg rfl))) rfl ?_
  refine RJ_g rfl rfl gvF (fun hg => (FS_field Try.tab (gx hg rfl) rfl)) rfl ?_
  refine RJ_g rfl rfl gvF (fun hg => (FS_loadK Try.tab 0 (gx hg rfl) rfl rfl rfl)) rfl ?_
  refine RJ_g rfl rfl gvF (fun hg => (FS_len Try.tab (gx hg rfl) rfl)) rfl ?_
  refine RJ_g rfl rfl gvF (fun hg => (FS_int (gx hg rfl) (gx hg rfl) rfl)) rfl ?_
  refine RJ_float (FS_or rfl rfl) rfl ?_
  refine RJ_float (FS_move rfl) rfl ?_
  refine RJ_g rfl rfl gvF (fun hg => (FS_move rfl)) rfl ?_
  refine RJ_gfun rfl rfl gvF (fun hg => (LS_under [(29, _)] (LE_cons (gx hg rfl) LE_nil) (LS_fun (Try.can rfl) (clock_c _) rfl (fun _ _ => trivial)))) rfl ?_
  refine RJ_g rfl rfl gvF (fun hg => (FS_not (gx hg rfl))) rfl ?_
  refine RJ_float (FS_or rfl rfl) rfl ?_
  refine RJ_float (FS_assign rfl) rfl ?_
  refine RJ_nil ?_
  refine JS_live [(0, _), (1, _), (2, _), (3, _), (16, _)] rfl ?_
  refine JS_cond rfl (fun h16 => ?_) (fun h16 => ?_)
  · try simp only [Bool.and_eq_true, Bool.or_eq_true, Bool.and_eq_false_iff, Bool.or_eq_false_iff, Bool.not_eq_true', Bool.not_eq_false', decide_eq_true_eq, decide_eq_false_iff_not, beq_iff_eq, bne_iff_ne, beq_eq_false_iff_ne, bne_eq_false_iff_eq] at h16
    rcases h16 with (h | h) | h
    · omega
    · omega
    · rw [hnow] at h; cases h
  · try simp only [Bool.and_eq_true, Bool.or_eq_true, Bool.and_eq_false_iff, Bool.or_eq_false_iff, Bool.not_eq_true', Bool.not_eq_false', decide_eq_true_eq, decide_eq_false_iff_not, beq_iff_eq, bne_iff_ne, beq_eq_false_iff_ne, bne_eq_false_iff_eq] at h16
    refine JS_skip ?_
    refine JS_blk ?_
    refine JS_seq ?_
    refine JS_region ?_
    refine RJ_float (FS_move rfl) rfl ?_
    refine RJ_float (FS_nilCheck rfl) rfl ?_
    refine RJ_float (FS_field Try.tab rfl rfl) rfl ?_
    refine RJ_float (FS_loadK Try.tab 0 rfl rfl rfl rfl) rfl ?_
    refine RJ_float (FS_move rfl) rfl ?_
    refine RJ_float (FS_indexS Try.tab 1 rfl rfl rfl rfl (rows_ne1 ptrCl (by decide) hi) (by omega) (by omega)) rfl ?_
    refine RJ_float (FS_loadS Try.tab 1 rfl rfl (rows_ne1 ptrCl (by decide) hi) rfl (ptr_at hi)) rfl ?_
    refine RJ_float (FS_assign rfl) rfl ?_
    refine RJ_nil ?_
    refine JS_live [(0, _), (1, _), (2, _), (3, _), (10, _)] rfl ?_
    refine JS_seq ?_
    refine JS_drawn Try.mixed [(0, false), (4, false), (8, false), (1, false), (5, false), (2, false), (6, false), (3, false), (7, false), (9, false), (10, false), (11, false), (12, false), (13, true), (14, true), (15, false)] (by kernel_rfl) fun R1 => ?_
    refine HQ_p R1 rfl rfl (fun _ => (FS_move rfl)) rfl ?_
    refine HQ_p R1 rfl rfl (fun _ => (FS_move rfl)) rfl ?_
    refine HQ_p R1 rfl rfl (fun _ => (FS_move rfl)) rfl ?_
    refine HQ_p R1 rfl rfl (fun _ => (FS_nilCheck rfl)) rfl ?_
    refine HQ_p R1 rfl rfl (fun _ => (FS_nilCheck rfl)) rfl ?_
    refine HQ_p R1 rfl rfl (fun _ => (FS_field Try.tab rfl rfl)) rfl ?_
    refine HQ_p R1 rfl rfl (fun _ => (FS_field Try.tab rfl rfl)) rfl ?_
    refine HQ_l R1 rfl rfl (FS_loadK Try.tab 2 rfl rfl rfl rfl) rfl ?_
    refine HQ_l R1 rfl rfl (FS_loadK Try.tab 2 rfl rfl rfl rfl) rfl ?_
    refine HQ_fork2 R1 (a := 9) (b := 13) (by kernel_rfl) ?_ ?_
    · refine LK (sched' := [(0, false), (4, false), (8, false), (1, false), (5, false), (2, false), (6, false), (3, false), (7, false), (9, false), (10, false), (11, false), (12, false), (13, true), (14, true), (15, false)]) (by kernel_rfl) rfl [] rfl rfl (LS_pure' (Try.can rfl) (pickT_c t last _ _ picks d) rfl (fun w h => ⟨h.sl 3 rfl, hb, hcap⟩)) rfl (by kernel_rfl) (fun _ => trivial) fun s1 => ?_
      refine HQ_mem [_, _, _, _, _] rfl ?_
      refine HQ_h (by kernel_rfl) fun R2 => ?_
      refine HQ_p R2 rfl rfl (fun _ => (FS_move rfl)) rfl ?_
      refine HQ_p R2 rfl rfl (fun _ => (FS_extract rfl rfl)) rfl ?_
      refine HQ_p R2 rfl rfl (fun _ => (FS_extract rfl rfl)) rfl ?_
      refine HQ_new R2 rfl rfl (LS_alloc Try.tab rfl) rfl fun b11 => ?_
      refine HQ_mem [_, _, _, _, _, _] rfl ?_
      refine HQ_loud0 R2 rfl rfl (LS_store Try.tab (i := 5) rfl rfl rfl rfl rfl rfl rfl rfl) rfl (by kernel_rfl) fun _ => ?_
      refine HQ_mem [_, _, _, _, _, _] rfl ?_
      refine HQ_p R2 rfl rfl (fun _ => (FS_assign rfl)) rfl ?_
      refine HQ_end R2 rfl ?_
      clear R2
      refine JS_live [(0, _), (1, _), (3, _), (10, _), (11, _), (12, _)] rfl ?_
      refine JS_seq ?_
      refine JS_seq ?_
      refine JS_region ?_
      refine RJ_float (FS_move rfl) rfl ?_
      refine RJ_float (FS_int rfl rfl rfl) rfl ?_
      refine RJ_nil ?_
      refine JS_condN rfl (fun h54 => ?_) (fun h54 => ?_)
      · have hpl : pickL idx t last picks i d now = (last, picks, [], (pickT t last picks d).2.2) := by unfold pickL; rw [if_pos h54]
        refine JS_seq ?_
        refine JS_region ?_
        refine RJ_float (FS_move rfl) rfl ?_
        refine RJ_float (FS_assign rfl) rfl ?_
        refine RJ_float (FS_assign rfl) rfl ?_
        refine RJ_nil ?_
        refine JS_weakK (fun _ h => h.addNil 40 4) ?_
        refine JS_mem [_, _, _, _, _, _, _] rfl ?_
        refine JS_live [(8, _), (9, _)] rfl ?_
        exact JS_return (sp, none) [0, 1, 2, 3, 6] rfl (.tmp rfl (.tmp rfl .nil)) (by rw [hpl]; rfl) (by decide) (by rw [hpl]; rfl)
      · obtain ⟨hp, hpb⟩ := pickT_ok h54
        have hb5 := pairB_bounds hpb
        have hb6 := Task.ok_bounds hb5.1
        rw [hp]
        refine JS_skip ?_
        refine JS_seq ?_
        refine JS_region ?_
        refine RJ_float (FS_move rfl) rfl ?_
        refine RJ_float (FS_loadK Try.tab 5 rfl rfl rfl rfl) rfl ?_
        refine RJ_float (FS_nilCheck rfl) rfl ?_
        refine RJ_float (FS_field Try.tab rfl rfl) rfl ?_
        refine RJ_loud (LS_store Try.tab (i := 2) rfl rfl rfl rfl rfl rfl rfl rfl) rfl fun _ => ?_
        refine RJ_mem [_, _, _, _, _, _] rfl ?_
        refine RJ_nil ?_
        refine JS_live [(0, _), (1, _), (3, _), (10, _)] rfl ?_
        refine JS_seq ?_
        refine JS_seq ?_
        refine JS_drawn Try.mixed [(0, false), (4, false), (8, false), (1, false), (5, false), (2, false), (6, false), (3, false), (7, false), (9, true), (10, false)] (by kernel_rfl) fun R3 => ?_
        refine HQ_p R3 rfl rfl (fun _ => (FS_move rfl)) rfl ?_
        refine HQ_p R3 rfl rfl (fun _ => (FS_move rfl)) rfl ?_
        refine HQ_p R3 rfl rfl (fun _ => (FS_move rfl)) rfl ?_
        refine HQ_p R3 rfl rfl (fun _ => (FS_nilCheck rfl)) rfl ?_
        refine HQ_p R3 rfl rfl (fun _ => (FS_nilCheck rfl)) rfl ?_
        refine HQ_p R3 rfl rfl (fun _ => (FS_field Try.tab rfl rfl)) rfl ?_
        refine HQ_p R3 rfl rfl (fun _ => (FS_field Try.tab rfl rfl)) rfl ?_
        refine HQ_l R3 rfl rfl (FS_loadK Try.tab 2 rfl rfl rfl rfl) rfl ?_
        refine HQ_l R3 rfl rfl (FS_loadK Try.tab 2 rfl rfl rfl rfl) rfl ?_
        refine HQ_fun R3 rfl rfl (LS_fun (Try.can rfl) (late_c t last _ _ (picks ++ [d]) now) rfl (fun w h => by first | exact ⟨h.sl 4 rfl, by simp; omega, h.capLe vi1l (by decide) 4 rfl⟩ | exact ⟨h.sl 5 rfl, by simp; omega, h.capLe vi1l (by decide) 5 rfl⟩)) rfl ?_
        refine HQ_p R3 rfl rfl (fun _ => (FS_not rfl)) rfl ?_
        refine HQ_end R3 rfl ?_
        clear R3
        refine JS_live [(0, _), (1, _), (3, _), (10, _), (70, _)] rfl ?_
        refine JS_cond rfl (fun h70 => ?_) (fun h70 => ?_)
        · try simp only [Bool.and_eq_true, Bool.or_eq_true, Bool.and_eq_false_iff, Bool.or_eq_false_iff, Bool.not_eq_true', Bool.not_eq_false', decide_eq_true_eq, decide_eq_false_iff_not, beq_iff_eq, bne_iff_ne, beq_eq_false_iff_ne, bne_eq_false_iff_eq] at h70
          have hpl : pickL idx t last picks i d now = (last, picks ++ [d], [], 0) := by unfold pickL; rw [if_neg (by rw [hp]; simp), if_neg (by rw [h70]; simp)]
          refine JS_seq ?_
          refine JS_region ?_
          refine RJ_float (FS_assign rfl) rfl ?_
          refine RJ_float (FS_assign rfl) rfl ?_
          refine RJ_nil ?_
          refine JS_weakK (fun _ h => h.addNil 40 4) ?_
          refine JS_mem [_, _, _, _, _, _, _] rfl ?_
          exact JS_return (s1, none) [0, 1, 2, 4, 6] rfl (.tmp rfl (.tmp rfl .nil)) (by rw [hpl]; rfl) (by decide) (by rw [hpl]; rfl)
        · try simp only [Bool.and_eq_true, Bool.or_eq_true, Bool.and_eq_false_iff, Bool.or_eq_false_iff, Bool.not_eq_true', Bool.not_eq_false', decide_eq_true_eq, decide_eq_false_iff_not, beq_iff_eq, bne_iff_ne, beq_eq_false_iff_ne, bne_eq_false_iff_eq] at h70
          have hpl : pickL idx t last picks i d now = (last, picks ++ [d], [⟨2, idx, i, last + t.period - now⟩], 0) := by unfold pickL; rw [if_neg (by rw [hp]; simp), if_pos h70]
          refine JS_skip ?_
          refine JS_seq ?_
          refine JS_drawn Try.mixed [(0, false), (1, false), (2, false), (7, false), (13, false), (3, false), (8, false), (4, false), (9, false), (5, false), (10, false), (6, false), (11, false), (12, false), (14, false), (15, true), (16, true), (17, false), (18, false)] (by kernel_rfl) fun R4 => ?_
          refine HQ_p R4 rfl rfl (fun _ => (FS_move rfl)) rfl ?_
          refine HQ_p R4 rfl rfl (fun _ => (FS_move rfl)) rfl ?_
          refine HQ_p R4 rfl rfl (fun _ => (FS_move rfl)) rfl ?_
          refine HQ_p R4 rfl rfl (fun _ => (FS_move rfl)) rfl ?_
          refine HQ_p R4 rfl rfl (fun _ => (FS_move rfl)) rfl ?_
          refine HQ_p R4 rfl rfl (fun _ => (FS_nilCheck rfl)) rfl ?_
          refine HQ_p R4 rfl rfl (fun _ => (FS_nilCheck rfl)) rfl ?_
          refine HQ_p R4 rfl rfl (fun _ => (FS_field Try.tab rfl rfl)) rfl ?_
          refine HQ_p R4 rfl rfl (fun _ => (FS_field Try.tab rfl rfl)) rfl ?_
          refine HQ_p R4 rfl rfl (fun _ => (FS_field Try.tab rfl rfl)) rfl ?_
          refine HQ_p R4 rfl rfl (fun _ => (FS_field Try.tab rfl rfl)) rfl ?_
          refine HQ_l R4 rfl rfl (FS_loadK Try.tab 2 rfl rfl rfl rfl) rfl ?_
          refine HQ_l R4 rfl rfl (FS_loadK Try.tab 2 rfl rfl rfl rfl) rfl ?_
          refine HQ_p R4 rfl rfl (fun _ => (FS_add rfl rfl (by omega) (by omega))) rfl ?_
          refine HQ_p R4 rfl rfl (fun _ => (FS_sub rfl rfl (by omega) (by omega))) rfl ?_
          refine HQ_fun R4 rfl rfl (LS_fun (Try.can rfl) (event_c _ _ idx 2 i (last + t.period - now)) rfl (fun w h => rangeAt_pre (pre := [_]) (h.range 0 rfl))) rfl ?_
          refine HQ_new R4 rfl rfl (LS_buildSlice Try.tab rfl rfl rfl rfl rfl rfl) rfl fun b87 => ?_
          refine HQ_mem [_, _, _, _, _, _, _] rfl ?_
          refine HQ_p R4 rfl rfl (fun _ => (FS_assign rfl)) rfl ?_
          refine HQ_p R4 rfl rfl (fun _ => (FS_assign rfl)) rfl ?_
          refine HQ_end R4 rfl ?_
          clear R4
          refine JS_weakK (fun _ h => h.asSl 6 0 4 rfl (by decide)) ?_
          refine JS_mem [_, _, _, _, _, _, _] rfl ?_
          refine JS_live [(8, _), (9, _)] rfl ?_
          exact JS_return (s1, some ⟨b87, [], 0⟩) [0, 1, 2, 4, 6] rfl (.tmp rfl (.tmp rfl .nil)) (by rw [hpl]; rfl) (by decide) (by rw [hpl]; rfl)
    · refine LK (sched' := [(0, false), (4, false), (8, false), (1, false), (5, false), (2, false), (6, false), (3, false), (7, false), (13, false), (9, true), (10, false), (11, false), (12, false), (14, true), (15, false)]) (by kernel_rfl) rfl [7, 3] rfl rfl (LS_alloc Try.tab rfl) rfl (by kernel_rfl) (fun _ => ⟨(cert_of rfl (FS_loadK Try.tab 2 rfl rfl rfl rfl) rfl rfl), (cert_of rfl (FS_loadK Try.tab 2 rfl rfl rfl rfl) rfl rfl), trivial⟩) fun b11 => ?_
      refine HQ_mem [_, _, _, _, _] rfl ?_
      refine HQ_h (by kernel_rfl) fun R5 => ?_
      refine HQ_new R5 rfl rfl (LS_pure' (Try.can rfl) (pickT_c t last _ _ picks d) rfl (fun w h => ⟨h.sl 3 rfl, hb, hcap⟩)) rfl fun s1 => ?_
      refine HQ_mem [_, _, _, _, _, _] rfl ?_
      refine HQ_p R5 rfl rfl (fun _ => (FS_move rfl)) rfl ?_
      refine HQ_p R5 rfl rfl (fun _ => (FS_extract rfl rfl)) rfl ?_
      refine HQ_p R5 rfl rfl (fun _ => (FS_extract rfl rfl)) rfl ?_
      refine HQ_loud0 R5 rfl rfl (LS_store Try.tab (i := 4) rfl rfl rfl rfl rfl rfl rfl rfl) rfl (by kernel_rfl) fun _ => ?_
      refine HQ_mem [_, _, _, _, _, _] rfl ?_
      refine HQ_p R5 rfl rfl (fun _ => (FS_assign rfl)) rfl ?_
      refine HQ_end R5 rfl ?_
      clear R5
      refine JS_live [(0, _), (1, _), (3, _), (10, _), (11, _), (12, _)] rfl ?_
      refine JS_seq ?_
      refine JS_seq ?_
      refine JS_region ?_
      refine RJ_float (FS_move rfl) rfl ?_
      refine RJ_float (FS_int rfl rfl rfl) rfl ?_
      refine RJ_nil ?_
      refine JS_condN rfl (fun h54 => ?_) (fun h54 => ?_)
      · have hpl : pickL idx t last picks i d now = (last, picks, [], (pickT t last picks d).2.2) := by unfold pickL; rw [if_pos h54]
        refine JS_seq ?_
        refine JS_region ?_
        refine RJ_float (FS_move rfl) rfl ?_
        refine RJ_float (FS_assign rfl) rfl ?_
        refine RJ_float (FS_assign rfl) rfl ?_
        refine RJ_nil ?_
        refine JS_weakK (fun _ h => h.addNil 40 4) ?_
        refine JS_mem [_, _, _, _, _, _, _] rfl ?_
        refine JS_live [(8, _), (9, _)] rfl ?_
        exact JS_return (sp, none) [0, 1, 2, 3, 6] rfl (.tmp rfl (.tmp rfl .nil)) (by rw [hpl]; rfl) (by decide) (by rw [hpl]; rfl)
      · obtain ⟨hp, hpb⟩ := pickT_ok h54
        have hb5 := pairB_bounds hpb
        have hb6 := Task.ok_bounds hb5.1
        rw [hp]
        refine JS_skip ?_
        refine JS_seq ?_
        refine JS_region ?_
        refine RJ_float (FS_move rfl) rfl ?_
        refine RJ_float (FS_loadK Try.tab 4 rfl rfl rfl rfl) rfl ?_
        refine RJ_float (FS_nilCheck rfl) rfl ?_
        refine RJ_float (FS_field Try.tab rfl rfl) rfl ?_
        refine RJ_loud (LS_store Try.tab (i := 2) rfl rfl rfl rfl rfl rfl rfl rfl) rfl fun _ => ?_
        refine RJ_mem [_, _, _, _, _, _] rfl ?_
        refine RJ_nil ?_
        refine JS_live [(0, _), (1, _), (3, _), (10, _)] rfl ?_
        refine JS_seq ?_
        refine JS_seq ?_
        refine JS_drawn Try.mixed [(0, false), (4, false), (8, false), (1, false), (5, false), (2, false), (6, false), (3, false), (7, false), (9, true), (10, false)] (by kernel_rfl) fun R6 => ?_
        refine HQ_p R6 rfl rfl (fun _ => (FS_move rfl)) rfl ?_
        refine HQ_p R6 rfl rfl (fun _ => (FS_move rfl)) rfl ?_
        refine HQ_p R6 rfl rfl (fun _ => (FS_move rfl)) rfl ?_
        refine HQ_p R6 rfl rfl (fun _ => (FS_nilCheck rfl)) rfl ?_
        refine HQ_p R6 rfl rfl (fun _ => (FS_nilCheck rfl)) rfl ?_
        refine HQ_p R6 rfl rfl (fun _ => (FS_field Try.tab rfl rfl)) rfl ?_
        refine HQ_p R6 rfl rfl (fun _ => (FS_field Try.tab rfl rfl)) rfl ?_
        refine HQ_l R6 rfl rfl (FS_loadK Try.tab 2 rfl rfl rfl rfl) rfl ?_
        refine HQ_l R6 rfl rfl (FS_loadK Try.tab 2 rfl rfl rfl rfl) rfl ?_
        refine HQ_fun R6 rfl rfl (LS_fun (Try.can rfl) (late_c t last _ _ (picks ++ [d]) now) rfl (fun w h => by first | exact ⟨h.sl 4 rfl, by simp; omega, h.capLe vi1l (by decide) 4 rfl⟩ | exact ⟨h.sl 5 rfl, by simp; omega, h.capLe vi1l (by decide) 5 rfl⟩)) rfl ?_
        refine HQ_p R6 rfl rfl (fun _ => (FS_not rfl)) rfl ?_
        refine HQ_end R6 rfl ?_
        clear R6
        refine JS_live [(0, _), (1, _), (3, _), (10, _), (70, _)] rfl ?_
        refine JS_cond rfl (fun h70 => ?_) (fun h70 => ?_)
        · try simp only [Bool.and_eq_true, Bool.or_eq_true, Bool.and_eq_false_iff, Bool.or_eq_false_iff, Bool.not_eq_true', Bool.not_eq_false', decide_eq_true_eq, decide_eq_false_iff_not, beq_iff_eq, bne_iff_ne, beq_eq_false_iff_ne, bne_eq_false_iff_eq] at h70
          have hpl : pickL idx t last picks i d now = (last, picks ++ [d], [], 0) := by unfold pickL; rw [if_neg (by rw [hp]; simp), if_neg (by rw [h70]; simp)]
          refine JS_seq ?_
          refine JS_region ?_
          refine RJ_float (FS_assign rfl) rfl ?_
          refine RJ_float (FS_assign rfl) rfl ?_
          refine RJ_nil ?_
          refine JS_weakK (fun _ h => h.addNil 40 4) ?_
          refine JS_mem [_, _, _, _, _, _, _] rfl ?_
          exact JS_return (s1, none) [0, 1, 2, 5, 6] rfl (.tmp rfl (.tmp rfl .nil)) (by rw [hpl]; rfl) (by decide) (by rw [hpl]; rfl)
        · try simp only [Bool.and_eq_true, Bool.or_eq_true, Bool.and_eq_false_iff, Bool.or_eq_false_iff, Bool.not_eq_true', Bool.not_eq_false', decide_eq_true_eq, decide_eq_false_iff_not, beq_iff_eq, bne_iff_ne, beq_eq_false_iff_ne, bne_eq_false_iff_eq] at h70
          have hpl : pickL idx t last picks i d now = (last, picks ++ [d], [⟨2, idx, i, last + t.period - now⟩], 0) := by unfold pickL; rw [if_neg (by rw [hp]; simp), if_pos h70]
          refine JS_skip ?_
          refine JS_seq ?_
          refine JS_drawn Try.mixed [(0, false), (1, false), (2, false), (7, false), (13, false), (3, false), (8, false), (4, false), (9, false), (5, false), (10, false), (6, false), (11, false), (12, false), (14, false), (15, true), (16, true), (17, false), (18, false)] (by kernel_rfl) fun R7 => ?_
          refine HQ_p R7 rfl rfl (fun _ => (FS_move rfl)) rfl ?_
          refine HQ_p R7 rfl rfl (fun _ => (FS_move rfl)) rfl ?_
          refine HQ_p R7 rfl rfl (fun _ => (FS_move rfl)) rfl ?_
          refine HQ_p R7 rfl rfl (fun _ => (FS_move rfl)) rfl ?_
          refine HQ_p R7 rfl rfl (fun _ => (FS_move rfl)) rfl ?_
          refine HQ_p R7 rfl rfl (fun _ => (FS_nilCheck rfl)) rfl ?_
          refine HQ_p R7 rfl rfl (fun _ => (FS_nilCheck rfl)) rfl ?_
          refine HQ_p R7 rfl rfl (fun _ => (FS_field Try.tab rfl rfl)) rfl ?_
          refine HQ_p R7 rfl rfl (fun _ => (FS_field Try.tab rfl rfl)) rfl ?_
          refine HQ_p R7 rfl rfl (fun _ => (FS_field Try.tab rfl rfl)) rfl ?_
          refine HQ_p R7 rfl rfl (fun _ => (FS_field Try.tab rfl rfl)) rfl ?_
          refine HQ_l R7 rfl rfl (FS_loadK Try.tab 2 rfl rfl rfl rfl) rfl ?_
          refine HQ_l R7 rfl rfl (FS_loadK Try.tab 2 rfl rfl rfl rfl) rfl ?_
          refine HQ_p R7 rfl rfl (fun _ => (FS_add rfl rfl (by omega) (by omega))) rfl ?_
          refine HQ_p R7 rfl rfl (fun _ => (FS_sub rfl rfl (by omega) (by omega))) rfl ?_
          refine HQ_fun R7 rfl rfl (LS_fun (Try.can rfl) (event_c _ _ idx 2 i (last + t.period - now)) rfl (fun w h => rangeAt_pre (pre := [_]) (h.range 0 rfl))) rfl ?_
          refine HQ_new R7 rfl rfl (LS_buildSlice Try.tab rfl rfl rfl rfl rfl rfl) rfl fun b87 => ?_
          refine HQ_mem [_, _, _, _, _, _, _] rfl ?_
          refine HQ_p R7 rfl rfl (fun _ => (FS_assign rfl)) rfl ?_
          refine HQ_p R7 rfl rfl (fun _ => (FS_assign rfl)) rfl ?_
          refine HQ_end R7 rfl ?_
          clear R7
          refine JS_weakK (fun _ h => h.asSl 6 0 4 rfl (by decide)) ?_
          refine JS_mem [_, _, _, _, _, _, _] rfl ?_
          refine JS_live [(8, _), (9, _)] rfl ?_
          exact JS_return (s1, some ⟨b87, [], 0⟩) [0, 1, 2, 5, 6] rfl (.tmp rfl (.tmp rfl .nil)) (by rw [hpl]; rfl) (by decide) (by rw [hpl]; rfl)
end Go.Proofs.Ytmhjcemcjfkejaa
