/- a part's schedule: release, Fail, Run -/
import Derived.Test.YtmhjcemcjfkejaaA13
namespace Go.Proofs.Ytmhjcemcjfkejaa
open Go.RowKit
open Go.Proofs
set_option linter.unusedVariables false
set_option linter.unusedSimpArgs false
set_option linter.unnecessarySimpa false
set_option maxRecDepth 20000
theorem releaseT_is {t : Task} {last : Int} {picks : List Int} {now : Int} (h : (releaseT t last picks now).2.2.2 = true) : pairB t last picks = true ∧ clockB now = true ∧ (releaseT t last picks now).1 = now := by
  unfold releaseT at h ⊢
  split at h
  · simp at h
  · rename_i h1
    simp only [not_or, Bool.not_eq_false] at h1
    rw [if_neg (by simpa using h1)]
    split at h
    · simp at h
    · rename_i h2
      rw [if_neg h2]
      exact ⟨h1.1, h1.2, by split <;> rfl⟩
theorem clockB_bounds {now : Int} (h : clockB now = true) : 0 ≤ now ∧ now ≤ 1099511627776 := by
  simp only [clockB, Bool.and_eq_true, decide_eq_true_eq] at h
  omega
/-- Local.release: the turns, the count, the jobs behind it, what is told. -/
def relL (idx : Int) (t : Task) (last : Int) (picks : List Int) (seq : Int) (js : List Job) (i now : Int) : Int × List Int × Int × List Job × List Ev :=
  let q := releaseT t last picks now
  if q.2.2.2 = false then (last, picks, seq, js, [])
  else
    let p := putJ js ⟨i, seq, t.prio, now, now + t.deadline, q.2.2.1, 0⟩
    if p.1 ≠ 0 then (q.1, q.2.1, seq, js, []) else (q.1, q.2.1, seq + 1, p.2, [⟨1, idx, i, q.2.2.1⟩])
abbrev tyS : Option Sl × Option Sl × Option Sl → Option Sl := fun s => s.2.2
theorem release_n (b r i : Nat) (idx lvl : Int) (ptrs : List Nat) (st : Option Sl) (js : List Job) (sj sp : Option Sl) (t : Task) (last : Int) (picks : List Int) (seq : Int) (now : Int) (hi : ptrs[i]? = some r) (hb : picks.length ≤ 4294967296) (hl : ptrs.length ≤ 4294967296) (hj : js.length ≤ 4294967296) (hs : seq ≤ 4611686018427387904) (hs0 : 0 ≤ seq) : Ctr Try.prog 21 [vp b 0, vi (i : Int), vi now] (fun _ => True) ([locE b idx lvl ptrs st js sj, ptrE ptrs st, jobsE js sj, runE r t last picks sp seq, intsE picks sp]) (fun s : Option Sl × Option Sl × Option Sl => .slice (Sl.addr s.2.2) (relL idx t last picks seq js i now).2.2.2.2.length (Sl.cap (relL idx t last picks seq js i now).2.2.2.2.length s.2.2)) (fun s => [locE b idx lvl ptrs st (relL idx t last picks seq js i now).2.2.2.1 s.2.1, ptrE ptrs st, jobsE (relL idx t last picks seq js i now).2.2.2.1 s.2.1, runE r t (relL idx t last picks seq js i now).1 (relL idx t last picks seq js i now).2.1 s.1 (relL idx t last picks seq js i now).2.2.1, intsE (relL idx t last picks seq js i now).2.1 s.1, evsE (relL idx t last picks seq js i now).2.2.2.2 s.2.2]) := by
  refine Ctr.of Try.func21 rfl (Nat.le_of_ble_eq_true rfl) fun w hw => ?_
  have hil := (List.getElem?_eq_some_iff.1 hi).1
  refine JS_have (p := picks.length ≤ Sl.cap picks.length sp) (fun w h => h.capLe vi1l (by decide) 4 rfl) fun hcap => ?_
  refine JS_live [(0, _), (1, _), (2, _)] rfl ?_
  refine JS_seq ?_
  refine JS_region ?_
  refine RJ_float (FS_assign rfl) rfl ?_
  refine RJ_nil ?_
  refine JS_seq ?_
  refine JS_region ?_
  refine RJ_float (FS_move rfl) rfl ?_
  refine RJ_float (FS_nilCheck rfl) rfl ?_
  refine RJ_float (FS_field Try.tab rfl rfl) rfl ?_
  refine RJ_float (FS_loadK Try.tab 0 rfl rfl rfl rfl) rfl ?_
  refine RJ_float (FS_move rfl) rfl ?_
  refine RJ_float (FS_indexS Try.tab 1 rfl rfl rfl rfl (rows_ne1 ptrCl (by decide) hi) (by omega) (by omega)) rfl ?_
  refine RJ_float (FS_loadS Try.tab 1 rfl rfl (rows_ne1 ptrCl (by decide) hi) rfl (ptr_at hi)) rfl ?_
  refine RJ_float (FS_assign rfl) rfl ?_
  refine RJ_nil ?_
  refine JS_live [(0, _), (1, _), (2, _), (7, _)] rfl ?_
  refine JS_seq ?_
  refine JS_cutF (ι := Nat × Option Sl) [(0, _), (1, _), (2, _), (7, _)] rfl (fun (b8, s1) => [(8, vp b8 0), (9, vi (releaseT t last picks now).2.2.1), (10, .bool (releaseT t last picks now).2.2.2)]) (fun (b8, s1) => [locE b idx lvl ptrs st js sj, ptrE ptrs st, jobsE js sj, runE r t last picks sp seq, intsE picks sp, Ent.c b8 64 [vi (releaseT t last picks now).1, .slice (Sl.addr s1) (releaseT t last picks now).2.1.length (Sl.cap (releaseT t last picks now).2.1.length s1)], intsE (releaseT t last picks now).2.1 s1]) ?_ (fun (b8, s1) => ?_)
  · refine JS_drawn Try.mixed [(0, false), (4, false), (8, false), (1, false), (5, false), (2, false), (6, false), (3, false), (7, false), (9, false), (10, false), (11, false), (12, false), (13, false), (14, true), (15, true), (16, false), (17, false)] (by kernel_rfl) fun R1 => ?_
    refine HQ_p R1 rfl rfl (fun _ => (FS_move rfl)) rfl ?_
    refine HQ_p R1 rfl rfl (fun _ => (FS_move rfl)) rfl ?_
    refine HQ_p R1 rfl rfl (fun _ => (FS_move rfl)) rfl ?_
    refine HQ_p R1 rfl rfl (fun _ => (FS_nilCheck rfl)) rfl ?_
    refine HQ_p R1 rfl rfl (fun _ => (FS_nilCheck rfl)) rfl ?_
    refine HQ_p R1 rfl rfl (fun _ => (FS_field Try.tab rfl rfl)) rfl ?_
    refine HQ_p R1 rfl rfl (fun _ => (FS_field Try.tab rfl rfl)) rfl ?_
    refine HQ_l R1 rfl rfl (FS_loadK Try.tab 3 rfl rfl rfl rfl) rfl ?_
    refine HQ_l R1 rfl rfl (FS_loadK Try.tab 3 rfl rfl rfl rfl) rfl ?_
    refine HQ_fork2 R1 (a := 9) (b := 14) (by kernel_rfl) ?_ ?_
    · refine LK (sched' := [(0, false), (4, false), (8, false), (1, false), (5, false), (2, false), (6, false), (3, false), (7, false), (9, false), (10, false), (11, false), (12, false), (13, false), (14, true), (15, true), (16, false), (17, false)]) (by kernel_rfl) rfl [] rfl rfl (LS_pure' (Try.can rfl) (release_c t last _ _ picks now) rfl (fun w h => by first | exact ⟨h.sl 4 rfl, hb, hcap⟩)) rfl (by kernel_rfl) (fun _ => trivial) fun s1 => ?_
      refine HQ_mem [_, _, _, _, _, _] rfl ?_
      refine HQ_h (by kernel_rfl) fun R2 => ?_
      refine HQ_p R2 rfl rfl (fun _ => (FS_move rfl)) rfl ?_
      refine HQ_p R2 rfl rfl (fun _ => (FS_extract rfl rfl)) rfl ?_
      refine HQ_p R2 rfl rfl (fun _ => (FS_extract rfl rfl)) rfl ?_
      refine HQ_p R2 rfl rfl (fun _ => (FS_extract rfl rfl)) rfl ?_
      refine HQ_new R2 rfl rfl (LS_alloc Try.tab rfl) rfl fun b8 => ?_
      refine HQ_mem [_, _, _, _, _, _, _] rfl ?_
      refine HQ_loud0 R2 rfl rfl (LS_store Try.tab (i := 6) rfl rfl rfl rfl rfl rfl rfl rfl) rfl (by kernel_rfl) fun _ => ?_
      refine HQ_mem [_, _, _, _, _, _, _] rfl ?_
      refine HQ_p R2 rfl rfl (fun _ => (FS_assign rfl)) rfl ?_
      refine HQ_p R2 rfl rfl (fun _ => (FS_assign rfl)) rfl ?_
      refine HQ_end R2 rfl ?_
      clear R2
      refine JS_live [(0, _), (1, _), (2, _), (7, _), (8, _), (9, _), (10, _)] rfl ?_
      exact JS_there (b8, s1) rfl (fun w h => h.pick (is := [0, 1, 2, 3, 4, 6, 5]) (by decide))
    · refine LK (sched' := [(0, false), (4, false), (8, false), (1, false), (5, false), (2, false), (6, false), (3, false), (7, false), (14, false), (9, true), (10, false), (11, false), (12, false), (13, false), (15, true), (16, false), (17, false)]) (by kernel_rfl) rfl [7, 3] rfl rfl (LS_alloc Try.tab rfl) rfl (by kernel_rfl) (fun _ => ⟨(cert_of rfl (FS_loadK Try.tab 3 rfl rfl rfl rfl) rfl rfl), (cert_of rfl (FS_loadK Try.tab 3 rfl rfl rfl rfl) rfl rfl), trivial⟩) fun b8 => ?_
      refine HQ_mem [_, _, _, _, _, _] rfl ?_
      refine HQ_h (by kernel_rfl) fun R3 => ?_
      refine HQ_new R3 rfl rfl (LS_pure' (Try.can rfl) (release_c t last _ _ picks now) rfl (fun w h => by first | exact ⟨h.sl 4 rfl, hb, hcap⟩)) rfl fun s1 => ?_
      refine HQ_mem [_, _, _, _, _, _, _] rfl ?_
      refine HQ_p R3 rfl rfl (fun _ => (FS_move rfl)) rfl ?_
      refine HQ_p R3 rfl rfl (fun _ => (FS_extract rfl rfl)) rfl ?_
      refine HQ_p R3 rfl rfl (fun _ => (FS_extract rfl rfl)) rfl ?_
      refine HQ_p R3 rfl rfl (fun _ => (FS_extract rfl rfl)) rfl ?_
      refine HQ_loud0 R3 rfl rfl (LS_store Try.tab (i := 5) rfl rfl rfl rfl rfl rfl rfl rfl) rfl (by kernel_rfl) fun _ => ?_
      refine HQ_mem [_, _, _, _, _, _, _] rfl ?_
      refine HQ_p R3 rfl rfl (fun _ => (FS_assign rfl)) rfl ?_
      refine HQ_p R3 rfl rfl (fun _ => (FS_assign rfl)) rfl ?_
      refine HQ_end R3 rfl ?_
      clear R3
      refine JS_live [(0, _), (1, _), (2, _), (7, _), (8, _), (9, _), (10, _)] rfl ?_
      exact JS_there (b8, s1) rfl (fun w h => h.pick (is := [0, 1, 2, 3, 4, 5, 6]) (by decide))
  · refine JS_live [(8, _), (9, _), (10, _), (0, _), (1, _), (2, _), (7, _)] rfl ?_
    refine JS_seq ?_
    refine JS_seq ?_
    refine JS_region ?_
    refine RJ_float (FS_move rfl) rfl ?_
    refine RJ_float (FS_not rfl) rfl ?_
    refine RJ_nil ?_
    refine JS_cond rfl (fun h35 => ?_) (fun h35 => ?_)
    · try simp only [Bool.and_eq_true, Bool.or_eq_true, Bool.and_eq_false_iff, Bool.or_eq_false_iff, Bool.not_eq_true', Bool.not_eq_false', decide_eq_true_eq, decide_eq_false_iff_not, beq_iff_eq, bne_iff_ne, beq_eq_false_iff_ne, bne_eq_false_iff_eq] at h35
      have hr : relL idx t last picks seq js i now = (last, picks, seq, js, []) := by unfold relL; simp only [h35, if_true]
      refine JS_seq ?_
      refine JS_region ?_
      refine RJ_float (FS_assign rfl) rfl ?_
      refine RJ_nil ?_
      refine JS_weakK (fun _ h => h.addNil 40 4) ?_
      refine JS_mem [_, _, _, _, _, _, _, _] rfl ?_
      refine JS_live [(6, _)] rfl ?_
      exact JS_return (sp, sj, none) [0, 1, 2, 3, 4, 7] rfl (.tmp rfl .nil) (by rw [hr]; rfl) (by decide) (by rw [hr]; rfl)
    · try simp only [Bool.and_eq_true, Bool.or_eq_true, Bool.and_eq_false_iff, Bool.or_eq_false_iff, Bool.not_eq_true', Bool.not_eq_false', decide_eq_true_eq, decide_eq_false_iff_not, beq_iff_eq, bne_iff_ne, beq_eq_false_iff_ne, bne_eq_false_iff_eq] at h35
      obtain ⟨hpb, hck, hnow'⟩ := releaseT_is h35
      have hb5 := pairB_bounds hpb
      have hb6 := Task.ok_bounds hb5.1
      have hck := clockB_bounds hck
      refine JS_skip ?_
      refine JS_seq ?_
      refine JS_region ?_
      refine RJ_float (FS_move rfl) rfl ?_
      refine RJ_float (FS_loadK Try.tab 5 rfl rfl rfl rfl) rfl ?_
      refine RJ_float (FS_nilCheck rfl) rfl ?_
      refine RJ_float (FS_field Try.tab rfl rfl) rfl ?_
      refine RJ_loud (LS_store Try.tab (i := 3) rfl rfl rfl rfl rfl rfl rfl rfl) rfl fun _ => ?_
      refine RJ_mem [_, _, _, _, _, _, _] rfl ?_
      refine RJ_nil ?_
      refine JS_live [(9, _), (0, _), (1, _), (2, _), (7, _)] rfl ?_
      refine JS_seq ?_
      refine JS_drawn Try.mixed [(0, false), (4, false), (5, false), (9, false), (14, false), (15, false), (16, false), (22, false), (1, false), (6, false), (10, false), (17, false), (2, false), (7, false), (11, false), (18, false), (3, false), (8, false), (12, false), (19, false), (13, false), (20, false), (21, false), (23, false), (24, true), (25, false), (26, false), (27, false), (28, false), (29, false)] (by kernel_rfl) fun R4 => ?_
      refine HQ_p R4 rfl rfl (fun _ => (FS_move rfl)) rfl ?_
      refine HQ_p R4 rfl rfl (fun _ => (FS_move rfl)) rfl ?_
      refine HQ_p R4 rfl rfl (fun _ => (FS_move rfl)) rfl ?_
      refine HQ_p R4 rfl rfl (fun _ => (FS_move rfl)) rfl ?_
      refine HQ_p R4 rfl rfl (fun _ => (FS_move rfl)) rfl ?_
      refine HQ_p R4 rfl rfl (fun _ => (FS_move rfl)) rfl ?_
      refine HQ_p R4 rfl rfl (fun _ => (FS_move rfl)) rfl ?_
      refine HQ_p R4 rfl rfl (fun _ => (FS_move rfl)) rfl ?_
      refine HQ_p R4 rfl rfl (fun _ => (FS_nilCheck rfl)) rfl ?_
      refine HQ_p R4 rfl rfl (fun _ => (FS_nilCheck rfl)) rfl ?_
      refine HQ_p R4 rfl rfl (fun _ => (FS_nilCheck rfl)) rfl ?_
      refine HQ_p R4 rfl rfl (fun _ => (FS_nilCheck rfl)) rfl ?_
      refine HQ_p R4 rfl rfl (fun _ => (FS_field Try.tab rfl rfl)) rfl ?_
      refine HQ_p R4 rfl rfl (fun _ => (FS_field Try.tab rfl rfl)) rfl ?_
      refine HQ_p R4 rfl rfl (fun _ => (FS_field Try.tab rfl rfl)) rfl ?_
      refine HQ_p R4 rfl rfl (fun _ => (FS_field Try.tab rfl rfl)) rfl ?_
      refine HQ_l R4 rfl rfl (FS_loadK Try.tab 0 rfl rfl rfl rfl) rfl ?_
      refine HQ_l R4 rfl rfl (FS_loadK Try.tab 3 rfl rfl rfl rfl) rfl ?_
      refine HQ_p R4 rfl rfl (fun _ => (FS_field Try.tab rfl rfl)) rfl ?_
      refine HQ_p R4 rfl rfl (fun _ => (FS_field Try.tab rfl rfl)) rfl ?_
      refine HQ_l R4 rfl rfl (FS_loadK Try.tab 3 rfl rfl rfl rfl) rfl ?_
      refine HQ_l R4 rfl rfl (FS_loadK Try.tab 3 rfl rfl rfl rfl) rfl ?_
      refine HQ_p R4 rfl rfl (fun _ => (FS_add rfl rfl (by omega) (by omega))) rfl ?_
      refine HQ_p R4 rfl rfl (fun _ => (FS_build Try.tab rfl rfl rfl rfl)) rfl ?_
      refine HQ_new R4 rfl rfl (LS_pure' (Try.can rfl) (put_c _ _ js ⟨i, seq, t.prio, now, now + t.deadline, (releaseT t last picks now).2.2.1, 0⟩) rfl (fun w h => ⟨h.sl 2 rfl, hj⟩)) rfl fun s2 => ?_
      refine HQ_mem [_, _, _, _, _, _, _, _] rfl ?_
      refine HQ_p R4 rfl rfl (fun _ => (FS_move rfl)) rfl ?_
      refine HQ_p R4 rfl rfl (fun _ => (FS_extract rfl rfl)) rfl ?_
      refine HQ_p R4 rfl rfl (fun _ => (FS_extract rfl rfl)) rfl ?_
      refine HQ_p R4 rfl rfl (fun _ => (FS_assign rfl)) rfl ?_
      refine HQ_p R4 rfl rfl (fun _ => (FS_assign rfl)) rfl ?_
      refine HQ_end R4 rfl ?_
      clear R4
      refine JS_live [(9, _), (0, _), (1, _), (7, _), (11, _), (12, _)] rfl ?_
      refine JS_seq ?_
      refine JS_seq ?_
      refine JS_region ?_
      refine RJ_float (FS_move rfl) rfl ?_
      refine RJ_float (FS_int rfl rfl rfl) rfl ?_
      refine RJ_nil ?_
      refine JS_condN rfl (fun h69 => ?_) (fun h69 => ?_)
      · have hr : relL idx t last picks seq js i now = ((releaseT t last picks now).1, (releaseT t last picks now).2.1, seq, js, []) := by unfold relL; simp only [h35, Bool.true_eq_false, if_false]; rw [if_pos h69]
        refine JS_seq ?_
        refine JS_region ?_
        refine RJ_float (FS_assign rfl) rfl ?_
        refine RJ_nil ?_
        refine JS_weakK (fun _ h => h.addNil 40 4) ?_
        refine JS_mem [_, _, _, _, _, _, _, _, _] rfl ?_
        refine JS_live [(6, _)] rfl ?_
        exact JS_return (s1, sj, none) [0, 1, 2, 3, 6, 8] rfl (.tmp rfl .nil) (by rw [hr]; rfl) (by decide) (by rw [hr]; rfl)
      · have hr : relL idx t last picks seq js i now = ((releaseT t last picks now).1, (releaseT t last picks now).2.1, seq + 1, (putJ js ⟨i, seq, t.prio, now, now + t.deadline, (releaseT t last picks now).2.2.1, 0⟩).2, [⟨1, idx, i, (releaseT t last picks now).2.2.1⟩]) := by unfold relL; simp only [h35, Bool.true_eq_false, if_false]; rw [if_neg (by simpa using h69)]
        refine JS_skip ?_
        refine JS_seq ?_
        refine JS_region ?_
        refine RJ_float (FS_move rfl) rfl ?_
        refine RJ_float (FS_move rfl) rfl ?_
        refine RJ_float (FS_nilCheck rfl) rfl ?_
        refine RJ_float (FS_field Try.tab rfl rfl) rfl ?_
        refine RJ_loud (LS_store Try.tab (i := 0) rfl rfl rfl rfl rfl rfl rfl rfl) rfl fun _ => ?_
        refine RJ_mem [_, _, _, _, _, _, _, _] rfl ?_
        refine RJ_nil ?_
        refine JS_live [(9, _), (0, _), (1, _), (7, _)] rfl ?_
        refine JS_seq ?_
        refine JS_region ?_
        refine RJ_float (FS_move rfl) rfl ?_
        refine RJ_float (FS_nilCheck rfl) rfl ?_
        refine RJ_float (FS_field Try.tab rfl rfl) rfl ?_
        refine RJ_float (FS_loadK Try.tab 3 rfl rfl rfl rfl) rfl ?_
        refine RJ_float (FS_add rfl rfl (by omega) (by omega)) rfl ?_
        refine RJ_float (FS_nilCheck rfl) rfl ?_
        refine RJ_float (FS_field Try.tab rfl rfl) rfl ?_
        refine RJ_loud (LS_store Try.tab (i := 3) rfl rfl rfl rfl rfl rfl rfl rfl) rfl fun _ => ?_
        refine RJ_mem [_, _, _, _, _, _, _, _] rfl ?_
        refine RJ_nil ?_
        refine JS_live [(9, _), (0, _), (1, _)] rfl ?_
        refine JS_seq ?_
        refine JS_region ?_
        refine RJ_float (FS_move rfl) rfl ?_
        refine RJ_float (FS_move rfl) rfl ?_
        refine RJ_float (FS_move rfl) rfl ?_
        refine RJ_fun (LS_fun (Try.can rfl) (event_c _ _ idx 1 i (releaseT t last picks now).2.2.1) rfl (fun w h => rangeAt_pre (pre := [_]) (h.range 0 rfl))) rfl ?_
        refine RJ_loud (LS_buildSlice Try.tab rfl rfl rfl rfl rfl rfl) rfl fun b85 => ?_
        refine RJ_mem [_, _, _, _, _, _, _, _, _] rfl ?_
        refine RJ_float (FS_assign rfl) rfl ?_
        refine RJ_nil ?_
        refine JS_weakK (fun _ h => h.asSl 8 0 4 rfl (by decide)) ?_
        refine JS_mem [_, _, _, _, _, _, _, _, _] rfl ?_
        refine JS_live [(6, _)] rfl ?_
        exact JS_return (s1, s2, some ⟨b85, [], 0⟩) [0, 1, 7, 3, 6, 8] rfl (.tmp rfl .nil) (by rw [hr]; rfl) (by decide) (by rw [hr]; rfl)
theorem Sl.e_cons {α : Type} {f : α → List Value} {T z : Nat} (hf : ∀ x, (f x).length = z) (hz : 0 < z) {x : α} {l : List α} {s : Option Sl} {w : World} (h : (Sl.e T z (rows f (x :: l)) s).ok w) : ∃ b pre k, s = some ⟨b, pre, k⟩ := by
  cases s with
  | none => exact absurd (Sl.none_nil h) (rows_ne hf hz (i := 0) (by simp))
  | some s => exact ⟨s.b, s.pre, s.k, rfl⟩
theorem Sl.e_ne {T z : Nat} {cs : List Value} {s : Option Sl} {w : World} (h : (Sl.e T z cs s).ok w) (hne : cs ≠ []) : ∃ b pre k, s = some ⟨b, pre, k⟩ := by
  cases s with
  | none => exact absurd (Sl.none_nil h) hne
  | some s => exact ⟨s.b, s.pre, s.k, rfl⟩
theorem jobs_tl {b k : Nat} {pre : List Value} {j : Job} {l : List Job} : Value.slice (slA (Sl.addr (some ⟨b, pre, k⟩)) (Sl.cap (j :: l).length (some ⟨b, pre, k⟩)) 1 7) ((j :: l).length - 1) (Sl.cap (j :: l).length (some ⟨b, pre, k⟩) - 1) = .slice (Sl.addr (Sl.tl j.cs l.length (some ⟨b, pre, k⟩))) l.length (Sl.cap l.length (Sl.tl j.cs l.length (some ⟨b, pre, k⟩))) := Sl.tl_v (x := j.cs) (n := l.length) rfl
theorem Imp.at1 {x y : Ent} (h : Imp [x] [y]) (a : Ent) (L : List Ent) : Imp (a :: x :: L) (a :: y :: L) := (Imp.head L h).cons a
theorem Imp.at2 {x y : Ent} (h : Imp [x] [y]) (a a' : Ent) (L : List Ent) : Imp (a :: a' :: x :: L) (a :: a' :: y :: L) := (Imp.at1 h a' L).cons a
theorem fail_n (b : Nat) (idx lvl : Int) (ptrs : List Nat) (st : Option Sl) (j : Job) (rest : List Job) (sj : Option Sl) (hj : (j :: rest).length ≤ 4294967296) : Ctr Try.prog 11 [vp b 0] (fun _ => True) ([locE b idx lvl ptrs st (j :: rest) sj, jobsE (j :: rest) sj]) (fun s : Option Sl × Option Sl => .tuple #[.slice (Sl.addr s.2) 1 (Sl.cap 1 s.2), vi 0]) (fun s => [locE b idx lvl ptrs st rest s.1, jobsE rest s.1, evsE [⟨7, idx, j.task, j.used⟩] s.2]) := by
  refine Ctr.of Try.func11 rfl (Nat.le_of_ble_eq_true rfl) fun w hw => ?_
  refine JS_have (fun w h => Sl.e_cons Job.csl (by decide) (h.at 1 rfl)) fun ⟨b0, pre, k, hs⟩ => ?_
  subst hs
  have hne : rows Job.cs (j :: rest) ≠ [] := rows_ne Job.csl (by decide) (i := 0) (by simp)
  refine JS_live [(0, _)] rfl ?_
  refine JS_seq ?_
  refine JS_region ?_
  refine RJ_float (FS_assign rfl) rfl ?_
  refine RJ_float (FS_assign rfl) rfl ?_
  refine RJ_nil ?_
  refine JS_seq ?_
  refine JS_block ?_
  refine JS_seq ?_
  refine JS_region ?_
  refine RJ_float (FS_move rfl) rfl ?_
  refine RJ_float (FS_ptrNil Try.tab rfl rfl) rfl ?_
  refine RJ_float (FS_assign rfl) rfl ?_
  refine RJ_nil ?_
  refine JS_else rfl ?_
  refine JS_seq ?_
  refine JS_region ?_
  refine RJ_float (FS_move rfl) rfl ?_
  refine RJ_float (FS_nilCheck rfl) rfl ?_
  refine RJ_float (FS_field Try.tab rfl rfl) rfl ?_
  refine RJ_float (FS_loadK Try.tab 0 rfl rfl rfl rfl) rfl ?_
  refine RJ_float (FS_len Try.tab rfl rfl) rfl ?_
  refine RJ_float (FS_int rfl rfl rfl) rfl ?_
  refine RJ_float (FS_assign rfl) rfl ?_
  refine RJ_nil ?_
  refine JS_live [(0, _), (8, _)] rfl ?_
  refine JS_condE rfl (fun h8 => ?_) (fun h8 => ?_)
  · simp only [List.length_cons] at h8
    omega
  · refine JS_skip ?_
    refine JS_blk ?_
    refine JS_seq ?_
    refine JS_region ?_
    refine RJ_float (FS_move rfl) rfl ?_
    refine RJ_float (FS_nilCheck rfl) rfl ?_
    refine RJ_float (FS_field Try.tab rfl rfl) rfl ?_
    refine RJ_float (FS_loadK Try.tab 0 rfl rfl rfl rfl) rfl ?_
    refine RJ_float (FS_indexS Try.tab 1 rfl rfl rfl rfl hne (by omega) (by simp)) rfl ?_
    refine RJ_float (FS_loadS Try.tab 1 rfl rfl hne rfl (fld_at Job.csl (l := j :: rest) (i := 0) (by simp))) rfl ?_
    refine RJ_loud (LS_alloc Try.tab rfl) rfl fun b4 => ?_
    refine RJ_mem [_, _, _] rfl ?_
    refine RJ_loud (LS_store Try.tab (i := 2) rfl rfl rfl rfl rfl rfl rfl rfl) rfl fun _ => ?_
    refine RJ_mem [_, _, _] rfl ?_
    refine RJ_nil ?_
    refine JS_live [(0, _), (4, _)] rfl ?_
    refine JS_seq ?_
    refine JS_region ?_
    refine RJ_float (FS_move rfl) rfl ?_
    refine RJ_float (FS_move rfl) rfl ?_
    refine RJ_float (FS_nilCheck rfl) rfl ?_
    refine RJ_float (FS_field Try.tab rfl rfl) rfl ?_
    refine RJ_float (FS_loadK Try.tab 0 rfl rfl rfl rfl) rfl ?_
    refine RJ_float (FS_val (v' := .slice (Sl.addr (Sl.tl j.cs rest.length (some ⟨b0, pre, k⟩))) rest.length (Sl.cap rest.length (Sl.tl j.cs rest.length (some ⟨b0, pre, k⟩)))) (FS_slice Try.tab rfl rfl ⟨.i64, (rfl : _ = some (vi ((1 : Nat) : Int)))⟩ rfl (by simp) (by simp only [Sl.cap]; omega)) jobs_tl) rfl ?_
    refine RJ_float (FS_nilCheck rfl) rfl ?_
    refine RJ_float (FS_field Try.tab rfl rfl) rfl ?_
    refine RJ_loud (LS_store Try.tab (i := 0) rfl rfl rfl rfl rfl rfl rfl rfl) rfl fun _ => ?_
    refine RJ_mem [_, _, _] rfl ?_
    refine RJ_nil ?_
    refine JS_imp (Imp.at1 (Sl.tl_imp Job.csl) _ _) ?_
    refine JS_mem [_, _, _] rfl ?_
    refine JS_live [(0, _), (4, _)] rfl ?_
    refine JS_seq ?_
    refine JS_region ?_
    refine RJ_float (FS_move rfl) rfl ?_
    refine RJ_float (FS_field Try.tab rfl rfl) rfl ?_
    refine RJ_float (FS_loadK Try.tab 2 rfl rfl rfl rfl) rfl ?_
    refine RJ_float (FS_field Try.tab rfl rfl) rfl ?_
    refine RJ_float (FS_loadK Try.tab 2 rfl rfl rfl rfl) rfl ?_
    refine RJ_fun (LS_fun (Try.can rfl) (event_c _ _ idx 7 j.task j.used) rfl (fun w h => rangeAt_pre (pre := [_]) (h.range 0 rfl))) rfl ?_
    refine RJ_loud (LS_buildSlice Try.tab rfl rfl rfl rfl rfl rfl) rfl fun b35 => ?_
    refine RJ_mem [_, _, _, _] rfl ?_
    refine RJ_float (FS_assign rfl) rfl ?_
    refine RJ_float (FS_assign rfl) rfl ?_
    refine RJ_nil ?_
    refine JS_weakK (fun _ h => h.asSl 3 0 4 rfl (by decide)) ?_
    refine JS_mem [_, _, _, _] rfl ?_
    refine JS_live [(2, _), (3, _)] rfl ?_
    exact JS_return (Sl.tl j.cs rest.length (some ⟨b0, pre, k⟩), some ⟨b35, [], 0⟩) [0, 1, 3] rfl (.tmp rfl (.tmp rfl .nil)) (rfl) (by decide) (rfl)
theorem fail_0 (b : Nat) (idx lvl : Int) (ptrs : List Nat) (st sj : Option Sl) : Ctr Try.prog 11 [vp b 0] (fun _ => True) ([locE b idx lvl ptrs st [] sj]) (fun _ : Unit => .tuple #[.slice none 0 0, vi 1401]) (fun _ => [locE b idx lvl ptrs st [] sj]) := by
  refine Ctr.of Try.func11 rfl (Nat.le_of_ble_eq_true rfl) fun w hw => ?_
  refine JS_live [(0, _)] rfl ?_
  refine JS_seq ?_
  refine JS_region ?_
  refine RJ_float (FS_assign rfl) rfl ?_
  refine RJ_float (FS_assign rfl) rfl ?_
  refine RJ_nil ?_
  refine JS_seq ?_
  refine JS_block ?_
  refine JS_seq ?_
  refine JS_region ?_
  refine RJ_float (FS_move rfl) rfl ?_
  refine RJ_float (FS_ptrNil Try.tab rfl rfl) rfl ?_
  refine RJ_float (FS_assign rfl) rfl ?_
  refine RJ_nil ?_
  refine JS_else rfl ?_
  refine JS_seq ?_
  refine JS_region ?_
  refine RJ_float (FS_move rfl) rfl ?_
  refine RJ_float (FS_nilCheck rfl) rfl ?_
  refine RJ_float (FS_field Try.tab rfl rfl) rfl ?_
  refine RJ_float (FS_loadK Try.tab 0 rfl rfl rfl rfl) rfl ?_
  refine RJ_float (FS_len Try.tab rfl rfl) rfl ?_
  refine RJ_float (FS_int rfl rfl rfl) rfl ?_
  refine RJ_float (FS_assign rfl) rfl ?_
  refine RJ_nil ?_
  refine JS_live [(0, _), (8, _)] rfl ?_
  refine JS_if rfl ?_
  refine JS_seq ?_
  refine JS_region ?_
  refine RJ_float (FS_assign rfl) rfl ?_
  refine RJ_float (FS_assign rfl) rfl ?_
  refine RJ_nil ?_
  exact JS_return () [0] rfl (.tmp rfl (.tmp rfl .nil)) (rfl) (by decide) (rfl)
def flagsV (v : Verd) : List (Bool × Int) := [(v.over, 4), (v.done, 5), (v.kill, 6)]
abbrev flagCs (q : Bool × Int) : List Value := [.bool q.1, vi q.2]
def tellK (idx : Int) (j : Job) (v : Verd) (n : Nat) : List Ev := ((flagsV v).take n).flatMap fun q => if q.1 = true then [⟨q.2, idx, j.task, j.used⟩] else []
/-- What a tick of a job tells. -/
def tellR (idx : Int) (j : Job) (v : Verd) : List Ev := (if v.over = true then [⟨4, idx, j.task, j.used⟩] else []) ++ ((if v.done = true then [⟨5, idx, j.task, j.used⟩] else []) ++ (if v.kill = true then [⟨6, idx, j.task, j.used⟩] else []))
theorem tellK_all (idx : Int) (j : Job) (v : Verd) : tellK idx j v 3 = tellR idx j v := by simp [tellK, tellR, flagsV]
theorem tellK_succ (idx : Int) (j : Job) (v : Verd) {n : Nat} {q : Bool × Int} (h : (flagsV v)[n]? = some q) : tellK idx j v (n + 1) = tellK idx j v n ++ if q.1 = true then [⟨q.2, idx, j.task, j.used⟩] else [] := by
  unfold tellK
  rw [List.take_add_one, h]
  simp
theorem tellK_len (idx : Int) (j : Job) (v : Verd) : ∀ n, (tellK idx j v n).length ≤ n
  | 0 => by simp [tellK]
  | n + 1 => by
    have ih := tellK_len idx j v n
    cases h : (flagsV v)[n]? with
    | none =>
      have : tellK idx j v (n + 1) = tellK idx j v n := by unfold tellK; rw [List.take_add_one, h]; simp
      rw [this]; omega
    | some q =>
      rw [tellK_succ idx j v h]
      split <;> simp <;> omega
/-- Local.Run: the jobs behind it. -/
def runJ (j' : Job) (v : Verd) (rest : List Job) : List Job := if (v.done || v.kill) = true then rest else j' :: rest
theorem run_n (b r : Nat) (idx lvl : Int) (ptrs : List Nat) (st : Option Sl) (j : Job) (rest : List Job) (sj sp : Option Sl) (t : Task) (last : Int) (picks : List Int) (seq : Int) (hi : ptrs[j.task.toNat]? = some r) (h0 : 0 ≤ j.task) (hj : (j :: rest).length ≤ 4294967296) : Ctr Try.prog 10 [vp b 0] (fun _ => True) ([locE b idx lvl ptrs st (j :: rest) sj, ptrE ptrs st, jobsE (j :: rest) sj, runE r t last picks sp seq]) (fun s : Option Sl × Option Sl => .tuple #[agg (chargeJ j t lvl).2.1.cs, .slice (Sl.addr s.2) (tellR idx (chargeJ j t lvl).1 (chargeJ j t lvl).2.1).length (Sl.cap (tellR idx (chargeJ j t lvl).1 (chargeJ j t lvl).2.1).length s.2), vi 0]) (fun s => [locE b idx lvl ptrs st (runJ (chargeJ j t lvl).1 (chargeJ j t lvl).2.1 rest) s.1, ptrE ptrs st, jobsE (runJ (chargeJ j t lvl).1 (chargeJ j t lvl).2.1 rest) s.1, runE r t last picks sp seq, evsE (tellR idx (chargeJ j t lvl).1 (chargeJ j t lvl).2.1) s.2]) := by
  refine Ctr.of Try.func10 rfl (Nat.le_of_ble_eq_true rfl) fun w hw => ?_
  refine JS_have (fun w h => Sl.e_cons Job.csl (by decide) (h.at 2 rfl)) fun ⟨b0, pre, k, hs⟩ => ?_
  subst hs
  have hne : rows Job.cs (j :: rest) ≠ [] := rows_ne Job.csl (by decide) (i := 0) (by simp)
  have hil := (List.getElem?_eq_some_iff.1 hi).1
  refine JS_have (fun w h => Sl.e_ne (h.at 1 rfl) (rows_ne1 ptrCl (by decide) hi)) fun ⟨b1, pre1, k1, hs⟩ => ?_
  subst hs
  refine JS_live [(0, _)] rfl ?_
  refine JS_seq ?_
  refine JS_region ?_
  refine RJ_loud (LS_alloc Try.tab rfl) rfl fun b2 => ?_
  refine RJ_mem [_, _, _, _, _] rfl ?_
  refine RJ_float (FS_assign rfl) rfl ?_
  refine RJ_float (FS_assign rfl) rfl ?_
  refine RJ_nil ?_
  refine JS_seq ?_
  refine JS_block ?_
  refine JS_seq ?_
  refine JS_region ?_
  refine RJ_float (FS_move rfl) rfl ?_
  refine RJ_float (FS_ptrNil Try.tab rfl rfl) rfl ?_
  refine RJ_float (FS_assign rfl) rfl ?_
  refine RJ_nil ?_
  refine JS_else rfl ?_
  refine JS_seq ?_
  refine JS_region ?_
  refine RJ_float (FS_move rfl) rfl ?_
  refine RJ_float (FS_nilCheck rfl) rfl ?_
  refine RJ_float (FS_field Try.tab rfl rfl) rfl ?_
  refine RJ_float (FS_loadK Try.tab 0 rfl rfl rfl rfl) rfl ?_
  refine RJ_float (FS_len Try.tab rfl rfl) rfl ?_
  refine RJ_float (FS_int rfl rfl rfl) rfl ?_
  refine RJ_float (FS_assign rfl) rfl ?_
  refine RJ_nil ?_
  refine JS_live [(0, _), (2, _), (15, _)] rfl ?_
  refine JS_condE rfl (fun h15 => ?_) (fun h15 => ?_)
  · simp only [List.length_cons] at h15
    omega
  · refine JS_skip ?_
    refine JS_blk ?_
    refine JS_seq ?_
    refine JS_cutF (ι := Nat × Nat) [(0, _), (2, _)] rfl (fun (b5, b6) => [(5, vp b5 0), (6, vp b6 0)]) (fun (b5, b6) => [locE b idx lvl ptrs (some ⟨b1, pre1, k1⟩) (j :: rest) (some ⟨b0, pre, k⟩), ptrE ptrs (some ⟨b1, pre1, k1⟩), jobsE (j :: rest) (some ⟨b0, pre, k⟩), runE r t last picks sp seq, Ent.c b2 42 (Verd.cs ⟨false, false, false⟩), Ent.c b5 51 (chargeJ j t lvl).1.cs, Ent.c b6 42 (chargeJ j t lvl).2.1.cs]) ?_ (fun (b5, b6) => ?_)
    · refine JS_drawn Try.mixed [(0, false), (6, false), (10, false), (22, false), (1, false), (7, false), (11, false), (23, false), (2, false), (8, false), (12, false), (24, false), (3, false), (9, false), (13, false), (25, false), (4, false), (14, false), (5, false), (15, false), (16, false), (17, false), (18, false), (19, false), (20, false), (21, false), (26, false), (27, false), (28, false), (29, false), (30, false), (31, false), (32, true), (33, true), (34, true), (35, false)] (by kernel_rfl) fun R1 => ?_
      refine HQ_p R1 rfl rfl (fun _ => (FS_move rfl)) rfl ?_
      refine HQ_p R1 rfl rfl (fun _ => (FS_move rfl)) rfl ?_
      refine HQ_p R1 rfl rfl (fun _ => (FS_move rfl)) rfl ?_
      refine HQ_p R1 rfl rfl (fun _ => (FS_move rfl)) rfl ?_
      refine HQ_p R1 rfl rfl (fun _ => (FS_nilCheck rfl)) rfl ?_
      refine HQ_p R1 rfl rfl (fun _ => (FS_nilCheck rfl)) rfl ?_
      refine HQ_p R1 rfl rfl (fun _ => (FS_nilCheck rfl)) rfl ?_
      refine HQ_p R1 rfl rfl (fun _ => (FS_nilCheck rfl)) rfl ?_
      refine HQ_p R1 rfl rfl (fun _ => (FS_field Try.tab rfl rfl)) rfl ?_
      refine HQ_p R1 rfl rfl (fun _ => (FS_field Try.tab rfl rfl)) rfl ?_
      refine HQ_p R1 rfl rfl (fun _ => (FS_field Try.tab rfl rfl)) rfl ?_
      refine HQ_p R1 rfl rfl (fun _ => (FS_field Try.tab rfl rfl)) rfl ?_
      refine HQ_l R1 rfl rfl (FS_loadK Try.tab 0 rfl rfl rfl rfl) rfl ?_
      refine HQ_l R1 rfl rfl (FS_loadK Try.tab 0 rfl rfl rfl rfl) rfl ?_
      refine HQ_l R1 rfl rfl (FS_loadK Try.tab 0 rfl rfl rfl rfl) rfl ?_
      refine HQ_l R1 rfl rfl (FS_loadK Try.tab 0 rfl rfl rfl rfl) rfl ?_
      refine HQ_p R1 rfl rfl (fun _ => (FS_index Try.tab rfl rfl rfl (by simp; try omega) (by simp; try omega))) rfl ?_
      refine HQ_p R1 rfl rfl (fun _ => (FS_index Try.tab rfl rfl rfl (by simp; try omega) (by simp; try omega))) rfl ?_
      refine HQ_l R1 rfl rfl (FS_loadS Try.tab 2 rfl rfl hne rfl (fld_at Job.csl (l := j :: rest) (i := 0) (by simp))) rfl ?_
      refine HQ_p R1 rfl rfl (fun _ => (FS_field Try.tab rfl rfl)) rfl ?_
      refine HQ_l R1 rfl rfl (FS_loadS Try.tab 2 rfl rfl hne rfl (ld_fld Job.csl (l := j :: rest) (i := 0) (o := 0) rfl (by decide) rfl)) rfl ?_
      refine HQ_p R1 rfl rfl (fun _ => (FS_index Try.tab rfl rfl rfl (by omega) (by omega))) rfl ?_
      refine HQ_l R1 rfl rfl (FS_loadS Try.tab 1 rfl rfl (rows_ne1 ptrCl (by decide) hi) rfl (ptr_at hi)) rfl ?_
      refine HQ_p R1 rfl rfl (fun _ => (FS_nilCheck rfl)) rfl ?_
      refine HQ_p R1 rfl rfl (fun _ => (FS_field Try.tab rfl rfl)) rfl ?_
      refine HQ_l R1 rfl rfl (FS_loadK Try.tab 3 rfl rfl rfl rfl) rfl ?_
      refine HQ_fork3 R1 (a := 26) (b := 31) (c := 32) (by kernel_rfl) ?_ ?_ ?_
      · refine LK (sched' := [(0, false), (6, false), (10, false), (22, false), (1, false), (7, false), (11, false), (23, false), (2, false), (8, false), (12, false), (24, false), (3, false), (9, false), (13, false), (25, false), (4, false), (14, false), (5, false), (15, false), (16, false), (17, false), (18, false), (19, false), (20, false), (21, false), (26, false), (27, false), (28, false), (29, false), (30, false), (31, false), (32, true), (33, true), (34, true), (35, false)]) (by kernel_rfl) rfl [] rfl rfl (LS_fun (Try.can rfl) (charge_c j t lvl) rfl (fun _ _ => trivial)) rfl (by kernel_rfl) (fun _ => trivial) fun _ => ?_
        refine HQ_h (by kernel_rfl) fun R2 => ?_
        refine HQ_p R2 rfl rfl (fun _ => (FS_move rfl)) rfl ?_
        refine HQ_p R2 rfl rfl (fun _ => (FS_extract rfl rfl)) rfl ?_
        refine HQ_p R2 rfl rfl (fun _ => (FS_extract rfl rfl)) rfl ?_
        refine HQ_p R2 rfl rfl (fun _ => (FS_extract rfl rfl)) rfl ?_
        refine HQ_two R2 (i := 31) (j := 32) (by kernel_rfl) rfl rfl rfl rfl (fun F => (LS_alloc Try.tab rfl)) (fun F => (LS_alloc Try.tab rfl)) rfl rfl fun b5 b6 => ?_
        refine HQ_mem [_, _, _, _, _, _, _] rfl ?_
        refine HQ_loud0 R2 rfl rfl (LS_store Try.tab (i := 5) rfl rfl rfl rfl rfl rfl rfl rfl) rfl (by kernel_rfl) fun _ => ?_
        refine HQ_mem [_, _, _, _, _, _, _] rfl ?_
        refine HQ_loud0 R2 rfl rfl (LS_store Try.tab (i := 6) rfl rfl rfl rfl rfl rfl rfl rfl) rfl (by kernel_rfl) fun _ => ?_
        refine HQ_mem [_, _, _, _, _, _, _] rfl ?_
        refine HQ_p R2 rfl rfl (fun _ => (FS_assign rfl)) rfl ?_
        refine HQ_end R2 rfl ?_
        clear R2
        refine JS_live [(0, _), (2, _), (5, _), (6, _)] rfl ?_
        exact JS_there (b5, b6) rfl (fun w h => h.pick (is := [0, 1, 2, 3, 4, 5, 6]) (by decide))
      · refine LK (sched' := [(0, false), (6, false), (10, false), (22, false), (1, false), (7, false), (11, false), (23, false), (2, false), (8, false), (12, false), (24, false), (3, false), (9, false), (13, false), (25, false), (4, false), (14, false), (5, false), (15, false), (16, false), (17, false), (18, false), (19, false), (20, false), (21, false), (31, false), (26, false), (27, false), (28, false), (29, false), (30, false), (32, true), (33, true), (34, true), (35, false)]) (by kernel_rfl) rfl [21, 18, 16, 5, 25, 13, 9, 3] rfl rfl (LS_alloc Try.tab rfl) rfl (by kernel_rfl) (fun _ => ⟨(cert_of rfl (FS_loadK Try.tab 3 rfl rfl rfl rfl) rfl rfl), (cert_of rfl (FS_loadS Try.tab 1 rfl rfl (rows_ne1 ptrCl (by decide) hi) rfl (ptr_at hi)) rfl rfl), (cert_of rfl (FS_loadS Try.tab 2 rfl rfl hne rfl (ld_fld Job.csl (l := j :: rest) (i := 0) (o := 0) rfl (by decide) rfl)) rfl rfl), (cert_of rfl (FS_loadS Try.tab 2 rfl rfl hne rfl (fld_at Job.csl (l := j :: rest) (i := 0) (by simp))) rfl rfl), (cert_of rfl (FS_loadK Try.tab 0 rfl rfl rfl rfl) rfl rfl), (cert_of rfl (FS_loadK Try.tab 0 rfl rfl rfl rfl) rfl rfl), (cert_of rfl (FS_loadK Try.tab 0 rfl rfl rfl rfl) rfl rfl), (cert_of rfl (FS_loadK Try.tab 0 rfl rfl rfl rfl) rfl rfl), trivial⟩) fun b5 => ?_
        refine HQ_mem [_, _, _, _, _, _] rfl ?_
        refine HQ_h (by kernel_rfl) fun R3 => ?_
        refine HQ_fork2 R3 (a := 26) (b := 32) (by kernel_rfl) ?_ ?_
        · refine LK (sched' := [(0, false), (6, false), (10, false), (22, false), (1, false), (7, false), (11, false), (23, false), (2, false), (8, false), (12, false), (24, false), (3, false), (9, false), (13, false), (25, false), (4, false), (14, false), (5, false), (15, false), (16, false), (17, false), (18, false), (19, false), (20, false), (21, false), (31, false), (26, false), (27, false), (28, false), (29, false), (30, false), (32, true), (33, true), (34, true), (35, false)]) (by kernel_rfl) rfl [] rfl rfl (LS_fun (Try.can rfl) (charge_c j t lvl) rfl (fun _ _ => trivial)) rfl (by kernel_rfl) (fun _ => trivial) fun _ => ?_
          refine HQ_h (by kernel_rfl) fun R4 => ?_
          refine HQ_p R4 rfl rfl (fun _ => (FS_move rfl)) rfl ?_
          refine HQ_p R4 rfl rfl (fun _ => (FS_extract rfl rfl)) rfl ?_
          refine HQ_p R4 rfl rfl (fun _ => (FS_extract rfl rfl)) rfl ?_
          refine HQ_p R4 rfl rfl (fun _ => (FS_extract rfl rfl)) rfl ?_
          refine HQ_new R4 rfl rfl (LS_alloc Try.tab rfl) rfl fun b6 => ?_
          refine HQ_mem [_, _, _, _, _, _, _] rfl ?_
          refine HQ_loud0 R4 rfl rfl (LS_store Try.tab (i := 5) rfl rfl rfl rfl rfl rfl rfl rfl) rfl (by kernel_rfl) fun _ => ?_
          refine HQ_mem [_, _, _, _, _, _, _] rfl ?_
          refine HQ_loud0 R4 rfl rfl (LS_store Try.tab (i := 6) rfl rfl rfl rfl rfl rfl rfl rfl) rfl (by kernel_rfl) fun _ => ?_
          refine HQ_mem [_, _, _, _, _, _, _] rfl ?_
          refine HQ_p R4 rfl rfl (fun _ => (FS_assign rfl)) rfl ?_
          refine HQ_end R4 rfl ?_
          clear R4
          refine JS_live [(0, _), (2, _), (5, _), (6, _)] rfl ?_
          exact JS_there (b5, b6) rfl (fun w h => h.pick (is := [0, 1, 2, 3, 4, 5, 6]) (by decide))
        · refine LK (sched' := [(0, false), (6, false), (10, false), (22, false), (1, false), (7, false), (11, false), (23, false), (2, false), (8, false), (12, false), (24, false), (3, false), (9, false), (13, false), (25, false), (4, false), (14, false), (5, false), (15, false), (16, false), (17, false), (18, false), (19, false), (20, false), (21, false), (31, false), (32, false), (26, true), (27, false), (28, false), (29, false), (30, false), (33, true), (34, true), (35, false)]) (by kernel_rfl) rfl [21, 18, 16, 5, 25, 13, 9, 3] rfl rfl (LS_alloc Try.tab rfl) rfl (by kernel_rfl) (fun _ => ⟨(cert_of rfl (FS_loadK Try.tab 3 rfl rfl rfl rfl) rfl rfl), (cert_of rfl (FS_loadS Try.tab 1 rfl rfl (rows_ne1 ptrCl (by decide) hi) rfl (ptr_at hi)) rfl rfl), (cert_of rfl (FS_loadS Try.tab 2 rfl rfl hne rfl (ld_fld Job.csl (l := j :: rest) (i := 0) (o := 0) rfl (by decide) rfl)) rfl rfl), (cert_of rfl (FS_loadS Try.tab 2 rfl rfl hne rfl (fld_at Job.csl (l := j :: rest) (i := 0) (by simp))) rfl rfl), (cert_of rfl (FS_loadK Try.tab 0 rfl rfl rfl rfl) rfl rfl), (cert_of rfl (FS_loadK Try.tab 0 rfl rfl rfl rfl) rfl rfl), (cert_of rfl (FS_loadK Try.tab 0 rfl rfl rfl rfl) rfl rfl), (cert_of rfl (FS_loadK Try.tab 0 rfl rfl rfl rfl) rfl rfl), trivial⟩) fun b6 => ?_
          refine HQ_mem [_, _, _, _, _, _, _] rfl ?_
          refine HQ_h (by kernel_rfl) fun R5 => ?_
          refine HQ_fun R5 rfl rfl (LS_fun (Try.can rfl) (charge_c j t lvl) rfl (fun _ _ => trivial)) rfl ?_
          refine HQ_p R5 rfl rfl (fun _ => (FS_move rfl)) rfl ?_
          refine HQ_p R5 rfl rfl (fun _ => (FS_extract rfl rfl)) rfl ?_
          refine HQ_p R5 rfl rfl (fun _ => (FS_extract rfl rfl)) rfl ?_
          refine HQ_p R5 rfl rfl (fun _ => (FS_extract rfl rfl)) rfl ?_
          refine HQ_loud0 R5 rfl rfl (LS_store Try.tab (i := 5) rfl rfl rfl rfl rfl rfl rfl rfl) rfl (by kernel_rfl) fun _ => ?_
          refine HQ_mem [_, _, _, _, _, _, _] rfl ?_
          refine HQ_loud0 R5 rfl rfl (LS_store Try.tab (i := 6) rfl rfl rfl rfl rfl rfl rfl rfl) rfl (by kernel_rfl) fun _ => ?_
          refine HQ_mem [_, _, _, _, _, _, _] rfl ?_
          refine HQ_p R5 rfl rfl (fun _ => (FS_assign rfl)) rfl ?_
          refine HQ_end R5 rfl ?_
          clear R5
          refine JS_live [(0, _), (2, _), (5, _), (6, _)] rfl ?_
          exact JS_there (b5, b6) rfl (fun w h => h.pick (is := [0, 1, 2, 3, 4, 5, 6]) (by decide))
      · refine LK (sched' := [(0, false), (6, false), (10, false), (22, false), (1, false), (7, false), (11, false), (23, false), (2, false), (8, false), (12, false), (24, false), (3, false), (9, false), (13, false), (25, false), (4, false), (14, false), (5, false), (15, false), (16, false), (17, false), (18, false), (19, false), (20, false), (21, false), (32, false), (26, false), (27, false), (28, false), (29, false), (30, false), (31, true), (33, true), (34, true), (35, false)]) (by kernel_rfl) rfl [21, 18, 16, 5, 25, 13, 9, 3] rfl rfl (LS_alloc Try.tab rfl) rfl (by kernel_rfl) (fun _ => ⟨(cert_of rfl (FS_loadK Try.tab 3 rfl rfl rfl rfl) rfl rfl), (cert_of rfl (FS_loadS Try.tab 1 rfl rfl (rows_ne1 ptrCl (by decide) hi) rfl (ptr_at hi)) rfl rfl), (cert_of rfl (FS_loadS Try.tab 2 rfl rfl hne rfl (ld_fld Job.csl (l := j :: rest) (i := 0) (o := 0) rfl (by decide) rfl)) rfl rfl), (cert_of rfl (FS_loadS Try.tab 2 rfl rfl hne rfl (fld_at Job.csl (l := j :: rest) (i := 0) (by simp))) rfl rfl), (cert_of rfl (FS_loadK Try.tab 0 rfl rfl rfl rfl) rfl rfl), (cert_of rfl (FS_loadK Try.tab 0 rfl rfl rfl rfl) rfl rfl), (cert_of rfl (FS_loadK Try.tab 0 rfl rfl rfl rfl) rfl rfl), (cert_of rfl (FS_loadK Try.tab 0 rfl rfl rfl rfl) rfl rfl), trivial⟩) fun b6 => ?_
        refine HQ_mem [_, _, _, _, _, _] rfl ?_
        refine HQ_h (by kernel_rfl) fun R6 => ?_
        refine HQ_fork2 R6 (a := 26) (b := 31) (by kernel_rfl) ?_ ?_
        · refine LK (sched' := [(0, false), (6, false), (10, false), (22, false), (1, false), (7, false), (11, false), (23, false), (2, false), (8, false), (12, false), (24, false), (3, false), (9, false), (13, false), (25, false), (4, false), (14, false), (5, false), (15, false), (16, false), (17, false), (18, false), (19, false), (20, false), (21, false), (32, false), (26, false), (27, false), (28, false), (29, false), (30, false), (31, true), (33, true), (34, true), (35, false)]) (by kernel_rfl) rfl [] rfl rfl (LS_fun (Try.can rfl) (charge_c j t lvl) rfl (fun _ _ => trivial)) rfl (by kernel_rfl) (fun _ => trivial) fun _ => ?_
          refine HQ_h (by kernel_rfl) fun R7 => ?_
          refine HQ_p R7 rfl rfl (fun _ => (FS_move rfl)) rfl ?_
          refine HQ_p R7 rfl rfl (fun _ => (FS_extract rfl rfl)) rfl ?_
          refine HQ_p R7 rfl rfl (fun _ => (FS_extract rfl rfl)) rfl ?_
          refine HQ_p R7 rfl rfl (fun _ => (FS_extract rfl rfl)) rfl ?_
          refine HQ_new R7 rfl rfl (LS_alloc Try.tab rfl) rfl fun b5 => ?_
          refine HQ_mem [_, _, _, _, _, _, _] rfl ?_
          refine HQ_loud0 R7 rfl rfl (LS_store Try.tab (i := 6) rfl rfl rfl rfl rfl rfl rfl rfl) rfl (by kernel_rfl) fun _ => ?_
          refine HQ_mem [_, _, _, _, _, _, _] rfl ?_
          refine HQ_loud0 R7 rfl rfl (LS_store Try.tab (i := 5) rfl rfl rfl rfl rfl rfl rfl rfl) rfl (by kernel_rfl) fun _ => ?_
          refine HQ_mem [_, _, _, _, _, _, _] rfl ?_
          refine HQ_p R7 rfl rfl (fun _ => (FS_assign rfl)) rfl ?_
          refine HQ_end R7 rfl ?_
          clear R7
          refine JS_live [(0, _), (2, _), (6, _), (5, _)] rfl ?_
          exact JS_there (b5, b6) rfl (fun w h => h.pick (is := [0, 1, 2, 3, 4, 6, 5]) (by decide))
        · refine LK (sched' := [(0, false), (6, false), (10, false), (22, false), (1, false), (7, false), (11, false), (23, false), (2, false), (8, false), (12, false), (24, false), (3, false), (9, false), (13, false), (25, false), (4, false), (14, false), (5, false), (15, false), (16, false), (17, false), (18, false), (19, false), (20, false), (21, false), (32, false), (31, false), (26, true), (27, false), (28, false), (29, false), (30, false), (33, true), (34, true), (35, false)]) (by kernel_rfl) rfl [21, 18, 16, 5, 25, 13, 9, 3] rfl rfl (LS_alloc Try.tab rfl) rfl (by kernel_rfl) (fun _ => ⟨(cert_of rfl (FS_loadK Try.tab 3 rfl rfl rfl rfl) rfl rfl), (cert_of rfl (FS_loadS Try.tab 1 rfl rfl (rows_ne1 ptrCl (by decide) hi) rfl (ptr_at hi)) rfl rfl), (cert_of rfl (FS_loadS Try.tab 2 rfl rfl hne rfl (ld_fld Job.csl (l := j :: rest) (i := 0) (o := 0) rfl (by decide) rfl)) rfl rfl), (cert_of rfl (FS_loadS Try.tab 2 rfl rfl hne rfl (fld_at Job.csl (l := j :: rest) (i := 0) (by simp))) rfl rfl), (cert_of rfl (FS_loadK Try.tab 0 rfl rfl rfl rfl) rfl rfl), (cert_of rfl (FS_loadK Try.tab 0 rfl rfl rfl rfl) rfl rfl), (cert_of rfl (FS_loadK Try.tab 0 rfl rfl rfl rfl) rfl rfl), (cert_of rfl (FS_loadK Try.tab 0 rfl rfl rfl rfl) rfl rfl), trivial⟩) fun b5 => ?_
          refine HQ_mem [_, _, _, _, _, _, _] rfl ?_
          refine HQ_h (by kernel_rfl) fun R8 => ?_
          refine HQ_fun R8 rfl rfl (LS_fun (Try.can rfl) (charge_c j t lvl) rfl (fun _ _ => trivial)) rfl ?_
          refine HQ_p R8 rfl rfl (fun _ => (FS_move rfl)) rfl ?_
          refine HQ_p R8 rfl rfl (fun _ => (FS_extract rfl rfl)) rfl ?_
          refine HQ_p R8 rfl rfl (fun _ => (FS_extract rfl rfl)) rfl ?_
          refine HQ_p R8 rfl rfl (fun _ => (FS_extract rfl rfl)) rfl ?_
          refine HQ_loud0 R8 rfl rfl (LS_store Try.tab (i := 6) rfl rfl rfl rfl rfl rfl rfl rfl) rfl (by kernel_rfl) fun _ => ?_
          refine HQ_mem [_, _, _, _, _, _, _] rfl ?_
          refine HQ_loud0 R8 rfl rfl (LS_store Try.tab (i := 5) rfl rfl rfl rfl rfl rfl rfl rfl) rfl (by kernel_rfl) fun _ => ?_
          refine HQ_mem [_, _, _, _, _, _, _] rfl ?_
          refine HQ_p R8 rfl rfl (fun _ => (FS_assign rfl)) rfl ?_
          refine HQ_end R8 rfl ?_
          clear R8
          refine JS_live [(0, _), (2, _), (6, _), (5, _)] rfl ?_
          exact JS_there (b5, b6) rfl (fun w h => h.pick (is := [0, 1, 2, 3, 4, 6, 5]) (by decide))
    · refine JS_live [(5, _), (6, _), (0, _), (2, _)] rfl ?_
      refine JS_seq ?_
      refine JS_drawn Try.mixed [(0, false), (4, false), (1, false), (2, false), (3, false), (5, false), (6, true)] (by kernel_rfl) fun R9 => ?_
      refine HQ_p R9 rfl rfl (fun _ => (FS_move rfl)) rfl ?_
      refine HQ_l R9 rfl rfl (FS_loadK Try.tab 5 rfl rfl rfl rfl) rfl ?_
      refine HQ_p R9 rfl rfl (fun _ => (FS_nilCheck rfl)) rfl ?_
      refine HQ_p R9 rfl rfl (fun _ => (FS_field Try.tab rfl rfl)) rfl ?_
      refine HQ_l R9 rfl rfl (FS_loadK Try.tab 0 rfl rfl rfl rfl) rfl ?_
      refine HQ_p R9 rfl rfl (fun _ => (FS_index Try.tab rfl rfl rfl (by simp; try omega) (by simp; try omega))) rfl ?_
      refine HQ_loud0 R9 rfl rfl (LS_storeS Try.tab 2 (o := 0 * 7) (vs := (chargeJ j t lvl).1.cs) rfl rfl rfl rfl rfl rfl hne (by rw [rows_length Job.csl, List.length_cons]; show 0 * 7 + 7 ≤ _; omega) (stv_rec Job.csl (l := j :: rest) (i := 0) (chargeJ j t lvl).1 (by simp))) rfl (by kernel_rfl) fun _ => ?_
      refine HQ_mem [_, _, _, _, _, _, _] rfl ?_
      refine HQ_end R9 rfl ?_
      clear R9
      refine JS_seq ?_
      refine JS_region ?_
      refine RJ_float (FS_assign rfl) rfl ?_
      refine RJ_nil ?_
      refine JS_seq ?_
      refine JS_seq ?_
      refine JS_region ?_
      refine RJ_float (FS_field Try.tab rfl rfl) rfl ?_
      refine RJ_float (FS_loadK Try.tab 6 rfl rfl rfl rfl) rfl ?_
      refine RJ_float (FS_build Try.tab rfl rfl rfl rfl) rfl ?_
      refine RJ_float (FS_field Try.tab rfl rfl) rfl ?_
      refine RJ_float (FS_loadK Try.tab 6 rfl rfl rfl rfl) rfl ?_
      refine RJ_float (FS_build Try.tab rfl rfl rfl rfl) rfl ?_
      refine RJ_float (FS_field Try.tab rfl rfl) rfl ?_
      refine RJ_float (FS_loadK Try.tab 6 rfl rfl rfl rfl) rfl ?_
      refine RJ_float (FS_build Try.tab rfl rfl rfl rfl) rfl ?_
      refine RJ_float (FS_buildA Try.tab rfl rfl rfl rfl) rfl ?_
      refine RJ_float (FS_move rfl) rfl ?_
      refine RJ_nil ?_
      refine JS_live [(5, _), (6, _), (0, _), (2, _), (8, _), (69, _), (70, _)] rfl ?_
      refine JS_block ?_
      refine JS_weakK (fun _ h => h.addNil 40 4) ?_
      refine JS_loopF (ι := {q : Nat × List Ev × Option Sl // q.1 ≤ 3 ∧ q.2.1 = tellK idx (chargeJ j t lvl).1 (chargeJ j t lvl).2.1 q.1}) [(5, _), (6, _), (0, _), (2, _), (69, _)] (fun ⟨(i, es, s), hi3, hes⟩ => [(70, vi (i : Int)), (8, .slice (Sl.addr s) es.length (Sl.cap es.length s))]) (fun ⟨(i, es, s), hi3, hes⟩ => [locE b idx lvl ptrs (some ⟨b1, pre1, k1⟩) ((chargeJ j t lvl).1 :: rest) (some ⟨b0, pre, k⟩), ptrE ptrs (some ⟨b1, pre1, k1⟩), jobsE ((chargeJ j t lvl).1 :: rest) (some ⟨b0, pre, k⟩), runE r t last picks sp seq, Ent.c b2 42 (Verd.cs ⟨false, false, false⟩), Ent.c b5 51 (chargeJ j t lvl).1.cs, Ent.c b6 42 (chargeJ j t lvl).2.1.cs, evsE es s]) (fun ⟨(i, es, s), hi3, hes⟩ => 3 - i) ⟨(0, [], none), by simp, by simp [tellK]⟩ rfl (fun _ h => h) (fun ⟨(i, es, s), hi3, hes⟩ => ?_)
      refine JS_live [(70, _), (8, _), (5, _), (6, _), (0, _), (2, _), (69, _)] rfl ?_
      simp only at hi3 hes
      have hel := tellK_len idx (chargeJ j t lvl).1 (chargeJ j t lvl).2.1 i
      rw [← hes] at hel
      refine JS_seq ?_
      refine JS_region ?_
      refine RJ_float (FS_int rfl rfl rfl) rfl ?_
      refine RJ_nil ?_
      refine JS_seq ?_
      refine JS_condD rfl (fun h71 => ?_) (fun h71 => ?_)
      · have h71 : i < 3 := by omega
        obtain ⟨q, hq⟩ : ∃ q, (flagsV (chargeJ j t lvl).2.1)[i]? = some q := ⟨_, List.getElem?_eq_getElem (by simp [flagsV]; omega)⟩
        refine JS_skip ?_
        refine JS_seq ?_
        refine JS_block ?_
        refine JS_seq ?_
        refine JS_region ?_
        refine RJ_float (FS_indexV Try.tab rfl rfl rfl rfl (by omega) (by omega) (ld_rec (f := flagCs) (z := 2) (fun _ => rfl) (l := flagsV (chargeJ j t lvl).2.1) hq)) rfl ?_
        refine RJ_loud (LS_alloc Try.tab rfl) rfl fun b10 => ?_
        refine RJ_mem [_, _, _, _, _, _, _, _, _] rfl ?_
        refine RJ_loud (LS_store Try.tab (i := 8) rfl rfl rfl rfl rfl rfl rfl rfl) rfl fun _ => ?_
        refine RJ_mem [_, _, _, _, _, _, _, _, _] rfl ?_
        refine RJ_nil ?_
        refine JS_seq ?_
        refine JS_region ?_
        refine RJ_float (FS_field Try.tab rfl rfl) rfl ?_
        refine RJ_float (FS_loadK Try.tab 8 rfl rfl rfl rfl) rfl ?_
        refine RJ_nil ?_
        refine JS_cond rfl (fun h74 => ?_) (fun h74 => ?_)
        · try simp only [Bool.and_eq_true, Bool.or_eq_true, Bool.and_eq_false_iff, Bool.or_eq_false_iff, Bool.not_eq_true', Bool.not_eq_false', decide_eq_true_eq, decide_eq_false_iff_not, beq_iff_eq, bne_iff_ne, beq_eq_false_iff_ne, bne_eq_false_iff_eq] at h74
          refine JS_region ?_
          refine RJ_float (FS_move rfl) rfl ?_
          refine RJ_float (FS_move rfl) rfl ?_
          refine RJ_float (FS_field Try.tab rfl rfl) rfl ?_
          refine RJ_float (FS_loadK Try.tab 8 rfl rfl rfl rfl) rfl ?_
          refine RJ_float (FS_field Try.tab rfl rfl) rfl ?_
          refine RJ_float (FS_loadK Try.tab 5 rfl rfl rfl rfl) rfl ?_
          refine RJ_float (FS_field Try.tab rfl rfl) rfl ?_
          refine RJ_float (FS_loadK Try.tab 5 rfl rfl rfl rfl) rfl ?_
          refine RJ_fun (LS_fun (Try.can rfl) (event_c _ _ idx q.2 (chargeJ j t lvl).1.task (chargeJ j t lvl).1.used) rfl (fun w h => rangeAt_pre (pre := [_]) (h.range 0 rfl))) rfl ?_
          refine RJ_loud (LS_buildSlice Try.tab rfl rfl rfl rfl rfl rfl) rfl fun b84 => ?_
          refine RJ_mem [_, _, _, _, _, _, _, _, _, _] rfl ?_
          refine RJ_loud (LS_app1 Ev.cs Try.tab 7 9 (r := ⟨q.2, idx, (chargeJ j t lvl).1.task, (chargeJ j t lvl).1.used⟩) Ev.csl Ev.one (fun _ _ => trivial) rfl rfl rfl rfl rfl rfl rfl rfl rfl rfl (by omega)) rfl fun s' => ?_
          refine RJ_mem [_, _, _, _, _, _, _, _, _, _] rfl ?_
          refine RJ_float (FS_assign rfl) rfl ?_
          refine RJ_nil ?_
          refine JS_live [(70, _), (5, _), (6, _), (0, _), (2, _), (69, _), (8, _)] rfl ?_
          refine JS_blk ?_
          refine JS_region ?_
          refine RJ_float (FS_add rfl rfl (by omega) (by omega)) rfl ?_
          refine RJ_float (FS_move rfl) rfl ?_
          refine RJ_nil ?_
          exact JS_againF ⟨(i + 1, es ++ [_], s'), by simp; omega, by simp only [tellK_succ _ _ _ hq, h74, if_true, ← hes]⟩ (by simp; omega) rfl (fun _ h => h.pick (is := [0, 1, 2, 3, 4, 5, 6, 7]) (by decide))
        · try simp only [Bool.and_eq_true, Bool.or_eq_true, Bool.and_eq_false_iff, Bool.or_eq_false_iff, Bool.not_eq_true', Bool.not_eq_false', decide_eq_true_eq, decide_eq_false_iff_not, beq_iff_eq, bne_iff_ne, beq_eq_false_iff_ne, bne_eq_false_iff_eq] at h74
          refine JS_skip ?_
          refine JS_blk ?_
          refine JS_region ?_
          refine RJ_float (FS_add rfl rfl (by omega) (by omega)) rfl ?_
          refine RJ_float (FS_move rfl) rfl ?_
          refine RJ_nil ?_
          exact JS_againF ⟨(i + 1, es, s), by simp; omega, by simp only [tellK_succ _ _ _ hq, h74, Bool.false_eq_true, if_false, List.append_nil, ← hes]⟩ (by simp; omega) rfl (fun _ h => h.pick (is := [0, 1, 2, 3, 4, 5, 6, 7]) (by decide))
      · obtain rfl : i = 3 := by omega
        obtain rfl := hes.trans (tellK_all _ _ _)
        refine JS_exit rfl ?_
        refine JS_seq ?_
        refine JS_seq ?_
        refine JS_region ?_
        refine RJ_float (FS_field Try.tab rfl rfl) rfl ?_
        refine RJ_float (FS_loadK Try.tab 6 rfl rfl rfl rfl) rfl ?_
        refine RJ_float (FS_move rfl) rfl ?_
        refine RJ_g rfl rfl gvF (fun hg => (FS_field Try.tab rfl rfl)) rfl ?_
        refine RJ_g rfl rfl gvF (fun hg => (FS_loadK Try.tab 6 (gx hg rfl) rfl rfl rfl)) rfl ?_
        refine RJ_float (FS_or rfl rfl) rfl ?_
        refine RJ_nil ?_
        refine JS_live [(8, _), (6, _), (0, _), (2, _), (92, _)] rfl ?_
        refine JS_cond rfl (fun h92 => ?_) (fun h92 => ?_)
        · have hr : runJ (chargeJ j t lvl).1 (chargeJ j t lvl).2.1 rest = rest := if_pos h92
          refine JS_region ?_
          refine RJ_float (FS_move rfl) rfl ?_
          refine RJ_float (FS_move rfl) rfl ?_
          refine RJ_float (FS_nilCheck rfl) rfl ?_
          refine RJ_float (FS_field Try.tab rfl rfl) rfl ?_
          refine RJ_float (FS_loadK Try.tab 0 rfl rfl rfl rfl) rfl ?_
          refine RJ_float (FS_val (v' := .slice (Sl.addr (Sl.tl (chargeJ j t lvl).1.cs rest.length (some ⟨b0, pre, k⟩))) rest.length (Sl.cap rest.length (Sl.tl (chargeJ j t lvl).1.cs rest.length (some ⟨b0, pre, k⟩)))) (FS_slice Try.tab rfl rfl ⟨.i64, (rfl : _ = some (vi ((1 : Nat) : Int)))⟩ rfl (by simp) (by simp only [Sl.cap]; omega)) jobs_tl) rfl ?_
          refine RJ_float (FS_nilCheck rfl) rfl ?_
          refine RJ_float (FS_field Try.tab rfl rfl) rfl ?_
          refine RJ_loud (LS_store Try.tab (i := 0) rfl rfl rfl rfl rfl rfl rfl rfl) rfl fun _ => ?_
          refine RJ_mem [_, _, _, _, _, _, _, _] rfl ?_
          refine RJ_nil ?_
          refine JS_imp (Imp.at2 (Sl.tl_imp Job.csl) _ _ _) ?_
          refine JS_mem [_, _, _, _, _, _, _, _] rfl ?_
          refine JS_live [(8, _), (6, _), (2, _)] rfl ?_
          refine JS_seq ?_
          refine JS_region ?_
          refine RJ_float (FS_loadK Try.tab 6 rfl rfl rfl rfl) rfl ?_
          refine RJ_float (FS_move rfl) rfl ?_
          refine RJ_loud (LS_store Try.tab (i := 4) rfl rfl rfl rfl rfl rfl rfl rfl) rfl fun _ => ?_
          refine RJ_mem [_, _, _, _, _, _, _, _] rfl ?_
          refine RJ_float (FS_assign rfl) rfl ?_
          refine RJ_float (FS_assign rfl) rfl ?_
          refine RJ_nil ?_
          exact JS_return (Sl.tl (chargeJ j t lvl).1.cs rest.length (some ⟨b0, pre, k⟩), s) [0, 1, 2, 3, 7] rfl (.cell rfl (szOf_in Try.tab rfl) (List.mem_of_getElem? (i := 4) rfl) rfl (.tmp rfl (.tmp rfl .nil))) (rfl) (by decide) (by rw [hr]; rfl)
        · have hr : runJ (chargeJ j t lvl).1 (chargeJ j t lvl).2.1 rest = (chargeJ j t lvl).1 :: rest := if_neg (by rw [h92]; simp)
          refine JS_skip ?_
          refine JS_seq ?_
          refine JS_region ?_
          refine RJ_float (FS_loadK Try.tab 6 rfl rfl rfl rfl) rfl ?_
          refine RJ_float (FS_move rfl) rfl ?_
          refine RJ_loud (LS_store Try.tab (i := 4) rfl rfl rfl rfl rfl rfl rfl rfl) rfl fun _ => ?_
          refine RJ_mem [_, _, _, _, _, _, _, _] rfl ?_
          refine RJ_float (FS_assign rfl) rfl ?_
          refine RJ_float (FS_assign rfl) rfl ?_
          refine RJ_nil ?_
          exact JS_return (some ⟨b0, pre, k⟩, s) [0, 1, 2, 3, 7] rfl (.cell rfl (szOf_in Try.tab rfl) (List.mem_of_getElem? (i := 4) rfl) rfl (.tmp rfl (.tmp rfl .nil))) (rfl) (by decide) (by rw [hr]; rfl)
theorem run_0 (b : Nat) (idx lvl : Int) (ptrs : List Nat) (st sj : Option Sl) : Ctr Try.prog 10 [vp b 0] (fun _ => True) ([locE b idx lvl ptrs st [] sj]) (fun _ : Unit => .tuple #[agg (Verd.cs ⟨false, false, false⟩), .slice none 0 0, vi 1401]) (fun _ => [locE b idx lvl ptrs st [] sj]) := by
  refine Ctr.of Try.func10 rfl (Nat.le_of_ble_eq_true rfl) fun w hw => ?_
  refine JS_live [(0, _)] rfl ?_
  refine JS_seq ?_
  refine JS_region ?_
  refine RJ_loud (LS_alloc Try.tab rfl) rfl fun b2 => ?_
  refine RJ_mem [_, _] rfl ?_
  refine RJ_float (FS_assign rfl) rfl ?_
  refine RJ_float (FS_assign rfl) rfl ?_
  refine RJ_nil ?_
  refine JS_seq ?_
  refine JS_block ?_
  refine JS_seq ?_
  refine JS_region ?_
  refine RJ_float (FS_move rfl) rfl ?_
  refine RJ_float (FS_ptrNil Try.tab rfl rfl) rfl ?_
  refine RJ_float (FS_assign rfl) rfl ?_
  refine RJ_nil ?_
  refine JS_else rfl ?_
  refine JS_seq ?_
  refine JS_region ?_
  refine RJ_float (FS_move rfl) rfl ?_
  refine RJ_float (FS_nilCheck rfl) rfl ?_
  refine RJ_float (FS_field Try.tab rfl rfl) rfl ?_
  refine RJ_float (FS_loadK Try.tab 0 rfl rfl rfl rfl) rfl ?_
  refine RJ_float (FS_len Try.tab rfl rfl) rfl ?_
  refine RJ_float (FS_int rfl rfl rfl) rfl ?_
  refine RJ_float (FS_assign rfl) rfl ?_
  refine RJ_nil ?_
  refine JS_live [(0, _), (2, _), (15, _)] rfl ?_
  refine JS_if rfl ?_
  refine JS_seq ?_
  refine JS_region ?_
  refine RJ_float (FS_build Try.tab rfl rfl rfl rfl) rfl ?_
  refine RJ_loud (LS_store Try.tab (i := 1) rfl rfl rfl rfl rfl rfl rfl rfl) rfl fun _ => ?_
  refine RJ_mem [_, _] rfl ?_
  refine RJ_float (FS_assign rfl) rfl ?_
  refine RJ_float (FS_assign rfl) rfl ?_
  refine RJ_nil ?_
  exact JS_return () [0] rfl (.cell rfl (szOf_in Try.tab rfl) (List.mem_of_getElem? (i := 1) rfl) rfl (.tmp rfl (.tmp rfl .nil))) (rfl) (by decide) (rfl)
end Go.Proofs.Ytmhjcemcjfkejaa
