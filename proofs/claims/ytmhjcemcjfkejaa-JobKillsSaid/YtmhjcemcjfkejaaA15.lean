/- a part's schedule as a whole: Begin -/
import Derived.Test.YtmhjcemcjfkejaaA14
namespace Go.Proofs.Ytmhjcemcjfkejaa
open Go.RowKit
open Go.Proofs
set_option linter.unusedVariables false
set_option linter.unusedSimpArgs false
set_option linter.unnecessarySimpa false
set_option maxRecDepth 20000
/-- A task that runs, and where it lies. -/
structure RunL where
  r : Nat
  t : Task
  last : Int
  picks : List Int
  sp : Option Sl
  seq : Int
structure Rn where
  t : Task
  last : Int
  picks : List Int
  seq : Int
  deriving DecidableEq
def RunL.m (x : RunL) : Rn := ⟨x.t, x.last, x.picks, x.seq⟩
def runB (x : RunL) : Ent := .star [runE x.r x.t x.last x.picks x.sp x.seq, intsE x.picks x.sp]
/-- A schedule, and where it lies. -/
structure LocL where
  b : Nat
  idx : Int
  lvl : Int
  runs : List RunL
  st : Option Sl
  js : List Job
  sj : Option Sl
structure Lc where
  idx : Int
  lvl : Int
  runs : List Rn
  js : List Job
  deriving DecidableEq
def LocL.m (l : LocL) : Lc := ⟨l.idx, l.lvl, l.runs.map RunL.m, l.js⟩
abbrev ptrsR (rs : List RunL) : List Nat := rs.map (·.r)
def locB (l : LocL) : Ent := .star [locE l.b l.idx l.lvl (ptrsR l.runs) l.st l.js l.sj, ptrE (ptrsR l.runs) l.st, jobsE l.js l.sj, .row runB l.runs]
theorem Imp.mid (A : List Ent) {X Y : List Ent} (h : Imp X Y) (C : List Ent) : Imp (A ++ X ++ C) (A ++ Y ++ C) := (h.left A).right C
theorem runB_open {rs : List RunL} {i : Nat} {x : RunL} (hi : rs[i]? = some x) : Imp [.row runB rs] [runE x.r x.t x.last x.picks x.sp x.seq, intsE x.picks x.sp, .row runB (rs.eraseIdx i)] :=
  (Imp.row_open hi).trans ((Imp.unstar _).right _)
theorem runB_close {rs : List RunL} {i : Nat} (y : RunL) (hi : i < rs.length) : Imp [runE y.r y.t y.last y.picks y.sp y.seq, intsE y.picks y.sp, .row runB (rs.eraseIdx i)] [.row runB (rs.set i y)] :=
  ((Imp.star [runE y.r y.t y.last y.picks y.sp y.seq, intsE y.picks y.sp]).right _).trans (Imp.row_close (f := runB) y hi)
theorem ptrsR_set {rs : List RunL} {i : Nat} {x y : RunL} (hi : rs[i]? = some x) (hr : y.r = x.r) : ptrsR (rs.set i y) = ptrsR rs := by
  obtain ⟨hlt, hx⟩ := List.getElem?_eq_some_iff.1 hi
  unfold ptrsR
  rw [List.map_set, hr, ← hx]
  have : (rs.map (·.r))[i]'(by simpa using hlt) = rs[i].r := by simp
  rw [← this, List.set_getElem_self]
def missE (idx : Int) (j : Job) : Ev := ⟨3, idx, j.task, j.used⟩
/-- All tasks' releases, from the i-th on. -/
def relGo (idx now : Int) : Nat → List Rn → List Job → List Rn × List Job × List Ev
  | _, [], js => ([], js, [])
  | i, x :: r, js =>
    let q := relL idx x.t x.last x.picks x.seq js i now
    let p := relGo idx now (i + 1) r q.2.2.2.1
    (⟨x.t, q.1, q.2.1, q.2.2.1⟩ :: p.1, p.2.1, q.2.2.2.2 ++ p.2.2)
/-- Local.Begin. -/
def Lc.begin (l : Lc) (now : Int) : Lc × List Ev :=
  let m := missedJ l.js now
  let p := relGo l.idx now 0 l.runs m.1
  (⟨l.idx, l.lvl, p.1, p.2.1⟩, m.2.map (missE l.idx) ++ p.2.2)
/-- Numbers are of a machine's size. -/
structure Lc.small (l : Lc) : Prop where
  js : l.js.length ≤ 4294967296
  runs : l.runs.length ≤ 65536
  each : ∀ x ∈ l.runs, x.picks.length ≤ 4294967296 ∧ 0 ≤ x.seq ∧ x.seq ≤ 4611686018427387904
theorem insJ_len (js : List Job) (i : Nat) (j : Job) : (insJ js i j).length ≤ js.length + 1 := by
  unfold insJ
  simp only [List.length_append, List.length_cons, List.length_take, List.length_drop]
  omega
theorem putJ_len (js : List Job) (j : Job) : (putJ js j).2.length ≤ 16 ∨ (putJ js j).2.length ≤ js.length := by
  unfold putJ
  split
  · exact .inl (by simp)
  · rename_i h
    split
    · exact .inl (by simp)
    · rename_i h2
      left
      have hok : JobsOk js := Classical.byContradiction fun hn => h (.inl hn)
      have := hok.1
      have h3 := insJ_len js (posJ js j) j
      simp only
      omega
theorem relL_len (idx : Int) (t : Task) (last : Int) (picks : List Int) (seq : Int) (js : List Job) (i now : Int) : (relL idx t last picks seq js i now).2.2.2.1.length ≤ js.length + 16 := by
  unfold relL
  simp only
  split
  · simp
  · split
    · simp
    · rcases putJ_len js ⟨i, seq, t.prio, now, now + t.deadline, (releaseT t last picks now).2.2.1, 0⟩ with h | h <;> simp only <;> omega
theorem relL_evs (idx : Int) (t : Task) (last : Int) (picks : List Int) (seq : Int) (js : List Job) (i now : Int) : (relL idx t last picks seq js i now).2.2.2.2.length ≤ 1 := by
  unfold relL
  simp only
  split
  · simp
  · split <;> simp
theorem missedJ_len (js : List Job) (now : Int) : (missedJ js now).1.length ≤ js.length ∧ (missedJ js now).2.length ≤ js.length := by
  unfold missedJ
  split
  · exact ⟨List.length_filter_le _ _, List.length_filter_le _ _⟩
  · simp
theorem begin_step1 {rs RS : List RunL} {i : Nat} {y : RunL} (h : rs.drop i = RS.drop i) : (rs.set i y).drop (i + 1) = RS.drop (i + 1) := by
  have h2 := congrArg (List.drop 1) h
  simp only [List.drop_drop] at h2
  rw [List.drop_set_of_lt (by omega)]
  exact h2
theorem begin_step {idx now : Int} {rs RS : List RunL} {i : Nat} {x : RunL} {js : List Job} {es : List Ev} {T : List Rn × List Job × List Ev} {sp' : Option Sl} (hxr : rs[i]? = some x) (hx : RS[i]? = some x)
    (h : ((rs.take i).map RunL.m ++ (relGo idx now i ((RS.drop i).map RunL.m) js).1, (relGo idx now i ((RS.drop i).map RunL.m) js).2.1, es ++ (relGo idx now i ((RS.drop i).map RunL.m) js).2.2) = T) :
    let q := relL idx x.t x.last x.picks x.seq js i now
    (((rs.set i ⟨x.r, x.t, q.1, q.2.1, sp', q.2.2.1⟩).take (i + 1)).map RunL.m ++ (relGo idx now (i + 1) ((RS.drop (i + 1)).map RunL.m) q.2.2.2.1).1, (relGo idx now (i + 1) ((RS.drop (i + 1)).map RunL.m) q.2.2.2.1).2.1, (es ++ q.2.2.2.2) ++ (relGo idx now (i + 1) ((RS.drop (i + 1)).map RunL.m) q.2.2.2.1).2.2) = T := by
  intro q
  obtain ⟨h1, hx'⟩ := List.getElem?_eq_some_iff.1 hx
  obtain ⟨h2, hxr'⟩ := List.getElem?_eq_some_iff.1 hxr
  rw [← h]
  have hd : RS.drop i = x :: RS.drop (i + 1) := by rw [List.drop_eq_getElem_cons h1, hx']
  have ht : (rs.set i ⟨x.r, x.t, q.1, q.2.1, sp', q.2.2.1⟩).take (i + 1) = rs.take i ++ [⟨x.r, x.t, q.1, q.2.1, sp', q.2.2.1⟩] := by
    rw [List.take_succ_eq_append_getElem (by simpa using h2)]
    simp [List.take_set_of_le]
  rw [ht, hd]
  simp only [List.map_cons, relGo, List.map_append, List.map_nil, List.append_assoc, List.singleton_append]
  rfl
theorem begin_c (L : LocL) (now : Int) (hs : L.m.small) (hjs : L.js.length ≤ 65536) (hc : clockB now = true) : Ctr Try.prog 8 [vp L.b 0, vi now] (fun _ => True) ([locB L]) (fun q : {q : LocL × Option Sl // q.1.m = (L.m.begin now).1 ∧ q.1.b = L.b} => .tuple #[.slice (Sl.addr q.1.2) (L.m.begin now).2.length (Sl.cap (L.m.begin now).2.length q.1.2), vi 0]) (fun q => [locB q.1.1, evsE (L.m.begin now).2 q.1.2]) := by
  refine Ctr.of Try.func8 rfl (Nat.le_of_ble_eq_true rfl) fun w hw => ?_
  have hml := missedJ_len L.js now
  have hpl : (ptrsR L.runs).length = L.runs.length := by simp
  have hrl : L.runs.length ≤ 65536 := by simpa [LocL.m] using hs.runs
  refine JS_imp (Imp.unstar _) ?_
  refine JS_mem [_, _, _, _] rfl ?_
  refine JS_live [(0, _), (1, _)] rfl ?_
  refine JS_seq ?_
  refine JS_region ?_
  refine RJ_float (FS_assign rfl) rfl ?_
  refine RJ_float (FS_assign rfl) rfl ?_
  refine RJ_nil ?_
  refine JS_seq ?_
  refine JS_block ?_
  refine JS_seq ?_
  refine JS_region ?_
  refine RJ_float (FS_move rfl) rfl ?_
  refine RJ_float (FS_ptrNil Try.tab rfl rfl) rfl ?_
  refine RJ_float (FS_assign rfl) rfl ?_
  refine RJ_nil ?_
  refine JS_else rfl ?_
  refine JS_seq ?_
  refine JS_region ?_
  refine RJ_float (FS_move rfl) rfl ?_
  refine RJ_fun (LS_fun (Try.can rfl) (clock_c _) rfl (fun _ _ => trivial)) rfl ?_
  refine RJ_float (FS_not rfl) rfl ?_
  refine RJ_float (FS_assign rfl) rfl ?_
  refine RJ_nil ?_
  refine JS_live [(0, _), (1, _), (15, _)] rfl ?_
  refine JS_cond rfl (fun h15 => ?_) (fun h15 => ?_)
  · try simp only [Bool.and_eq_true, Bool.or_eq_true, Bool.and_eq_false_iff, Bool.or_eq_false_iff, Bool.not_eq_true', Bool.not_eq_false', decide_eq_true_eq, decide_eq_false_iff_not, beq_iff_eq, bne_iff_ne, beq_eq_false_iff_ne, bne_eq_false_iff_eq] at h15
    rw [hc] at h15; cases h15
  · try simp only [Bool.and_eq_true, Bool.or_eq_true, Bool.and_eq_false_iff, Bool.or_eq_false_iff, Bool.not_eq_true', Bool.not_eq_false', decide_eq_true_eq, decide_eq_false_iff_not, beq_iff_eq, bne_iff_ne, beq_eq_false_iff_ne, bne_eq_false_iff_eq] at h15
    refine JS_skip ?_
    refine JS_blk ?_
    refine JS_seq ?_
    refine JS_region ?_
    refine RJ_float (FS_move rfl) rfl ?_
    refine RJ_float (FS_nilCheck rfl) rfl ?_
    refine RJ_float (FS_field Try.tab rfl rfl) rfl ?_
    refine RJ_float (FS_loadK Try.tab 0 rfl rfl rfl rfl) rfl ?_
    refine RJ_float (FS_move rfl) rfl ?_
    refine RJ_loud (LS_pure' (Try.can rfl) (missed_c _ _ L.js now) rfl (fun w h => ⟨h.sl 2 rfl, by omega⟩)) rfl fun ⟨s1, s2⟩ => ?_
    refine RJ_mem [_, _, _, _, _, _] rfl ?_
    refine RJ_float (FS_move rfl) rfl ?_
    refine RJ_float (FS_extract rfl rfl) rfl ?_
    refine RJ_float (FS_extract rfl rfl) rfl ?_
    refine RJ_float (FS_assign rfl) rfl ?_
    refine RJ_float (FS_assign rfl) rfl ?_
    refine RJ_nil ?_
    refine JS_live [(0, _), (1, _), (6, _), (7, _)] rfl ?_
    refine JS_seq ?_
    refine JS_region ?_
    refine RJ_float (FS_move rfl) rfl ?_
    refine RJ_float (FS_move rfl) rfl ?_
    refine RJ_float (FS_nilCheck rfl) rfl ?_
    refine RJ_float (FS_field Try.tab rfl rfl) rfl ?_
    refine RJ_loud (LS_store Try.tab (i := 0) rfl rfl rfl rfl rfl rfl rfl rfl) rfl fun _ => ?_
    refine RJ_mem [_, _, _, _, _, _] rfl ?_
    refine RJ_nil ?_
    refine JS_pick [0, 1, 4, 3, 5] (by decide) ?_
    refine JS_mem [_, _, _, _, _] rfl ?_
    refine JS_seq ?_
    refine JS_region ?_
    refine RJ_float (FS_assign rfl) rfl ?_
    refine RJ_nil ?_
    refine JS_seq ?_
    refine JS_seq ?_
    refine JS_region ?_
    refine RJ_float (FS_move rfl) rfl ?_
    refine RJ_float (FS_len Try.tab rfl rfl) rfl ?_
    refine RJ_float (FS_move rfl) rfl ?_
    refine RJ_nil ?_
    refine JS_block ?_
    refine JS_weakK (fun _ h => h.addNil 40 4) ?_
    refine JS_loopF (ι := {q : Nat × List Ev × Option Sl // q.1 ≤ (missedJ L.js now).2.length ∧ q.2.1 = ((missedJ L.js now).2.take q.1).map (missE L.idx)}) [(0, _), (1, _), (32, _), (33, _)] (fun ⟨(i, es, s), hi1, hes⟩ => [(34, vi (i : Int)), (8, .slice (Sl.addr s) es.length (Sl.cap es.length s))]) (fun ⟨(i, es, s), hi1, hes⟩ => [locE L.b L.idx L.lvl (ptrsR L.runs) L.st (missedJ L.js now).1 s1, ptrE (ptrsR L.runs) L.st, jobsE (missedJ L.js now).1 s1, .row runB L.runs, jobsE (missedJ L.js now).2 s2, evsE es s]) (fun ⟨(i, es, s), hi1, hes⟩ => (missedJ L.js now).2.length - i) ⟨(0, [], none), by simp, by simp⟩ rfl (fun _ h => h) (fun ⟨(i, es, s), hi1, hes⟩ => ?_)
    refine JS_live [(34, _), (8, _), (0, _), (1, _), (32, _), (33, _)] rfl ?_
    simp only at hi1 hes
    have hel : es.length ≤ (missedJ L.js now).2.length := by rw [hes]; simp; omega
    refine JS_seq ?_
    refine JS_region ?_
    refine RJ_float (FS_int rfl rfl rfl) rfl ?_
    refine RJ_nil ?_
    refine JS_seq ?_
    refine JS_condD rfl (fun h35 => ?_) (fun h35 => ?_)
    · have h35 : i < (missedJ L.js now).2.length := by omega
      have hne : rows Job.cs (missedJ L.js now).2 ≠ [] := rows_ne Job.csl (by decide) h35
      refine JS_skip ?_
      refine JS_seq ?_
      refine JS_block ?_
      refine JS_seq ?_
      refine JS_region ?_
      refine RJ_float (FS_indexS Try.tab 4 rfl rfl rfl rfl hne (by omega) (by omega)) rfl ?_
      refine RJ_float (FS_loadS Try.tab 4 rfl rfl hne rfl (fld_at Job.csl h35)) rfl ?_
      refine RJ_loud (LS_alloc Try.tab rfl) rfl fun b10 => ?_
      refine RJ_mem [_, _, _, _, _, _, _] rfl ?_
      refine RJ_loud (LS_store Try.tab (i := 6) rfl rfl rfl rfl rfl rfl rfl rfl) rfl fun _ => ?_
      refine RJ_mem [_, _, _, _, _, _, _] rfl ?_
      refine RJ_nil ?_
      refine JS_region ?_
      refine RJ_float (FS_move rfl) rfl ?_
      refine RJ_float (FS_move rfl) rfl ?_
      refine RJ_float (FS_field Try.tab rfl rfl) rfl ?_
      refine RJ_float (FS_loadK Try.tab 6 rfl rfl rfl rfl) rfl ?_
      refine RJ_float (FS_field Try.tab rfl rfl) rfl ?_
      refine RJ_float (FS_loadK Try.tab 6 rfl rfl rfl rfl) rfl ?_
      refine RJ_fun (LS_fun (Try.can rfl) (event_c _ _ L.idx 3 _ _) rfl (fun w h => rangeAt_pre (pre := [_]) (h.range 0 rfl))) rfl ?_
      refine RJ_loud (LS_buildSlice Try.tab rfl rfl rfl rfl rfl rfl) rfl fun b45 => ?_
      refine RJ_mem [_, _, _, _, _, _, _, _] rfl ?_
      refine RJ_loud (LS_app1 Ev.cs Try.tab 5 7 Ev.csl Ev.one (fun _ _ => trivial) rfl rfl rfl rfl rfl rfl rfl rfl rfl rfl (by omega)) rfl fun s' => ?_
      refine RJ_mem [_, _, _, _, _, _, _, _] rfl ?_
      refine RJ_float (FS_assign rfl) rfl ?_
      refine RJ_nil ?_
      refine JS_live [(34, _), (0, _), (1, _), (32, _), (33, _), (8, _)] rfl ?_
      refine JS_blk ?_
      refine JS_region ?_
      refine RJ_float (FS_add rfl rfl (by omega) (by omega)) rfl ?_
      refine RJ_float (FS_move rfl) rfl ?_
      refine RJ_nil ?_
      exact JS_againF ⟨(i + 1, es ++ [missE L.idx ((missedJ L.js now).2[i])], s'), by simp; omega, by simp only [hes, List.take_succ_eq_append_getElem h35, List.map_append, List.map_cons, List.map_nil]⟩ (by simp; omega) rfl (fun _ h => h.pick (is := [0, 1, 2, 3, 4, 5]) (by decide))
    · have h35 : ¬ i < (missedJ L.js now).2.length := by omega
      obtain rfl : es = (missedJ L.js now).2.map (missE L.idx) := by rw [hes, List.take_of_length_le (by omega)]
      refine JS_exit rfl ?_
      refine JS_seq ?_
      refine JS_seq ?_
      refine JS_region ?_
      refine RJ_float (FS_move rfl) rfl ?_
      refine RJ_float (FS_nilCheck rfl) rfl ?_
      refine RJ_float (FS_field Try.tab rfl rfl) rfl ?_
      refine RJ_float (FS_loadK Try.tab 0 rfl rfl rfl rfl) rfl ?_
      refine RJ_float (FS_len Try.tab rfl rfl) rfl ?_
      refine RJ_float (FS_move rfl) rfl ?_
      refine RJ_nil ?_
      refine JS_live [(8, _), (0, _), (1, _), (52, _), (53, _)] rfl ?_
      refine JS_block ?_
      refine JS_loopF (ι := {q : Nat × List RunL × List Job × Option Sl × List Ev × Option Sl // q.1 ≤ L.runs.length ∧ q.2.1.length = L.runs.length ∧ q.2.1.drop q.1 = L.runs.drop q.1 ∧ ptrsR q.2.1 = ptrsR L.runs ∧ q.2.2.1.length ≤ 65536 + 16 * q.1 ∧ q.2.2.2.2.1.length ≤ 65536 + q.1 ∧ ((q.2.1.take q.1).map RunL.m ++ (relGo L.idx now q.1 ((L.runs.drop q.1).map RunL.m) q.2.2.1).1, (relGo L.idx now q.1 ((L.runs.drop q.1).map RunL.m) q.2.2.1).2.1, q.2.2.2.2.1 ++ (relGo L.idx now q.1 ((L.runs.drop q.1).map RunL.m) q.2.2.1).2.2) = ((L.m.begin now).1.runs, (L.m.begin now).1.js, (L.m.begin now).2)}) [(0, _), (1, _), (52, _)] (fun ⟨(i, rs, js, sj, es, s), hi1, hrs, hd, hp, hjl, hel, hq⟩ => [(53, vi (i : Int)), (8, .slice (Sl.addr s) es.length (Sl.cap es.length s))]) (fun ⟨(i, rs, js, sj, es, s), hi1, hrs, hd, hp, hjl, hel, hq⟩ => [locE L.b L.idx L.lvl (ptrsR L.runs) L.st js sj, ptrE (ptrsR L.runs) L.st, jobsE js sj, .row runB rs, jobsE (missedJ L.js now).2 s2, evsE es s]) (fun ⟨(i, rs, js, sj, es, s), hi1, hrs, hd, hp, hjl, hel, hq⟩ => L.runs.length - i) ⟨(0, L.runs, _, _, _, _), by simp, rfl, rfl, rfl, by simp; omega, by simp; omega, by simp only [List.take_zero, List.map_nil, List.nil_append, List.drop_zero]; rfl⟩ rfl (fun _ h => h) (fun ⟨(i, rs, js, sj, es, s), hi1, hrs, hd, hp, hjl, hel, hq⟩ => ?_)
      refine JS_live [(53, _), (8, _), (0, _), (1, _), (52, _)] rfl ?_
      simp only at hi1 hrs hd hp hjl hel hq
      refine JS_seq ?_
      refine JS_region ?_
      refine RJ_float (FS_int rfl rfl rfl) rfl ?_
      refine RJ_nil ?_
      refine JS_seq ?_
      refine JS_condD rfl (fun h54 => ?_) (fun h54 => ?_)
      · have h54 : i < L.runs.length := by omega
        obtain ⟨x, hx⟩ : ∃ x, L.runs[i]? = some x := ⟨_, List.getElem?_eq_getElem h54⟩
        have hxr : rs[i]? = some x := by have := congrArg (·[0]?) hd; simpa [hx] using this
        obtain ⟨hx1, hx2, hx3⟩ := hs.each x.m (by simp only [LocL.m]; exact List.mem_map_of_mem (List.mem_of_getElem? hx))
        have hpi : (ptrsR L.runs)[i]? = some x.r := by simp [hx]
        have hil : i < rs.length := (List.getElem?_eq_some_iff.1 hxr).1
        refine JS_skip ?_
        refine JS_seq ?_
        refine JS_block ?_
        refine JS_seq ?_
        refine JS_region ?_
        refine RJ_float (FS_move rfl) rfl ?_
        refine RJ_float (FS_assign rfl) rfl ?_
        refine RJ_nil ?_
        refine JS_imp (Imp.mid [_, _, _] (runB_open hxr) [_, _]) ?_
        refine JS_mem [_, _, _, _, _, _, _, _] rfl ?_
        refine JS_region ?_
        refine RJ_float (FS_move rfl) rfl ?_
        refine RJ_float (FS_move rfl) rfl ?_
        refine RJ_float (FS_move rfl) rfl ?_
        refine RJ_float (FS_move rfl) rfl ?_
        refine RJ_loud (LS_call' [0, 1, 2, 3, 4] [5, 6, 7] rfl (Try.can rfl) (release_n L.b x.r i L.idx L.lvl (ptrsR L.runs) L.st js sj x.sp x.t x.last x.picks x.seq now hpi hx1 (by simp; omega) (by omega) hx3 hx2) rfl (by decide) (fun _ _ => trivial)) rfl fun ⟨sp', sj', se'⟩ => ?_
        refine RJ_mem [_, _, _, _, _, _, _, _, _] rfl ?_
        refine RJ_loud (LS_appR Ev.cs Try.tab 8 Ev.csl Ev.one rfl rfl rfl (fun w h => h.sl 5 rfl) rfl rfl rfl rfl rfl rfl (by have := relL_evs L.idx x.t x.last x.picks x.seq js i now; omega)) rfl fun s' => ?_
        refine RJ_mem [_, _, _, _, _, _, _, _, _] rfl ?_
        refine RJ_float (FS_assign rfl) rfl ?_
        refine RJ_nil ?_
        refine JS_pick [0, 1, 2, 3, 4, 6, 7, 8] (by decide) ?_
        refine JS_imp (Imp.mid [_, _, _] (runB_close ⟨x.r, x.t, _, _, sp', _⟩ hil) [_, _]) ?_
        refine JS_mem [_, _, _, _, _, _] rfl ?_
        refine JS_live [(53, _), (0, _), (1, _), (52, _), (8, _)] rfl ?_
        refine JS_blk ?_
        refine JS_region ?_
        refine RJ_float (FS_add rfl rfl (by omega) (by omega)) rfl ?_
        refine RJ_float (FS_move rfl) rfl ?_
        refine RJ_nil ?_
        exact JS_againF ⟨(i + 1, rs.set i ⟨x.r, x.t, _, _, sp', _⟩, _, sj', _, s'), by simp; omega, by simpa using hrs, begin_step1 hd, (ptrsR_set (y := ⟨x.r, x.t, _, _, sp', _⟩) hxr rfl).trans hp, Nat.le_trans (relL_len L.idx x.t x.last x.picks x.seq js i now) (by show _ ≤ 65536 + 16 * (i + 1); omega), by have := relL_evs L.idx x.t x.last x.picks x.seq js i now; simp only [List.length_append]; omega, begin_step hxr hx hq⟩ (by simp; omega) rfl (fun _ h => h.pick (is := [0, 1, 2, 3, 4, 5]) (by decide))
      · obtain rfl : i = L.runs.length := by omega
        simp only [List.drop_length, List.map_nil, relGo, List.append_nil, List.take_of_length_le (show rs.length ≤ L.runs.length by omega), Prod.mk.injEq] at hq
        obtain ⟨hq1, hq2, hq3⟩ := hq
        subst hq3
        refine JS_exit rfl ?_
        refine JS_seq ?_
        refine JS_region ?_
        refine RJ_float (FS_move rfl) rfl ?_
        refine RJ_float (FS_assign rfl) rfl ?_
        refine RJ_float (FS_assign rfl) rfl ?_
        refine RJ_nil ?_
        refine JS_imp (Imp.packs [0, 1, 2, 3] [5] (by decide)) ?_
        refine JS_mem [_, _] rfl ?_
        refine JS_live [(4, _), (5, _)] rfl ?_
        exact JS_return ⟨(⟨L.b, L.idx, L.lvl, rs, L.st, js, sj⟩, s), by simp only [LocL.m, hq1, hq2]; rfl, rfl⟩ [0, 1] rfl (.tmp rfl (.tmp rfl .nil)) (rfl) (by decide) (by simp only [locB, hp]; rfl)
end Go.Proofs.Ytmhjcemcjfkejaa
