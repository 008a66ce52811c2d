/- what a schedule answers at one part (nocturnlaw14's awake) -/
import Derived.Test.YtmhjcemcjfkejaaA18
namespace Go.Proofs.Ytmhjcemcjfkejaa
open Go.RowKit
open Go.Proofs
set_option linter.unusedVariables false
set_option linter.unusedSimpArgs false
set_option linter.unnecessarySimpa false
set_option maxRecDepth 20000
def twoT : List Task := [⟨0, 10, 8, 2, 2, 5⟩, ⟨1, 6, 6, 3, 3, 1⟩]
def twoP (b : Nat) (level : Int) : Part := ⟨level, twoT, some ⟨b, 0, none⟩, 2, [], none, 0⟩
def aw0 : Lc := Lc.new 3 (twoP 0 1)
def aw1 : Lc := (aw0.pick 1 3 0).1
def aw2 : Lc := (aw1.begin 0).1
def aw3 : Lc := aw2.run.2.1
def aw4 : Lc := (aw3.pick 1 9 2).1
def aw5 : Lc := aw4.run.2.1
def awJ : Job := aw5.js.headD Job.zero
theorem Lc.small_of {l : Lc} (h : decide (l.js.length ≤ 4294967296) && decide (l.runs.length ≤ 65536) && l.runs.all (fun x => decide (x.picks.length ≤ 4294967296) && decide (0 ≤ x.seq) && decide (x.seq ≤ 4611686018427387904)) = true) : l.small := by
  simp only [Bool.and_eq_true, decide_eq_true_eq, List.all_eq_true] at h
  exact ⟨h.1.1, h.1.2, fun x hx => ⟨(h.2 x hx).1.1, (h.2 x hx).1.2, (h.2 x hx).2⟩⟩
theorem Lc.first_of {l : Lc} (h : (match l.js with | [] => true | j :: _ => decide (0 ≤ j.task) && decide (j.task.toNat < l.runs.length)) = true) : ∀ j rest, l.js = j :: rest → 0 ≤ j.task ∧ j.task.toNat < l.runs.length := fun j rest hj => by
  rw [hj] at h
  simpa using h
theorem twoP_at {B : Base} {K : List Ent} {w : World} (h : SM B K w) (i : Nat) {b : Nat} {lv : Int} (hi : K[i]? = some (Ent.c b 28 (rows Task.cs twoT))) : (twoP b lv).at w := ⟨h.row i hi, .inl rfl, Nat.le_of_ble_eq_true rfl, Nat.le_of_ble_eq_true rfl, by simp [twoP]⟩
theorem two_c (lv : Int) : Ctr Try.prog 14 [vi lv] (fun _ => True) ([]) (fun b : Nat => agg (twoP b lv).cs) (fun b => [Ent.c b 28 (rows Task.cs twoT)]) := by
  refine Ctr.of Try.func14 rfl (Nat.le_of_ble_eq_true rfl) fun w hw => ?_
  refine JS_live [(0, _)] rfl ?_
  refine JS_seq ?_
  refine JS_region ?_
  refine RJ_loud (LS_alloc Try.tab rfl) rfl fun b2 => ?_
  refine RJ_mem [_] rfl ?_
  refine RJ_nil ?_
  refine JS_seq ?_
  refine JS_region ?_
  refine RJ_float (FS_move rfl) rfl ?_
  refine RJ_float (FS_build Try.tab rfl rfl rfl rfl) rfl ?_
  refine RJ_float (FS_build Try.tab rfl rfl rfl rfl) rfl ?_
  refine RJ_loud (LS_buildSlice Try.tab rfl rfl rfl rfl rfl rfl) rfl fun b6 => ?_
  refine RJ_mem [_, _] rfl ?_
  refine RJ_float (FS_build Try.tab rfl rfl rfl rfl) rfl ?_
  refine RJ_loud (LS_store Try.tab (i := 0) rfl rfl rfl rfl rfl rfl rfl rfl) rfl fun _ => ?_
  refine RJ_mem [_, _] rfl ?_
  refine RJ_nil ?_
  exact JS_return b6 [1] rfl (.cell rfl (szOf_in Try.tab rfl) (List.mem_of_getElem? (i := 0) rfl) rfl .nil) (rfl) (by decide) (rfl)
theorem awake14_c : Ctr Try.prog 4 [] (fun _ => True) ([]) (fun _ : Unit => .bool true) (fun _ => []) := by
  refine Ctr.of Try.func4 rfl (Nat.le_of_ble_eq_true rfl) fun w hw => ?_
  refine JS_seq ?_
  refine JS_region ?_
  refine RJ_float (FS_assign rfl) rfl ?_
  refine RJ_nil ?_
  refine JS_seq ?_
  refine JS_region ?_
  refine RJ_loud (LS_pure' (Try.can rfl) (two_c _) rfl (fun _ _ => trivial)) rfl fun b21 => ?_
  refine RJ_mem [_] rfl ?_
  refine RJ_loud (LS_pure' (Try.can rfl) (new_c 3 (twoP b21 1) (by kernel_rfl) (Nat.le_of_ble_eq_true rfl)) rfl (fun w h => twoP_at h 0 rfl)) rfl fun ⟨L0, hL0⟩ => ?_
  refine RJ_mem [_, _] rfl ?_
  refine RJ_float (FS_move rfl) rfl ?_
  refine RJ_float (FS_extract rfl rfl) rfl ?_
  refine RJ_float (FS_extract rfl rfl) rfl ?_
  refine RJ_float (FS_assign rfl) rfl ?_
  refine RJ_float (FS_assign rfl) rfl ?_
  refine RJ_nil ?_
  refine JS_seq ?_
  refine JS_region ?_
  refine RJ_loud (LS_pure' (Try.can rfl) (two_c _) rfl (fun _ _ => trivial)) rfl fun b26 => ?_
  refine RJ_mem [_, _, _] rfl ?_
  refine RJ_fun (LS_fun (Try.can rfl) (new_bad 8 (twoP b26 1) (by kernel_rfl)) rfl (fun w h => twoP_at h 2 rfl)) rfl ?_
  refine RJ_float (FS_move rfl) rfl ?_
  refine RJ_float (FS_extract rfl rfl) rfl ?_
  refine RJ_float (FS_extract rfl rfl) rfl ?_
  refine RJ_float (FS_assign rfl) rfl ?_
  refine RJ_float (FS_assign rfl) rfl ?_
  refine RJ_nil ?_
  refine JS_live [(1, _), (2, _), (4, _)] rfl ?_
  refine JS_seq ?_
  refine JS_seq ?_
  refine JS_region ?_
  refine RJ_float (FS_move rfl) rfl ?_
  refine RJ_fun (LS_fun (Try.can rfl) (num_c _) rfl (fun _ _ => trivial)) rfl ?_
  refine RJ_float (FS_int rfl rfl rfl) rfl ?_
  refine RJ_float (FS_move rfl) rfl ?_
  refine RJ_yes rfl rfl ?_
  refine RJ_float (FS_move rfl) rfl ?_
  refine RJ_yes rfl rfl ?_
  refine RJ_float (FS_ptrNil Try.tab rfl rfl) rfl ?_
  refine RJ_float (FS_pick rfl rfl) rfl ?_
  refine RJ_nil ?_
  refine JS_live [(1, _), (4, _), (36, _)] rfl ?_
  refine JS_else rfl ?_
  refine JS_skip ?_
  refine JS_seq ?_
  refine JS_region ?_
  refine RJ_float (FS_move rfl) rfl ?_
  refine RJ_loud (LS_call' [1] [0, 2] rfl (Try.can rfl) (pickM L0 (M := aw0) hL0 rfl 1 3 0 (of_decide_eq_true (by kernel_rfl)) (Lc.small_of (by kernel_rfl)) rfl) rfl (by decide) (fun _ _ => trivial)) rfl fun ⟨⟨L1, s1⟩, hL1, hb1⟩ => ?_
  refine RJ_mem [_, _, _, _] rfl ?_
  refine RJ_float (FS_move rfl) rfl ?_
  refine RJ_float (FS_extract rfl rfl) rfl ?_
  refine RJ_float (FS_extract rfl rfl) rfl ?_
  refine RJ_float (FS_assign rfl) rfl ?_
  refine RJ_float (FS_assign rfl) rfl ?_
  refine RJ_nil ?_
  refine JS_seq ?_
  refine JS_region ?_
  refine RJ_float (FS_move rfl) rfl ?_
  refine RJ_loud (LS_call' [0] [1, 2, 3] rfl (Try.can rfl) (beginM L1 (M := aw1) hL1 hb1 0 (Lc.small_of (by kernel_rfl)) (by decide) rfl) rfl (by decide) (fun _ _ => trivial)) rfl fun ⟨⟨L2, s2⟩, hL2, hb2⟩ => ?_
  refine RJ_mem [_, _, _, _, _] rfl ?_
  refine RJ_float (FS_move rfl) rfl ?_
  refine RJ_float (FS_extract rfl rfl) rfl ?_
  refine RJ_float (FS_extract rfl rfl) rfl ?_
  refine RJ_float (FS_assign rfl) rfl ?_
  refine RJ_float (FS_assign rfl) rfl ?_
  refine RJ_nil ?_
  refine JS_live [(1, _), (4, _), (5, _), (6, _), (7, _), (8, _)] rfl ?_
  refine JS_seq ?_
  refine JS_region ?_
  refine RJ_float (FS_move rfl) rfl ?_
  refine RJ_fun (LS_fun (Try.can rfl) (pickB L2 (M := aw2) hL2 hb2 2 1 0 (by decide)) rfl (fun w h => h.at 0 rfl)) rfl ?_
  refine RJ_float (FS_move rfl) rfl ?_
  refine RJ_float (FS_extract rfl rfl) rfl ?_
  refine RJ_float (FS_extract rfl rfl) rfl ?_
  refine RJ_float (FS_assign rfl) rfl ?_
  refine RJ_float (FS_assign rfl) rfl ?_
  refine RJ_nil ?_
  refine JS_seq ?_
  refine JS_region ?_
  refine RJ_float (FS_move rfl) rfl ?_
  refine RJ_loud (LS_call' [0] [1, 2, 3, 4] rfl (Try.can rfl) (runM L2 (M := aw2) hL2 hb2 (Lc.first_of (by kernel_rfl)) (Lc.small_of (by kernel_rfl))) rfl (by decide) (fun _ _ => trivial)) rfl fun ⟨⟨L3, s3⟩, hL3, hb3⟩ => ?_
  refine RJ_mem [_, _, _, _, _, _] rfl ?_
  refine RJ_float (FS_move rfl) rfl ?_
  refine RJ_float (FS_extract rfl rfl) rfl ?_
  refine RJ_float (FS_extract rfl rfl) rfl ?_
  refine RJ_float (FS_extract rfl rfl) rfl ?_
  refine RJ_loud (LS_alloc Try.tab rfl) rfl fun b11 => ?_
  refine RJ_mem [_, _, _, _, _, _, _] rfl ?_
  refine RJ_loud (LS_store Try.tab (i := 6) rfl rfl rfl rfl rfl rfl rfl rfl) rfl fun _ => ?_
  refine RJ_mem [_, _, _, _, _, _, _] rfl ?_
  refine RJ_float (FS_assign rfl) rfl ?_
  refine RJ_float (FS_assign rfl) rfl ?_
  refine RJ_nil ?_
  refine JS_live [(1, _), (4, _), (5, _), (6, _), (7, _), (8, _), (10, _), (12, _), (13, _)] rfl ?_
  refine JS_seq ?_
  refine JS_region ?_
  refine RJ_float (FS_move rfl) rfl ?_
  refine RJ_loud (LS_call' [0] [1, 2, 3, 4, 5, 6] rfl (Try.can rfl) (pickM L3 (M := aw3) hL3 hb3 1 9 2 (of_decide_eq_true (by kernel_rfl)) (Lc.small_of (by kernel_rfl)) rfl) rfl (by decide) (fun _ _ => trivial)) rfl fun ⟨⟨L4, s4⟩, hL4, hb4⟩ => ?_
  refine RJ_mem [_, _, _, _, _, _, _, _] rfl ?_
  refine RJ_float (FS_move rfl) rfl ?_
  refine RJ_float (FS_extract rfl rfl) rfl ?_
  refine RJ_float (FS_extract rfl rfl) rfl ?_
  refine RJ_float (FS_assign rfl) rfl ?_
  refine RJ_float (FS_assign rfl) rfl ?_
  refine RJ_nil ?_
  refine JS_seq ?_
  refine JS_region ?_
  refine RJ_float (FS_move rfl) rfl ?_
  refine RJ_loud (LS_call' [0] [1, 2, 3, 4, 5, 6, 7] rfl (Try.can rfl) (runM L4 (M := aw4) hL4 hb4 (Lc.first_of (by kernel_rfl)) (Lc.small_of (by kernel_rfl))) rfl (by decide) (fun _ _ => trivial)) rfl fun ⟨⟨L5, s5⟩, hL5, hb5⟩ => ?_
  refine RJ_mem [_, _, _, _, _, _, _, _, _] rfl ?_
  refine RJ_float (FS_move rfl) rfl ?_
  refine RJ_float (FS_extract rfl rfl) rfl ?_
  refine RJ_float (FS_extract rfl rfl) rfl ?_
  refine RJ_float (FS_extract rfl rfl) rfl ?_
  refine RJ_loud (LS_alloc Try.tab rfl) rfl fun b16 => ?_
  refine RJ_mem [_, _, _, _, _, _, _, _, _, _] rfl ?_
  refine RJ_loud (LS_store Try.tab (i := 9) rfl rfl rfl rfl rfl rfl rfl rfl) rfl fun _ => ?_
  refine RJ_mem [_, _, _, _, _, _, _, _, _, _] rfl ?_
  refine RJ_float (FS_assign rfl) rfl ?_
  refine RJ_float (FS_assign rfl) rfl ?_
  refine RJ_nil ?_
  refine JS_live [(1, _), (4, _), (5, _), (6, _), (7, _), (8, _), (10, _), (12, _), (13, _), (14, _), (15, _), (16, _), (18, _)] rfl ?_
  refine JS_seq ?_
  refine JS_region ?_
  refine RJ_float (FS_move rfl) rfl ?_
  refine RJ_loud (LS_pure' (Try.can rfl) (jobsM L5 (M := aw5) hL5 hb5 (by decide)) rfl (fun w h => h.at 0 rfl)) rfl fun s6 => ?_
  refine RJ_mem [_, _, _, _, _, _, _, _, _, _, _] rfl ?_
  refine RJ_float (FS_assign rfl) rfl ?_
  refine RJ_nil ?_
  have hne : rows Job.cs aw5.js ≠ [] := rows_ne Job.csl (by decide) (i := 0) (by decide)
  refine JS_seq ?_
  refine JS_region ?_
  refine RJ_float (FS_move rfl) rfl ?_
  refine RJ_fun (LS_fun (Try.can rfl) (num_c _) rfl (fun _ _ => trivial)) rfl ?_
  refine RJ_float (FS_val (v' := .bool true) (FS_int rfl rfl rfl) (by kernel_rfl)) rfl ?_
  refine RJ_float (FS_move rfl) rfl ?_
  refine RJ_yes rfl rfl ?_
  refine RJ_float (FS_move rfl) rfl ?_
  refine RJ_yes rfl rfl ?_
  refine RJ_float (FS_len Try.tab rfl rfl) rfl ?_
  refine RJ_yes rfl rfl ?_
  refine RJ_float (FS_val (v' := .bool true) (FS_int rfl rfl rfl) (by kernel_rfl)) rfl ?_
  refine RJ_float (FS_pick rfl rfl) rfl ?_
  refine RJ_float (FS_move rfl) rfl ?_
  refine RJ_yes rfl rfl ?_
  refine RJ_float (FS_move rfl) rfl ?_
  refine RJ_yes rfl rfl ?_
  refine RJ_fun (LS_fun (Try.can rfl) (num_c _) rfl (fun _ _ => trivial)) rfl ?_
  refine RJ_yes rfl rfl ?_
  refine RJ_float (FS_val (v' := .bool true) (FS_int rfl rfl rfl) (by kernel_rfl)) rfl ?_
  refine RJ_float (FS_pick rfl rfl) rfl ?_
  refine RJ_float (FS_move rfl) rfl ?_
  refine RJ_yes rfl rfl ?_
  refine RJ_float (FS_move rfl) rfl ?_
  refine RJ_yes rfl rfl ?_
  refine RJ_float (FS_build Try.tab rfl rfl rfl rfl) rfl ?_
  refine RJ_yes rfl rfl ?_
  refine RJ_float (FS_build Try.tab rfl rfl rfl rfl) rfl ?_
  refine RJ_yes rfl rfl ?_
  refine RJ_loud (LS_buildSlice Try.tab rfl rfl rfl rfl rfl rfl) rfl fun b88 => ?_
  refine RJ_mem [_, _, _, _, _, _, _, _, _, _, _, _] rfl ?_
  refine RJ_yes rfl rfl ?_
  refine RJ_fun (LS_val1 (.bool true) (LS_fun (Try.can rfl) (sameEvents_c _ _ _ _ (aw1.begin 0).2 [⟨1, 3, 0, 2⟩, ⟨1, 3, 1, 3⟩]) rfl (fun w h => ⟨h.sl 4 rfl, h.row 11 rfl, by decide⟩)) (by kernel_rfl)) rfl ?_
  refine RJ_float (FS_pick rfl rfl) rfl ?_
  refine RJ_float (FS_move rfl) rfl ?_
  refine RJ_yes rfl rfl ?_
  refine RJ_float (FS_move rfl) rfl ?_
  refine RJ_yes rfl rfl ?_
  refine RJ_fun (LS_fun (Try.can rfl) (num_c _) rfl (fun _ _ => trivial)) rfl ?_
  refine RJ_yes rfl rfl ?_
  refine RJ_float (FS_val (v' := .bool true) (FS_int rfl rfl rfl) (by kernel_rfl)) rfl ?_
  refine RJ_float (FS_pick rfl rfl) rfl ?_
  refine RJ_float (FS_move rfl) rfl ?_
  refine RJ_yes rfl rfl ?_
  refine RJ_float (FS_move rfl) rfl ?_
  refine RJ_yes rfl rfl ?_
  refine RJ_fun (LS_fun (Try.can rfl) (num_c _) rfl (fun _ _ => trivial)) rfl ?_
  refine RJ_yes rfl rfl ?_
  refine RJ_float (FS_val (v' := .bool true) (FS_int rfl rfl rfl) (by kernel_rfl)) rfl ?_
  refine RJ_float (FS_pick rfl rfl) rfl ?_
  refine RJ_float (FS_move rfl) rfl ?_
  refine RJ_yes rfl rfl ?_
  refine RJ_float (FS_move rfl) rfl ?_
  refine RJ_yes rfl rfl ?_
  refine RJ_float (FS_len Try.tab rfl rfl) rfl ?_
  refine RJ_yes rfl rfl ?_
  refine RJ_float (FS_val (v' := .bool true) (FS_int rfl rfl rfl) (by kernel_rfl)) rfl ?_
  refine RJ_float (FS_pick rfl rfl) rfl ?_
  refine RJ_float (FS_move rfl) rfl ?_
  refine RJ_yes rfl rfl ?_
  refine RJ_float (FS_move rfl) rfl ?_
  refine RJ_yes rfl rfl ?_
  refine RJ_fun (LS_fun (Try.can rfl) (num_c _) rfl (fun _ _ => trivial)) rfl ?_
  refine RJ_yes rfl rfl ?_
  refine RJ_float (FS_val (v' := .bool true) (FS_int rfl rfl rfl) (by kernel_rfl)) rfl ?_
  refine RJ_float (FS_pick rfl rfl) rfl ?_
  refine RJ_float (FS_move rfl) rfl ?_
  refine RJ_yes rfl rfl ?_
  refine RJ_float (FS_move rfl) rfl ?_
  refine RJ_yes rfl rfl ?_
  refine RJ_float (FS_build Try.tab rfl rfl rfl rfl) rfl ?_
  refine RJ_yes rfl rfl ?_
  refine RJ_loud (LS_buildSlice Try.tab rfl rfl rfl rfl rfl rfl) rfl fun b114 => ?_
  refine RJ_mem [_, _, _, _, _, _, _, _, _, _, _, _, _] rfl ?_
  refine RJ_yes rfl rfl ?_
  refine RJ_fun (LS_val1 (.bool true) (LS_fun (Try.can rfl) (sameEvents_c _ _ _ _ (aw3.pick 1 9 2).2.1 [⟨2, 3, 1, 4⟩]) rfl (fun w h => ⟨h.sl 2 rfl, h.row 12 rfl, by decide⟩)) (by kernel_rfl)) rfl ?_
  refine RJ_float (FS_pick rfl rfl) rfl ?_
  refine RJ_float (FS_move rfl) rfl ?_
  refine RJ_yes rfl rfl ?_
  refine RJ_float (FS_move rfl) rfl ?_
  refine RJ_yes rfl rfl ?_
  refine RJ_fun (LS_fun (Try.can rfl) (num_c _) rfl (fun _ _ => trivial)) rfl ?_
  refine RJ_yes rfl rfl ?_
  refine RJ_float (FS_val (v' := .bool true) (FS_int rfl rfl rfl) (by kernel_rfl)) rfl ?_
  refine RJ_float (FS_pick rfl rfl) rfl ?_
  refine RJ_float (FS_move rfl) rfl ?_
  refine RJ_yes rfl rfl ?_
  refine RJ_float (FS_loadK Try.tab 9 rfl rfl rfl rfl) rfl ?_
  refine RJ_yes rfl rfl ?_
  refine RJ_float (FS_build Try.tab rfl rfl rfl rfl) rfl ?_
  refine RJ_yes rfl rfl ?_
  refine RJ_float (FS_val (v' := .bool true) (FS_flatEql Try.tab rfl rfl rfl rfl) (by kernel_rfl)) rfl ?_
  refine RJ_float (FS_pick rfl rfl) rfl ?_
  refine RJ_float (FS_move rfl) rfl ?_
  refine RJ_yes rfl rfl ?_
  refine RJ_float (FS_move rfl) rfl ?_
  refine RJ_yes rfl rfl ?_
  refine RJ_fun (LS_fun (Try.can rfl) (num_c _) rfl (fun _ _ => trivial)) rfl ?_
  refine RJ_yes rfl rfl ?_
  refine RJ_float (FS_val (v' := .bool true) (FS_int rfl rfl rfl) (by kernel_rfl)) rfl ?_
  refine RJ_float (FS_pick rfl rfl) rfl ?_
  refine RJ_float (FS_move rfl) rfl ?_
  refine RJ_yes rfl rfl ?_
  refine RJ_float (FS_move rfl) rfl ?_
  refine RJ_yes rfl rfl ?_
  refine RJ_float (FS_len Try.tab rfl rfl) rfl ?_
  refine RJ_yes rfl rfl ?_
  refine RJ_float (FS_val (v' := .bool true) (FS_int rfl rfl rfl) (by kernel_rfl)) rfl ?_
  refine RJ_float (FS_pick rfl rfl) rfl ?_
  refine RJ_float (FS_move rfl) rfl ?_
  refine RJ_yes rfl rfl ?_
  refine RJ_float (FS_move rfl) rfl ?_
  refine RJ_yes rfl rfl ?_
  refine RJ_float (FS_indexS Try.tab 10 rfl rfl rfl rfl hne (by decide) (by decide)) rfl ?_
  refine RJ_yes rfl rfl ?_
  refine RJ_float (FS_field Try.tab rfl rfl) rfl ?_
  refine RJ_yes rfl rfl ?_
  refine RJ_float (FS_loadS Try.tab 10 rfl rfl hne rfl (ld_fld Job.csl (l := aw5.js) (i := 0) (o := 6) (x := awJ) (by kernel_rfl) (by decide) rfl)) rfl ?_
  refine RJ_yes rfl rfl ?_
  refine RJ_float (FS_val (v' := .bool true) (FS_int rfl rfl rfl) (by kernel_rfl)) rfl ?_
  refine RJ_float (FS_pick rfl rfl) rfl ?_
  refine RJ_float (FS_move rfl) rfl ?_
  refine RJ_yes rfl rfl ?_
  refine RJ_float (FS_move rfl) rfl ?_
  refine RJ_yes rfl rfl ?_
  refine RJ_float (FS_indexS Try.tab 10 rfl rfl rfl rfl hne (by decide) (by decide)) rfl ?_
  refine RJ_yes rfl rfl ?_
  refine RJ_float (FS_field Try.tab rfl rfl) rfl ?_
  refine RJ_yes rfl rfl ?_
  refine RJ_float (FS_loadS Try.tab 10 rfl rfl hne rfl (ld_fld Job.csl (l := aw5.js) (i := 0) (o := 0) (x := awJ) (by kernel_rfl) (by decide) rfl)) rfl ?_
  refine RJ_yes rfl rfl ?_
  refine RJ_float (FS_val (v' := .bool true) (FS_int rfl rfl rfl) (by kernel_rfl)) rfl ?_
  refine RJ_float (FS_pick rfl rfl) rfl ?_
  refine RJ_float (FS_move rfl) rfl ?_
  refine RJ_yes rfl rfl ?_
  refine RJ_float (FS_move rfl) rfl ?_
  refine RJ_yes rfl rfl ?_
  refine RJ_fun (LS_val1 (.bool true) (LS_fun (Try.can rfl) (readyM L5 (M := aw5) hL5 hb5) rfl (fun w h => h.at 0 rfl)) (by kernel_rfl)) rfl ?_
  refine RJ_float (FS_pick rfl rfl) rfl ?_
  refine RJ_float (FS_assign rfl) rfl ?_
  refine RJ_nil ?_
  refine JS_live [(0, _)] rfl ?_
  exact JS_retv rfl (.tmp rfl .nil) (rfl)
end Go.Proofs.Ytmhjcemcjfkejaa
