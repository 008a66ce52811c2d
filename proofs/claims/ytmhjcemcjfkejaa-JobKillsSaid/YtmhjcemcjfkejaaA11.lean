/- configurations: all of it -/
import Derived.Test.YtmhjcemcjfkejaaA10
namespace Go.Proofs.Ytmhjcemcjfkejaa
open Go.RowKit
open Go.Proofs
set_option linter.unusedVariables false
set_option linter.unusedSimpArgs false
set_option linter.unnecessarySimpa false
set_option maxRecDepth 20000
structure Win where
  (fr to part : Int)
  deriving DecidableEq
abbrev Win.cs (x : Win) : List Value := [vi x.fr, vi x.to, vi x.part]
theorem Win.csl (x : Win) : (Win.cs x).length = 3 := rfl
theorem Win.one (x : Win) : (Win.cs x).all (·.oneCell') = true := rfl
structure Port where
  (kind fr to size : Int)
  deriving DecidableEq
abbrev Port.cs (x : Port) : List Value := [vi x.kind, vi x.fr, vi x.to, vi x.size]
theorem Port.csl (x : Port) : (Port.cs x).length = 4 := rfl
theorem Port.one (x : Port) : (Port.cs x).all (·.oneCell') = true := rfl
/-- A configuration, and where its rows lie. -/
structure Cfg where
  (frame quiet : Int)
  parts : List Part
  pA : Option Addr
  pc : Nat
  wins : List Win
  wA : Option Addr
  wc : Nat
  ports : List Port
  oA : Option Addr
  oc : Nat
abbrev Cfg.cs (c : Cfg) : List Value := [vi c.frame, vi c.quiet, .slice c.pA c.parts.length c.pc, .slice c.wA c.wins.length c.wc, .slice c.oA c.ports.length c.oc]
structure Cfg.at (c : Cfg) (w : World) : Prop where
  fp : RowAt w c.pA (rows Part.cs c.parts)
  fw : RowAt w c.wA (rows Win.cs c.wins)
  fo : RowAt w c.oA (rows Port.cs c.ports)
  ps : ∀ x ∈ c.parts, x.at w
  lp : c.parts.length ≤ 4294967296
  lw : c.wins.length ≤ 4294967296
  lo : c.ports.length ≤ 4294967296
theorem Cfg.at.only {c : Cfg} {w w' : World} (h : c.at w) (ho : Only [] w w') : c.at w' := ⟨h.fp.only ho, h.fw.only ho, h.fo.only ho, fun x hx => Part.keeps x w w' ho (h.ps x hx), h.lp, h.lw, h.lo⟩
def dP : Part := ⟨7, [], none, 0, [], none, 0⟩
def isB (c : Cfg) (p l : Int) : Bool := decide (p ≥ 0) && decide (p < (c.parts.length : Int)) && ((c.parts.getD p.toNat dP).level == l)
def winB (c : Cfg) (e : Int) (x : Win) : Bool := !(decide (x.fr < e) || decide (x.fr ≥ x.to) || decide (x.to > c.frame) || decide (x.part < 0) || decide (x.part ≥ (c.parts.length : Int)))
/-- Windows stand in a row: from e on. -/
def winsB (c : Cfg) : Int → List Win → Bool
  | _, [] => true
  | e, x :: r => winB c e x && winsB c x.to r
def endW (l : List Win) : Int := match l.getLast? with
  | some x => x.to
  | none => 0
def portB (c : Cfg) (p : Port) : Bool := ((p.kind == 0) || (p.kind == 1)) && (decide (p.size ≥ 1) && decide (p.size ≤ (if p.kind = 0 then 1 else 8)) && isB c p.fr 1 && isB c p.to 0)
def checkB (c : Cfg) : Int :=
  if c.frame < 1 ∨ c.frame > 256 ∨ c.quiet < 1 ∨ c.quiet > 16 then 501
  else if c.parts.length < 1 ∨ c.parts.length > 8 ∨ (c.parts.any fun p => !levelB p.level) = true then 502
  else if (c.parts.any fun p => !decide (TasksOk p.level p.tasks)) = true then 503
  else if (winsB c 0 c.wins && decide (c.wins.length ≤ 32)) = false then 504
  else if c.ports.length > 8 ∨ (c.ports.any fun p => !portB c p) = true then 505
  else if (c.parts.any fun p => !codeB p.code) = true then 506
  else 0
theorem winsB_append (c : Cfg) : ∀ (l m : List Win) (e : Int), winsB c e (l ++ m) = (winsB c e l && winsB c (match l.getLast? with | some x => x.to | none => e) m)
  | [], m, e => by simp [winsB]
  | x :: r, m, e => by
    simp only [List.cons_append, winsB]
    rw [winsB_append c r m x.to]
    cases r with
    | nil => simp [winsB, Bool.and_assoc]
    | cons y s =>
      simp only [List.getLast?_cons_cons, Bool.and_assoc]
      cases h : (y :: s).getLast? with
      | none => simp at h
      | some z => rfl
theorem endW_succ {l : List Win} {i : Nat} (hi : i < l.length) : endW (l.take (i + 1)) = l[i].to := by
  rw [List.take_succ_eq_append_getElem hi, endW, List.getLast?_concat]
theorem winsB_bad {c : Cfg} {l : List Win} {i : Nat} (hi : i < l.length) (h : winB c (endW (l.take i)) l[i] = false) : winsB c 0 l = false := by
  have hs : l = l.take i ++ l[i] :: l.drop (i + 1) := by rw [← List.drop_eq_getElem_cons hi, List.take_append_drop]
  rw [hs, winsB_append]
  have : winsB c (endW (l.take i)) (l[i] :: l.drop (i + 1)) = false := by simp only [winsB, h, Bool.false_and]
  unfold endW at this
  simp only [this, Bool.and_false]
theorem winsB_more {c : Cfg} {l : List Win} {i : Nat} (hi : i < l.length) (h0 : winsB c 0 (l.take i) = true) (h : winB c (endW (l.take i)) l[i] = true) : winsB c 0 (l.take (i + 1)) = true := by
  rw [List.take_succ_eq_append_getElem hi, winsB_append, h0, Bool.true_and]
  have : winsB c (endW (l.take i)) [l[i]] = true := by simp only [winsB, h, Bool.and_self]
  unfold endW at this
  exact this
theorem tasks_c (b o : Nat) (p : Part) : Ctr Try.prog 27 [vp b o] (fun w => w.rangeAt b o p.cs ∧ p.at w) ([]) (fun _ : Unit => .bool (decide (TasksOk p.level p.tasks))) (fun _ => []) := by
  refine Ctr.of Try.func27 rfl (Nat.le_of_ble_eq_true rfl) fun w hw => ?_
  have hc := hw.2.2.2.1
  have hb := hw.2.2.2.2.1
  refine JS_live [(0, _)] rfl ?_
  refine JS_seq ?_
  refine JS_region ?_
  refine RJ_float (FS_assign rfl) rfl ?_
  refine RJ_nil ?_
  refine JS_seq ?_
  refine JS_seq ?_
  refine JS_region ?_
  refine RJ_float (FS_move rfl) rfl ?_
  refine RJ_float (FS_nilCheck rfl) rfl ?_
  refine RJ_float (FS_field Try.tab rfl rfl) rfl ?_
  refine RJ_float (FS_loadB Try.tab rfl rfl own0 hw.1 rfl) rfl ?_
  refine RJ_float (FS_len Try.tab rfl rfl) rfl ?_
  refine RJ_float (FS_int rfl rfl rfl) rfl ?_
  refine RJ_nil ?_
  refine JS_condD rfl (fun h11 => ?_) (fun h11 => ?_)
  · refine JS_seq ?_
    refine JS_region ?_
    refine RJ_float (FS_assign rfl) rfl ?_
    refine RJ_nil ?_
    refine JS_live [(2, _)] rfl ?_
    exact JS_retv rfl (.tmp rfl .nil) (retF fun h => by have := h.1; omega)
  · refine JS_skip ?_
    refine JS_seq ?_
    refine JS_seq ?_
    refine JS_region ?_
    refine RJ_float (FS_move rfl) rfl ?_
    refine RJ_float (FS_nilCheck rfl) rfl ?_
    refine RJ_float (FS_field Try.tab rfl rfl) rfl ?_
    refine RJ_float (FS_loadB Try.tab rfl rfl own0 hw.1 rfl) rfl ?_
    refine RJ_float (FS_len Try.tab rfl rfl) rfl ?_
    refine RJ_float (FS_move rfl) rfl ?_
    refine RJ_nil ?_
    refine JS_live [(0, _), (15, _), (16, _), (17, _)] rfl ?_
    refine JS_block ?_
    refine JS_loopF (ι := {i : Nat // i ≤ p.tasks.length ∧ ∀ k (h : k < p.tasks.length), k < i → (p.tasks[k]'h).ok = true ∧ (p.level = 0 → (p.tasks[k]'h).cHigh = (p.tasks[k]'h).cLow) ∧ ∀ x ∈ p.tasks.take k, x.prio ≠ (p.tasks[k]'h).prio}) [(0, _), (15, _), (16, _)] (fun ⟨i, hi⟩ => [(17, vi (i : Int))]) (fun _ => _) (fun ⟨i, hi⟩ => p.tasks.length - i) ⟨0, by omega, by omega⟩ rfl (fun _ h => h) (fun ⟨i, hi⟩ => ?_)
    refine JS_live [(17, _), (0, _), (15, _), (16, _)] rfl ?_
    refine JS_seq ?_
    refine JS_region ?_
    refine RJ_float (FS_int rfl rfl rfl) rfl ?_
    refine RJ_nil ?_
    refine JS_seq ?_
    refine JS_condD rfl (fun h18 => ?_) (fun h18 => ?_)
    · have h18 : i < p.tasks.length := by omega
      have r1 := hw.2.1.partT Task.csl (by decide) h18
      refine JS_skip ?_
      refine JS_seq ?_
      refine JS_block ?_
      refine JS_seq ?_
      refine JS_region ?_
      refine RJ_float (FS_move rfl) rfl ?_
      refine RJ_float (FS_indexT Try.tab rfl rfl rfl r1.1 (by omega) (by omega)) rfl ?_
      refine RJ_float (FS_loadB0 Try.tab rfl rfl own0 r1.2 rfl) rfl ?_
      refine RJ_loud (LS_alloc Try.tab rfl) rfl fun b4 => ?_
      refine RJ_mem [_] rfl ?_
      refine RJ_float (FS_assign rfl) rfl ?_
      refine RJ_loud (LS_store Try.tab (i := 0) rfl rfl rfl rfl rfl rfl rfl rfl) rfl fun _ => ?_
      refine RJ_mem [_] rfl ?_
      refine RJ_nil ?_
      refine JS_seq ?_
      refine JS_region ?_
      refine RJ_float (FS_makeFunc rfl rfl) rfl ?_
      refine RJ_float (FS_assign rfl) rfl ?_
      refine RJ_nil ?_
      refine JS_seq ?_
      refine JS_region ?_
      refine RJ_float (FS_loadK Try.tab 0 rfl rfl rfl rfl) rfl ?_
      refine RJ_fun (LS_fun (Try.can rfl) (taskMay_c p.tasks[i]) rfl (fun _ _ => trivial)) rfl ?_
      refine RJ_float (FS_not rfl) rfl ?_
      refine RJ_float (FS_move rfl) rfl ?_
      refine RJ_g rfl rfl gvF (fun hg => (FS_move rfl)) rfl ?_
      refine RJ_g rfl rfl gvF (fun hg => (FS_nilCheck (gx hg rfl))) rfl ?_
      refine RJ_g rfl rfl gvF (fun hg => (FS_field Try.tab (gx hg rfl) rfl)) rfl ?_
      refine RJ_g rfl rfl gvF (fun hg => (FS_loadB Try.tab (gx hg rfl) rfl own0 hw.1 rfl)) rfl ?_
      refine RJ_g rfl rfl gvF (fun hg => (FS_int (gx hg rfl) rfl rfl)) rfl ?_
      refine RJ_g rfl rfl gvF (fun hg => (FS_move (gx hg rfl))) rfl ?_
      refine RJ_g rfl rfl gv2T (fun hg => (FS_field Try.tab rfl rfl)) rfl ?_
      refine RJ_g rfl rfl gv2T (fun hg => (FS_loadK Try.tab 0 (gx hg rfl) rfl rfl rfl)) rfl ?_
      refine RJ_g rfl rfl gv2T (fun hg => (FS_field Try.tab rfl rfl)) rfl ?_
      refine RJ_g rfl rfl gv2T (fun hg => (FS_loadK Try.tab 0 (gx hg rfl) rfl rfl rfl)) rfl ?_
      refine RJ_g rfl rfl gv2T (fun hg => (FS_int (gx hg rfl) (gx hg rfl) rfl)) rfl ?_
      refine RJ_g rfl rfl gvF (fun hg => (FS_and (gx hg rfl) (gx2 hg rfl))) rfl ?_
      refine RJ_float (FS_or rfl rfl) rfl ?_
      refine RJ_float (FS_move rfl) rfl ?_
      refine RJ_g rfl rfl gvF (fun hg => (FS_move rfl)) rfl ?_
      refine RJ_g rfl rfl gvF (fun hg => (FS_nilCheck (gx hg rfl))) rfl ?_
      refine RJ_g rfl rfl gvF (fun hg => (FS_field Try.tab (gx hg rfl) rfl)) rfl ?_
      refine RJ_g rfl rfl gvF (fun hg => (FS_loadB Try.tab (gx hg rfl) rfl own0 hw.1 rfl)) rfl ?_
      refine RJ_g rfl rfl gvF (fun hg => (FS_move rfl)) rfl ?_
      refine RJ_g rfl rfl gvF (fun hg => (FS_val (v' := .slice p.tA (p.tasks.take i).length p.tc) (FS_slice Try.tab (gx hg rfl) rfl rfl ⟨_, (gx hg rfl)⟩ (by omega) (by omega)) (by rw [slA_zero, List.length_take, Nat.min_eq_left (by omega)]; rfl))) rfl ?_
      refine RJ_g rfl rfl gvF (fun hg => (FS_move rfl)) rfl ?_
      refine RJ_gfun rfl rfl gvF (fun hg => (LS_under [(46, _), (47, _)] (LE_cons (gx hg rfl) (LE_cons (gx hg rfl) LE_nil)) (LS_fun (Try.can rfl) (containsT_c _ _ (p.tasks.take i) 44 #[] #[vp b4 0] (fun x => x.prio == p.tasks[i].prio) (fun _ w => w.rangeAt b4 0 p.tasks[i].cs) Keeps.range (Try.can rfl) (fun x _ => tasks1_c x _ _ p.tasks[i])) rfl (fun w h => by exact ⟨by rw [← rows_take Task.csl]; exact (h.rowB rfl hw.2.1).take _, by simp; omega, fun _ _ => h.range 0 rfl⟩)))) rfl ?_
      refine RJ_float (FS_or rfl rfl) rfl ?_
      refine RJ_nil ?_
      refine JS_live [(17, _), (0, _), (15, _), (16, _), (49, _)] rfl ?_
      refine JS_cond rfl (fun h49 => ?_) (fun h49 => ?_)
      · try simp only [Bool.and_eq_true, Bool.or_eq_true, Bool.and_eq_false_iff, Bool.or_eq_false_iff, Bool.not_eq_true', Bool.not_eq_false', decide_eq_true_eq, decide_eq_false_iff_not, beq_iff_eq, bne_iff_ne, beq_eq_false_iff_ne, bne_eq_false_iff_eq] at h49
        refine JS_seq ?_
        refine JS_region ?_
        refine RJ_float (FS_assign rfl) rfl ?_
        refine RJ_nil ?_
        exact JS_retv rfl (.tmp rfl .nil) (retF fun h => by
        have h2 := h.2 i h18
        rcases h49 with (h49 | h49) | h49
        · rw [h49] at h2; simp at h2
        · exact h49.2 (h2.2.1 h49.1)
        · simp only [List.any_eq_true, beq_iff_eq] at h49
          obtain ⟨x, hx, hxe⟩ := h49
          exact h2.2.2 x hx hxe)
      · try simp only [Bool.and_eq_true, Bool.or_eq_true, Bool.and_eq_false_iff, Bool.or_eq_false_iff, Bool.not_eq_true', Bool.not_eq_false', decide_eq_true_eq, decide_eq_false_iff_not, beq_iff_eq, bne_iff_ne, beq_eq_false_iff_ne, bne_eq_false_iff_eq] at h49
        have hgood : p.tasks[i].ok = true ∧ (p.level = 0 → p.tasks[i].cHigh = p.tasks[i].cLow) ∧ ∀ x ∈ p.tasks.take i, x.prio ≠ p.tasks[i].prio := ⟨h49.1.1, fun hl => by have := h49.1.2; grind, fun x hx he => by have := h49.2; rw [List.any_eq_false] at this; exact this x hx (by simp [he])⟩
        refine JS_skip ?_
        refine JS_blk ?_
        refine JS_region ?_
        refine RJ_float (FS_add rfl rfl (by omega) (by omega)) rfl ?_
        refine RJ_float (FS_move rfl) rfl ?_
        refine RJ_nil ?_
        exact JS_againF ⟨i + 1, by omega, fa_succ hi.2 fun _ => hgood⟩ (by simp; omega) rfl (fun _ h => h.pick (is := []) (by decide))
    · have h18 : ¬ i < p.tasks.length := by omega
      refine JS_exit rfl ?_
      refine JS_seq ?_
      refine JS_region ?_
      refine RJ_float (FS_assign rfl) rfl ?_
      refine RJ_nil ?_
      exact JS_retv rfl (.tmp rfl .nil) (retT ⟨by omega, fun k hk => hi.2 k hk (by omega)⟩)
theorem check1_c (p : Part) : Ctr Try.prog 24 [agg p.cs] (fun w => p.at w) ([]) (fun _ : Unit => .bool (!levelB p.level)) (fun _ => []) := by
  refine Ctr.of Try.func24 rfl (Nat.le_of_ble_eq_true rfl) fun w hw => ?_
  refine JS_live [(0, _)] rfl ?_
  refine JS_seq ?_
  refine JS_region ?_
  refine RJ_loud (LS_box rfl rfl) rfl fun b1 => ?_
  refine RJ_mem [_] rfl ?_
  refine RJ_float (FS_assign rfl) rfl ?_
  refine RJ_nil ?_
  refine JS_seq ?_
  refine JS_region ?_
  refine RJ_float (FS_field Try.tab rfl rfl) rfl ?_
  refine RJ_float (FS_loadK Try.tab 0 rfl rfl rfl rfl) rfl ?_
  refine RJ_fun (LS_fun (Try.can rfl) (level_c _) rfl (fun _ _ => trivial)) rfl ?_
  refine RJ_float (FS_not rfl) rfl ?_
  refine RJ_float (FS_assign rfl) rfl ?_
  refine RJ_nil ?_
  exact JS_retv rfl (.tmp rfl .nil) (rfl)
theorem check2_c (p : Part) : Ctr Try.prog 26 [agg p.cs] (fun w => p.at w) ([]) (fun _ : Unit => .bool (!decide (TasksOk p.level p.tasks))) (fun _ => []) := by
  refine Ctr.of Try.func26 rfl (Nat.le_of_ble_eq_true rfl) fun w hw => ?_
  refine JS_live [(0, _)] rfl ?_
  refine JS_seq ?_
  refine JS_region ?_
  refine RJ_loud (LS_box rfl rfl) rfl fun b1 => ?_
  refine RJ_mem [_] rfl ?_
  refine RJ_float (FS_assign rfl) rfl ?_
  refine RJ_nil ?_
  refine JS_seq ?_
  refine JS_region ?_
  refine RJ_fun (LS_fun (Try.can rfl) (tasks_c _ _ p) rfl (fun w h => ⟨h.range 0 rfl, Part.keeps _ _ _ h.only hw⟩)) rfl ?_
  refine RJ_float (FS_not rfl) rfl ?_
  refine RJ_float (FS_assign rfl) rfl ?_
  refine RJ_nil ?_
  exact JS_retv rfl (.tmp rfl .nil) (rfl)
theorem check3_c (p : Part) : Ctr Try.prog 28 [agg p.cs] (fun w => p.at w) ([]) (fun _ : Unit => .bool (!codeB p.code)) (fun _ => []) := by
  refine Ctr.of Try.func28 rfl (Nat.le_of_ble_eq_true rfl) fun w hw => ?_
  refine JS_live [(0, _)] rfl ?_
  refine JS_seq ?_
  refine JS_region ?_
  refine RJ_loud (LS_box rfl rfl) rfl fun b1 => ?_
  refine RJ_mem [_] rfl ?_
  refine RJ_float (FS_assign rfl) rfl ?_
  refine RJ_nil ?_
  refine JS_seq ?_
  refine JS_region ?_
  refine RJ_float (FS_field Try.tab rfl rfl) rfl ?_
  refine RJ_float (FS_loadK Try.tab 0 rfl rfl rfl rfl) rfl ?_
  refine RJ_fun (LS_fun (Try.can rfl) (codeMay_c _ _ p.code) rfl (fun w h => ⟨h.rowB rfl hw.2.1, hw.2.2.2.2⟩)) rfl ?_
  refine RJ_float (FS_not rfl) rfl ?_
  refine RJ_float (FS_assign rfl) rfl ?_
  refine RJ_nil ?_
  exact JS_retv rfl (.tmp rfl .nil) (rfl)
theorem windows_c (b o : Nat) (c : Cfg) : Ctr Try.prog 33 [vp b o] (fun w => w.rangeAt b o c.cs ∧ c.at w) ([]) (fun _ : Unit => .bool (winsB c 0 c.wins && decide (c.wins.length ≤ 32))) (fun _ => []) := by
  refine Ctr.of Try.func33 rfl (Nat.le_of_ble_eq_true rfl) fun w hw => ?_
  refine JS_live [(0, _)] rfl ?_
  refine JS_seq ?_
  refine JS_region ?_
  refine RJ_float (FS_assign rfl) rfl ?_
  refine RJ_nil ?_
  refine JS_seq ?_
  refine JS_region ?_
  refine RJ_float (FS_assign rfl) rfl ?_
  refine RJ_nil ?_
  refine JS_seq ?_
  refine JS_seq ?_
  refine JS_region ?_
  refine RJ_float (FS_move rfl) rfl ?_
  refine RJ_float (FS_nilCheck rfl) rfl ?_
  refine RJ_float (FS_field Try.tab rfl rfl) rfl ?_
  refine RJ_float (FS_loadB Try.tab rfl rfl own0 hw.1 rfl) rfl ?_
  refine RJ_float (FS_len Try.tab rfl rfl) rfl ?_
  refine RJ_float (FS_move rfl) rfl ?_
  refine RJ_nil ?_
  refine JS_block ?_
  refine JS_loopF (ι := {i : Nat // i ≤ c.wins.length ∧ winsB c 0 (c.wins.take i) = true}) [(0, _), (9, _), (10, _)] (fun ⟨i, hi⟩ => [(11, vi (i : Int)), (3, vi (endW (c.wins.take i)))]) (fun _ => _) (fun ⟨i, hi⟩ => c.wins.length - i) ⟨0, by simp, by simp [winsB]⟩ rfl (fun _ h => h) (fun ⟨i, hi⟩ => ?_)
  refine JS_live [(11, _), (3, _), (0, _), (9, _), (10, _)] rfl ?_
  have hb := hw.2.lw
  refine JS_seq ?_
  refine JS_region ?_
  refine RJ_float (FS_int rfl rfl rfl) rfl ?_
  refine RJ_nil ?_
  refine JS_seq ?_
  refine JS_condD rfl (fun h12 => ?_) (fun h12 => ?_)
  · have h12 : i < c.wins.length := by omega
    have r1 := hw.2.fw.partT Win.csl (by decide) h12
    refine JS_skip ?_
    refine JS_seq ?_
    refine JS_block ?_
    refine JS_seq ?_
    refine JS_region ?_
    refine RJ_float (FS_indexT Try.tab rfl rfl rfl r1.1 (by omega) (by omega)) rfl ?_
    refine RJ_float (FS_loadB0 Try.tab rfl rfl own0 r1.2 rfl) rfl ?_
    refine RJ_loud (LS_alloc Try.tab rfl) rfl fun b5 => ?_
    refine RJ_mem [_] rfl ?_
    refine RJ_loud (LS_store Try.tab (i := 0) rfl rfl rfl rfl rfl rfl rfl rfl) rfl fun _ => ?_
    refine RJ_mem [_] rfl ?_
    refine RJ_nil ?_
    refine JS_seq ?_
    refine JS_seq ?_
    refine JS_drawn Try.mixed [(0, false), (2, false), (1, false), (3, false), (4, false), (5, false), (7, false), (6, false), (8, false), (9, false), (10, false), (11, false), (12, false), (14, false), (13, false), (15, false), (16, false), (17, false), (18, false), (19, false), (20, false), (21, false), (22, false), (23, false), (24, false), (25, false), (26, false), (28, false), (27, false), (29, false), (30, false), (31, false), (32, false), (33, false), (34, false)] (by kernel_rfl) fun R1 => ?_
    refine HQ_p R1 rfl rfl (fun _ => (FS_field Try.tab rfl rfl)) rfl ?_
    refine HQ_p R1 rfl rfl (fun _ => (FS_move rfl)) rfl ?_
    refine HQ_l R1 rfl rfl (FS_loadK Try.tab 0 rfl rfl rfl rfl) rfl ?_
    refine HQ_p R1 rfl rfl (fun _ => (FS_int rfl rfl rfl)) rfl ?_
    refine HQ_p R1 rfl rfl (fun _ => (FS_move rfl)) rfl ?_
    refine HQ_pg R1 rfl rfl rfl rfl gvF (fun hg _ => (FS_field Try.tab rfl rfl)) rfl ?_
    refine HQ_pg R1 rfl rfl rfl rfl gvF (fun hg _ => (FS_field Try.tab rfl rfl)) rfl ?_
    refine HQ_lg R1 rfl rfl rfl rfl gvF (fun hg => (FS_loadK Try.tab 0 (gx hg rfl) rfl rfl rfl)) rfl ?_
    refine HQ_lg R1 rfl rfl rfl rfl gvF (fun hg => (FS_loadK Try.tab 0 (gx hg rfl) rfl rfl rfl)) rfl ?_
    refine HQ_pg R1 rfl rfl rfl rfl gvF (fun hg _ => (FS_int (gx hg rfl) (gx hg rfl) rfl)) rfl ?_
    refine HQ_p R1 rfl rfl (fun _ => (FS_or rfl rfl)) rfl ?_
    refine HQ_p R1 rfl rfl (fun _ => (FS_move rfl)) rfl ?_
    refine HQ_pg R1 rfl rfl rfl rfl gvF (fun hg _ => (FS_field Try.tab rfl rfl)) rfl ?_
    refine HQ_pg R1 rfl rfl rfl rfl gvF (fun hg _ => (FS_move rfl)) rfl ?_
    refine HQ_lg R1 rfl rfl rfl rfl gvF (fun hg => (FS_loadK Try.tab 0 (gx hg rfl) rfl rfl rfl)) rfl ?_
    refine HQ_pg R1 rfl rfl rfl rfl gvF (fun hg _ => (FS_nilCheck (gx hg rfl))) rfl ?_
    refine HQ_pg R1 rfl rfl rfl rfl gvF (fun hg _ => (FS_field Try.tab (gx hg rfl) rfl)) rfl ?_
    refine HQ_lg R1 rfl rfl rfl rfl gvF (fun hg => (FS_loadB Try.tab (gx hg rfl) rfl own0 hw.1 rfl)) rfl ?_
    refine HQ_pg R1 rfl rfl rfl rfl gvF (fun hg _ => (FS_int (gx hg rfl) (gx hg rfl) rfl)) rfl ?_
    refine HQ_p R1 rfl rfl (fun _ => (FS_or rfl rfl)) rfl ?_
    refine HQ_p R1 rfl rfl (fun _ => (FS_move rfl)) rfl ?_
    refine HQ_pg R1 rfl rfl rfl rfl gvF (fun hg _ => (FS_field Try.tab rfl rfl)) rfl ?_
    refine HQ_lg R1 rfl rfl rfl rfl gvF (fun hg => (FS_loadK Try.tab 0 (gx hg rfl) rfl rfl rfl)) rfl ?_
    refine HQ_pg R1 rfl rfl rfl rfl gvF (fun hg _ => (FS_int (gx hg rfl) rfl rfl)) rfl ?_
    refine HQ_p R1 rfl rfl (fun _ => (FS_or rfl rfl)) rfl ?_
    refine HQ_p R1 rfl rfl (fun _ => (FS_move rfl)) rfl ?_
    refine HQ_pg R1 rfl rfl rfl rfl gvF (fun hg _ => (FS_field Try.tab rfl rfl)) rfl ?_
    refine HQ_pg R1 rfl rfl rfl rfl gvF (fun hg _ => (FS_move rfl)) rfl ?_
    refine HQ_lg R1 rfl rfl rfl rfl gvF (fun hg => (FS_loadK Try.tab 0 (gx hg rfl) rfl rfl rfl)) rfl ?_
    refine HQ_pg R1 rfl rfl rfl rfl gvF (fun hg _ => (FS_nilCheck (gx hg rfl))) rfl ?_
    refine HQ_pg R1 rfl rfl rfl rfl gvF (fun hg _ => (FS_field Try.tab (gx hg rfl) rfl)) rfl ?_
    refine HQ_lg R1 rfl rfl rfl rfl gvF (fun hg => (FS_loadB Try.tab (gx hg rfl) rfl own0 hw.1 rfl)) rfl ?_
    refine HQ_pg R1 rfl rfl rfl rfl gvF (fun hg _ => (FS_len Try.tab (gx hg rfl) rfl)) rfl ?_
    refine HQ_pg R1 rfl rfl rfl rfl gvF (fun hg _ => (FS_int (gx hg rfl) (gx hg rfl) rfl)) rfl ?_
    refine HQ_p R1 rfl rfl (fun _ => (FS_or rfl rfl)) rfl ?_
    refine HQ_end R1 rfl ?_
    clear R1
    refine JS_live [(11, _), (0, _), (9, _), (10, _), (5, _), (49, _)] rfl ?_
    refine JS_cond rfl (fun h49 => ?_) (fun h49 => ?_)
    · have hbad : winB c (endW (c.wins.take i)) c.wins[i] = false := by simp only [winB, h49, Bool.not_true]
      refine JS_seq ?_
      refine JS_region ?_
      refine RJ_float (FS_assign rfl) rfl ?_
      refine RJ_nil ?_
      exact JS_retv rfl (.tmp rfl .nil) (by rw [winsB_bad h12 hbad]; rfl)
    · have hgood : winB c (endW (c.wins.take i)) c.wins[i] = true := by simp only [winB, h49, Bool.not_false]
      refine JS_skip ?_
      refine JS_region ?_
      refine RJ_float (FS_field Try.tab rfl rfl) rfl ?_
      refine RJ_float (FS_loadK Try.tab 0 rfl rfl rfl rfl) rfl ?_
      refine RJ_float (FS_assign rfl) rfl ?_
      refine RJ_nil ?_
      refine JS_blk ?_
      refine JS_region ?_
      refine RJ_float (FS_add rfl rfl (by omega) (by omega)) rfl ?_
      refine RJ_float (FS_move rfl) rfl ?_
      refine RJ_nil ?_
      exact JS_againF ⟨i + 1, by omega, winsB_more h12 hi.2 hgood⟩ (by simp; omega) (by simp only [endW_succ h12]; rfl) (fun _ h => h.pick (is := []) (by decide))
  · have h12 : ¬ i < c.wins.length := by omega
    have hall := hi.2
    rw [List.take_of_length_le (by omega)] at hall
    refine JS_exit rfl ?_
    refine JS_seq ?_
    refine JS_region ?_
    refine RJ_float (FS_move rfl) rfl ?_
    refine RJ_float (FS_nilCheck rfl) rfl ?_
    refine RJ_float (FS_field Try.tab rfl rfl) rfl ?_
    refine RJ_float (FS_loadB Try.tab rfl rfl own0 hw.1 rfl) rfl ?_
    refine RJ_float (FS_len Try.tab rfl rfl) rfl ?_
    refine RJ_float (FS_int rfl rfl rfl) rfl ?_
    refine RJ_float (FS_assign rfl) rfl ?_
    refine RJ_nil ?_
    refine JS_live [(2, _)] rfl ?_
    exact JS_retv rfl (.tmp rfl .nil) (by rw [hall]; simp [one]; omega)
end Go.Proofs.Ytmhjcemcjfkejaa
