/- configurations: Check -/
import Derived.Test.YtmhjcemcjfkejaaA11
namespace Go.Proofs.Ytmhjcemcjfkejaa
open Go.RowKit
open Go.Proofs
set_option linter.unusedVariables false
set_option linter.unusedSimpArgs false
set_option linter.unnecessarySimpa false
set_option maxRecDepth 20000
theorem is_c (b o : Nat) (c : Cfg) (p l : Int) : Ctr Try.prog 47 [vp b o, vi p, vi l] (fun w => w.rangeAt b o c.cs ∧ c.at w) ([]) (fun _ : Unit => .bool (isB c p l)) (fun _ => []) := by
  refine Ctr.of Try.func47 rfl (Nat.le_of_ble_eq_true rfl) fun w hw => ?_
  have r : 0 ≤ p → p < c.parts.length → (∃ b q, c.pA = some ⟨b, q, none⟩) ∧ w.rangeAt (blkA c.pA) (offA c.pA + p.toNat * 3) (c.parts.getD p.toNat dP).cs := fun h1 h2 => by
      rw [getD_lt (by omega)]
      exact hw.2.fp.partT Part.csl (by decide) (by omega)
  refine JS_live [(0, _), (1, _), (2, _)] rfl ?_
  refine JS_seq ?_
  refine JS_region ?_
  refine RJ_float (FS_assign rfl) rfl ?_
  refine RJ_nil ?_
  refine JS_seq ?_
  refine JS_region ?_
  refine RJ_float (FS_move rfl) rfl ?_
  refine RJ_float (FS_int rfl rfl rfl) rfl ?_
  refine RJ_float (FS_move rfl) rfl ?_
  refine RJ_g rfl rfl gvT (fun hg => (FS_move rfl)) rfl ?_
  refine RJ_g rfl rfl gvT (fun hg => (FS_move rfl)) rfl ?_
  refine RJ_g rfl rfl gvT (fun hg => (FS_nilCheck (gx hg rfl))) rfl ?_
  refine RJ_g rfl rfl gvT (fun hg => (FS_field Try.tab (gx hg rfl) rfl)) rfl ?_
  refine RJ_g rfl rfl gvT (fun hg => (FS_loadB Try.tab (gx hg rfl) rfl own0 hw.1 rfl)) rfl ?_
  refine RJ_g rfl rfl gvT (fun hg => (FS_len Try.tab (gx hg rfl) rfl)) rfl ?_
  refine RJ_g rfl rfl gvT (fun hg => (FS_int (gx hg rfl) (gx hg rfl) rfl)) rfl ?_
  refine RJ_float (FS_and rfl rfl) rfl ?_
  refine RJ_float (FS_move rfl) rfl ?_
  refine RJ_g rfl rfl gvT (fun hg => (FS_move rfl)) rfl ?_
  refine RJ_g rfl rfl gvT (fun hg => (FS_nilCheck (gx hg rfl))) rfl ?_
  refine RJ_g rfl rfl gvT (fun hg => (FS_field Try.tab (gx hg rfl) rfl)) rfl ?_
  refine RJ_g rfl rfl gvT (fun hg => (FS_loadB Try.tab (gx hg rfl) rfl own0 hw.1 rfl)) rfl ?_
  refine RJ_g rfl rfl gvT (fun hg => (FS_move rfl)) rfl ?_
  refine RJ_g rfl rfl gvT (fun hg => (FS_indexT Try.tab (gx hg rfl) (gx hg rfl) rfl (r (by simp at hg; omega) (by simp at hg; omega)).1 (by simp at hg; omega) (by simp at hg; omega))) rfl ?_
  refine RJ_g rfl rfl gvT (fun hg => (FS_field Try.tab (gx hg rfl) rfl)) rfl ?_
  refine RJ_g rfl rfl gvT (fun hg => (FS_loadB Try.tab (gx hg rfl) rfl own0 (r (by simp at hg; omega) (by simp at hg; omega)).2 rfl)) rfl ?_
  refine RJ_g rfl rfl gvT (fun hg => (FS_move rfl)) rfl ?_
  refine RJ_g rfl rfl gvT (fun hg => (FS_int (gx hg rfl) (gx hg rfl) rfl)) rfl ?_
  refine RJ_float (FS_and rfl rfl) rfl ?_
  refine RJ_float (FS_assign rfl) rfl ?_
  refine RJ_nil ?_
  refine JS_live [(6, _)] rfl ?_
  exact JS_retv rfl (.tmp rfl .nil) (rfl)
theorem port_c (b o : Nat) (c : Cfg) (p : Port) : Ctr Try.prog 31 [vp b o, agg p.cs] (fun w => w.rangeAt b o c.cs ∧ c.at w) ([]) (fun _ : Unit => .bool (portB c p)) (fun _ => []) := by
  refine Ctr.of Try.func31 rfl (Nat.le_of_ble_eq_true rfl) fun w hw => ?_
  refine JS_live [(0, _), (1, _)] rfl ?_
  refine JS_seq ?_
  refine JS_region ?_
  refine RJ_loud (LS_box rfl rfl) rfl fun b3 => ?_
  refine RJ_mem [_] rfl ?_
  refine RJ_float (FS_assign rfl) rfl ?_
  refine RJ_nil ?_
  refine JS_seq ?_
  refine JS_region ?_
  refine RJ_float (FS_assign rfl) rfl ?_
  refine RJ_nil ?_
  refine JS_seq ?_
  refine JS_seq ?_
  refine JS_region ?_
  refine RJ_float (FS_field Try.tab rfl rfl) rfl ?_
  refine RJ_float (FS_loadK Try.tab 0 rfl rfl rfl rfl) rfl ?_
  refine RJ_nil ?_
  refine JS_block ?_
  refine JS_seq ?_
  refine JS_region ?_
  refine RJ_float (FS_int rfl rfl rfl) rfl ?_
  refine RJ_float (FS_assign rfl) rfl ?_
  refine RJ_nil ?_
  refine JS_condE rfl (fun h8 => ?_) (fun h8 => ?_)
  · refine JS_region ?_
    refine RJ_float (FS_assign rfl) rfl ?_
    refine RJ_nil ?_
    refine JS_blk ?_
    refine JS_seq ?_
    refine JS_region ?_
    refine RJ_float (FS_field Try.tab rfl rfl) rfl ?_
    refine RJ_float (FS_loadK Try.tab 0 rfl rfl rfl rfl) rfl ?_
    refine RJ_float (FS_int rfl rfl rfl) rfl ?_
    refine RJ_float (FS_move rfl) rfl ?_
    refine RJ_g rfl rfl gvT (fun hg => (FS_field Try.tab rfl rfl)) rfl ?_
    refine RJ_g rfl rfl gvT (fun hg => (FS_loadK Try.tab 0 (gx hg rfl) rfl rfl rfl)) rfl ?_
    refine RJ_g rfl rfl gvT (fun hg => (FS_move rfl)) rfl ?_
    refine RJ_g rfl rfl gvT (fun hg => (FS_int (gx hg rfl) (gx hg rfl) rfl)) rfl ?_
    refine RJ_float (FS_and rfl rfl) rfl ?_
    refine RJ_float (FS_move rfl) rfl ?_
    refine RJ_g rfl rfl gvT (fun hg => (FS_move rfl)) rfl ?_
    refine RJ_g rfl rfl gvT (fun hg => (FS_field Try.tab rfl rfl)) rfl ?_
    refine RJ_g rfl rfl gvT (fun hg => (FS_loadK Try.tab 0 (gx hg rfl) rfl rfl rfl)) rfl ?_
    refine RJ_gfun rfl rfl gvT (fun hg => (LS_under [(22, _), (24, _)] (LE_cons (gx hg rfl) (LE_cons (gx hg rfl) LE_nil)) (LS_fun (Try.can rfl) (is_c _ _ c p.fr 1) rfl (fun w h => ⟨h.rangeB own0 hw.1, hw.2.only h.only⟩)))) rfl ?_
    refine RJ_float (FS_and rfl rfl) rfl ?_
    refine RJ_float (FS_move rfl) rfl ?_
    refine RJ_g rfl rfl gvT (fun hg => (FS_move rfl)) rfl ?_
    refine RJ_g rfl rfl gvT (fun hg => (FS_field Try.tab rfl rfl)) rfl ?_
    refine RJ_g rfl rfl gvT (fun hg => (FS_loadK Try.tab 0 (gx hg rfl) rfl rfl rfl)) rfl ?_
    refine RJ_gfun rfl rfl gvT (fun hg => (LS_under [(28, _), (30, _)] (LE_cons (gx hg rfl) (LE_cons (gx hg rfl) LE_nil)) (LS_fun (Try.can rfl) (is_c _ _ c p.to 0) rfl (fun w h => ⟨h.rangeB own0 hw.1, hw.2.only h.only⟩)))) rfl ?_
    refine RJ_float (FS_and rfl rfl) rfl ?_
    refine RJ_float (FS_assign rfl) rfl ?_
    refine RJ_nil ?_
    refine JS_live [(4, _)] rfl ?_
    exact JS_retv rfl (.tmp rfl .nil) (by simp [one, portB, h8])
  · refine JS_seq ?_
    refine JS_region ?_
    refine RJ_float (FS_int rfl rfl rfl) rfl ?_
    refine RJ_float (FS_assign rfl) rfl ?_
    refine RJ_nil ?_
    refine JS_live [(0, _), (3, _), (5, _), (10, _)] rfl ?_
    refine JS_condE rfl (fun h10 => ?_) (fun h10 => ?_)
    · refine JS_skip ?_
      refine JS_blk ?_
      refine JS_seq ?_
      refine JS_region ?_
      refine RJ_float (FS_field Try.tab rfl rfl) rfl ?_
      refine RJ_float (FS_loadK Try.tab 0 rfl rfl rfl rfl) rfl ?_
      refine RJ_float (FS_int rfl rfl rfl) rfl ?_
      refine RJ_float (FS_move rfl) rfl ?_
      refine RJ_g rfl rfl gvT (fun hg => (FS_field Try.tab rfl rfl)) rfl ?_
      refine RJ_g rfl rfl gvT (fun hg => (FS_loadK Try.tab 0 (gx hg rfl) rfl rfl rfl)) rfl ?_
      refine RJ_g rfl rfl gvT (fun hg => (FS_move rfl)) rfl ?_
      refine RJ_g rfl rfl gvT (fun hg => (FS_int (gx hg rfl) (gx hg rfl) rfl)) rfl ?_
      refine RJ_float (FS_and rfl rfl) rfl ?_
      refine RJ_float (FS_move rfl) rfl ?_
      refine RJ_g rfl rfl gvT (fun hg => (FS_move rfl)) rfl ?_
      refine RJ_g rfl rfl gvT (fun hg => (FS_field Try.tab rfl rfl)) rfl ?_
      refine RJ_g rfl rfl gvT (fun hg => (FS_loadK Try.tab 0 (gx hg rfl) rfl rfl rfl)) rfl ?_
      refine RJ_gfun rfl rfl gvT (fun hg => (LS_under [(22, _), (24, _)] (LE_cons (gx hg rfl) (LE_cons (gx hg rfl) LE_nil)) (LS_fun (Try.can rfl) (is_c _ _ c p.fr 1) rfl (fun w h => ⟨h.rangeB own0 hw.1, hw.2.only h.only⟩)))) rfl ?_
      refine RJ_float (FS_and rfl rfl) rfl ?_
      refine RJ_float (FS_move rfl) rfl ?_
      refine RJ_g rfl rfl gvT (fun hg => (FS_move rfl)) rfl ?_
      refine RJ_g rfl rfl gvT (fun hg => (FS_field Try.tab rfl rfl)) rfl ?_
      refine RJ_g rfl rfl gvT (fun hg => (FS_loadK Try.tab 0 (gx hg rfl) rfl rfl rfl)) rfl ?_
      refine RJ_gfun rfl rfl gvT (fun hg => (LS_under [(28, _), (30, _)] (LE_cons (gx hg rfl) (LE_cons (gx hg rfl) LE_nil)) (LS_fun (Try.can rfl) (is_c _ _ c p.to 0) rfl (fun w h => ⟨h.rangeB own0 hw.1, hw.2.only h.only⟩)))) rfl ?_
      refine RJ_float (FS_and rfl rfl) rfl ?_
      refine RJ_float (FS_assign rfl) rfl ?_
      refine RJ_nil ?_
      refine JS_live [(4, _)] rfl ?_
      exact JS_retv rfl (.tmp rfl .nil) (by simp [one, portB, h10])
    · refine JS_seq ?_
      refine JS_region ?_
      refine RJ_float (FS_assign rfl) rfl ?_
      refine RJ_nil ?_
      exact JS_retv rfl (.tmp rfl .nil) (by simp [one, portB, h8, h10])
theorem check4_c (p : Port) (b o : Nat) (c : Cfg) : Ctr Try.prog 30 [agg p.cs, vp b o] (fun w => w.rangeAt b o c.cs ∧ c.at w) ([]) (fun _ : Unit => .bool (!portB c p)) (fun _ => []) := by
  refine Ctr.of Try.func30 rfl (Nat.le_of_ble_eq_true rfl) fun w hw => ?_
  refine JS_live [(0, _), (1, _)] rfl ?_
  refine JS_seq ?_
  refine JS_region ?_
  refine RJ_loud (LS_box rfl rfl) rfl fun b2 => ?_
  refine RJ_mem [_] rfl ?_
  refine RJ_float (FS_assign rfl) rfl ?_
  refine RJ_nil ?_
  refine JS_seq ?_
  refine JS_region ?_
  refine RJ_float (FS_loadK Try.tab 0 rfl rfl rfl rfl) rfl ?_
  refine RJ_fun (LS_fun (Try.can rfl) (port_c _ _ c p) rfl (fun w h => ⟨h.rangeB own0 hw.1, hw.2.only h.only⟩)) rfl ?_
  refine RJ_float (FS_not rfl) rfl ?_
  refine RJ_float (FS_assign rfl) rfl ?_
  refine RJ_nil ?_
  exact JS_retv rfl (.tmp rfl .nil) (rfl)
theorem indexO_c (A : Option Addr) (ca : Nat) (xs : List Port) (fid : Nat) (first cap : Array Value) (p : Port → Bool) (q : Port → World → Prop) (hq : Keeps q) (hcall : callable Try.prog fid = true) (hctr : ∀ x, x ∈ xs → Ctr Try.prog fid (first.toList ++ [agg (Port.cs x)] ++ cap.toList) (q x) [] (fun _ : Unit => .bool (p x)) (fun _ => [])) : Ctr Try.prog 49 [.slice A xs.length ca, .func (.func fid) first cap] (fun w => RowAt w A (rows Port.cs xs) ∧ xs.length ≤ 4294967296 ∧ ∀ x, x ∈ xs → q x w) ([]) (fun _ : Unit => vi (idxF p xs)) (fun _ => []) := by
  refine Ctr.of Try.func49 rfl (Nat.le_of_ble_eq_true rfl) fun w hw => ?_
  refine JS_live [(0, _), (1, _)] rfl ?_
  refine JS_seq ?_
  refine JS_region ?_
  refine RJ_float (FS_assign rfl) rfl ?_
  refine RJ_nil ?_
  refine JS_seq ?_
  refine JS_seq ?_
  refine JS_region ?_
  refine RJ_float (FS_move rfl) rfl ?_
  refine RJ_float (FS_len Try.tab rfl rfl) rfl ?_
  refine RJ_float (FS_move rfl) rfl ?_
  refine RJ_nil ?_
  refine JS_block ?_
  refine JS_loopF (ι := {i : Nat // i ≤ xs.length ∧ ∀ k (h : k < xs.length), k < i → p (xs[k]'h) = false}) [(0, _), (1, _), (7, _)] (fun ⟨i, hi⟩ => [(8, vi (i : Int))]) (fun _ => _) (fun ⟨i, hi⟩ => xs.length - i) ⟨0, by omega, by omega⟩ rfl (fun _ h => h) (fun ⟨i, hi⟩ => ?_)
  refine JS_live [(8, _), (0, _), (1, _), (7, _)] rfl ?_
  have hb := hw.2.1
  refine JS_seq ?_
  refine JS_region ?_
  refine RJ_float (FS_int rfl rfl rfl) rfl ?_
  refine RJ_nil ?_
  refine JS_seq ?_
  refine JS_condD rfl (fun h9 => ?_) (fun h9 => ?_)
  · have h9 : i < xs.length := by omega
    obtain ⟨b1, q1, rfl, r1⟩ := hw.1.part Port.csl (by decide) h9
    refine JS_skip ?_
    refine JS_seq ?_
    refine JS_block ?_
    refine JS_seq ?_
    refine JS_region ?_
    refine RJ_float (FS_move rfl) rfl ?_
    refine RJ_float (FS_assign rfl) rfl ?_
    refine RJ_nil ?_
    refine JS_seq ?_
    refine JS_region ?_
    refine RJ_float (FS_move rfl) rfl ?_
    refine RJ_float (FS_move rfl) rfl ?_
    refine RJ_float (FS_move rfl) rfl ?_
    refine RJ_float (FS_index Try.tab rfl rfl rfl (by omega) (by omega)) rfl ?_
    refine RJ_float (FS_loadB0 Try.tab rfl rfl own0 r1 rfl) rfl ?_
    refine RJ_fun (LS_funv' rfl rfl rfl (hctr xs[i] (List.getElem_mem h9)) hcall (fun w h => hq _ _ _ h.only (hw.2.2 _ (List.getElem_mem h9)))) rfl ?_
    refine RJ_nil ?_
    refine JS_live [(8, _), (0, _), (1, _), (7, _), (5, _), (16, _)] rfl ?_
    refine JS_cond rfl (fun h16 => ?_) (fun h16 => ?_)
    · 
      refine JS_seq ?_
      refine JS_region ?_
      refine RJ_float (FS_move rfl) rfl ?_
      refine RJ_float (FS_assign rfl) rfl ?_
      refine RJ_nil ?_
      refine JS_live [(4, _)] rfl ?_
      exact JS_retv rfl (.tmp rfl .nil) (by rw [idxF_at h9 h16 hi.2]; rfl)
    · 
      refine JS_skip ?_
      refine JS_blk ?_
      refine JS_region ?_
      refine RJ_float (FS_add rfl rfl (by omega) (by omega)) rfl ?_
      refine RJ_float (FS_move rfl) rfl ?_
      refine RJ_nil ?_
      exact JS_againF ⟨i + 1, by omega, fa_succ hi.2 fun _ => h16⟩ (by simp; omega) rfl (fun _ h => h)
  · have h9 : ¬ i < xs.length := by omega
    refine JS_exit rfl ?_
    refine JS_seq ?_
    refine JS_region ?_
    refine RJ_float (FS_assign rfl) rfl ?_
    refine RJ_nil ?_
    exact JS_retv rfl (.tmp rfl .nil) (by rw [idxF_end h9 hi.2]; rfl)
theorem containsO_c (A : Option Addr) (ca : Nat) (xs : List Port) (fid : Nat) (first cap : Array Value) (p : Port → Bool) (q : Port → World → Prop) (hq : Keeps q) (hcall : callable Try.prog fid = true) (hctr : ∀ x, x ∈ xs → Ctr Try.prog fid (first.toList ++ [agg (Port.cs x)] ++ cap.toList) (q x) [] (fun _ : Unit => .bool (p x)) (fun _ => [])) : Ctr Try.prog 34 [.slice A xs.length ca, .func (.func fid) first cap] (fun w => RowAt w A (rows Port.cs xs) ∧ xs.length ≤ 4294967296 ∧ ∀ x, x ∈ xs → q x w) ([]) (fun _ : Unit => .bool (xs.any p)) (fun _ => []) := by
  refine Ctr.of Try.func34 rfl (Nat.le_of_ble_eq_true rfl) fun w hw => ?_
  refine JS_live [(0, _), (1, _)] rfl ?_
  refine JS_seq ?_
  refine JS_region ?_
  refine RJ_float (FS_assign rfl) rfl ?_
  refine RJ_nil ?_
  refine JS_seq ?_
  refine JS_region ?_
  refine RJ_float (FS_move rfl) rfl ?_
  refine RJ_float (FS_move rfl) rfl ?_
  refine RJ_fun (LS_fun (Try.can rfl) (indexO_c _ _ xs _ _ _ p q hq hcall hctr) rfl (fun w h => ⟨h.rowB rfl hw.1, hw.2.1, fun x hx => hq _ _ _ h.only (hw.2.2 x hx)⟩)) rfl ?_
  refine RJ_float (FS_int rfl rfl rfl) rfl ?_
  refine RJ_float (FS_assign rfl) rfl ?_
  refine RJ_nil ?_
  exact JS_retv rfl (.tmp rfl .nil) (by rw [← idxF_any]; rfl)
theorem check_c (c : Cfg) : Ctr Try.prog 15 [agg c.cs] (fun w => c.at w) ([]) (fun _ : Unit => vi (checkB c)) (fun _ => []) := by
  refine Ctr.of Try.func15 rfl (Nat.le_of_ble_eq_true rfl) fun w hw => ?_
  refine JS_live [(0, _)] rfl ?_
  refine JS_seq ?_
  refine JS_region ?_
  refine RJ_loud (LS_box rfl rfl) rfl fun b1 => ?_
  refine RJ_mem [_] rfl ?_
  refine RJ_float (FS_assign rfl) rfl ?_
  refine RJ_nil ?_
  refine JS_seq ?_
  refine JS_region ?_
  refine RJ_float (FS_assign rfl) rfl ?_
  refine RJ_nil ?_
  refine JS_seq ?_
  refine JS_region ?_
  refine RJ_float (FS_assign rfl) rfl ?_
  refine RJ_nil ?_
  refine JS_seq ?_
  refine JS_region ?_
  refine RJ_float (FS_assign rfl) rfl ?_
  refine RJ_nil ?_
  refine JS_seq ?_
  refine JS_region ?_
  refine RJ_float (FS_makeFunc rfl rfl) rfl ?_
  refine RJ_float (FS_assign rfl) rfl ?_
  refine RJ_nil ?_
  refine JS_seq ?_
  refine JS_block ?_
  refine JS_seq ?_
  refine JS_region ?_
  refine RJ_float (FS_field Try.tab rfl rfl) rfl ?_
  refine RJ_float (FS_loadK Try.tab 0 rfl rfl rfl rfl) rfl ?_
  refine RJ_float (FS_int rfl rfl rfl) rfl ?_
  refine RJ_float (FS_move rfl) rfl ?_
  refine RJ_g rfl rfl gvF (fun hg => (FS_field Try.tab rfl rfl)) rfl ?_
  refine RJ_g rfl rfl gvF (fun hg => (FS_loadK Try.tab 0 (gx hg rfl) rfl rfl rfl)) rfl ?_
  refine RJ_g rfl rfl gvF (fun hg => (FS_int (gx hg rfl) rfl rfl)) rfl ?_
  refine RJ_float (FS_or rfl rfl) rfl ?_
  refine RJ_float (FS_move rfl) rfl ?_
  refine RJ_g rfl rfl gvF (fun hg => (FS_field Try.tab rfl rfl)) rfl ?_
  refine RJ_g rfl rfl gvF (fun hg => (FS_loadK Try.tab 0 (gx hg rfl) rfl rfl rfl)) rfl ?_
  refine RJ_g rfl rfl gvF (fun hg => (FS_int (gx hg rfl) rfl rfl)) rfl ?_
  refine RJ_float (FS_or rfl rfl) rfl ?_
  refine RJ_float (FS_move rfl) rfl ?_
  refine RJ_g rfl rfl gvF (fun hg => (FS_field Try.tab rfl rfl)) rfl ?_
  refine RJ_g rfl rfl gvF (fun hg => (FS_loadK Try.tab 0 (gx hg rfl) rfl rfl rfl)) rfl ?_
  refine RJ_g rfl rfl gvF (fun hg => (FS_int (gx hg rfl) rfl rfl)) rfl ?_
  refine RJ_float (FS_or rfl rfl) rfl ?_
  refine RJ_float (FS_assign rfl) rfl ?_
  refine RJ_nil ?_
  refine JS_live [(1, _), (3, _), (4, _), (5, _), (6, _), (8, _)] rfl ?_
  refine JS_cond rfl (fun h8 => ?_) (fun h8 => ?_)
  · try simp only [Bool.and_eq_true, Bool.or_eq_true, Bool.and_eq_false_iff, Bool.or_eq_false_iff, Bool.not_eq_true', Bool.not_eq_false', decide_eq_true_eq, decide_eq_false_iff_not, beq_iff_eq, bne_iff_ne, beq_eq_false_iff_ne, bne_eq_false_iff_eq] at h8
    have hr : checkB c = 501 := by unfold checkB; rw [if_pos (by omega)]
    refine JS_seq ?_
    refine JS_region ?_
    refine RJ_float (FS_assign rfl) rfl ?_
    refine RJ_nil ?_
    exact JS_retv rfl (.tmp rfl .nil) (by rw [hr]; rfl)
  · try simp only [Bool.and_eq_true, Bool.or_eq_true, Bool.and_eq_false_iff, Bool.or_eq_false_iff, Bool.not_eq_true', Bool.not_eq_false', decide_eq_true_eq, decide_eq_false_iff_not, beq_iff_eq, bne_iff_ne, beq_eq_false_iff_ne, bne_eq_false_iff_eq] at h8
    refine JS_seq ?_
    refine JS_region ?_
    refine RJ_float (FS_field Try.tab rfl rfl) rfl ?_
    refine RJ_float (FS_loadK Try.tab 0 rfl rfl rfl rfl) rfl ?_
    refine RJ_float (FS_len Try.tab rfl rfl) rfl ?_
    refine RJ_float (FS_int rfl rfl rfl) rfl ?_
    refine RJ_float (FS_move rfl) rfl ?_
    refine RJ_g rfl rfl gvF (fun hg => (FS_field Try.tab rfl rfl)) rfl ?_
    refine RJ_g rfl rfl gvF (fun hg => (FS_loadK Try.tab 0 (gx hg rfl) rfl rfl rfl)) rfl ?_
    refine RJ_g rfl rfl gvF (fun hg => (FS_len Try.tab (gx hg rfl) rfl)) rfl ?_
    refine RJ_g rfl rfl gvF (fun hg => (FS_int (gx hg rfl) rfl rfl)) rfl ?_
    refine RJ_float (FS_or rfl rfl) rfl ?_
    refine RJ_float (FS_move rfl) rfl ?_
    refine RJ_g rfl rfl gvF (fun hg => (FS_field Try.tab rfl rfl)) rfl ?_
    refine RJ_g rfl rfl gvF (fun hg => (FS_loadK Try.tab 0 (gx hg rfl) rfl rfl rfl)) rfl ?_
    refine RJ_g rfl rfl gvF (fun hg => (FS_move rfl)) rfl ?_
    refine RJ_gfun rfl rfl gvF (fun hg => (LS_under [(40, _), (41, _)] (LE_cons (gx hg rfl) (LE_cons (gx hg rfl) LE_nil)) (LS_fun (Try.can rfl) (containsP_c _ _ c.parts 24 #[] #[] (fun p => !levelB p.level) Part.at Part.keeps (Try.can rfl) (fun x _ => check1_c x)) rfl (fun w h => by exact ⟨h.rowB rfl hw.fp, hw.lp, fun x hx => Part.keeps _ _ _ h.only (hw.ps x hx)⟩)))) rfl ?_
    refine RJ_float (FS_or rfl rfl) rfl ?_
    refine RJ_float (FS_assign rfl) rfl ?_
    refine RJ_nil ?_
    refine JS_live [(1, _), (4, _), (5, _), (6, _), (27, _)] rfl ?_
    refine JS_cond rfl (fun h27 => ?_) (fun h27 => ?_)
    · try simp only [Bool.and_eq_true, Bool.or_eq_true, Bool.and_eq_false_iff, Bool.or_eq_false_iff, Bool.not_eq_true', Bool.not_eq_false', decide_eq_true_eq, decide_eq_false_iff_not, beq_iff_eq, bne_iff_ne, beq_eq_false_iff_ne, bne_eq_false_iff_eq] at h27
      have hr : checkB c = 502 := by unfold checkB; rw [if_neg (by omega), if_pos (by rcases h27 with (h | h) | h; exact .inl (by omega); exact .inr (.inl (by omega)); exact .inr (.inr h))]
      refine JS_seq ?_
      refine JS_region ?_
      refine RJ_float (FS_assign rfl) rfl ?_
      refine RJ_nil ?_
      exact JS_retv rfl (.tmp rfl .nil) (by rw [hr]; rfl)
    · try simp only [Bool.and_eq_true, Bool.or_eq_true, Bool.and_eq_false_iff, Bool.or_eq_false_iff, Bool.not_eq_true', Bool.not_eq_false', decide_eq_true_eq, decide_eq_false_iff_not, beq_iff_eq, bne_iff_ne, beq_eq_false_iff_ne, bne_eq_false_iff_eq] at h27
      refine JS_seq ?_
      refine JS_region ?_
      refine RJ_float (FS_field Try.tab rfl rfl) rfl ?_
      refine RJ_float (FS_loadK Try.tab 0 rfl rfl rfl rfl) rfl ?_
      refine RJ_float (FS_move rfl) rfl ?_
      refine RJ_fun (LS_fun (Try.can rfl) (containsP_c _ _ c.parts 26 #[] #[] (fun p => !decide (TasksOk p.level p.tasks)) Part.at Part.keeps (Try.can rfl) (fun x _ => check2_c x)) rfl (fun w h => by exact ⟨h.rowB rfl hw.fp, hw.lp, fun x hx => Part.keeps _ _ _ h.only (hw.ps x hx)⟩)) rfl ?_
      refine RJ_float (FS_assign rfl) rfl ?_
      refine RJ_nil ?_
      refine JS_cond rfl (fun h44 => ?_) (fun h44 => ?_)
      · have hr : checkB c = 503 := by unfold checkB; rw [if_neg (by omega), if_neg (by intro h; rcases h with h | h | h; omega; omega; rw [h27.2] at h; cases h), if_pos h44]
        refine JS_seq ?_
        refine JS_region ?_
        refine RJ_float (FS_assign rfl) rfl ?_
        refine RJ_nil ?_
        refine JS_live [(2, _)] rfl ?_
        exact JS_retv rfl (.tmp rfl .nil) (by rw [hr]; rfl)
      · 
        refine JS_seq ?_
        refine JS_region ?_
        refine RJ_fun (LS_fun (Try.can rfl) (windows_c _ _ c) rfl (fun w h => ⟨h.range 0 rfl, hw.only h.only⟩)) rfl ?_
        refine RJ_float (FS_not rfl) rfl ?_
        refine RJ_float (FS_assign rfl) rfl ?_
        refine RJ_nil ?_
        refine JS_live [(1, _), (5, _), (6, _), (49, _)] rfl ?_
        refine JS_cond rfl (fun h49 => ?_) (fun h49 => ?_)
        · rw [Bool.not_eq_true'] at h49
          have hr : checkB c = 504 := by unfold checkB; rw [if_neg (by omega), if_neg (by intro h; rcases h with h | h | h; omega; omega; rw [h27.2] at h; cases h), if_neg (by rw [h44]; simp), if_pos h49]
          refine JS_seq ?_
          refine JS_region ?_
          refine RJ_float (FS_assign rfl) rfl ?_
          refine RJ_nil ?_
          exact JS_retv rfl (.tmp rfl .nil) (by rw [hr]; rfl)
        · rw [Bool.not_eq_false'] at h49
          refine JS_seq ?_
          refine JS_region ?_
          refine RJ_float (FS_field Try.tab rfl rfl) rfl ?_
          refine RJ_float (FS_loadK Try.tab 0 rfl rfl rfl rfl) rfl ?_
          refine RJ_float (FS_len Try.tab rfl rfl) rfl ?_
          refine RJ_float (FS_int rfl rfl rfl) rfl ?_
          refine RJ_float (FS_move rfl) rfl ?_
          refine RJ_g rfl rfl gvF (fun hg => (FS_field Try.tab rfl rfl)) rfl ?_
          refine RJ_g rfl rfl gvF (fun hg => (FS_loadK Try.tab 0 (gx hg rfl) rfl rfl rfl)) rfl ?_
          refine RJ_g rfl rfl gvF (fun hg => (FS_move rfl)) rfl ?_
          refine RJ_gfun rfl rfl gvF (fun hg => (LS_under [(59, _), (60, _)] (LE_cons (gx hg rfl) (LE_cons (gx hg rfl) LE_nil)) (LS_fun (Try.can rfl) (containsO_c _ _ c.ports 30 #[] #[vp b1 0] (fun p => !portB c p) (fun _ w => w.rangeAt b1 0 c.cs ∧ c.at w) (fun _ _ _ ho h => ⟨rangeAt_only h.1 ho, h.2.only ho⟩) (Try.can rfl) (fun x _ => check4_c x _ _ c)) rfl (fun w h => by exact ⟨h.rowB rfl hw.fo, hw.lo, fun x hx => ⟨h.range 0 rfl, hw.only h.only⟩⟩)))) rfl ?_
          refine RJ_float (FS_or rfl rfl) rfl ?_
          refine RJ_float (FS_assign rfl) rfl ?_
          refine RJ_nil ?_
          refine JS_live [(1, _), (5, _), (52, _)] rfl ?_
          refine JS_cond rfl (fun h52 => ?_) (fun h52 => ?_)
          · try simp only [Bool.and_eq_true, Bool.or_eq_true, Bool.and_eq_false_iff, Bool.or_eq_false_iff, Bool.not_eq_true', Bool.not_eq_false', decide_eq_true_eq, decide_eq_false_iff_not, beq_iff_eq, bne_iff_ne, beq_eq_false_iff_ne, bne_eq_false_iff_eq] at h52
            have hr : checkB c = 505 := by unfold checkB; rw [if_neg (by omega), if_neg (by intro h; rcases h with h | h | h; omega; omega; rw [h27.2] at h; cases h), if_neg (by rw [h44]; simp), if_neg (by rw [h49]; simp), if_pos (by rcases h52 with h | h; exact .inl (by omega); exact .inr h)]
            refine JS_seq ?_
            refine JS_region ?_
            refine RJ_float (FS_assign rfl) rfl ?_
            refine RJ_nil ?_
            exact JS_retv rfl (.tmp rfl .nil) (by rw [hr]; rfl)
          · try simp only [Bool.and_eq_true, Bool.or_eq_true, Bool.and_eq_false_iff, Bool.or_eq_false_iff, Bool.not_eq_true', Bool.not_eq_false', decide_eq_true_eq, decide_eq_false_iff_not, beq_iff_eq, bne_iff_ne, beq_eq_false_iff_ne, bne_eq_false_iff_eq] at h52
            refine JS_seq ?_
            refine JS_region ?_
            refine RJ_float (FS_field Try.tab rfl rfl) rfl ?_
            refine RJ_float (FS_loadK Try.tab 0 rfl rfl rfl rfl) rfl ?_
            refine RJ_float (FS_move rfl) rfl ?_
            refine RJ_fun (LS_fun (Try.can rfl) (containsP_c _ _ c.parts 28 #[] #[] (fun p => !codeB p.code) Part.at Part.keeps (Try.can rfl) (fun x _ => check3_c x)) rfl (fun w h => by exact ⟨h.rowB rfl hw.fp, hw.lp, fun x hx => Part.keeps _ _ _ h.only (hw.ps x hx)⟩)) rfl ?_
            refine RJ_float (FS_assign rfl) rfl ?_
            refine RJ_nil ?_
            refine JS_live [(63, _)] rfl ?_
            refine JS_cond rfl (fun h63 => ?_) (fun h63 => ?_)
            · have hr : checkB c = 506 := by unfold checkB; rw [if_neg (by omega), if_neg (by intro h; rcases h with h | h | h; omega; omega; rw [h27.2] at h; cases h), if_neg (by rw [h44]; simp), if_neg (by rw [h49]; simp), if_neg (by intro h; rcases h with h | h; omega; rw [h52.2] at h; cases h), if_pos h63]
              refine JS_seq ?_
              refine JS_region ?_
              refine RJ_float (FS_assign rfl) rfl ?_
              refine RJ_nil ?_
              exact JS_retv rfl (.tmp rfl .nil) (by rw [hr]; rfl)
            · have hr : checkB c = 0 := by unfold checkB; rw [if_neg (by omega), if_neg (by intro h; rcases h with h | h | h; omega; omega; rw [h27.2] at h; cases h), if_neg (by rw [h44]; simp), if_neg (by rw [h49]; simp), if_neg (by intro h; rcases h with h | h; omega; rw [h52.2] at h; cases h), if_neg (by rw [h63]; simp)]
              refine JS_skip ?_
              refine JS_blk ?_
              refine JS_seq ?_
              refine JS_region ?_
              refine RJ_float (FS_assign rfl) rfl ?_
              refine RJ_nil ?_
              exact JS_retv rfl (.tmp rfl .nil) (by rw [hr]; rfl)
end Go.Proofs.Ytmhjcemcjfkejaa
