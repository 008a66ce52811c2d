/- places in rows of jobs -/
import Derived.Test.YtmhjcemcjfkejaaA2
namespace Go.Proofs.Ytmhjcemcjfkejaa
open Go.RowKit
open Go.Proofs
set_option linter.unusedVariables false
set_option linter.unusedSimpArgs false
set_option linter.unnecessarySimpa false
set_option maxRecDepth 20000
theorem cmpJ_neg {a b : Job} : cmpJ a b < 0 ↔ a.prio < b.prio ∨ a.prio = b.prio ∧ (a.release < b.release ∨ a.release = b.release ∧ a.task < b.task) := by
  simp only [cmpJ, orI, cmpI]
  grind
theorem cmpJ_zero {a b : Job} : cmpJ a b = 0 ↔ a.prio = b.prio ∧ a.release = b.release ∧ a.task = b.task := by
  simp only [cmpJ, orI, cmpI]
  grind
theorem cmpJ_trans {a b c : Job} (h1 : cmpJ a b < 0) (h2 : cmpJ b c < 0) : cmpJ a c < 0 := by
  rw [cmpJ_neg] at h1 h2 ⊢
  omega
theorem JobsOk.lt {js : List Job} (h : JobsOk js) : ∀ (j i : Nat) (hj : j < js.length) (hi : i < j), cmpJ (js[i]'(by omega)) js[j] < 0 := by
  intro j
  induction j with
  | zero => intro i hj hi; omega
  | succ j ih =>
    intro i hj hi
    have h1 := (h.2 (j + 1) hj).2 (by omega)
    simp only [Nat.add_sub_cancel] at h1
    rcases Nat.lt_or_eq_of_le (Nat.le_of_lt_succ hi) with h2 | h2
    · exact cmpJ_trans (ih i (by omega) h2) h1
    · subst h2
      exact h1
def posJ (js : List Job) (j : Job) : Nat := (js.takeWhile fun x => decide (cmpJ x j < 0)).length
def atJ (js : List Job) (j : Job) : Bool := match js[posJ js j]? with
  | some x => cmpJ x j == 0
  | none => false
theorem posJ_eq {js : List Job} {j : Job} {i : Nat} (hi : i ≤ js.length) (h1 : ∀ k (h : k < js.length), k < i → cmpJ js[k] j < 0) (h2 : ∀ k (h : k < js.length), i ≤ k → ¬ cmpJ js[k] j < 0) : posJ js j = i := by
  have hsplit : js = js.take i ++ js.drop i := (List.take_append_drop i js).symm
  unfold posJ
  rw [hsplit, List.takeWhile_append_of_pos (fun x hx => ?_)]
  · have : List.takeWhile (fun x => decide (cmpJ x j < 0)) (js.drop i) = [] := by
      rcases Nat.lt_or_ge i js.length with h | h
      · rw [List.drop_eq_getElem_cons h, List.takeWhile_cons_of_neg]
        simpa using h2 i h (Nat.le_refl _)
      · rw [List.drop_of_length_le h]
        rfl
    rw [this]
    simp [hi]
  · obtain ⟨k, hk, rfl⟩ := List.getElem_of_mem hx
    simp only [List.length_take] at hk
    simpa using h1 k (by omega) (by omega)
theorem below_step {js : List Job} (hs : JobsOk js) {j : Job} {m : Nat} (hm : m < js.length) (h : cmpJ js[m] j < 0) : ∀ k (hk : k < js.length), k < m + 1 → cmpJ js[k] j < 0 := fun k hk hkm => by
  rcases Nat.lt_or_eq_of_le (Nat.le_of_lt_succ hkm) with h2 | h2
  · exact cmpJ_trans (hs.lt m k hm h2) h
  · subst h2; exact h
theorem above_step {js : List Job} (hs : JobsOk js) {j : Job} {m : Nat} (hm : m < js.length) (h : ¬ cmpJ js[m] j < 0) : ∀ k (hk : k < js.length), m ≤ k → ¬ cmpJ js[k] j < 0 := fun k hk hkm hlt => by
  rcases Nat.lt_or_eq_of_le hkm with h2 | h2
  · exact h (cmpJ_trans (hs.lt k m hk h2) hlt)
  · subst h2; exact h hlt
theorem atJ_eq {js : List Job} {j : Job} {i : Nat} (hp : posJ js j = i) (hi : i ≤ js.length) : atJ js j = (if h : i < js.length then cmpJ js[i] j == 0 else false) := by
  unfold atJ
  rw [hp]
  split
  · rename_i x hx
    obtain ⟨h, hx⟩ := List.getElem?_eq_some_iff.1 hx
    rw [dif_pos h, hx]
  · rename_i hx
    rw [List.getElem?_eq_none_iff] at hx
    rw [dif_neg (by omega)]
theorem bsearch_c (A : Option Addr) (ca : Nat) (js : List Job) (j : Job) : Ctr Try.prog 60 [.slice A js.length ca, agg j.cs, .func (.func 59) #[] #[]] (fun w => RowAt w A (rows Job.cs js) ∧ JobsOk js) ([]) (fun _ : Unit => .tuple #[vi (posJ js j), .bool (atJ js j)]) (fun _ => []) := by
  refine Ctr.of Try.func60 rfl (Nat.le_of_ble_eq_true rfl) fun w hw => ?_
  have hb := hw.2.1
  refine JS_live [(0, _), (1, _), (2, _)] rfl ?_
  refine JS_seq ?_
  refine JS_region ?_
  refine RJ_loud (LS_box rfl rfl) rfl fun b4 => ?_
  refine RJ_mem [_] rfl ?_
  refine RJ_float (FS_assign rfl) rfl ?_
  refine RJ_float (FS_assign rfl) rfl ?_
  refine RJ_nil ?_
  refine JS_seq ?_
  refine JS_region ?_
  refine RJ_float (FS_move rfl) rfl ?_
  refine RJ_float (FS_len Try.tab rfl rfl) rfl ?_
  refine RJ_float (FS_assign rfl) rfl ?_
  refine RJ_nil ?_
  refine JS_seq ?_
  refine JS_region ?_
  refine RJ_float (FS_move rfl) rfl ?_
  refine RJ_float (FS_assign rfl) rfl ?_
  refine RJ_float (FS_assign rfl) rfl ?_
  refine RJ_nil ?_
  refine JS_seq ?_
  refine JS_block ?_
  refine JS_loopF (ι := {q : Nat × Nat // q.1 ≤ q.2 ∧ q.2 ≤ js.length ∧ (∀ k (h : k < js.length), k < q.1 → cmpJ (js[k]'h) j < 0) ∧ (∀ k (h : k < js.length), q.2 ≤ k → ¬ cmpJ (js[k]'h) j < 0)}) [(0, _), (2, _), (4, _), (8, _)] (fun ⟨(lo, hi), hl⟩ => [(9, vi (lo : Int)), (10, vi (hi : Int))]) (fun _ => _) (fun ⟨(lo, hi), hl⟩ => hi - lo) ⟨(0, js.length), by simp, by simp, by simp, fun k h hk => by simp at hk; omega⟩ rfl (fun _ h => h) (fun ⟨(lo, hi), hl⟩ => ?_)
  refine JS_live [(9, _), (10, _), (0, _), (2, _), (4, _), (8, _)] rfl ?_
  obtain ⟨hl1, hl2, hl3, hl4⟩ := hl
  simp only at hl1 hl2 hl3 hl4
  refine JS_seq ?_
  refine JS_seq ?_
  refine JS_region ?_
  refine RJ_float (FS_move rfl) rfl ?_
  refine RJ_float (FS_move rfl) rfl ?_
  refine RJ_float (FS_int rfl rfl rfl) rfl ?_
  refine RJ_nil ?_
  refine JS_condD rfl (fun h17 => ?_) (fun h17 => ?_)
  · obtain ⟨b1, q1, rfl, r1⟩ := hw.1.part Job.csl (by decide) (show (lo + hi) / 2 < js.length by omega)
    refine JS_skip ?_
    refine JS_block ?_
    refine JS_seq ?_
    refine JS_region ?_
    refine RJ_float (FS_move rfl) rfl ?_
    refine RJ_float (FS_move rfl) rfl ?_
    refine RJ_float (FS_add rfl rfl (by omega) (by omega)) rfl ?_
    refine RJ_float (FS_convert Try.tab rfl rfl rfl (IntWalk.u64_in _ (by omega))) rfl ?_
    refine RJ_float (FS_shr rfl rfl (by decide) (by decide)) rfl ?_
    refine RJ_float (FS_convert Try.tab rfl rfl rfl (v := ((lo + hi) / 2 : Nat)) (by rw [show (2 : Int) ^ (1 : Int).toNat = 2 from rfl, IntWalk.i64_in _ (by omega)]; omega)) rfl ?_
    refine RJ_float (FS_assign rfl) rfl ?_
    refine RJ_nil ?_
    refine JS_live [(9, _), (10, _), (0, _), (2, _), (4, _), (8, _), (11, _)] rfl ?_
    refine JS_seq ?_
    refine JS_drawn Try.mixed [(0, false), (1, false), (2, false), (5, false), (3, false), (4, false), (6, true), (7, false)] (by kernel_rfl) fun R1 => ?_
    refine HQ_p R1 rfl rfl (fun _ => (FS_move rfl)) rfl ?_
    refine HQ_p R1 rfl rfl (fun _ => (FS_move rfl)) rfl ?_
    refine HQ_p R1 rfl rfl (fun _ => (FS_move rfl)) rfl ?_
    refine HQ_l R1 rfl rfl (FS_loadK Try.tab 0 rfl rfl rfl rfl) rfl ?_
    refine HQ_p R1 rfl rfl (fun _ => (FS_index Try.tab rfl rfl rfl (by omega) (by omega))) rfl ?_
    refine HQ_l R1 rfl rfl (FS_loadB0 Try.tab rfl rfl own0 r1 rfl) rfl ?_
    refine HQ_fun R1 rfl rfl (LS_funv' rfl rfl rfl (compareJ_c (js[(lo + hi) / 2]'(by omega)) j) (Try.can rfl) (fun _ _ => trivial)) rfl ?_
    refine HQ_p R1 rfl rfl (fun _ => (FS_int rfl rfl rfl)) rfl ?_
    refine HQ_end R1 rfl ?_
    clear R1
    refine JS_live [(9, _), (10, _), (0, _), (2, _), (4, _), (8, _), (11, _), (31, _)] rfl ?_
    refine JS_condD rfl (fun h31 => ?_) (fun h31 => ?_)
    · refine JS_region ?_
      refine RJ_float (FS_move rfl) rfl ?_
      refine RJ_float (FS_add rfl rfl (by omega) (by omega)) rfl ?_
      refine RJ_float (FS_assign rfl) rfl ?_
      refine RJ_nil ?_
      refine JS_blk ?_
      exact JS_againF ⟨((lo + hi) / 2 + 1, hi), by simp; omega, by simp; omega, below_step hw.2 (by omega) h31, hl4⟩ (by simp; omega) rfl (fun _ h => h)
    · refine JS_region ?_
      refine RJ_float (FS_move rfl) rfl ?_
      refine RJ_float (FS_assign rfl) rfl ?_
      refine RJ_nil ?_
      refine JS_blk ?_
      exact JS_againF ⟨(lo, (lo + hi) / 2), by simp; omega, by simp; omega, hl3, above_step hw.2 (by omega) h31⟩ (by simp; omega) rfl (fun _ h => h)
  · have r2 : lo < js.length → (∃ b q, A = some ⟨b, q, none⟩) ∧ w.rangeAt (blkA A) (offA A + lo * 7) (js.getD lo j).cs := fun h => by
      rw [getD_lt h]
      exact hw.1.partT Job.csl (by decide) h
    refine JS_exit rfl ?_
    refine JS_seq ?_
    refine JS_drawn Try.mixed [(0, false), (1, false), (2, false), (3, false), (4, false), (5, false), (6, false), (7, false), (10, false), (8, false), (9, false), (11, true), (12, false), (14, false), (13, false), (15, false)] (by kernel_rfl) fun R2 => ?_
    refine HQ_p R2 rfl rfl (fun _ => (FS_move rfl)) rfl ?_
    refine HQ_p R2 rfl rfl (fun _ => (FS_move rfl)) rfl ?_
    refine HQ_p R2 rfl rfl (fun _ => (FS_move rfl)) rfl ?_
    refine HQ_p R2 rfl rfl (fun _ => (FS_int rfl rfl rfl)) rfl ?_
    refine HQ_p R2 rfl rfl (fun _ => (FS_move rfl)) rfl ?_
    refine HQ_pg R2 rfl rfl rfl rfl gvT (fun hg _ => (FS_move rfl)) rfl ?_
    refine HQ_pg R2 rfl rfl rfl rfl gvT (fun hg _ => (FS_move rfl)) rfl ?_
    refine HQ_pg R2 rfl rfl rfl rfl gvT (fun hg _ => (FS_move rfl)) rfl ?_
    refine HQ_lg R2 rfl rfl rfl rfl gvT (fun hg => (FS_loadK Try.tab 0 rfl rfl rfl rfl)) rfl ?_
    refine HQ_pg R2 rfl rfl rfl rfl gvT (fun hg _ => (FS_indexT Try.tab (gx hg rfl) (gx hg rfl) rfl (r2 (by simp at hg; omega)).1 (by omega) (by simp at hg; omega))) rfl ?_
    refine HQ_lg R2 rfl rfl rfl rfl gvT (fun hg => (FS_loadB0 Try.tab (gx hg rfl) rfl own0 (r2 (by simp at hg; omega)).2 rfl)) rfl ?_
    refine HQ_gfun R2 rfl rfl rfl rfl gvT (fun hg => (LS_under [(44, _), (45, _), (40, _)] (LE_cons (gx hg rfl) (LE_cons (gx hg rfl) (LE_cons (gx hg rfl) LE_nil))) (LS_funv' rfl rfl rfl (compareJ_c (js.getD lo j) j) (Try.can rfl) (fun _ _ => trivial)))) rfl ?_
    refine HQ_pg R2 rfl rfl rfl rfl gvT (fun hg _ => (FS_int (gx hg rfl) rfl rfl)) rfl ?_
    refine HQ_p R2 rfl rfl (fun _ => (FS_assign rfl)) rfl ?_
    refine HQ_p R2 rfl rfl (fun _ => (FS_and rfl rfl)) rfl ?_
    refine HQ_p R2 rfl rfl (fun _ => (FS_assign rfl)) rfl ?_
    refine HQ_end R2 rfl ?_
    clear R2
    refine JS_live [(6, _), (7, _)] rfl ?_
    exact JS_retv rfl (.tmp rfl (.tmp rfl .nil)) (by
      have hlh : lo = hi := by omega
      subst hlh
      have hp := posJ_eq hl2 hl3 hl4
      rw [atJ_eq hp hl2, hp]
      simp only [one]
      congr 3
      by_cases h : lo < js.length
      · simp [h, List.getElem?_eq_getElem h]
      · simp [h])
end Go.Proofs.Ytmhjcemcjfkejaa
