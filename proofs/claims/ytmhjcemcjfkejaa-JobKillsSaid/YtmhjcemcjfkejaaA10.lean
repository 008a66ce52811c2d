/- configurations: parts -/
import Derived.Test.YtmhjcemcjfkejaaA9
namespace Go.Proofs.Ytmhjcemcjfkejaa
open Go.RowKit
open Go.Proofs
set_option linter.unusedVariables false
set_option linter.unusedSimpArgs false
set_option linter.unnecessarySimpa false
set_option maxRecDepth 20000
structure Instr where
  (op arg : Int)
  deriving DecidableEq
abbrev Instr.cs (x : Instr) : List Value := [vi x.op, vi x.arg]
theorem Instr.csl (x : Instr) : (Instr.cs x).length = 2 := rfl
theorem Instr.one (x : Instr) : (Instr.cs x).all (·.oneCell') = true := rfl
theorem Task.one (x : Task) : (Task.cs x).all (·.oneCell') = true := rfl
def belowF (op many : Int) : Int := if op = 0 ∨ op = 8 ∨ op = 11 then 1 else if op = 1 then 256 else if op = 2 ∨ op = 3 ∨ op = 4 ∨ op = 5 then 16 else if op = 6 ∨ op = 7 then many else if op = 9 ∨ op = 10 then 8 else 0
def instrOk (n : Nat) (x : Instr) : Bool := !(decide (x.arg < 0) || decide (x.arg ≥ belowF x.op n))
def codeB (p : List Instr) : Bool := decide (p.length ≤ 64) && p.all (instrOk p.length)
theorem all_end {α : Type} {p : α → Bool} {l : List α} {i : Nat} (hi : ¬ i < l.length) (h : ∀ k (h : k < l.length), k < i → p (l[k]'h) = true) : l.all p = true := by
  rw [List.all_eq_true]
  intro x hx
  obtain ⟨k, hk, rfl⟩ := List.getElem_of_mem hx
  exact h k hk (by omega)
theorem all_not {α : Type} {p : α → Bool} {l : List α} {i : Nat} (hi : i < l.length) (h : p l[i] = false) : l.all p = false := by
  rw [List.all_eq_false]
  exact ⟨_, List.getElem_mem hi, by simp [h]⟩
/-- A part, and where its rows lie. -/
structure Part where
  level : Int
  tasks : List Task
  tA : Option Addr
  tc : Nat
  code : List Instr
  cA : Option Addr
  cc : Nat
abbrev Part.cs (p : Part) : List Value := [vi p.level, .slice p.tA p.tasks.length p.tc, .slice p.cA p.code.length p.cc]
theorem Part.csl (x : Part) : (Part.cs x).length = 3 := rfl
theorem Part.one (x : Part) : (Part.cs x).all (·.oneCell') = true := rfl
def Part.at (p : Part) (w : World) : Prop := RowAt w p.tA (rows Task.cs p.tasks) ∧ RowAt w p.cA (rows Instr.cs p.code) ∧ p.tasks.length ≤ p.tc ∧ p.tasks.length ≤ 4294967296 ∧ p.code.length ≤ 4294967296
theorem RowAt.only {w w' : World} {A : Option Addr} {cs : List Value} (h : RowAt w A cs) (ho : Only [] w w') : RowAt w' A cs := by
  rcases h with h | ⟨b, q, hA, h⟩
  · exact .inl h
  · refine .inr ⟨b, q, hA, fun j u hu => ?_⟩
    have hc := h j u hu
    rw [World.cell?_of_block (w := w) (ho.block b (block_lt_of_cell hc) (by simp))]
    exact hc
theorem rangeAt_only {w w' : World} {b q : Nat} {cs : List Value} (h : w.rangeAt b q cs) (ho : Only [] w w') : w'.rangeAt b q cs := fun j u hu => by
  have hc := h j u hu
  rw [World.cell?_of_block (w := w) (ho.block b (block_lt_of_cell hc) (by simp))]
  exact hc
theorem Part.keeps : Keeps Part.at := fun p w w' ho h => ⟨h.1.only ho, h.2.1.only ho, h.2.2⟩
theorem Keeps.range {α : Type} {b q : Nat} {cs : List Value} : Keeps (fun (_ : α) w => w.rangeAt b q cs) := fun _ _ _ ho h => rangeAt_only h ho
def TasksOk (level : Int) (ts : List Task) : Prop := ts.length ≤ 6 ∧ ∀ i (h : i < ts.length), (ts[i]'h).ok = true ∧ (level = 0 → (ts[i]'h).cHigh = (ts[i]'h).cLow) ∧ ∀ x ∈ ts.take i, x.prio ≠ (ts[i]'h).prio
instance (level : Int) (ts : List Task) : Decidable (TasksOk level ts) := by unfold TasksOk; infer_instance
theorem below_c (op many : Int) : Ctr Try.prog 46 [vi op, vi many] (fun _ => True) ([]) (fun _ : Unit => vi (belowF op many)) (fun _ => []) := by
  refine Ctr.of Try.func46 rfl (Nat.le_of_ble_eq_true rfl) fun w hw => ?_
  refine JS_live [(0, _), (1, _)] rfl ?_
  refine JS_seq ?_
  refine JS_region ?_
  refine RJ_float (FS_assign rfl) rfl ?_
  refine RJ_nil ?_
  refine JS_seq ?_
  refine JS_seq ?_
  refine JS_region ?_
  refine RJ_float (FS_move rfl) rfl ?_
  refine RJ_nil ?_
  refine JS_block ?_
  refine JS_seq ?_
  refine JS_seq ?_
  refine JS_region ?_
  refine RJ_float (FS_int rfl rfl rfl) rfl ?_
  refine RJ_float (FS_assign rfl) rfl ?_
  refine RJ_nil ?_
  refine JS_condE rfl (fun h6 => ?_) (fun h6 => ?_)
  · refine JS_skip ?_
    refine JS_condE rfl (fun _ => ?_) (fun hx => absurd h6 hx)
    refine JS_seq ?_
    refine JS_region ?_
    refine RJ_float (FS_assign rfl) rfl ?_
    refine RJ_nil ?_
    exact JS_retv rfl (.tmp rfl .nil) (by simp only [one, belowF]; congr 1; (repeat' split) <;> omega)
  · refine JS_seq ?_
    refine JS_region ?_
    refine RJ_float (FS_int rfl rfl rfl) rfl ?_
    refine RJ_float (FS_assign rfl) rfl ?_
    refine RJ_nil ?_
    refine JS_condE rfl (fun h6 => ?_) (fun h6 => ?_)
    · refine JS_skip ?_
      refine JS_condE rfl (fun _ => ?_) (fun hx => absurd h6 hx)
      refine JS_seq ?_
      refine JS_region ?_
      refine RJ_float (FS_assign rfl) rfl ?_
      refine RJ_nil ?_
      exact JS_retv rfl (.tmp rfl .nil) (by simp only [one, belowF]; congr 1; (repeat' split) <;> omega)
    · refine JS_region ?_
      refine RJ_float (FS_int rfl rfl rfl) rfl ?_
      refine RJ_float (FS_assign rfl) rfl ?_
      refine RJ_nil ?_
      refine JS_condE rfl (fun h6 => ?_) (fun h6 => ?_)
      · refine JS_seq ?_
        refine JS_region ?_
        refine RJ_float (FS_assign rfl) rfl ?_
        refine RJ_nil ?_
        refine JS_live [(4, _)] rfl ?_
        exact JS_retv rfl (.tmp rfl .nil) (by simp only [one, belowF]; congr 1; (repeat' split) <;> omega)
      · refine JS_seq ?_
        refine JS_region ?_
        refine RJ_float (FS_int rfl rfl rfl) rfl ?_
        refine RJ_float (FS_assign rfl) rfl ?_
        refine RJ_nil ?_
        refine JS_live [(1, _), (5, _), (10, _)] rfl ?_
        refine JS_condE rfl (fun h10 => ?_) (fun h10 => ?_)
        · refine JS_seq ?_
          refine JS_region ?_
          refine RJ_float (FS_assign rfl) rfl ?_
          refine RJ_nil ?_
          exact JS_retv rfl (.tmp rfl .nil) (by simp only [one, belowF]; congr 1; (repeat' split) <;> omega)
        · refine JS_seq ?_
          refine JS_seq ?_
          refine JS_region ?_
          refine RJ_float (FS_int rfl rfl rfl) rfl ?_
          refine RJ_float (FS_assign rfl) rfl ?_
          refine RJ_nil ?_
          refine JS_condE rfl (fun h12 => ?_) (fun h12 => ?_)
          · refine JS_skip ?_
            refine JS_condE rfl (fun _ => ?_) (fun hx => absurd h12 hx)
            refine JS_seq ?_
            refine JS_region ?_
            refine RJ_float (FS_assign rfl) rfl ?_
            refine RJ_nil ?_
            exact JS_retv rfl (.tmp rfl .nil) (by simp only [one, belowF]; congr 1; (repeat' split) <;> omega)
          · refine JS_seq ?_
            refine JS_region ?_
            refine RJ_float (FS_int rfl rfl rfl) rfl ?_
            refine RJ_float (FS_assign rfl) rfl ?_
            refine RJ_nil ?_
            refine JS_condE rfl (fun h12 => ?_) (fun h12 => ?_)
            · refine JS_skip ?_
              refine JS_condE rfl (fun _ => ?_) (fun hx => absurd h12 hx)
              refine JS_seq ?_
              refine JS_region ?_
              refine RJ_float (FS_assign rfl) rfl ?_
              refine RJ_nil ?_
              exact JS_retv rfl (.tmp rfl .nil) (by simp only [one, belowF]; congr 1; (repeat' split) <;> omega)
            · refine JS_seq ?_
              refine JS_region ?_
              refine RJ_float (FS_int rfl rfl rfl) rfl ?_
              refine RJ_float (FS_assign rfl) rfl ?_
              refine RJ_nil ?_
              refine JS_condE rfl (fun h12 => ?_) (fun h12 => ?_)
              · refine JS_skip ?_
                refine JS_condE rfl (fun _ => ?_) (fun hx => absurd h12 hx)
                refine JS_seq ?_
                refine JS_region ?_
                refine RJ_float (FS_assign rfl) rfl ?_
                refine RJ_nil ?_
                refine JS_live [(4, _)] rfl ?_
                exact JS_retv rfl (.tmp rfl .nil) (by simp only [one, belowF]; congr 1; (repeat' split) <;> omega)
              · refine JS_region ?_
                refine RJ_float (FS_int rfl rfl rfl) rfl ?_
                refine RJ_float (FS_assign rfl) rfl ?_
                refine RJ_nil ?_
                refine JS_condE rfl (fun h12 => ?_) (fun h12 => ?_)
                · refine JS_seq ?_
                  refine JS_region ?_
                  refine RJ_float (FS_assign rfl) rfl ?_
                  refine RJ_nil ?_
                  refine JS_live [(4, _)] rfl ?_
                  exact JS_retv rfl (.tmp rfl .nil) (by simp only [one, belowF]; congr 1; (repeat' split) <;> omega)
                · refine JS_seq ?_
                  refine JS_seq ?_
                  refine JS_region ?_
                  refine RJ_float (FS_int rfl rfl rfl) rfl ?_
                  refine RJ_float (FS_assign rfl) rfl ?_
                  refine RJ_nil ?_
                  refine JS_live [(1, _), (5, _), (17, _)] rfl ?_
                  refine JS_condE rfl (fun h17 => ?_) (fun h17 => ?_)
                  · refine JS_skip ?_
                    refine JS_condE rfl (fun _ => ?_) (fun hx => absurd h17 hx)
                    refine JS_seq ?_
                    refine JS_region ?_
                    refine RJ_float (FS_move rfl) rfl ?_
                    refine RJ_float (FS_assign rfl) rfl ?_
                    refine RJ_nil ?_
                    exact JS_retv rfl (.tmp rfl .nil) (by simp only [one, belowF]; congr 1; (repeat' split) <;> omega)
                  · refine JS_region ?_
                    refine RJ_float (FS_int rfl rfl rfl) rfl ?_
                    refine RJ_float (FS_assign rfl) rfl ?_
                    refine RJ_nil ?_
                    refine JS_condE rfl (fun h17 => ?_) (fun h17 => ?_)
                    · refine JS_seq ?_
                      refine JS_region ?_
                      refine RJ_float (FS_move rfl) rfl ?_
                      refine RJ_float (FS_assign rfl) rfl ?_
                      refine RJ_nil ?_
                      exact JS_retv rfl (.tmp rfl .nil) (by simp only [one, belowF]; congr 1; (repeat' split) <;> omega)
                    · refine JS_seq ?_
                      refine JS_seq ?_
                      refine JS_region ?_
                      refine RJ_float (FS_int rfl rfl rfl) rfl ?_
                      refine RJ_float (FS_assign rfl) rfl ?_
                      refine RJ_nil ?_
                      refine JS_condE rfl (fun h21 => ?_) (fun h21 => ?_)
                      · refine JS_skip ?_
                        refine JS_condE rfl (fun _ => ?_) (fun hx => absurd h21 hx)
                        refine JS_seq ?_
                        refine JS_region ?_
                        refine RJ_float (FS_assign rfl) rfl ?_
                        refine RJ_nil ?_
                        exact JS_retv rfl (.tmp rfl .nil) (by simp only [one, belowF]; congr 1; (repeat' split) <;> omega)
                      · refine JS_region ?_
                        refine RJ_float (FS_int rfl rfl rfl) rfl ?_
                        refine RJ_float (FS_assign rfl) rfl ?_
                        refine RJ_nil ?_
                        refine JS_condE rfl (fun h21 => ?_) (fun h21 => ?_)
                        · refine JS_seq ?_
                          refine JS_region ?_
                          refine RJ_float (FS_assign rfl) rfl ?_
                          refine RJ_nil ?_
                          refine JS_live [(4, _)] rfl ?_
                          exact JS_retv rfl (.tmp rfl .nil) (by simp only [one, belowF]; congr 1; (repeat' split) <;> omega)
                        · refine JS_skip ?_
                          refine JS_blk ?_
                          refine JS_seq ?_
                          refine JS_region ?_
                          refine RJ_float (FS_assign rfl) rfl ?_
                          refine RJ_nil ?_
                          refine JS_live [(4, _)] rfl ?_
                          exact JS_retv rfl (.tmp rfl .nil) (by simp only [one, belowF]; congr 1; (repeat' split) <;> omega)
theorem codeMay_c (A : Option Addr) (ca : Nat) (p : List Instr) : Ctr Try.prog 29 [.slice A p.length ca] (fun w => RowAt w A (rows Instr.cs p) ∧ p.length ≤ 4294967296) ([]) (fun _ : Unit => .bool (codeB p)) (fun _ => []) := by
  refine Ctr.of Try.func29 rfl (Nat.le_of_ble_eq_true rfl) fun w hw => ?_
  refine JS_live [(0, _)] rfl ?_
  refine JS_seq ?_
  refine JS_region ?_
  refine RJ_float (FS_assign rfl) rfl ?_
  refine RJ_nil ?_
  refine JS_seq ?_
  refine JS_seq ?_
  refine JS_region ?_
  refine RJ_float (FS_move rfl) rfl ?_
  refine RJ_float (FS_len Try.tab rfl rfl) rfl ?_
  refine RJ_float (FS_int rfl rfl rfl) rfl ?_
  refine RJ_nil ?_
  refine JS_condD rfl (fun h7 => ?_) (fun h7 => ?_)
  · refine JS_seq ?_
    refine JS_region ?_
    refine RJ_float (FS_assign rfl) rfl ?_
    refine RJ_nil ?_
    exact JS_retv rfl (.tmp rfl .nil) (by unfold codeB; simp only [one]; rw [decide_eq_false (by omega)]; rfl)
  · refine JS_skip ?_
    refine JS_seq ?_
    refine JS_seq ?_
    refine JS_region ?_
    refine RJ_float (FS_move rfl) rfl ?_
    refine RJ_float (FS_len Try.tab rfl rfl) rfl ?_
    refine RJ_float (FS_move rfl) rfl ?_
    refine RJ_nil ?_
    refine JS_block ?_
    refine JS_loopF (ι := {i : Nat // i ≤ p.length ∧ ∀ k (h : k < p.length), k < i → instrOk p.length (p[k]'h) = true}) [(0, _), (8, _), (9, _)] (fun ⟨i, hi⟩ => [(10, vi (i : Int))]) (fun _ => _) (fun ⟨i, hi⟩ => p.length - i) ⟨0, by omega, by omega⟩ rfl (fun _ h => h) (fun ⟨i, hi⟩ => ?_)
    refine JS_live [(10, _), (0, _), (8, _), (9, _)] rfl ?_
    have hb := hw.2
    refine JS_seq ?_
    refine JS_region ?_
    refine RJ_float (FS_int rfl rfl rfl) rfl ?_
    refine RJ_nil ?_
    refine JS_seq ?_
    refine JS_condD rfl (fun h11 => ?_) (fun h11 => ?_)
    · have h11 : i < p.length := by omega
      obtain ⟨b1, q1, rfl, r1⟩ := hw.1.part Instr.csl (by decide) h11
      refine JS_skip ?_
      refine JS_seq ?_
      refine JS_block ?_
      refine JS_seq ?_
      refine JS_region ?_
      refine RJ_float (FS_index Try.tab rfl rfl rfl (by omega) (by omega)) rfl ?_
      refine RJ_float (FS_loadB0 Try.tab rfl rfl own0 r1 rfl) rfl ?_
      refine RJ_loud (LS_alloc Try.tab rfl) rfl fun b4 => ?_
      refine RJ_mem [_] rfl ?_
      refine RJ_loud (LS_store Try.tab (i := 0) rfl rfl rfl rfl rfl rfl rfl rfl) rfl fun _ => ?_
      refine RJ_mem [_] rfl ?_
      refine RJ_nil ?_
      refine JS_seq ?_
      refine JS_drawn Try.mixed [(0, false), (1, false), (2, false), (3, false), (4, false), (6, false), (8, false), (5, false), (7, false), (9, false), (10, true), (11, false), (12, false)] (by kernel_rfl) fun R1 => ?_
      refine HQ_p R1 rfl rfl (fun _ => (FS_field Try.tab rfl rfl)) rfl ?_
      refine HQ_l R1 rfl rfl (FS_loadK Try.tab 0 rfl rfl rfl rfl) rfl ?_
      refine HQ_p R1 rfl rfl (fun _ => (FS_int rfl rfl rfl)) rfl ?_
      refine HQ_p R1 rfl rfl (fun _ => (FS_move rfl)) rfl ?_
      refine HQ_pg R1 rfl rfl rfl rfl gvF (fun hg _ => (FS_field Try.tab rfl rfl)) rfl ?_
      refine HQ_pg R1 rfl rfl rfl rfl gvF (fun hg _ => (FS_field Try.tab rfl rfl)) rfl ?_
      refine HQ_pg R1 rfl rfl rfl rfl gvF (fun hg _ => (FS_move rfl)) rfl ?_
      refine HQ_lg R1 rfl rfl rfl rfl gvF (fun hg => (FS_loadK Try.tab 0 (gx hg rfl) rfl rfl rfl)) rfl ?_
      refine HQ_lg R1 rfl rfl rfl rfl gvF (fun hg => (FS_loadK Try.tab 0 (gx hg rfl) rfl rfl rfl)) rfl ?_
      refine HQ_pg R1 rfl rfl rfl rfl gvF (fun hg _ => (FS_len Try.tab (gx hg rfl) rfl)) rfl ?_
      refine HQ_gfun R1 rfl rfl rfl rfl gvF (fun hg => (LS_under [(21, _), (23, _)] (LE_cons (gx hg rfl) (LE_cons (gx hg rfl) LE_nil)) (LS_fun (Try.can rfl) (below_c p[i].op p.length) rfl (fun _ _ => trivial)))) rfl ?_
      refine HQ_pg R1 rfl rfl rfl rfl gvF (fun hg _ => (FS_int (gx hg rfl) (gx hg rfl) rfl)) rfl ?_
      refine HQ_p R1 rfl rfl (fun _ => (FS_or rfl rfl)) rfl ?_
      refine HQ_end R1 rfl ?_
      clear R1
      refine JS_live [(10, _), (0, _), (8, _), (9, _), (26, _)] rfl ?_
      refine JS_cond rfl (fun h26 => ?_) (fun h26 => ?_)
      · have hbad : instrOk p.length p[i] = false := by simp only [instrOk, h26, Bool.not_true]
        refine JS_seq ?_
        refine JS_region ?_
        refine RJ_float (FS_assign rfl) rfl ?_
        refine RJ_nil ?_
        exact JS_retv rfl (.tmp rfl .nil) (by unfold codeB; rw [all_not h11 hbad]; simp [one])
      · have hgood : instrOk p.length p[i] = true := by simp only [instrOk, h26, Bool.not_false]
        refine JS_skip ?_
        refine JS_blk ?_
        refine JS_region ?_
        refine RJ_float (FS_add rfl rfl (by omega) (by omega)) rfl ?_
        refine RJ_float (FS_move rfl) rfl ?_
        refine RJ_nil ?_
        exact JS_againF ⟨i + 1, by omega, fa_succ hi.2 fun _ => hgood⟩ (by simp; omega) rfl (fun _ h => h.pick (is := []) (by decide))
    · have h11 : ¬ i < p.length := by omega
      refine JS_exit rfl ?_
      refine JS_seq ?_
      refine JS_region ?_
      refine RJ_float (FS_assign rfl) rfl ?_
      refine RJ_nil ?_
      exact JS_retv rfl (.tmp rfl .nil) (by unfold codeB; rw [all_end h11 hi.2, decide_eq_true (by omega)]; rfl)
theorem indexT_c (A : Option Addr) (ca : Nat) (xs : List Task) (fid : Nat) (first cap : Array Value) (p : Task → Bool) (q : Task → World → Prop) (hq : Keeps q) (hcall : callable Try.prog fid = true) (hctr : ∀ x, x ∈ xs → Ctr Try.prog fid (first.toList ++ [agg (Task.cs x)] ++ cap.toList) (q x) [] (fun _ : Unit => .bool (p x)) (fun _ => [])) : Ctr Try.prog 57 [.slice A xs.length ca, .func (.func fid) first cap] (fun w => RowAt w A (rows Task.cs xs) ∧ xs.length ≤ 4294967296 ∧ ∀ x, x ∈ xs → q x w) ([]) (fun _ : Unit => vi (idxF p xs)) (fun _ => []) := by
  refine Ctr.of Try.func57 rfl (Nat.le_of_ble_eq_true rfl) fun w hw => ?_
  refine JS_live [(0, _), (1, _)] rfl ?_
  refine JS_seq ?_
  refine JS_region ?_
  refine RJ_float (FS_assign rfl) rfl ?_
  refine RJ_nil ?_
  refine JS_seq ?_
  refine JS_seq ?_
  refine JS_region ?_
  refine RJ_float (FS_move rfl) rfl ?_
  refine RJ_float (FS_len Try.tab rfl rfl) rfl ?_
  refine RJ_float (FS_move rfl) rfl ?_
  refine RJ_nil ?_
  refine JS_block ?_
  refine JS_loopF (ι := {i : Nat // i ≤ xs.length ∧ ∀ k (h : k < xs.length), k < i → p (xs[k]'h) = false}) [(0, _), (1, _), (7, _)] (fun ⟨i, hi⟩ => [(8, vi (i : Int))]) (fun _ => _) (fun ⟨i, hi⟩ => xs.length - i) ⟨0, by omega, by omega⟩ rfl (fun _ h => h) (fun ⟨i, hi⟩ => ?_)
  refine JS_live [(8, _), (0, _), (1, _), (7, _)] rfl ?_
  have hb := hw.2.1
  refine JS_seq ?_
  refine JS_region ?_
  refine RJ_float (FS_int rfl rfl rfl) rfl ?_
  refine RJ_nil ?_
  refine JS_seq ?_
  refine JS_condD rfl (fun h9 => ?_) (fun h9 => ?_)
  · have h9 : i < xs.length := by omega
    obtain ⟨b1, q1, rfl, r1⟩ := hw.1.part Task.csl (by decide) h9
    refine JS_skip ?_
    refine JS_seq ?_
    refine JS_block ?_
    refine JS_seq ?_
    refine JS_region ?_
    refine RJ_float (FS_move rfl) rfl ?_
    refine RJ_float (FS_assign rfl) rfl ?_
    refine RJ_nil ?_
    refine JS_seq ?_
    refine JS_region ?_
    refine RJ_float (FS_move rfl) rfl ?_
    refine RJ_float (FS_move rfl) rfl ?_
    refine RJ_float (FS_move rfl) rfl ?_
    refine RJ_float (FS_index Try.tab rfl rfl rfl (by omega) (by omega)) rfl ?_
    refine RJ_float (FS_loadB0 Try.tab rfl rfl own0 r1 rfl) rfl ?_
    refine RJ_fun (LS_funv' rfl rfl rfl (hctr xs[i] (List.getElem_mem h9)) hcall (fun w h => hq _ _ _ h.only (hw.2.2 _ (List.getElem_mem h9)))) rfl ?_
    refine RJ_nil ?_
    refine JS_live [(8, _), (0, _), (1, _), (7, _), (5, _), (16, _)] rfl ?_
    refine JS_cond rfl (fun h16 => ?_) (fun h16 => ?_)
    · 
      refine JS_seq ?_
      refine JS_region ?_
      refine RJ_float (FS_move rfl) rfl ?_
      refine RJ_float (FS_assign rfl) rfl ?_
      refine RJ_nil ?_
      refine JS_live [(4, _)] rfl ?_
      exact JS_retv rfl (.tmp rfl .nil) (by rw [idxF_at h9 h16 hi.2]; rfl)
    · 
      refine JS_skip ?_
      refine JS_blk ?_
      refine JS_region ?_
      refine RJ_float (FS_add rfl rfl (by omega) (by omega)) rfl ?_
      refine RJ_float (FS_move rfl) rfl ?_
      refine RJ_nil ?_
      exact JS_againF ⟨i + 1, by omega, fa_succ hi.2 fun _ => h16⟩ (by simp; omega) rfl (fun _ h => h)
  · have h9 : ¬ i < xs.length := by omega
    refine JS_exit rfl ?_
    refine JS_seq ?_
    refine JS_region ?_
    refine RJ_float (FS_assign rfl) rfl ?_
    refine RJ_nil ?_
    exact JS_retv rfl (.tmp rfl .nil) (by rw [idxF_end h9 hi.2]; rfl)
theorem containsT_c (A : Option Addr) (ca : Nat) (xs : List Task) (fid : Nat) (first cap : Array Value) (p : Task → Bool) (q : Task → World → Prop) (hq : Keeps q) (hcall : callable Try.prog fid = true) (hctr : ∀ x, x ∈ xs → Ctr Try.prog fid (first.toList ++ [agg (Task.cs x)] ++ cap.toList) (q x) [] (fun _ : Unit => .bool (p x)) (fun _ => [])) : Ctr Try.prog 45 [.slice A xs.length ca, .func (.func fid) first cap] (fun w => RowAt w A (rows Task.cs xs) ∧ xs.length ≤ 4294967296 ∧ ∀ x, x ∈ xs → q x w) ([]) (fun _ : Unit => .bool (xs.any p)) (fun _ => []) := by
  refine Ctr.of Try.func45 rfl (Nat.le_of_ble_eq_true rfl) fun w hw => ?_
  refine JS_live [(0, _), (1, _)] rfl ?_
  refine JS_seq ?_
  refine JS_region ?_
  refine RJ_float (FS_assign rfl) rfl ?_
  refine RJ_nil ?_
  refine JS_seq ?_
  refine JS_region ?_
  refine RJ_float (FS_move rfl) rfl ?_
  refine RJ_float (FS_move rfl) rfl ?_
  refine RJ_fun (LS_fun (Try.can rfl) (indexT_c _ _ xs _ _ _ p q hq hcall hctr) rfl (fun w h => ⟨h.rowB rfl hw.1, hw.2.1, fun x hx => hq _ _ _ h.only (hw.2.2 x hx)⟩)) rfl ?_
  refine RJ_float (FS_int rfl rfl rfl) rfl ?_
  refine RJ_float (FS_assign rfl) rfl ?_
  refine RJ_nil ?_
  exact JS_retv rfl (.tmp rfl .nil) (by rw [← idxF_any]; rfl)
theorem indexP_c (A : Option Addr) (ca : Nat) (xs : List Part) (fid : Nat) (first cap : Array Value) (p : Part → Bool) (q : Part → World → Prop) (hq : Keeps q) (hcall : callable Try.prog fid = true) (hctr : ∀ x, x ∈ xs → Ctr Try.prog fid (first.toList ++ [agg (Part.cs x)] ++ cap.toList) (q x) [] (fun _ : Unit => .bool (p x)) (fun _ => [])) : Ctr Try.prog 48 [.slice A xs.length ca, .func (.func fid) first cap] (fun w => RowAt w A (rows Part.cs xs) ∧ xs.length ≤ 4294967296 ∧ ∀ x, x ∈ xs → q x w) ([]) (fun _ : Unit => vi (idxF p xs)) (fun _ => []) := by
  refine Ctr.of Try.func48 rfl (Nat.le_of_ble_eq_true rfl) fun w hw => ?_
  refine JS_live [(0, _), (1, _)] rfl ?_
  refine JS_seq ?_
  refine JS_region ?_
  refine RJ_float (FS_assign rfl) rfl ?_
  refine RJ_nil ?_
  refine JS_seq ?_
  refine JS_seq ?_
  refine JS_region ?_
  refine RJ_float (FS_move rfl) rfl ?_
  refine RJ_float (FS_len Try.tab rfl rfl) rfl ?_
  refine RJ_float (FS_move rfl) rfl ?_
  refine RJ_nil ?_
  refine JS_block ?_
  refine JS_loopF (ι := {i : Nat // i ≤ xs.length ∧ ∀ k (h : k < xs.length), k < i → p (xs[k]'h) = false}) [(0, _), (1, _), (7, _)] (fun ⟨i, hi⟩ => [(8, vi (i : Int))]) (fun _ => _) (fun ⟨i, hi⟩ => xs.length - i) ⟨0, by omega, by omega⟩ rfl (fun _ h => h) (fun ⟨i, hi⟩ => ?_)
  refine JS_live [(8, _), (0, _), (1, _), (7, _)] rfl ?_
  have hb := hw.2.1
  refine JS_seq ?_
  refine JS_region ?_
  refine RJ_float (FS_int rfl rfl rfl) rfl ?_
  refine RJ_nil ?_
  refine JS_seq ?_
  refine JS_condD rfl (fun h9 => ?_) (fun h9 => ?_)
  · have h9 : i < xs.length := by omega
    obtain ⟨b1, q1, rfl, r1⟩ := hw.1.part Part.csl (by decide) h9
    refine JS_skip ?_
    refine JS_seq ?_
    refine JS_block ?_
    refine JS_seq ?_
    refine JS_region ?_
    refine RJ_float (FS_move rfl) rfl ?_
    refine RJ_float (FS_assign rfl) rfl ?_
    refine RJ_nil ?_
    refine JS_seq ?_
    refine JS_region ?_
    refine RJ_float (FS_move rfl) rfl ?_
    refine RJ_float (FS_move rfl) rfl ?_
    refine RJ_float (FS_move rfl) rfl ?_
    refine RJ_float (FS_index Try.tab rfl rfl rfl (by omega) (by omega)) rfl ?_
    refine RJ_float (FS_loadB0 Try.tab rfl rfl own0 r1 rfl) rfl ?_
    refine RJ_fun (LS_funv' rfl rfl rfl (hctr xs[i] (List.getElem_mem h9)) hcall (fun w h => hq _ _ _ h.only (hw.2.2 _ (List.getElem_mem h9)))) rfl ?_
    refine RJ_nil ?_
    refine JS_live [(8, _), (0, _), (1, _), (7, _), (5, _), (16, _)] rfl ?_
    refine JS_cond rfl (fun h16 => ?_) (fun h16 => ?_)
    · 
      refine JS_seq ?_
      refine JS_region ?_
      refine RJ_float (FS_move rfl) rfl ?_
      refine RJ_float (FS_assign rfl) rfl ?_
      refine RJ_nil ?_
      refine JS_live [(4, _)] rfl ?_
      exact JS_retv rfl (.tmp rfl .nil) (by rw [idxF_at h9 h16 hi.2]; rfl)
    · 
      refine JS_skip ?_
      refine JS_blk ?_
      refine JS_region ?_
      refine RJ_float (FS_add rfl rfl (by omega) (by omega)) rfl ?_
      refine RJ_float (FS_move rfl) rfl ?_
      refine RJ_nil ?_
      exact JS_againF ⟨i + 1, by omega, fa_succ hi.2 fun _ => h16⟩ (by simp; omega) rfl (fun _ h => h)
  · have h9 : ¬ i < xs.length := by omega
    refine JS_exit rfl ?_
    refine JS_seq ?_
    refine JS_region ?_
    refine RJ_float (FS_assign rfl) rfl ?_
    refine RJ_nil ?_
    exact JS_retv rfl (.tmp rfl .nil) (by rw [idxF_end h9 hi.2]; rfl)
theorem containsP_c (A : Option Addr) (ca : Nat) (xs : List Part) (fid : Nat) (first cap : Array Value) (p : Part → Bool) (q : Part → World → Prop) (hq : Keeps q) (hcall : callable Try.prog fid = true) (hctr : ∀ x, x ∈ xs → Ctr Try.prog fid (first.toList ++ [agg (Part.cs x)] ++ cap.toList) (q x) [] (fun _ : Unit => .bool (p x)) (fun _ => [])) : Ctr Try.prog 32 [.slice A xs.length ca, .func (.func fid) first cap] (fun w => RowAt w A (rows Part.cs xs) ∧ xs.length ≤ 4294967296 ∧ ∀ x, x ∈ xs → q x w) ([]) (fun _ : Unit => .bool (xs.any p)) (fun _ => []) := by
  refine Ctr.of Try.func32 rfl (Nat.le_of_ble_eq_true rfl) fun w hw => ?_
  refine JS_live [(0, _), (1, _)] rfl ?_
  refine JS_seq ?_
  refine JS_region ?_
  refine RJ_float (FS_assign rfl) rfl ?_
  refine RJ_nil ?_
  refine JS_seq ?_
  refine JS_region ?_
  refine RJ_float (FS_move rfl) rfl ?_
  refine RJ_float (FS_move rfl) rfl ?_
  refine RJ_fun (LS_fun (Try.can rfl) (indexP_c _ _ xs _ _ _ p q hq hcall hctr) rfl (fun w h => ⟨h.rowB rfl hw.1, hw.2.1, fun x hx => hq _ _ _ h.only (hw.2.2 x hx)⟩)) rfl ?_
  refine RJ_float (FS_int rfl rfl rfl) rfl ?_
  refine RJ_float (FS_assign rfl) rfl ?_
  refine RJ_nil ?_
  exact JS_retv rfl (.tmp rfl .nil) (by rw [← idxF_any]; rfl)
theorem tasks1_c (x : Task) (b o : Nat) (t : Task) : Ctr Try.prog 44 [agg x.cs, vp b o] (fun w => w.rangeAt b o t.cs) ([]) (fun _ : Unit => .bool (x.prio == t.prio)) (fun _ => []) := by
  refine Ctr.of Try.func44 rfl (Nat.le_of_ble_eq_true rfl) fun w hw => ?_
  refine JS_live [(0, _), (1, _)] rfl ?_
  refine JS_seq ?_
  refine JS_region ?_
  refine RJ_loud (LS_box rfl rfl) rfl fun b2 => ?_
  refine RJ_mem [_] rfl ?_
  refine RJ_float (FS_assign rfl) rfl ?_
  refine RJ_nil ?_
  refine JS_seq ?_
  refine JS_region ?_
  refine RJ_float (FS_field Try.tab rfl rfl) rfl ?_
  refine RJ_float (FS_loadK Try.tab 0 rfl rfl rfl rfl) rfl ?_
  refine RJ_float (FS_field Try.tab rfl rfl) rfl ?_
  refine RJ_float (FS_loadB Try.tab rfl rfl own0 hw rfl) rfl ?_
  refine RJ_float (FS_int rfl rfl rfl) rfl ?_
  refine RJ_float (FS_assign rfl) rfl ?_
  refine RJ_nil ?_
  refine JS_live [(3, _)] rfl ?_
  exact JS_retv rfl (.tmp rfl .nil) (rfl)
end Go.Proofs.Ytmhjcemcjfkejaa
