/- insertion -/
import Derived.Test.YtmhjcemcjfkejaaA4
namespace Go.Proofs.Ytmhjcemcjfkejaa
open Go.RowKit
open Go.Proofs
set_option linter.unusedVariables false
set_option linter.unusedSimpArgs false
set_option linter.unnecessarySimpa false
set_option maxRecDepth 20000
def insJ (xs : List Job) (i : Nat) (j : Job) : List Job := xs.take i ++ j :: xs.drop i
theorem insJ_length (xs : List Job) {i : Nat} (hi : i ≤ xs.length) (j : Job) : (insJ xs i j).length = xs.length + 1 := by
  simp [insJ]
  omega
theorem insJ_end (xs : List Job) {i : Nat} (hi : i = xs.length) (j : Job) : insJ xs i j = xs ++ [j] := by
  subst hi
  simp [insJ]
theorem rows_cut {i : Nat} {xs : List Job} (hi : i ≤ xs.length) : (rows Job.cs (xs.take i)).length = i * 7 := by
  rw [rows_length Job.csl]
  simp [Nat.min_eq_left hi]
theorem insJ_grown {xs : List Job} {i : Nat} (hi : i < xs.length) (j : Job) {Z : List Value} (hZ : Z.length = (xs.length + 1 - i) * 7) :
    stv (stv (rows Job.cs (xs.take i) ++ Z) (i * 7) j.cs) ((i + 1) * 7) (rows Job.cs (xs.drop i)) = rows Job.cs (insJ xs i j) := by
  have h1 := rows_cut (Nat.le_of_lt hi)
  have h2 : (rows Job.cs (xs.drop i)).length = (xs.length - i) * 7 := by rw [rows_length Job.csl]; simp
  have h := stv_fill (A := rows Job.cs (xs.take i)) (Z := Z) (J := j.cs) (R := rows Job.cs (xs.drop i)) (by rw [hZ, h2, Job.csl]; omega)
  rw [h1, Job.csl] at h
  rw [show (i + 1) * 7 = i * 7 + 7 by omega, h]
  simp [insJ, rows]
theorem insJ_shift {xs : List Job} {i : Nat} (hi : i < xs.length) (j : Job) {u : List Value} (hu : u.length = 1 * 7) :
    stv (stv (rows Job.cs xs ++ u) ((i + 1) * 7) (rows Job.cs (xs.drop i))) (i * 7) j.cs = rows Job.cs (insJ xs i j) := by
  have h1 := rows_cut (Nat.le_of_lt hi)
  have h2 : (rows Job.cs (xs.drop i)).length = (xs.length - i) * 7 := by rw [rows_length Job.csl]; simp
  have h := stv_fill' (A := rows Job.cs (xs.take i)) (W := rows Job.cs (xs.drop i) ++ u) (J := j.cs) (R := rows Job.cs (xs.drop i)) (by rw [List.length_append, h2, hu, Job.csl]; omega)
  have hs : rows Job.cs xs = rows Job.cs (xs.take i) ++ rows Job.cs (xs.drop i) := by rw [← rows_append, List.take_append_drop]
  rw [h1, Job.csl, ← List.append_assoc, ← hs] at h
  rw [show (i + 1) * 7 = i * 7 + 7 by omega, h]
  simp [insJ, rows]
theorem rows_cutA {w : World} {A : Option Addr} {xs : List Job} {c i m : Nat} (h : RowAt w A (rows Job.cs xs)) (hi : i ≤ m) (hm : m ≤ xs.length) (hc : xs.length ≤ c) : RowAt w (slA A c i 7) (rows Job.cs ((xs.drop i).take (m - i))) := by
  have := h.slice (z := 7) (rows_length Job.csl xs) hi hm hc
  rwa [rows_drop Job.csl, rows_take Job.csl] at this
theorem shiftRow {w : World} {b q c i : Nat} {xs : List Job} {u : List Value} (h : RowAt w (some ⟨b, q, none⟩) (rows Job.cs xs ++ u)) (hu : u.length = 1 * 7) (hi : i < xs.length) : RowAt w (some ⟨b, q + i * 7, none⟩) (rows Job.cs (xs.drop i)) := by
  have h0 : (rows Job.cs xs).length = xs.length * 7 := rows_length Job.csl xs
  have := h.slice (z := 7) (n := xs.length + 1) (l := i) (m := xs.length) (c := xs.length + 1) (by simp [h0, hu, Nat.add_mul]) (by omega) (by omega) (by omega)
  rw [slA_some (by omega)] at this
  rw [List.drop_append_of_le_length (by rw [h0]; omega), rows_drop Job.csl, List.take_append_of_le_length (by rw [rows_length Job.csl]; simp)] at this
  rwa [List.take_of_length_le (by rw [rows_length Job.csl]; simp)] at this
theorem ovlJ {B : Base} {K : List Ent} {w : World} (h : SM B K w) {b b0 k T T' : Nat} {pre cs u : List Value} {v : List Value} (h0 : K[0]? = some (Sl.e T 7 (cs ++ u) (some ⟨b0, pre, k⟩))) (h1 : K[1]? = some (Ent.c b T' v)) (hu : u.length = 1 * 7) :
    b ≠ b0 ∧ (∃ c1 t1, w.heap[b]? = some (.cells c1 t1 (0, 0))) ∧ (∃ c2 t2, w.heap[b0]? = some (.cells c2 t2 (0, 0)) ∧ c2.size ≠ 0) := by
  refine ⟨h.apart h1 h0 rfl rfl (by decide), ?_, ?_⟩
  · obtain ⟨o, ho, r, _, rfl⟩ := h.mem.ok _ (List.mem_of_getElem? h1)
    exact ⟨_, _, ho b rfl⟩
  · obtain ⟨o, ho, r, _, rfl⟩ := h.mem.ok _ (List.mem_of_getElem? h0)
    exact ⟨_, _, ho b0 rfl, by simp only [List.size_toArray, List.length_append, hu]; omega⟩
theorem insert_c (s : Option Sl) (xs : List Job) (i b : Nat) (j : Job) (hi : i ≤ xs.length) (hb : xs.length ≤ 4294967296) : Ctr Try.prog 56 [.slice (Sl.addr s) xs.length (Sl.cap xs.length s), vi i, .slice (some ⟨b, 0, none⟩) 1 1] (fun _ => True) ([Sl.e 51 7 (rows Job.cs xs) s, Ent.c b 51 j.cs]) (fun s' : Option Sl => .slice (Sl.addr s') (insJ xs i j).length (Sl.cap (insJ xs i j).length s')) (fun s' => [Sl.e 51 7 (rows Job.cs (insJ xs i j)) s']) := by
  refine Ctr.of Try.func56 rfl (Nat.le_of_ble_eq_true rfl) fun w hw => ?_
  refine JS_have (p := xs.length ≤ Sl.cap xs.length s) (fun w h => h.capLe Job.csl (by decide) 0 rfl) fun hcap => ?_
  refine JS_live [(0, _), (1, _), (2, _)] rfl ?_
  refine JS_seq ?_
  refine JS_region ?_
  refine RJ_float (FS_assign rfl) rfl ?_
  refine RJ_nil ?_
  refine JS_seq ?_
  refine JS_region ?_
  refine RJ_float (FS_move rfl) rfl ?_
  refine RJ_float (FS_move rfl) rfl ?_
  refine RJ_float (FS_slice Try.tab rfl rfl ⟨_, rfl⟩ rfl (by omega) (by omega)) rfl ?_
  refine RJ_nil ?_
  refine JS_seq ?_
  refine JS_region ?_
  refine RJ_float (FS_move rfl) rfl ?_
  refine RJ_float (FS_len Try.tab rfl rfl) rfl ?_
  refine RJ_float (FS_assign rfl) rfl ?_
  refine RJ_nil ?_
  refine JS_seq ?_
  refine JS_seq ?_
  refine JS_region ?_
  refine RJ_float (FS_move rfl) rfl ?_
  refine RJ_float (FS_int rfl rfl rfl) rfl ?_
  refine RJ_nil ?_
  refine JS_live [(0, _), (1, _), (2, _), (7, _), (16, _)] rfl ?_
  refine JS_else rfl ?_
  refine JS_skip ?_
  refine JS_seq ?_
  refine JS_region ?_
  refine RJ_float (FS_move rfl) rfl ?_
  refine RJ_float (FS_len Try.tab rfl rfl) rfl ?_
  refine RJ_float (FS_assign rfl) rfl ?_
  refine RJ_nil ?_
  refine JS_seq ?_
  refine JS_seq ?_
  refine JS_region ?_
  refine RJ_float (FS_move rfl) rfl ?_
  refine RJ_float (FS_move rfl) rfl ?_
  refine RJ_float (FS_int rfl rfl rfl) rfl ?_
  refine RJ_nil ?_
  refine JS_condE rfl (fun h22 => ?_) (fun h22 => ?_)
  · refine JS_seq ?_
    refine JS_region ?_
    refine RJ_float (FS_move rfl) rfl ?_
    refine RJ_float (FS_move rfl) rfl ?_
    refine RJ_loud (LS_app1 Job.cs Try.tab 0 1 Job.csl Job.one (fun _ _ => trivial) rfl rfl rfl rfl rfl rfl rfl rfl rfl rfl hb) rfl fun b25 => ?_
    refine RJ_mem [_, _] rfl ?_
    refine RJ_float (FS_assign rfl) rfl ?_
    refine RJ_nil ?_
    refine JS_live [(6, _)] rfl ?_
    exact JS_return b25 [0] rfl (.tmp rfl .nil) (by rw [insJ_end xs (by omega) j]; rfl) (by decide) (by rw [insJ_end xs (by omega) j]; rfl)
  · refine JS_skip ?_
    refine JS_seq ?_
    refine JS_seq ?_
    refine JS_region ?_
    refine RJ_float (FS_move rfl) rfl ?_
    refine RJ_float (FS_move rfl) rfl ?_
    refine RJ_float (FS_add rfl rfl (by omega) (by omega)) rfl ?_
    refine RJ_float (FS_move rfl) rfl ?_
    refine RJ_float (FS_cap Try.tab rfl rfl) rfl ?_
    refine RJ_float (FS_int rfl rfl rfl) rfl ?_
    refine RJ_nil ?_
    refine JS_live [(0, _), (1, _), (2, _), (7, _), (8, _), (31, _)] rfl ?_
    refine JS_condD rfl (fun h31 => ?_) (fun h31 => ?_)
    · refine JS_seq ?_
      refine JS_region ?_
      refine RJ_float (FS_move rfl) rfl ?_
      refine RJ_float (FS_move rfl) rfl ?_
      refine RJ_float (FS_slice Try.tab rfl rfl rfl ⟨_, rfl⟩ (by first | omega | (simp only [Sl.cap]; omega)) (by first | omega | (simp only [Sl.cap]; omega))) rfl ?_
      refine RJ_float (FS_move rfl) rfl ?_
      refine RJ_float (FS_move rfl) rfl ?_
      refine RJ_float (FS_add rfl rfl (by omega) (by omega)) rfl ?_
      refine RJ_float (FS_move rfl) rfl ?_
      refine RJ_float (FS_val (v' := vi ((xs.length + 1 - i : Nat) : Int)) (FS_sub rfl rfl (by omega) (by omega)) (by simp only [vi]; congr 1; omega)) rfl ?_
      refine RJ_loud (LS_appendG Try.tab (cs := rows Job.cs (xs.take i)) rfl rfl rfl rfl rfl rfl rfl rfl rfl (fun w h => by have := rows_cutA (h.sl 0 rfl) (Nat.zero_le i) hi hcap; simpa using this) (rows_cut hi) (by omega) (show (i - 0 + (xs.length + 1 - i)) * 56 ≤ _ by omega) (by omega)) rfl fun ⟨t2, Z, hZ⟩ => ?_
      refine RJ_mem [_, _, _] rfl ?_
      refine RJ_float (FS_assign rfl) rfl ?_
      refine RJ_nil ?_
      refine JS_live [(0, _), (1, _), (2, _), (7, _), (9, _)] rfl ?_
      refine JS_seq ?_
      refine JS_region ?_
      refine RJ_float (FS_move rfl) rfl ?_
      refine RJ_float (FS_move rfl) rfl ?_
      refine RJ_float (FS_slice Try.tab rfl rfl ⟨_, rfl⟩ rfl (by first | omega | (simp only [Sl.cap]; omega)) (by first | omega | (simp only [Sl.cap]; omega))) rfl ?_
      refine RJ_float (FS_move rfl) rfl ?_
      refine RJ_loud (LS_copy Try.tab 2 (s := some t2) (o := i * 7) (ys := j.cs) rfl rfl rfl rfl (fun w h => h.row 1 rfl) (by rw [show Nat.min 1 (i - 0 + (xs.length + 1 - i) - i) = 1 from Nat.min_eq_left (by omega)]; rfl) (Job.one j) (.inr (slA_some (by simp only [Sl.cap]; omega))) (by have := rows_cut (xs := xs) hi; simp only [List.length_append, this, hZ, Job.csl]; omega)) rfl fun b45 => ?_
      refine RJ_mem [_, _, _] rfl ?_
      refine RJ_nil ?_
      refine JS_seq ?_
      refine JS_drawn Try.mixed [(0, false), (1, false), (2, false), (5, false), (6, false), (3, false), (7, false), (4, false), (8, true)] (by kernel_rfl) fun R1 => ?_
      refine HQ_p R1 rfl rfl (fun _ => (FS_move rfl)) rfl ?_
      refine HQ_p R1 rfl rfl (fun _ => (FS_move rfl)) rfl ?_
      refine HQ_p R1 rfl rfl (fun _ => (FS_move rfl)) rfl ?_
      refine HQ_p R1 rfl rfl (fun _ => (FS_move rfl)) rfl ?_
      refine HQ_p R1 rfl rfl (fun _ => (FS_move rfl)) rfl ?_
      refine HQ_p R1 rfl rfl (fun _ => (FS_add rfl rfl (by omega) (by omega))) rfl ?_
      refine HQ_p R1 rfl rfl (fun _ => (FS_slice Try.tab rfl rfl ⟨_, rfl⟩ rfl (by first | omega | (simp only [Sl.cap]; omega)) (by first | omega | (simp only [Sl.cap]; omega)))) rfl ?_
      refine HQ_p R1 rfl rfl (fun _ => (FS_slice Try.tab rfl rfl ⟨.i64, (rfl : _ = some (vi ((i + 1 : Nat) : Int)))⟩ rfl (by first | omega | (simp only [Sl.cap]; omega)) (by first | omega | (simp only [Sl.cap]; omega)))) rfl ?_
      refine HQ_loud0 R1 rfl rfl (LS_copy Try.tab 2 (s := some t2) (o := (i + 1) * 7) (ys := rows Job.cs (xs.drop i)) rfl rfl rfl rfl (fun w h => by have := rows_cutA (h.sl 0 rfl) hi (Nat.le_refl _) hcap; rwa [List.take_of_length_le (by simp)] at this) (by rw [rows_length Job.csl, List.length_drop, show Nat.min (xs.length - i) (i - 0 + (xs.length + 1 - i) - (i + 1)) = xs.length - i from Nat.min_eq_left (by omega)]) (rows_all Job.one _) (.inr (slA_some (by simp only [Sl.cap]; omega))) (by have := rows_cut (xs := xs) hi; rw [stv_length, rows_length Job.csl]; simp only [List.length_append, List.length_drop, this, hZ]; omega)) rfl (by kernel_rfl) fun _ => ?_
      refine HQ_mem [_, _, _] rfl ?_
      refine HQ_end R1 rfl ?_
      clear R1
      refine JS_live [(9, _)] rfl ?_
      refine JS_seq ?_
      refine JS_region ?_
      refine RJ_float (FS_move rfl) rfl ?_
      refine RJ_float (FS_assign rfl) rfl ?_
      refine RJ_nil ?_
      exact JS_return (some t2) [2] rfl (.tmp rfl .nil) (by
      have h1 : i - 0 + (xs.length + 1 - i) = xs.length + 1 := by omega
      rw [h1, insJ_length xs hi j]; rfl) (by decide) (by rw [← insJ_grown (by omega) j hZ]; rfl)
    · rcases s with _ | ⟨b0, pre, k⟩
      · simp only [Sl.cap] at h31
        omega
      simp only [Sl.cap] at h31 hcap
      refine JS_skip ?_
      refine JS_seq ?_
      refine JS_region ?_
      refine RJ_float (FS_move rfl) rfl ?_
      refine RJ_float (FS_move rfl) rfl ?_
      refine RJ_float (FS_move rfl) rfl ?_
      refine RJ_float (FS_add rfl rfl (by omega) (by omega)) rfl ?_
      refine RJ_float (FS_val (v' := .slice (some ⟨b0, pre.length, none⟩) (xs.length + 1) (xs.length + k)) (FS_slice Try.tab rfl rfl rfl ⟨.i64, (rfl : _ = some (vi ((xs.length + 1 : Nat) : Int)))⟩ (by omega) (by simp only [Sl.cap]; omega)) (by rw [slA_zero]; rfl)) rfl ?_
      refine RJ_float (FS_assign rfl) rfl ?_
      refine RJ_nil ?_
      refine JS_seq ?_
      refine JS_seq ?_
      refine JS_ex (fun w h => h.room (j := 0) (m := 1) rfl (by omega)) fun ⟨u, hu⟩ => ?_
      refine JS_mem [_, _] rfl ?_
      refine JS_region ?_
      refine RJ_float (FS_move rfl) rfl ?_
      refine RJ_float (FS_move rfl) rfl ?_
      refine RJ_float (FS_move rfl) rfl ?_
      refine RJ_float (FS_move rfl) rfl ?_
      refine RJ_float (FS_add rfl rfl (by omega) (by omega)) rfl ?_
      refine RJ_float (FS_val (v' := .slice (some ⟨b0, pre.length + (i + 1) * 7, none⟩) (xs.length - i) (xs.length + k - (i + 1))) (FS_slice Try.tab rfl rfl ⟨.i64, (rfl : _ = some (vi ((i + 1 : Nat) : Int)))⟩ rfl (by omega) (by omega)) (by rw [slA_some (by omega)] <;> (congr 1 <;> omega))) rfl ?_
      refine RJ_fun (LS_overlaps Try.tab Try.func61 (by kernel_rfl) (by kernel_rfl) (by kernel_rfl) (by kernel_rfl) rfl rfl rfl rfl rfl (fun w h => ovlJ h rfl rfl hu)) rfl ?_
      refine RJ_float (FS_not rfl) rfl ?_
      refine RJ_nil ?_
      refine JS_live [(1, _), (2, _), (7, _), (8, _), (0, _), (68, _)] rfl ?_
      refine JS_if rfl ?_
      refine JS_seq ?_
      refine JS_drawn Try.mixed [(0, false), (1, false), (2, false), (5, false), (6, false), (3, false), (7, false), (4, false), (8, true)] (by kernel_rfl) fun R2 => ?_
      refine HQ_p R2 rfl rfl (fun _ => (FS_move rfl)) rfl ?_
      refine HQ_p R2 rfl rfl (fun _ => (FS_move rfl)) rfl ?_
      refine HQ_p R2 rfl rfl (fun _ => (FS_move rfl)) rfl ?_
      refine HQ_p R2 rfl rfl (fun _ => (FS_move rfl)) rfl ?_
      refine HQ_p R2 rfl rfl (fun _ => (FS_move rfl)) rfl ?_
      refine HQ_p R2 rfl rfl (fun _ => (FS_add rfl rfl (by omega) (by omega))) rfl ?_
      refine HQ_p R2 rfl rfl (fun _ => (FS_val (v' := .slice (some ⟨b0, pre.length + i * 7, none⟩) (xs.length + 1 - i) (xs.length + k - i)) (FS_slice Try.tab rfl rfl ⟨_, rfl⟩ rfl (by omega) (by omega)) (by rw [slA_some (by omega)] <;> (congr 1 <;> omega)))) rfl ?_
      refine HQ_p R2 rfl rfl (fun _ => (FS_val (v' := .slice (some ⟨b0, pre.length + (i + 1) * 7, none⟩) (xs.length - i) (xs.length + k - (i + 1))) (FS_slice Try.tab rfl rfl ⟨.i64, (rfl : _ = some (vi ((i + 1 : Nat) : Int)))⟩ rfl (by omega) (by omega)) (by rw [slA_some (by omega)] <;> (congr 1 <;> omega)))) rfl ?_
      refine HQ_loud0 R2 rfl rfl (LS_copy Try.tab 0 (s := some ⟨b0, pre, k - 1⟩) (o := (i + 1) * 7) (ys := rows Job.cs (xs.drop i)) rfl rfl rfl rfl (fun w h => shiftRow (c := 0) (h.sl 0 rfl) hu (by omega)) (by rw [rows_length Job.csl, List.length_drop, show Nat.min (xs.length + 1 - i) (xs.length - i) = xs.length - i from Nat.min_eq_right (by omega)]) (rows_all Job.one _) (.inr rfl) (by rw [List.length_append, rows_length Job.csl, rows_length Job.csl, hu, List.length_drop]; omega)) rfl (by kernel_rfl) fun _ => ?_
      refine HQ_mem [_, _] rfl ?_
      refine HQ_end R2 rfl ?_
      clear R2
      refine JS_live [(1, _), (2, _), (0, _)] rfl ?_
      refine JS_seq ?_
      refine JS_region ?_
      refine RJ_float (FS_move rfl) rfl ?_
      refine RJ_float (FS_move rfl) rfl ?_
      refine RJ_float (FS_val (v' := .slice (some ⟨b0, pre.length + i * 7, none⟩) (xs.length + 1 - i) (xs.length + k - i)) (FS_slice Try.tab rfl rfl ⟨_, rfl⟩ rfl (by omega) (by omega)) (by rw [slA_some (by omega)] <;> (congr 1 <;> omega))) rfl ?_
      refine RJ_float (FS_move rfl) rfl ?_
      refine RJ_loud (LS_copy Try.tab 0 (s := some ⟨b0, pre, k - 1⟩) (o := i * 7) (ys := j.cs) rfl rfl rfl rfl (fun w h => h.row 1 rfl) (by rw [show Nat.min 1 (xs.length + 1 - i) = 1 from Nat.min_eq_left (by omega)]; rfl) (Job.one j) (.inr rfl) (by rw [stv_length, List.length_append, rows_length Job.csl, hu, Job.csl]; omega)) rfl fun b82 => ?_
      refine RJ_mem [_, _] rfl ?_
      refine RJ_nil ?_
      refine JS_live [(0, _)] rfl ?_
      refine JS_seq ?_
      refine JS_region ?_
      refine RJ_float (FS_move rfl) rfl ?_
      refine RJ_float (FS_assign rfl) rfl ?_
      refine RJ_nil ?_
      exact JS_return (some ⟨b0, pre, k - 1⟩) [0] rfl (.tmp rfl .nil) (by simp only [one, Sl.addr, Sl.cap, insJ_length xs hi j]; congr 1; omega) (by decide) (by rw [← insJ_shift (by omega) j hu]; rfl)
end Go.Proofs.Ytmhjcemcjfkejaa
