/- JobKills: the walk -/
import Derived.Test.YtmhjcemcjfkejaaA19
namespace Go.Proofs.Ytmhjcemcjfkejaa
open Go.RowKit
open Go.Proofs
set_option linter.unusedVariables false
set_option linter.unusedSimpArgs false
set_option linter.unnecessarySimpa false
set_option maxRecDepth 20000
theorem Task.ok_of (t : Task) (h : (t.kind = 0 ∨ t.kind = 1) ∧ 1 ≤ t.period ∧ t.period ≤ 1024 ∧ 1 ≤ t.deadline ∧ t.deadline ≤ t.period ∧ 1 ≤ t.cLow ∧ t.cLow ≤ t.cHigh ∧ t.cHigh ≤ t.deadline ∧ 0 ≤ t.prio ∧ t.prio ≤ 255) : t.ok = true := by
  simp only [Task.ok, Bool.and_eq_true, Bool.or_eq_true, beq_iff_eq, decide_eq_true_eq]
  omega
theorem Job.ok_of (j : Job) (h : 0 ≤ j.prio ∧ j.prio ≤ 255 ∧ 0 ≤ j.release ∧ j.release ≤ 1099511627776 ∧ j.release < j.deadline ∧ 1 ≤ j.demand ∧ j.demand ≤ 65535 ∧ 0 ≤ j.used ∧ j.used < j.demand ∧ 0 ≤ j.task ∧ j.task < 6 ∧ 0 ≤ j.seq) : j.ok = true := by
  simp only [Job.ok, clockB, demandB, Bool.and_eq_true, decide_eq_true_eq]
  omega
def jkT (a b : Int) : Task := ⟨1, 40, 40, a, b, 0⟩
def jkP (x : Nat) (lv a b : Int) : Part := ⟨lv, [jkT a b], some ⟨x, 0, none⟩, 1, [], none, 0⟩
def jkM (lv a b last : Int) (picks : List Int) (seq : Int) (js : List Job) : Lc := ⟨2, lv, [⟨jkT a b, last, picks, seq⟩], js⟩
def jkJ (d u : Int) : Job := ⟨0, 0, 0, 7, 47, d, u⟩
structure JkOk (lv a b d : Int) : Prop where
  a1 : 1 ≤ a
  a8 : a ≤ 8
  b1 : a ≤ b
  b8 : b ≤ 15
  d1 : 1 ≤ d
  d2 : d ≤ 32
  lv : lv = 1 ∨ lv = 0 ∧ b = a
def jkV (lv a b d k : Int) : Verd := ⟨(lv == 1) && (k == a) && !(k == d), k == d, !(k == d) && (k == b)⟩
def jkE (lv a b d k : Int) : List Ev := (if lv = 1 ∧ k = a ∧ d > k then [⟨4, 2, 0, k⟩] else []) ++ (if k = d then [⟨5, 2, 0, k⟩] else if k = b then [⟨6, 2, 0, k⟩] else [])
def jkN (lv a b d k : Int) : Lc := jkM lv a b 7 [] 1 (if k = d ∨ k = b then [] else [jkJ d k])
theorem jk_tell {lv a b d k : Int} (v : Verd) (j : Job) (e1 : v.over = true ↔ lv = 1 ∧ k = a ∧ d > k) (e2 : v.done = true ↔ k = d) (e3 : v.kill = true ↔ k ≠ d ∧ k = b) (h1 : j.task = 0) (h2 : j.used = k) : tellR 2 j v = jkE lv a b d k := by
  unfold tellR jkE
  rw [h1, h2]
  simp only [e1, e2, e3]
  congr 1
  by_cases hd : k = d
  · simp [hd]
  · by_cases hb : k = b
    · rw [if_neg hd, if_neg hd, if_pos hb, if_pos ⟨hd, hb⟩]
      rfl
    · rw [if_neg hd, if_neg hd, if_neg hb, if_neg (fun h => hb h.2)]
      rfl
theorem JkOk.task {lv a b d : Int} (h : JkOk lv a b d) : (jkT a b).ok = true := by
  have := h.a1; have := h.a8; have := h.b1; have := h.b8
  exact Task.ok_of _ ⟨.inr rfl, by simp [jkT], by simp [jkT], by simp [jkT], by simp [jkT], by simp only [jkT]; omega, by simp only [jkT]; omega, by simp only [jkT]; omega, by simp [jkT], by simp [jkT]⟩
theorem JkOk.new {lv a b d : Int} (h : JkOk lv a b d) (x : Nat) : newOk 2 (jkP x lv a b) = true := by
  have h1 := h.task
  have h2 : TasksOk lv [jkT a b] := by
    refine ⟨by simp, fun i hi => ?_⟩
    obtain rfl : i = 0 := by simp at hi; omega
    refine ⟨h1, fun hl => ?_, by simp⟩
    rcases h.lv with h3 | h3
    · omega
    · exact h3.2
  have h3 : levelB lv = true := by
    rcases h.lv with h3 | h3
    · simp [levelB, h3]
    · simp [levelB, h3.1]
  simp [newOk, checkB, aloneC, jkP, h2, h3, codeB, winsB]
theorem JkOk.pick {lv a b d : Int} (h : JkOk lv a b d) : (jkM lv a b (-1) [] 0 []).pick 0 d 7 = (jkM lv a b (-1) [d] 0 [], [], 0) := by
  have h1 := h.task
  have h2 := h.d1
  have h3 := h.d2
  have hd : demandB d = true := by simp [demandB]; omega
  have hp : pairB (jkT a b) (-1) [] = true := by simp [pairB, h1]
  have ht : pickT (jkT a b) (-1) [] d = (-1, [d], 0) := by simp [pickT, hp, hd]
  have hs : soonB (jkT a b) (-1) 7 = true := by simp [soonB]
  have hl : lateB (jkT a b) (-1) [d] 7 = false := by simp [lateB, hs]
  simp [Lc.pick, jkM, pickL, ht, hl]
theorem JkOk.begin {lv a b d : Int} (h : JkOk lv a b d) : (jkM lv a b (-1) [d] 0 []).begin 7 = (jkM lv a b 7 [] 1 [jkJ d 0], [⟨1, 2, 0, d⟩]) := by
  have h1 := h.task
  have h2 := h.d1
  have h3 := h.d2
  have hd : demandB d = true := by simp [demandB]; omega
  have hp : pairB (jkT a b) (-1) [d] = true := by simp [pairB, h1, hd]
  have hs : soonB (jkT a b) (-1) 7 = true := by simp [soonB]
  have hc : comesB (jkT a b) (-1) [d] 7 = true := by unfold comesB; rw [if_neg (by simp [jkT])]; simp [hs]
  have hr : releaseT (jkT a b) (-1) [d] 7 = (7, [], d, true) := by simp [releaseT, hp, hc, clockB]
  have hj : (jkJ d 0).ok = true := Job.ok_of _ (by simp only [jkJ]; omega)
  have hpu : putJ [] (jkJ d 0) = (0, [jkJ d 0]) := by
    have : JobsOk [] := ⟨by simp, by simp⟩
    simp [putJ, this, hj, atJ, insJ]
  have hpu' : putJ [] ⟨0, 0, (jkT a b).prio, 7, 7 + (jkT a b).deadline, d, 0⟩ = (0, [jkJ d 0]) := hpu
  have hm : missedJ [] 7 = ([], []) := by simp [missedJ]
  simp [Lc.begin, jkM, hm, relGo, relL, hr, hpu']
theorem JkOk.run {lv a b d : Int} (h : JkOk lv a b d) {k : Int} (hk1 : 1 ≤ k) (hkd : k ≤ d) (hkb : k ≤ b) : (jkM lv a b 7 [] 1 [jkJ d (k - 1)]).run = (jkV lv a b d k, jkN lv a b d k, jkE lv a b d k) := by
  have h1 := h.task
  have h2 := h.d1
  have h3 := h.d2
  have hd : demandB d = true := by simp [demandB]; omega
  have hj : (jkJ d (k - 1)).ok = true := Job.ok_of _ (by simp only [jkJ]; omega)
  have hjo : JobsOk [jkJ d (k - 1)] := ⟨by simp, fun i hi => by
    obtain rfl : i = 0 := by simp at hi; omega
    exact ⟨hj, fun h => by omega⟩⟩
  have hlv : levelB lv = true := by
    rcases h.lv with h3 | h3
    · simp [levelB, h3]
    · simp [levelB, h3.1]
  have hlim : limitT (jkT a b) lv = b := by
    rcases h.lv with h3 | h3
    · simp [limitT, h3, jkT]
    · simp [limitT, h3.1, jkT, h3.2]
  have hcj : chargeJ (jkJ d (k - 1)) (jkT a b) lv = (jkJ d k, jkV lv a b d k, 0) := by
    have hko : chargeOk (jkJ d (k - 1)) (jkT a b) lv = true := by simp [chargeOk, hjo, h1, hlv]
    simp only [chargeJ, hko, if_true, hlim]
    simp only [jkJ, jkV, jkT, Int.sub_add_cancel]
  have hx : (jkM lv a b 7 [] 1 [jkJ d (k - 1)]).run = ((chargeJ (jkJ d (k - 1)) (jkT a b) lv).2.1, ⟨2, lv, [⟨jkT a b, 7, [], 1⟩], runJ (chargeJ (jkJ d (k - 1)) (jkT a b) lv).1 (chargeJ (jkJ d (k - 1)) (jkT a b) lv).2.1 []⟩, tellR 2 (chargeJ (jkJ d (k - 1)) (jkT a b) lv).1 (chargeJ (jkJ d (k - 1)) (jkT a b) lv).2.1) := rfl
  rw [hx, hcj]
  simp only [Prod.mk.injEq, true_and]
  constructor
  · simp only [jkN, jkM, runJ, jkV]
    by_cases hkd' : k = d <;> by_cases hkb' : k = b <;> simp [hkd', hkb']
    all_goals (intro hh; omega)
  · refine jk_tell (jkV lv a b d k) (jkJ d k) ?_ ?_ ?_ rfl rfl
    · simp only [jkV, Bool.and_eq_true, beq_iff_eq, Bool.not_eq_true', beq_eq_false_iff_ne]
      omega
    · simp only [jkV, beq_iff_eq]
    · simp only [jkV, Bool.and_eq_true, beq_iff_eq, Bool.not_eq_true', beq_eq_false_iff_ne]
theorem jk_kill {d k b : Int} (h : k ≤ d) : Value.bool (!((!(k == d) && (k == b)) == ((k == b) && decide (d > k)))) = .bool false := by
  congr 1
  by_cases h1 : k = d
  · subst h1; simp
  · have : d > k := by omega
    simp [h1, this]
theorem jk_done {d k : Int} : Value.bool (!((k == d) == (k == d))) = .bool false := by simp
theorem mask_b (x : Int) (n : Nat) : 0 ≤ x % 2 ^ n ∧ x % 2 ^ n < 2 ^ n := ⟨Int.emod_nonneg _ (by have := Int.pow_pos (n := 2) (m := n) (by decide); omega), Int.emod_lt_of_pos _ (Int.pow_pos (by decide))⟩
theorem jkPick (L : LocL) {lv a b d : Int} {x : Nat} (h : JkOk lv a b d) (hB : L.b = x) (hM : L.m = jkM lv a b (-1) [] 0 []) : Ctr Try.prog 7 [vp x 0, vi 0, vi d, vi 7] (fun _ => True) [locB L] (fun q : {q : LocL × Option Sl // q.1.m = jkM lv a b (-1) [d] 0 [] ∧ q.1.b = x} => .tuple #[evV [] q.1.2, vi 0])
      (fun q => [locB q.1.1, evsE [] q.1.2]) := by
  have := pickM L hM hB 0 d 7 (by simp [jkM]) ⟨by simp [jkM], by simp [jkM], by simp [jkM]⟩ rfl
  rw [h.pick] at this
  exact this
theorem jkBegin (L : LocL) {lv a b d : Int} {x : Nat} (h : JkOk lv a b d) (hB : L.b = x) (hM : L.m = jkM lv a b (-1) [d] 0 []) : Ctr Try.prog 8 [vp x 0, vi 7] (fun _ => True) [locB L] (fun q : {q : LocL × Option Sl // q.1.m = jkM lv a b 7 [] 1 [jkJ d 0] ∧ q.1.b = x} => .tuple #[evV [⟨1, 2, 0, d⟩] q.1.2, vi 0])
      (fun q => [locB q.1.1, evsE [⟨1, 2, 0, d⟩] q.1.2]) := by
  have := beginM L hM hB 7 ⟨by simp [jkM], by simp [jkM], by simp [jkM]⟩ (by simp [jkM]) rfl
  rw [h.begin] at this
  exact this
theorem jkRun (L : LocL) {lv a b d : Int} {x : Nat} (h : JkOk lv a b d) (hB : L.b = x) {k : Int} (hk1 : 1 ≤ k) (hkd : k ≤ d) (hkb : k ≤ b) (hM : L.m = jkM lv a b 7 [] 1 [jkJ d (k - 1)]) : Ctr Try.prog 10 [vp x 0] (fun _ => True) [locB L] (fun q : {q : LocL × Option Sl // q.1.m = jkN lv a b d k ∧ q.1.b = x} => .tuple #[agg (jkV lv a b d k).cs, evV (jkE lv a b d k) q.1.2, vi 0])
      (fun q => [locB q.1.1, evsE (jkE lv a b d k) q.1.2]) := by
  have := runM L hM hB (fun j rest hj => by simp [jkM] at hj; simp [← hj.1, jkJ, jkM]) ⟨by simp [jkM], by simp [jkM], by simp [jkM]⟩
  rw [h.run hk1 hkd hkb] at this
  exact this
theorem jkEnd (lv a b : Int) : (jkM lv a b 7 [] 1 []).small := ⟨by simp [jkM], by simp [jkM], by simp [jkM]⟩
theorem jobKills_c (demand low high : Int) (rank : Bool) : Ctr Try.prog 3 [vi demand, vi low, vi high, .bool rank] (fun _ => True) ([]) (fun _ : Unit => .bool true) (fun _ => []) := by
  refine Ctr.of Try.func3 rfl (Nat.le_of_ble_eq_true rfl) fun w hw => ?_
  have mb1 := mask_b low 3
  have mb2 := mask_b high 3
  have mb3 := mask_b demand 5
  refine JS_live [(0, _), (1, _), (2, _), (3, _)] rfl ?_
  refine JS_seq ?_
  refine JS_region ?_
  refine RJ_float (FS_assign rfl) rfl ?_
  refine RJ_nil ?_
  refine JS_seq ?_
  refine JS_seq ?_
  refine JS_region ?_
  refine RJ_fun (LS_fun (Try.can rfl) (awake14_c) rfl (fun _ _ => trivial)) rfl ?_
  refine RJ_float (FS_not rfl) rfl ?_
  refine RJ_nil ?_
  refine JS_else rfl ?_
  refine JS_skip ?_
  refine JS_seq ?_
  refine JS_region ?_
  refine RJ_float (FS_move rfl) rfl ?_
  refine RJ_float (FS_mask 3 rfl rfl (by decide) rfl) rfl ?_
  refine RJ_float (FS_add rfl rfl (by omega) (by omega)) rfl ?_
  refine RJ_float (FS_assign rfl) rfl ?_
  refine RJ_nil ?_
  refine JS_live [(0, _), (2, _), (3, _), (9, _)] rfl ?_
  refine JS_seq ?_
  refine JS_region ?_
  refine RJ_float (FS_move rfl) rfl ?_
  refine RJ_float (FS_assign rfl) rfl ?_
  refine RJ_nil ?_
  refine JS_seq ?_
  refine JS_region ?_
  refine RJ_float (FS_assign rfl) rfl ?_
  refine RJ_nil ?_
  refine JS_seq ?_
  refine JS_seq ?_
  refine JS_region ?_
  refine RJ_float (FS_move rfl) rfl ?_
  refine RJ_nil ?_
  refine JS_cutF (ι := {q : Int × Int // rank = true ∧ q.1 = 1 ∧ q.2 = (1 + low % 2 ^ 3) + high % 2 ^ 3 ∨ rank = false ∧ q.1 = 0 ∧ q.2 = (1 + low % 2 ^ 3)}) [(0, _), (3, _), (9, _)] rfl (fun ⟨(lv, bb), hq⟩ => [(11, vi lv), (10, vi bb)]) (fun ⟨(lv, bb), hq⟩ => []) ?_ (fun ⟨(lv, bb), hq⟩ => ?_)
  · refine JS_cond rfl (fun h35 => ?_) (fun h35 => ?_)
    · try simp only [Bool.and_eq_true, Bool.or_eq_true, Bool.and_eq_false_iff, Bool.or_eq_false_iff, Bool.not_eq_true', Bool.not_eq_false', decide_eq_true_eq, decide_eq_false_iff_not, beq_iff_eq, bne_iff_ne, beq_eq_false_iff_ne, bne_eq_false_iff_eq] at h35
      refine JS_seq ?_
      refine JS_region ?_
      refine RJ_float (FS_assign rfl) rfl ?_
      refine RJ_nil ?_
      refine JS_region ?_
      refine RJ_float (FS_move rfl) rfl ?_
      refine RJ_float (FS_move rfl) rfl ?_
      refine RJ_float (FS_mask 3 rfl rfl (by decide) rfl) rfl ?_
      refine RJ_float (FS_add rfl rfl (by omega) (by omega)) rfl ?_
      refine RJ_float (FS_assign rfl) rfl ?_
      refine RJ_nil ?_
      refine JS_live [(0, _), (3, _), (9, _), (11, _), (10, _)] rfl ?_
      exact JS_there ⟨(1, _), .inl ⟨h35, rfl, rfl⟩⟩ rfl (fun w h => h.pick (is := []) (by decide))
    · try simp only [Bool.and_eq_true, Bool.or_eq_true, Bool.and_eq_false_iff, Bool.or_eq_false_iff, Bool.not_eq_true', Bool.not_eq_false', decide_eq_true_eq, decide_eq_false_iff_not, beq_iff_eq, bne_iff_ne, beq_eq_false_iff_ne, bne_eq_false_iff_eq] at h35
      refine JS_skip ?_
      exact JS_there ⟨(0, _), .inr ⟨h35, rfl, rfl⟩⟩ rfl (fun w h => h.pick (is := []) (by decide))
  · refine JS_live [(11, _), (10, _), (0, _), (3, _), (9, _)] rfl ?_
    simp only at hq
    have hok : JkOk lv (1 + low % 2 ^ 3) bb (1 + demand % 2 ^ 5) := ⟨by omega, by omega, by omega, by omega, by omega, by omega, by omega⟩
    refine JS_seq ?_
    refine JS_region ?_
    refine RJ_float (FS_move rfl) rfl ?_
    refine RJ_float (FS_move rfl) rfl ?_
    refine RJ_float (FS_move rfl) rfl ?_
    refine RJ_float (FS_build Try.tab rfl rfl rfl rfl) rfl ?_
    refine RJ_loud (LS_buildSlice Try.tab rfl rfl rfl rfl rfl rfl) rfl fun b45 => ?_
    refine RJ_mem [_] rfl ?_
    refine RJ_float (FS_build Try.tab rfl rfl rfl rfl) rfl ?_
    refine RJ_loud (LS_pure' (Try.can rfl) (new_c 2 (jkP b45 lv (1 + low % 2 ^ 3) bb) (hok.new b45) (Nat.le_of_ble_eq_true rfl)) rfl (fun w h => ⟨h.row 0 rfl, .inl rfl, Nat.le_of_ble_eq_true rfl, Nat.le_of_ble_eq_true rfl, Nat.le_of_ble_eq_true rfl⟩)) rfl fun ⟨L0, hL0⟩ => ?_
    refine RJ_mem [_, _] rfl ?_
    refine RJ_float (FS_move rfl) rfl ?_
    refine RJ_float (FS_extract rfl rfl) rfl ?_
    refine RJ_float (FS_extract rfl rfl) rfl ?_
    refine RJ_float (FS_assign rfl) rfl ?_
    refine RJ_float (FS_assign rfl) rfl ?_
    refine RJ_nil ?_
    refine JS_live [(10, _), (0, _), (3, _), (9, _), (12, _), (13, _)] rfl ?_
    refine JS_seq ?_
    refine JS_seq ?_
    refine JS_region ?_
    refine RJ_float (FS_move rfl) rfl ?_
    refine RJ_fun (LS_fun (Try.can rfl) (num_c _) rfl (fun _ _ => trivial)) rfl ?_
    refine RJ_float (FS_int rfl rfl rfl) rfl ?_
    refine RJ_float (FS_move rfl) rfl ?_
    refine RJ_yes rfl rfl ?_
    refine RJ_float (FS_move rfl) rfl ?_
    refine RJ_yes rfl rfl ?_
    refine RJ_float (FS_ptrNil Try.tab rfl rfl) rfl ?_
    refine RJ_float (FS_pick rfl rfl) rfl ?_
    refine RJ_nil ?_
    refine JS_live [(10, _), (0, _), (3, _), (9, _), (12, _), (56, _)] rfl ?_
    refine JS_else rfl ?_
    refine JS_skip ?_
    refine JS_seq ?_
    refine JS_region ?_
    refine RJ_float (FS_move rfl) rfl ?_
    refine RJ_float (FS_mask 5 rfl rfl (by decide) rfl) rfl ?_
    refine RJ_float (FS_add rfl rfl (by omega) (by omega)) rfl ?_
    refine RJ_float (FS_assign rfl) rfl ?_
    refine RJ_nil ?_
    refine JS_seq ?_
    refine JS_region ?_
    refine RJ_float (FS_move rfl) rfl ?_
    refine RJ_float (FS_move rfl) rfl ?_
    refine RJ_loud (LS_call' [1] [0] rfl (Try.can rfl) (jkPick L0 hok rfl hL0) rfl (by decide) (fun _ _ => trivial)) rfl fun ⟨⟨L1, s1⟩, hL1, hb1⟩ => ?_
    refine RJ_mem [_, _, _] rfl ?_
    refine RJ_float (FS_move rfl) rfl ?_
    refine RJ_float (FS_extract rfl rfl) rfl ?_
    refine RJ_float (FS_extract rfl rfl) rfl ?_
    refine RJ_float (FS_assign rfl) rfl ?_
    refine RJ_float (FS_assign rfl) rfl ?_
    refine RJ_nil ?_
    refine JS_live [(10, _), (3, _), (9, _), (12, _), (14, _), (16, _)] rfl ?_
    refine JS_seq ?_
    refine JS_region ?_
    refine RJ_float (FS_move rfl) rfl ?_
    refine RJ_loud (LS_call' [0] [1, 2] rfl (Try.can rfl) (jkBegin L1 hok hb1 hL1) rfl (by decide) (fun _ _ => trivial)) rfl fun ⟨⟨L2, s2⟩, hL2, hb2⟩ => ?_
    refine RJ_mem [_, _, _, _] rfl ?_
    refine RJ_float (FS_move rfl) rfl ?_
    refine RJ_float (FS_extract rfl rfl) rfl ?_
    refine RJ_float (FS_extract rfl rfl) rfl ?_
    refine RJ_float (FS_assign rfl) rfl ?_
    refine RJ_float (FS_assign rfl) rfl ?_
    refine RJ_nil ?_
    refine JS_seq ?_
    refine JS_seq ?_
    refine JS_region ?_
    refine RJ_float (FS_move rfl) rfl ?_
    refine RJ_fun (LS_fun (Try.can rfl) (num_c _) rfl (fun _ _ => trivial)) rfl ?_
    refine RJ_float (FS_int rfl rfl rfl) rfl ?_
    refine RJ_float (FS_move rfl) rfl ?_
    refine RJ_yes rfl rfl ?_
    refine RJ_float (FS_move rfl) rfl ?_
    refine RJ_yes rfl rfl ?_
    refine RJ_fun (LS_fun (Try.can rfl) (num_c _) rfl (fun _ _ => trivial)) rfl ?_
    refine RJ_yes rfl rfl ?_
    refine RJ_float (FS_int rfl rfl rfl) rfl ?_
    refine RJ_float (FS_pick rfl rfl) rfl ?_
    refine RJ_float (FS_move rfl) rfl ?_
    refine RJ_yes rfl rfl ?_
    refine RJ_float (FS_move rfl) rfl ?_
    refine RJ_yes rfl rfl ?_
    refine RJ_float (FS_move rfl) rfl ?_
    refine RJ_yes rfl rfl ?_
    refine RJ_float (FS_build Try.tab rfl rfl rfl rfl) rfl ?_
    refine RJ_yes rfl rfl ?_
    refine RJ_loud (LS_buildSlice Try.tab rfl rfl rfl rfl rfl rfl) rfl fun b83 => ?_
    refine RJ_mem [_, _, _, _, _] rfl ?_
    refine RJ_yes rfl rfl ?_
    refine RJ_fun (LS_val1 (.bool true) (LS_fun (Try.can rfl) (sameEvents_c _ _ _ _ [⟨1, 2, 0, (1 + demand % 2 ^ 5)⟩] [⟨1, 2, 0, (1 + demand % 2 ^ 5)⟩]) rfl (fun w h => ⟨h.sl 1 rfl, h.row 4 rfl, by simp⟩)) (by simp)) rfl ?_
    refine RJ_yes rfl rfl ?_
    refine RJ_float (FS_not rfl) rfl ?_
    refine RJ_float (FS_pick rfl rfl) rfl ?_
    refine RJ_nil ?_
    refine JS_live [(10, _), (3, _), (9, _), (12, _), (14, _), (86, _)] rfl ?_
    refine JS_else rfl ?_
    refine JS_skip ?_
    refine JS_seq ?_
    refine JS_seq ?_
    refine JS_region ?_
    refine RJ_float (FS_assign rfl) rfl ?_
    refine RJ_nil ?_
    refine JS_block ?_
    refine JS_loopF (ι := {q : Nat × LocL // 1 ≤ q.1 ∧ (q.1 : Int) ≤ (1 + demand % 2 ^ 5) ∧ (q.1 : Int) ≤ bb ∧ q.2.m = jkM lv (1 + low % 2 ^ 3) bb 7 [] 1 [jkJ (1 + demand % 2 ^ 5) ((q.1 : Int) - 1)] ∧ q.2.b = L0.b}) [(10, _), (3, _), (9, _), (12, _), (14, _)] (fun ⟨(k, L), hk1, hkd, hkb, hlm, hlb⟩ => [(19, vi (k : Int))]) (fun ⟨(k, L), hk1, hkd, hkb, hlm, hlb⟩ => [locB L]) (fun ⟨(k, L), hk1, hkd, hkb, hlm, hlb⟩ => 40 - k) ⟨(1, L2), by simp, by simp; omega, by have := hok.a1; have := hok.b1; simp only; omega, hL2, hb2⟩ rfl (fun _ h => h.pick (is := [0]) (by decide)) (fun ⟨(k, L), hk1, hkd, hkb, hlm, hlb⟩ => ?_)
    refine JS_live [(19, _), (10, _), (3, _), (9, _), (12, _), (14, _)] rfl ?_
    simp only at hk1 hkd hkb hlm hlb
    refine JS_seq ?_
    refine JS_seq ?_
    refine JS_region ?_
    refine RJ_float (FS_move rfl) rfl ?_
    refine RJ_float (FS_int rfl rfl rfl) rfl ?_
    refine RJ_nil ?_
    refine JS_condD rfl (fun h88 => ?_) (fun h88 => ?_)
    · refine JS_skip ?_
      refine JS_seq ?_
      refine JS_block ?_
      refine JS_seq ?_
      refine JS_region ?_
      refine RJ_float (FS_move rfl) rfl ?_
      refine RJ_loud (LS_call' [0] [] rfl (Try.can rfl) (jkRun L hok hlb (k := k) (by omega) (by omega) (by omega) hlm) rfl (by decide) (fun _ _ => trivial)) rfl fun ⟨⟨L', s1⟩, hL', hb'⟩ => ?_
      refine RJ_mem [_, _] rfl ?_
      refine RJ_float (FS_move rfl) rfl ?_
      refine RJ_float (FS_extract rfl rfl) rfl ?_
      refine RJ_float (FS_extract rfl rfl) rfl ?_
      refine RJ_float (FS_extract rfl rfl) rfl ?_
      refine RJ_loud (LS_alloc Try.tab rfl) rfl fun b20 => ?_
      refine RJ_mem [_, _, _] rfl ?_
      refine RJ_loud (LS_store Try.tab (i := 2) rfl rfl rfl rfl rfl rfl rfl rfl) rfl fun _ => ?_
      refine RJ_mem [_, _, _] rfl ?_
      refine RJ_float (FS_assign rfl) rfl ?_
      refine RJ_float (FS_assign rfl) rfl ?_
      refine RJ_nil ?_
      refine JS_live [(19, _), (10, _), (3, _), (9, _), (12, _), (14, _), (20, _), (21, _), (22, _)] rfl ?_
      refine JS_seq ?_
      refine JS_region ?_
      refine RJ_float (FS_assign rfl) rfl ?_
      refine RJ_nil ?_
      refine JS_weakK (fun _ h => h.addNil 40 4) ?_
      refine JS_mem [_, _, _, _] rfl ?_
      refine JS_seq ?_
      refine JS_seq ?_
      refine JS_region ?_
      refine RJ_float (FS_move rfl) rfl ?_
      refine RJ_float (FS_move rfl) rfl ?_
      refine RJ_g rfl rfl gvT (fun hg => (FS_move rfl)) rfl ?_
      refine RJ_g rfl rfl gvT (fun hg => (FS_move rfl)) rfl ?_
      refine RJ_g rfl rfl gvT (fun hg => (FS_int (gx hg rfl) (gx hg rfl) rfl)) rfl ?_
      refine RJ_float (FS_and rfl rfl) rfl ?_
      refine RJ_float (FS_move rfl) rfl ?_
      refine RJ_g rfl rfl gvT (fun hg => (FS_move rfl)) rfl ?_
      refine RJ_g rfl rfl gvT (fun hg => (FS_move rfl)) rfl ?_
      refine RJ_g rfl rfl gvT (fun hg => (FS_int (gx hg rfl) (gx hg rfl) rfl)) rfl ?_
      refine RJ_float (FS_and rfl rfl) rfl ?_
      refine RJ_nil ?_
      refine JS_live [(19, _), (10, _), (3, _), (9, _), (12, _), (14, _), (20, _), (21, _), (22, _), (23, _), (107, _)] rfl ?_
      refine JS_cutF (ι := {q : List Ev × Option Sl // q.1 = if lv = 1 ∧ (k : Int) = (1 + low % 2 ^ 3) ∧ (1 + demand % 2 ^ 5) > (k : Int) then [⟨4, 2, 0, k⟩] else []}) [(19, _), (10, _), (3, _), (9, _), (12, _), (14, _), (20, _), (21, _), (22, _)] rfl (fun ⟨(w1, s2), hw1⟩ => [(23, evV w1 s2)]) (fun ⟨(w1, s2), hw1⟩ => [locB L', evsE (jkE lv (1 + low % 2 ^ 3) bb (1 + demand % 2 ^ 5) k) s1, Ent.c b20 42 (jkV lv (1 + low % 2 ^ 3) bb (1 + demand % 2 ^ 5) k).cs, evsE w1 s2]) ?_ (fun ⟨(w1, s2), hw1⟩ => ?_)
      · refine JS_cond rfl (fun h107 => ?_) (fun h107 => ?_)
        · have h107' : lv = 1 ∧ (k : Int) = (1 + low % 2 ^ 3) ∧ (1 + demand % 2 ^ 5) > (k : Int) := by
            simp only [Bool.and_eq_true, beq_iff_eq, decide_eq_true_eq] at h107
            rcases hq with hq | hq
            · exact ⟨hq.2.1, h107.1.2, h107.2⟩
            · rw [hq.1] at h107; simp at h107
          refine JS_region ?_
          refine RJ_float (FS_move rfl) rfl ?_
          refine RJ_float (FS_move rfl) rfl ?_
          refine RJ_float (FS_build Try.tab rfl rfl rfl rfl) rfl ?_
          refine RJ_loud (LS_buildSlice Try.tab rfl rfl rfl rfl rfl rfl) rfl fun b111 => ?_
          refine RJ_mem [_, _, _, _, _] rfl ?_
          refine RJ_loud (LS_app1 Ev.cs Try.tab 3 4 (s := none) (xs := []) (r := ⟨4, 2, 0, k⟩) Ev.csl Ev.one (fun _ _ => trivial) rfl rfl rfl rfl rfl rfl rfl rfl rfl rfl (by simp)) rfl fun s' => ?_
          refine RJ_mem [_, _, _, _, _] rfl ?_
          refine RJ_float (FS_assign rfl) rfl ?_
          refine RJ_nil ?_
          exact JS_there ⟨([⟨4, 2, 0, k⟩], s'), by rw [if_pos h107']⟩ rfl (fun w h => h.pick (is := [0, 1, 2, 3]) (by decide))
        · have h107' : ¬ (lv = 1 ∧ (k : Int) = (1 + low % 2 ^ 3) ∧ (1 + demand % 2 ^ 5) > (k : Int)) := fun hh => by
            rcases hq with hq | hq
            · rw [hq.1, decide_eq_true hh.2.2, beq_iff_eq.2 hh.2.1] at h107; simp at h107
            · omega
          refine JS_skip ?_
          exact JS_there ⟨([], none), by rw [if_neg h107']⟩ rfl (fun w h => h.pick (is := [0, 1, 2, 3]) (by decide))
      · refine JS_live [(23, _), (19, _), (10, _), (3, _), (9, _), (12, _), (14, _), (20, _), (21, _), (22, _)] rfl ?_
        simp only at hw1
        have hwl : w1.length ≤ 1 := by rw [hw1]; split <;> simp
        refine JS_seq ?_
        refine JS_seq ?_
        refine JS_region ?_
        refine RJ_float (FS_move rfl) rfl ?_
        refine RJ_float (FS_move rfl) rfl ?_
        refine RJ_float (FS_int rfl rfl rfl) rfl ?_
        refine RJ_nil ?_
        refine JS_cutF (ι := {q : List Ev × Option Sl // q.1 = jkE lv (1 + low % 2 ^ 3) bb (1 + demand % 2 ^ 5) k}) [(19, _), (10, _), (3, _), (9, _), (12, _), (14, _), (20, _), (21, _), (22, _)] rfl (fun ⟨(w2, s3), hw2⟩ => [(23, evV w2 s3)]) (fun ⟨(w2, s3), hw2⟩ => [locB L', evsE (jkE lv (1 + low % 2 ^ 3) bb (1 + demand % 2 ^ 5) k) s1, Ent.c b20 42 (jkV lv (1 + low % 2 ^ 3) bb (1 + demand % 2 ^ 5) k).cs, evsE w2 s3]) ?_ (fun ⟨(w2, s3), hw2⟩ => ?_)
        · refine JS_condE rfl (fun h115 => ?_) (fun h115 => ?_)
          · refine JS_region ?_
            refine RJ_float (FS_move rfl) rfl ?_
            refine RJ_float (FS_move rfl) rfl ?_
            refine RJ_float (FS_build Try.tab rfl rfl rfl rfl) rfl ?_
            refine RJ_loud (LS_buildSlice Try.tab rfl rfl rfl rfl rfl rfl) rfl fun b119 => ?_
            refine RJ_mem [_, _, _, _, _] rfl ?_
            refine RJ_loud (LS_app1 Ev.cs Try.tab 3 4 (r := ⟨5, 2, 0, k⟩) Ev.csl Ev.one (fun _ _ => trivial) rfl rfl rfl rfl rfl rfl rfl rfl rfl rfl (by omega)) rfl fun s' => ?_
            refine RJ_mem [_, _, _, _, _] rfl ?_
            refine RJ_float (FS_assign rfl) rfl ?_
            refine RJ_nil ?_
            refine JS_live [(19, _), (10, _), (3, _), (9, _), (12, _), (14, _), (20, _), (21, _), (22, _), (23, _)] rfl ?_
            exact JS_there ⟨(w1 ++ ([⟨5, 2, 0, k⟩] : List Ev), s'), by simp only [jkE, hw1]; rw [if_pos h115]⟩ rfl (fun w h => h.pick (is := [0, 1, 2, 3]) (by decide))
          · refine JS_seq ?_
            refine JS_region ?_
            refine RJ_float (FS_move rfl) rfl ?_
            refine RJ_float (FS_move rfl) rfl ?_
            refine RJ_float (FS_int rfl rfl rfl) rfl ?_
            refine RJ_nil ?_
            refine JS_condE rfl (fun h123 => ?_) (fun h123 => ?_)
            · refine JS_region ?_
              refine RJ_float (FS_move rfl) rfl ?_
              refine RJ_float (FS_move rfl) rfl ?_
              refine RJ_float (FS_build Try.tab rfl rfl rfl rfl) rfl ?_
              refine RJ_loud (LS_buildSlice Try.tab rfl rfl rfl rfl rfl rfl) rfl fun b127 => ?_
              refine RJ_mem [_, _, _, _, _] rfl ?_
              refine RJ_loud (LS_app1 Ev.cs Try.tab 3 4 (r := ⟨6, 2, 0, k⟩) Ev.csl Ev.one (fun _ _ => trivial) rfl rfl rfl rfl rfl rfl rfl rfl rfl rfl (by omega)) rfl fun s' => ?_
              refine RJ_mem [_, _, _, _, _] rfl ?_
              refine RJ_float (FS_assign rfl) rfl ?_
              refine RJ_nil ?_
              refine JS_live [(19, _), (10, _), (3, _), (9, _), (12, _), (14, _), (20, _), (21, _), (22, _), (23, _)] rfl ?_
              exact JS_there ⟨(w1 ++ ([⟨6, 2, 0, k⟩] : List Ev), s'), by simp only [jkE, hw1]; rw [if_neg h115, if_pos h123]⟩ rfl (fun w h => h.pick (is := [0, 1, 2, 3]) (by decide))
            · refine JS_skip ?_
              exact JS_there ⟨(w1, s2), by simp only [jkE, hw1]; rw [if_neg h115, if_neg h123, List.append_nil]⟩ rfl (fun w h => h.pick (is := [0, 1, 2, 3]) (by decide))
        · refine JS_live [(23, _), (19, _), (10, _), (3, _), (9, _), (12, _), (14, _), (20, _), (21, _), (22, _)] rfl ?_
          simp only at hw2
          subst hw2
          refine JS_seq ?_
          refine JS_seq ?_
          refine JS_region ?_
          refine RJ_float (FS_move rfl) rfl ?_
          refine RJ_fun (LS_fun (Try.can rfl) (num_c _) rfl (fun _ _ => trivial)) rfl ?_
          refine RJ_float (FS_int rfl rfl rfl) rfl ?_
          refine RJ_float (FS_move rfl) rfl ?_
          refine RJ_yes rfl rfl ?_
          refine RJ_float (FS_move rfl) rfl ?_
          refine RJ_yes rfl rfl ?_
          refine RJ_float (FS_move rfl) rfl ?_
          refine RJ_yes rfl rfl ?_
          refine RJ_fun (LS_val1 (.bool true) (LS_fun (Try.can rfl) (sameEvents_c _ _ _ _ (jkE lv (1 + low % 2 ^ 3) bb (1 + demand % 2 ^ 5) k) (jkE lv (1 + low % 2 ^ 3) bb (1 + demand % 2 ^ 5) k)) rfl (fun w h => ⟨h.sl 1 rfl, h.sl 3 rfl, by unfold jkE; simp only [List.length_append]; (repeat' split) <;> simp⟩)) (by simp)) rfl ?_
          refine RJ_yes rfl rfl ?_
          refine RJ_float (FS_not rfl) rfl ?_
          refine RJ_float (FS_pick rfl rfl) rfl ?_
          refine RJ_float (FS_move rfl) rfl ?_
          refine RJ_yes rfl rfl ?_
          refine RJ_float (FS_field Try.tab rfl rfl) rfl ?_
          refine RJ_yes rfl rfl ?_
          refine RJ_float (FS_loadK Try.tab 2 rfl rfl rfl rfl) rfl ?_
          refine RJ_yes rfl rfl ?_
          refine RJ_float (FS_move rfl) rfl ?_
          refine RJ_yes rfl rfl ?_
          refine RJ_float (FS_move rfl) rfl ?_
          refine RJ_yes rfl rfl ?_
          refine RJ_float (FS_int rfl rfl rfl) rfl ?_
          refine RJ_yes rfl rfl ?_
          refine RJ_float (FS_val (v' := .bool false) (FS_boolNeq Try.tab rfl rfl rfl) jk_done) rfl ?_
          refine RJ_float (FS_pick rfl rfl) rfl ?_
          refine RJ_float (FS_move rfl) rfl ?_
          refine RJ_yes rfl rfl ?_
          refine RJ_float (FS_field Try.tab rfl rfl) rfl ?_
          refine RJ_yes rfl rfl ?_
          refine RJ_float (FS_loadK Try.tab 2 rfl rfl rfl rfl) rfl ?_
          refine RJ_yes rfl rfl ?_
          refine RJ_float (FS_move rfl) rfl ?_
          refine RJ_yes rfl rfl ?_
          refine RJ_float (FS_move rfl) rfl ?_
          refine RJ_yes rfl rfl ?_
          refine RJ_float (FS_int rfl rfl rfl) rfl ?_
          refine RJ_yes rfl rfl ?_
          refine RJ_float (FS_move rfl) rfl ?_
          refine RJ_g rfl rfl gvT (fun hg => (FS_move rfl)) rfl ?_
          refine RJ_g rfl rfl gvT (fun hg => (FS_move rfl)) rfl ?_
          refine RJ_g rfl rfl gvT (fun hg => (FS_int (gx hg rfl) (gx hg rfl) rfl)) rfl ?_
          refine RJ_yes rfl rfl ?_
          refine RJ_float (FS_and rfl rfl) rfl ?_
          refine RJ_yes rfl rfl ?_
          refine RJ_float (FS_val (v' := .bool false) (FS_boolNeq Try.tab rfl rfl rfl) (jk_kill (by omega))) rfl ?_
          refine RJ_float (FS_pick rfl rfl) rfl ?_
          refine RJ_nil ?_
          refine JS_live [(19, _), (10, _), (3, _), (9, _), (12, _), (14, _), (158, _)] rfl ?_
          refine JS_else rfl ?_
          refine JS_skip ?_
          refine JS_seq ?_
          refine JS_region ?_
          refine RJ_float (FS_move rfl) rfl ?_
          refine RJ_float (FS_move rfl) rfl ?_
          refine RJ_float (FS_int rfl rfl rfl) rfl ?_
          refine RJ_float (FS_move rfl) rfl ?_
          refine RJ_g rfl rfl gvF (fun hg => (FS_move rfl)) rfl ?_
          refine RJ_g rfl rfl gvF (fun hg => (FS_move rfl)) rfl ?_
          refine RJ_g rfl rfl gvF (fun hg => (FS_int (gx hg rfl) (gx hg rfl) rfl)) rfl ?_
          refine RJ_float (FS_or rfl rfl) rfl ?_
          refine RJ_nil ?_
          refine JS_live [(19, _), (10, _), (3, _), (9, _), (12, _), (14, _), (166, _)] rfl ?_
          refine JS_cond rfl (fun h166 => ?_) (fun h166 => ?_)
          · try simp only [Bool.and_eq_true, Bool.or_eq_true, Bool.and_eq_false_iff, Bool.or_eq_false_iff, Bool.not_eq_true', Bool.not_eq_false', decide_eq_true_eq, decide_eq_false_iff_not, beq_iff_eq, bne_iff_ne, beq_eq_false_iff_ne, bne_eq_false_iff_eq] at h166
            have hL' : L'.m = jkM lv (1 + low % 2 ^ 3) bb 7 [] 1 [] := by rw [hL', jkN, if_pos h166]
            refine JS_seq ?_
            refine JS_region ?_
            refine RJ_float (FS_move rfl) rfl ?_
            refine RJ_loud (LS_call' [0] [1, 2, 3] rfl (Try.can rfl) (runM L' (M := jkM lv (1 + low % 2 ^ 3) bb 7 [] 1 []) hL' hb' (fun j rest hj => by simp [jkM] at hj) (jkEnd _ _ _)) rfl (by decide) (fun _ _ => trivial)) rfl fun ⟨⟨L4, s4⟩, hL4, hb4⟩ => ?_
            refine RJ_mem [_, _, _, _, _] rfl ?_
            refine RJ_float (FS_move rfl) rfl ?_
            refine RJ_float (FS_extract rfl rfl) rfl ?_
            refine RJ_float (FS_extract rfl rfl) rfl ?_
            refine RJ_float (FS_extract rfl rfl) rfl ?_
            refine RJ_loud (LS_alloc Try.tab rfl) rfl fun b24 => ?_
            refine RJ_mem [_, _, _, _, _, _] rfl ?_
            refine RJ_loud (LS_store Try.tab (i := 5) rfl rfl rfl rfl rfl rfl rfl rfl) rfl fun _ => ?_
            refine RJ_mem [_, _, _, _, _, _] rfl ?_
            refine RJ_float (FS_assign rfl) rfl ?_
            refine RJ_float (FS_assign rfl) rfl ?_
            refine RJ_nil ?_
            refine JS_live [(12, _), (26, _)] rfl ?_
            refine JS_seq ?_
            refine JS_region ?_
            refine RJ_float (FS_move rfl) rfl ?_
            refine RJ_loud (LS_call' [0] [1, 2, 3, 4, 5] rfl (Try.can rfl) (failM L4 (M := jkM lv (1 + low % 2 ^ 3) bb 7 [] 1 []) hL4 hb4 (jkEnd _ _ _)) rfl (by decide) (fun _ _ => trivial)) rfl fun ⟨⟨L5, s5⟩, hL5, hb5⟩ => ?_
            refine RJ_mem [_, _, _, _, _, _, _] rfl ?_
            refine RJ_float (FS_move rfl) rfl ?_
            refine RJ_float (FS_extract rfl rfl) rfl ?_
            refine RJ_float (FS_extract rfl rfl) rfl ?_
            refine RJ_float (FS_assign rfl) rfl ?_
            refine RJ_float (FS_assign rfl) rfl ?_
            refine RJ_nil ?_
            refine JS_seq ?_
            refine JS_region ?_
            refine RJ_float (FS_move rfl) rfl ?_
            refine RJ_fun (LS_fun (Try.can rfl) (readyM L5 (M := jkM lv (1 + low % 2 ^ 3) bb 7 [] 1 []) hL5 hb5) rfl (fun w h => h.at 0 rfl)) rfl ?_
            refine RJ_float (FS_not rfl) rfl ?_
            refine RJ_float (FS_move rfl) rfl ?_
            refine RJ_yes rfl rfl ?_
            refine RJ_float (FS_move rfl) rfl ?_
            refine RJ_yes rfl rfl ?_
            refine RJ_fun (LS_fun (Try.can rfl) (num_c _) rfl (fun _ _ => trivial)) rfl ?_
            refine RJ_yes rfl rfl ?_
            refine RJ_float (FS_int rfl rfl rfl) rfl ?_
            refine RJ_float (FS_pick rfl rfl) rfl ?_
            refine RJ_float (FS_move rfl) rfl ?_
            refine RJ_yes rfl rfl ?_
            refine RJ_float (FS_move rfl) rfl ?_
            refine RJ_yes rfl rfl ?_
            refine RJ_fun (LS_fun (Try.can rfl) (num_c _) rfl (fun _ _ => trivial)) rfl ?_
            refine RJ_yes rfl rfl ?_
            refine RJ_float (FS_int rfl rfl rfl) rfl ?_
            refine RJ_float (FS_pick rfl rfl) rfl ?_
            refine RJ_float (FS_move rfl) rfl ?_
            refine RJ_yes rfl rfl ?_
            refine RJ_float (FS_move rfl) rfl ?_
            refine RJ_yes rfl rfl ?_
            refine RJ_loud (LS_pure' (Try.can rfl) (jobsM L5 (M := jkM lv (1 + low % 2 ^ 3) bb 7 [] 1 []) hL5 hb5 (Nat.le_of_ble_eq_true rfl)) rfl (fun w h => h.at 0 rfl)) rfl fun b193 => ?_
            refine RJ_mem [_, _, _, _, _, _, _, _] rfl ?_
            refine RJ_yes rfl rfl ?_
            refine RJ_float (FS_len Try.tab rfl rfl) rfl ?_
            refine RJ_yes rfl rfl ?_
            refine RJ_float (FS_int rfl rfl rfl) rfl ?_
            refine RJ_float (FS_pick rfl rfl) rfl ?_
            refine RJ_float (FS_assign rfl) rfl ?_
            refine RJ_nil ?_
            refine JS_live [(8, _)] rfl ?_
            exact JS_retv rfl (.tmp rfl .nil) (rfl)
          · try simp only [Bool.and_eq_true, Bool.or_eq_true, Bool.and_eq_false_iff, Bool.or_eq_false_iff, Bool.not_eq_true', Bool.not_eq_false', decide_eq_true_eq, decide_eq_false_iff_not, beq_iff_eq, bne_iff_ne, beq_eq_false_iff_ne, bne_eq_false_iff_eq] at h166
            have hL' : L'.m = jkM lv (1 + low % 2 ^ 3) bb 7 [] 1 [jkJ (1 + demand % 2 ^ 5) k] := by rw [hL', jkN, if_neg (by omega)]
            refine JS_skip ?_
            refine JS_blk ?_
            refine JS_region ?_
            refine RJ_float (FS_move rfl) rfl ?_
            refine RJ_float (FS_add rfl rfl (by omega) (by omega)) rfl ?_
            refine RJ_float (FS_assign rfl) rfl ?_
            refine RJ_nil ?_
            exact JS_againF ⟨(k + 1, L'), by simp, by simp only; omega, by simp only; omega, by simp only; rw [hL']; congr 3; omega, hb'⟩ (by simp only; omega) rfl (fun _ h => h.pick (is := [0]) (by decide))
    · omega
end Go.Proofs.Ytmhjcemcjfkejaa
