/- a part's schedule as a whole: contracts in the model's words -/
import Derived.Test.YtmhjcemcjfkejaaA16
namespace Go.Proofs.Ytmhjcemcjfkejaa
open Go.RowKit
open Go.Proofs
set_option linter.unusedVariables false
set_option linter.unusedSimpArgs false
set_option linter.unnecessarySimpa false
set_option maxRecDepth 20000
theorem locB_open {L : LocL} {i : Nat} {x : RunL} (hi : L.runs[i]? = some x) : Imp [locB L] [locE L.b L.idx L.lvl (ptrsR L.runs) L.st L.js L.sj, ptrE (ptrsR L.runs) L.st, jobsE L.js L.sj, runE x.r x.t x.last x.picks x.sp x.seq, intsE x.picks x.sp, .row runB (L.runs.eraseIdx i)] :=
  (Imp.unstar _).trans (Imp.mid [_, _, _] (runB_open hi) [])
theorem locB_close {L : LocL} {i : Nat} {x : RunL} (y : RunL) (js : List Job) (sj : Option Sl) (hi : L.runs[i]? = some x) (hr : y.r = x.r) :
    Imp [locE L.b L.idx L.lvl (ptrsR L.runs) L.st js sj, ptrE (ptrsR L.runs) L.st, jobsE js sj, runE y.r y.t y.last y.picks y.sp y.seq, intsE y.picks y.sp, .row runB (L.runs.eraseIdx i)] [locB ⟨L.b, L.idx, L.lvl, L.runs.set i y, L.st, js, sj⟩] := by
  refine (Imp.mid [_, _, _] (runB_close y (List.getElem?_eq_some_iff.1 hi).1) []).trans ?_
  have := ptrsR_set hi hr
  simp only [locB, this]
  exact Imp.star _
theorem Imp.nilSl (T z : Nat) : Imp [] [Sl.e T z [] none] := ⟨fun w _ e he => by
  simp only [List.mem_singleton] at he
  subst he
  exact (show (Sl.e T z [] none).ok w from ⟨.cells #[] 0 (0, 0), by simp, rfl⟩), [], by simp [blks, Sl.e, Ent.one]⟩
/-- Local.Pick, of a task that there is. -/
def Lc.pick (l : Lc) (i : Nat) (d now : Int) : Lc × List Ev × Int :=
  match l.runs[i]? with
  | none => (l, [], 1400)
  | some x =>
    let q := pickL l.idx x.t x.last x.picks i d now
    (⟨l.idx, l.lvl, l.runs.set i ⟨x.t, q.1, q.2.1, x.seq⟩, l.js⟩, q.2.2.1, q.2.2.2)
def Verd.none : Verd := ⟨false, false, false⟩
/-- Local.Run. -/
def Lc.run (l : Lc) : Verd × Lc × List Ev :=
  match l.js with
  | [] => (.none, l, [])
  | j :: rest =>
    match l.runs[j.task.toNat]? with
    | none => (.none, l, [])
    | some x =>
      let c := chargeJ j x.t l.lvl
      (c.2.1, ⟨l.idx, l.lvl, l.runs, runJ c.1 c.2.1 rest⟩, tellR l.idx c.1 c.2.1)
/-- Local.Fail. -/
def Lc.fail (l : Lc) : Lc × List Ev :=
  match l.js with
  | [] => (l, [])
  | j :: rest => (⟨l.idx, l.lvl, l.runs, rest⟩, [⟨7, l.idx, j.task, j.used⟩])
def Lc.noneE (l : Lc) : Int := if l.js = [] then 1401 else 0
theorem LocL.m_set {L : LocL} {i : Nat} {y : RunL} {js : List Job} {sj : Option Sl} : LocL.m ⟨L.b, L.idx, L.lvl, L.runs.set i y, L.st, js, sj⟩ = ⟨L.idx, L.lvl, (L.runs.map RunL.m).set i y.m, js⟩ := by
  simp only [LocL.m, List.map_set]
theorem LocL.m_at {L : LocL} {i : Nat} {x : RunL} (hi : L.runs[i]? = some x) : L.m.runs[i]? = some x.m := by simp [LocL.m, hi]
theorem LocL.of_m {L : LocL} {i : Nat} {x : Rn} (hi : L.m.runs[i]? = some x) : ∃ y, L.runs[i]? = some y ∧ y.m = x := by
  simp only [LocL.m, List.getElem?_map, Option.map_eq_some_iff] at hi
  exact hi
abbrev evV (es : List Ev) (s : Option Sl) : Value := .slice (Sl.addr s) es.length (Sl.cap es.length s)
theorem pickW (L : LocL) (i : Nat) (d now : Int) (hi : i < L.m.runs.length) (hs : L.m.small) (hnow : clockB now = true) :
    Ctr Try.prog 7 [vp L.b 0, vi (i : Int), vi d, vi now] (fun _ => True) [locB L] (fun q : {q : LocL × Option Sl // q.1.m = (L.m.pick i d now).1 ∧ q.1.b = L.b} => .tuple #[evV (L.m.pick i d now).2.1 q.1.2, vi (L.m.pick i d now).2.2])
      (fun q => [locB q.1.1, evsE (L.m.pick i d now).2.1 q.1.2]) := by
  obtain ⟨x, hx⟩ : ∃ x, L.runs[i]? = some x := ⟨_, List.getElem?_eq_getElem (by simpa [LocL.m] using hi)⟩
  have hpi : (ptrsR L.runs)[i]? = some x.r := by simp [hx]
  have hb := (hs.each x.m (List.mem_of_getElem? (LocL.m_at hx))).1
  have hl : (ptrsR L.runs).length ≤ 4294967296 := by have := hs.runs; simp [LocL.m] at this ⊢; omega
  have hp : L.m.pick i d now = (⟨L.idx, L.lvl, (L.runs.map RunL.m).set i ⟨x.t, (pickL L.idx x.t x.last x.picks i d now).1, (pickL L.idx x.t x.last x.picks i d now).2.1, x.seq⟩, L.js⟩, (pickL L.idx x.t x.last x.picks i d now).2.2.1, (pickL L.idx x.t x.last x.picks i d now).2.2.2) := by
    unfold Lc.pick
    rw [LocL.m_at hx]
    rfl
  refine Ctr.re (Ctr.widen (R := [jobsE L.js L.sj, .row runB (L.runs.eraseIdx i)]) (K1' := fun s => [locB ⟨L.b, L.idx, L.lvl, L.runs.set i ⟨x.r, x.t, (pickL L.idx x.t x.last x.picks i d now).1, (pickL L.idx x.t x.last x.picks i d now).2.1, s.1, x.seq⟩, L.st, L.js, L.sj⟩, evsE (pickL L.idx x.t x.last x.picks i d now).2.2.1 s.2])
    (pickL_c L.b x.r i L.idx L.lvl (ptrsR L.runs) L.st L.js L.sj x.sp x.t x.last x.picks x.seq d now hpi hb hl hnow) ((locB_open hx).trans (Imp.pick [0, 1, 3, 4, 2, 5] (by decide))) (fun s => ?_) (fun _ _ h => h))
    (fun s => ⟨(⟨L.b, L.idx, L.lvl, L.runs.set i ⟨x.r, x.t, (pickL L.idx x.t x.last x.picks i d now).1, (pickL L.idx x.t x.last x.picks i d now).2.1, s.1, x.seq⟩, L.st, L.js, L.sj⟩, s.2), by rw [LocL.m_set, hp]; rfl, rfl⟩) (fun s => by simp only [hp]) (fun s => by simp only [hp]; exact Imp.refl _)
  refine Imp.trans (Imp.pick [0, 1, 5, 2, 3, 6, 4] (by decide)) ?_
  exact (locB_close ⟨x.r, x.t, (pickL L.idx x.t x.last x.picks i d now).1, (pickL L.idx x.t x.last x.picks i d now).2.1, s.1, x.seq⟩ L.js L.sj hx rfl).right [_]
theorem runW (L : LocL) (hj : ∀ j rest, L.js = j :: rest → 0 ≤ j.task ∧ j.task.toNat < L.m.runs.length) (hs : L.m.small) :
    Ctr Try.prog 10 [vp L.b 0] (fun _ => True) [locB L] (fun q : {q : LocL × Option Sl // q.1.m = L.m.run.2.1 ∧ q.1.b = L.b} => .tuple #[agg L.m.run.1.cs, evV L.m.run.2.2 q.1.2, vi L.m.noneE])
      (fun q => [locB q.1.1, evsE L.m.run.2.2 q.1.2]) := by
  obtain ⟨b, idx, lvl, runs, st, js, sj⟩ := L
  cases js with
  | nil =>
    refine Ctr.re (Ctr.widen (R := [ptrE (ptrsR runs) st, jobsE [] sj, .row runB runs]) (K1' := fun _ => [locB ⟨b, idx, lvl, runs, st, [], sj⟩, evsE [] none]) (run_0 b idx lvl (ptrsR runs) st sj) (Imp.unstar _) (fun s => ?_) (fun _ _ h => h))
      (fun _ => ⟨(⟨b, idx, lvl, runs, st, [], sj⟩, none), rfl, rfl⟩) (fun _ => rfl) (fun _ => Imp.refl _)
    exact (Imp.star [locE b idx lvl (ptrsR runs) st [] sj, ptrE (ptrsR runs) st, jobsE [] sj, .row runB runs]).append (Imp.nilSl 40 4)
  | cons j rest =>
    obtain ⟨h0, hlt⟩ := hj j rest rfl
    obtain ⟨x, hx⟩ : ∃ x, runs[j.task.toNat]? = some x := ⟨_, List.getElem?_eq_getElem (by simpa [LocL.m] using hlt)⟩
    have hpi : (ptrsR runs)[j.task.toNat]? = some x.r := by simp [hx]
    have hp : (LocL.m ⟨b, idx, lvl, runs, st, j :: rest, sj⟩).run = ((chargeJ j x.t lvl).2.1, ⟨idx, lvl, runs.map RunL.m, runJ (chargeJ j x.t lvl).1 (chargeJ j x.t lvl).2.1 rest⟩, tellR idx (chargeJ j x.t lvl).1 (chargeJ j x.t lvl).2.1) := by
      unfold Lc.run
      simp only [LocL.m, List.getElem?_map, hx, Option.map_some, RunL.m]
    have hset : runs.set j.task.toNat x = runs := by obtain ⟨h1, h2⟩ := List.getElem?_eq_some_iff.1 hx; rw [← h2, List.set_getElem_self]
    refine Ctr.re (Ctr.widen (R := [intsE x.picks x.sp, .row runB (runs.eraseIdx j.task.toNat)]) (K1' := fun s => [locB ⟨b, idx, lvl, runs, st, runJ (chargeJ j x.t lvl).1 (chargeJ j x.t lvl).2.1 rest, s.1⟩, evsE (tellR idx (chargeJ j x.t lvl).1 (chargeJ j x.t lvl).2.1) s.2])
      (run_n b x.r idx lvl (ptrsR runs) st j rest sj x.sp x.t x.last x.picks x.seq hpi h0 hs.js) (locB_open (L := ⟨b, idx, lvl, runs, st, j :: rest, sj⟩) hx) (fun s => ?_) (fun _ _ h => h))
      (fun s => ⟨(⟨b, idx, lvl, runs, st, runJ (chargeJ j x.t lvl).1 (chargeJ j x.t lvl).2.1 rest, s.1⟩, s.2), by rw [hp]; rfl, rfl⟩) (fun s => by simp only [hp]; rfl) (fun s => by simp only [hp]; exact Imp.refl _)
    refine Imp.trans (Imp.pick [0, 1, 2, 3, 5, 6, 4] (by decide)) ?_
    have := (locB_close (L := ⟨b, idx, lvl, runs, st, j :: rest, sj⟩) x (runJ (chargeJ j x.t lvl).1 (chargeJ j x.t lvl).2.1 rest) s.1 hx rfl).right [evsE (tellR idx (chargeJ j x.t lvl).1 (chargeJ j x.t lvl).2.1) s.2]
    simp only [hset] at this
    exact this
theorem failW (L : LocL) (hs : L.m.small) :
    Ctr Try.prog 11 [vp L.b 0] (fun _ => True) [locB L] (fun q : {q : LocL × Option Sl // q.1.m = L.m.fail.1 ∧ q.1.b = L.b} => .tuple #[evV L.m.fail.2 q.1.2, vi L.m.noneE])
      (fun q => [locB q.1.1, evsE L.m.fail.2 q.1.2]) := by
  obtain ⟨b, idx, lvl, runs, st, js, sj⟩ := L
  cases js with
  | nil =>
    refine Ctr.re (Ctr.widen (R := [ptrE (ptrsR runs) st, jobsE [] sj, .row runB runs]) (K1' := fun _ => [locB ⟨b, idx, lvl, runs, st, [], sj⟩, evsE [] none]) (fail_0 b idx lvl (ptrsR runs) st sj) (Imp.unstar _) (fun s => ?_) (fun _ _ h => h))
      (fun _ => ⟨(⟨b, idx, lvl, runs, st, [], sj⟩, none), rfl, rfl⟩) (fun _ => rfl) (fun _ => Imp.refl _)
    exact (Imp.star [locE b idx lvl (ptrsR runs) st [] sj, ptrE (ptrsR runs) st, jobsE [] sj, .row runB runs]).append (Imp.nilSl 40 4)
  | cons j rest =>
    refine Ctr.re (Ctr.widen (R := [ptrE (ptrsR runs) st, .row runB runs]) (K1' := fun s => [locB ⟨b, idx, lvl, runs, st, rest, s.1⟩, evsE [⟨7, idx, j.task, j.used⟩] s.2])
      (fail_n b idx lvl (ptrsR runs) st j rest sj hs.js) ((Imp.unstar _).trans (Imp.pick [0, 2, 1, 3] (by decide))) (fun s => ?_) (fun _ _ h => h))
      (fun s => ⟨(⟨b, idx, lvl, runs, st, rest, s.1⟩, s.2), rfl, rfl⟩) (fun s => rfl) (fun s => Imp.refl _)
    refine Imp.trans (Imp.pick [0, 3, 1, 4, 2] (by decide)) ?_
    exact (Imp.star [_, _, _, _]).right [_]
theorem locB_range {L : LocL} {w : World} (h : (locB L).ok w) : w.rangeAt L.b 0 (locCs L.idx L.lvl (ptrsR L.runs) L.st L.js L.sj) := Ent.c_range (Ent.star_ok h 0 rfl)
theorem locB_jobs {L : LocL} {w : World} (h : (locB L).ok w) : RowAt w (Sl.addr L.sj) (rows Job.cs L.js) := Sl.row (Ent.star_ok h 2 rfl)
theorem readyW (L : LocL) : Ctr Try.prog 12 [vp L.b 0] (fun w => (locB L).ok w) [] (fun _ : Unit => .bool (decide ((L.js.length : Int) > 0))) (fun _ => []) :=
  (ready_c L.b _ _ _ L.js L.sj).pre fun w _ h => locB_range h
theorem jobsW (L : LocL) (hs : L.js.length ≤ 4294967296) : Ctr Try.prog 13 [vp L.b 0] (fun w => (locB L).ok w) [] (fun s : Option Sl => .slice (Sl.addr s) L.js.length (Sl.cap L.js.length s)) (fun s => [jobsE L.js s]) :=
  (jobs_c L.b _ _ _ L.js (Sl.addr L.sj) _).pre fun w _ h => ⟨locB_range h, locB_jobs h, hs⟩
end Go.Proofs.Ytmhjcemcjfkejaa
