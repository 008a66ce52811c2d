/- The calculus, tenth part: a drawn region in the row of its numbers. -/
import Derived.Test.YtmhjcemcjfkejaaJ9
namespace Go.Proofs.Ytmhjcemcjfkejaa
open Go.RowKit
set_option linter.unusedVariables false
set_option linter.unusedSimpArgs false

/-- A region's operations in a row of one's choice; true: one that does more than read. -/
def schedIn (sched : List (Nat × Bool)) (p : Nat) : List Nat := ((sched.take p).map (·.1)).reverse
def schedOK (ops : Array Oper) (sched : List (Nat × Bool)) : Bool :=
  regOK ops && Nat.beq sched.length ops.size && (List.range sched.length).all fun p =>
    match sched[p]? with
    | none => false
    | some (i, l) =>
      let S := schedIn sched p
      Nat.blt i ops.size && !S.contains i && (dep ops i).all S.contains && (!l || (List.range ops.size).all fun j => S.contains j || [i].contains j || !((dep ops j).all S.contains))

section
variable (P : Program) (B : Base) (n : Nat) (ops : Array Oper) (Q : Exit → Act → World → Prop) (sched : List (Nat × Bool))
/-- The operations at the first p places are reckoned with. -/
def HQ (p : Nat) (Cp Cl : List Nat) (e : Env) (K : List Ent) : Prop := HJ P B n ops Q (schedIn sched p) Cp Cl e K
end
section
variable {P : Program} {B : Base} {n : Nat} {ops : Array Oper} {Q : Exit → Act → World → Prop} {sched : List (Nat × Bool)} {q : Nat} {i : Nat} {l : Bool} {Cp Cl : List Nat} {e : Env} {K : List Ent}
variable {d : Tmp} {op : Op} {t : TypeId} {p : String} {af : Array Edge} {j : Nat} {want : Bool}

theorem sched_succ (hq : sched[q]? = some (i, l)) : i :: schedIn sched q = schedIn sched (q + 1) := by
  obtain ⟨h1, h2⟩ := List.getElem?_eq_some_iff.1 hq
  simp [schedIn, List.take_add_one, hq]
theorem sched_at (hs : schedOK ops sched = true) (hq : sched[q]? = some (i, l)) :
    regOK ops = true ∧ (!(schedIn sched q).contains i && (dep ops i).all (schedIn sched q).contains) = true ∧
      (l = true → ((List.range ops.size).all fun j => (schedIn sched q).contains j || [i].contains j || !((dep ops j).all (schedIn sched q).contains)) = true) := by
  unfold schedOK at hs
  simp only [Bool.and_eq_true] at hs
  obtain ⟨⟨h1, h2⟩, h3⟩ := hs
  have hlt := (List.getElem?_eq_some_iff.1 hq).1
  have := (List.all_eq_true.1 h3) q (List.mem_range.2 hlt)
  simp only [hq, Bool.and_eq_true, Bool.or_eq_true] at this
  obtain ⟨⟨⟨h0, h4⟩, h5⟩, h6⟩ := this
  refine ⟨h1, by rw [Bool.and_eq_true]; exact ⟨h4, h5⟩, fun hl => ?_⟩
  subst hl
  rcases h6 with h6 | h6
  · simp at h6
  · exact h6
theorem gAns_none {o : Oper} (h : o.guard = none) : gAns ops e o = some true := by simp [gAns, h]
theorem gAns_some {o : Oper} {gd : Tmp} {u : Value} {g : Bool} (h : o.guard = some (j, want)) (hj : (ops[j]?).bind (·.dst) = some gd) (hu : e.get gd = some u) (hg : GV u want g) : gAns ops e o = some g := by
  unfold GV at hg
  simp [gAns, h, dstOf, hj, hu, hg]

/-- A pure operation. -/
theorem HQ_p (hs : schedOK ops sched = true) {v : Value} (hq : sched[q]? = some (i, false)) (ho : ops[i]? = some ⟨some d, op, t, p, af, none⟩) (hf : ∀ K', FS P B ⟨some d, op, t, p, af, none⟩ e K' v) (hd : Nat.blt d n = true)
    (h : HQ P B n ops Q sched (q + 1) (i :: Cp) Cl ((d, v) :: e) K) : HQ P B n ops Q sched q Cp Cl e K := by
  obtain ⟨hreg, hin, _⟩ := sched_at hs hq
  refine HJ_add (v := v) hreg true ho rfl hd hin (fun K' _ => .inl ⟨gAns_none rfl, hf K'⟩) ?_
  rw [sched_succ hq]
  exact h
theorem HQ_pg (hs : schedOK ops sched = true) {gd : Tmp} {u v : Value} {g : Bool} (hq : sched[q]? = some (i, false)) (ho : ops[i]? = some ⟨some d, op, t, p, af, some (j, want)⟩) (hj : (ops[j]?).bind (·.dst) = some gd) (hu : e.get gd = some u) (hg : GV u want g)
    (hf : g = true → ∀ K', FS P B ⟨some d, op, t, p, af, some (j, want)⟩ e K' v) (hd : Nat.blt d n = true)
    (h : HQ P B n ops Q sched (q + 1) (i :: Cp) Cl ((d, gv g v) :: e) K) : HQ P B n ops Q sched q Cp Cl e K := by
  obtain ⟨hreg, hin, _⟩ := sched_at hs hq
  refine HJ_add hreg true ho rfl hd hin (fun K' _ => ?_) (by rw [sched_succ hq]; exact h)
  cases g with
  | true => exact .inl ⟨gAns_some rfl hj hu hg, hf rfl K'⟩
  | false => exact .inr ⟨gAns_some rfl hj hu hg, rfl⟩
/-- A load. -/
theorem HQ_l (hs : schedOK ops sched = true) {v : Value} (hq : sched[q]? = some (i, false)) (ho : ops[i]? = some ⟨some d, op, t, p, af, none⟩) (hf : FS P B ⟨some d, op, t, p, af, none⟩ e K v) (hd : Nat.blt d n = true)
    (h : HQ P B n ops Q sched (q + 1) Cp (i :: Cl) ((d, v) :: e) K) : HQ P B n ops Q sched q Cp Cl e K := by
  obtain ⟨hreg, hin, _⟩ := sched_at hs hq
  refine HJ_add (v := v) hreg false ho rfl hd hin (fun K' hK => ?_) ?_
  · rcases hK with hK | rfl
    · cases hK
    · exact .inl ⟨gAns_none rfl, hf⟩
  · rw [sched_succ hq]
    exact h
theorem HQ_lg (hs : schedOK ops sched = true) {gd : Tmp} {u v : Value} {g : Bool} (hq : sched[q]? = some (i, false)) (ho : ops[i]? = some ⟨some d, op, t, p, af, some (j, want)⟩) (hj : (ops[j]?).bind (·.dst) = some gd) (hu : e.get gd = some u) (hg : GV u want g)
    (hf : g = true → FS P B ⟨some d, op, t, p, af, some (j, want)⟩ e K v) (hd : Nat.blt d n = true)
    (h : HQ P B n ops Q sched (q + 1) Cp (i :: Cl) ((d, gv g v) :: e) K) : HQ P B n ops Q sched q Cp Cl e K := by
  obtain ⟨hreg, hin, _⟩ := sched_at hs hq
  refine HJ_add hreg false ho rfl hd hin (fun K' hK => ?_) (by rw [sched_succ hq]; exact h)
  rcases hK with hK | rfl
  · cases hK
  cases g with
  | true => exact .inl ⟨gAns_some rfl hj hu hg, hf rfl⟩
  | false => exact .inr ⟨gAns_some rfl hj hu hg, rfl⟩

theorem FS.more {o : Oper} {v : Value} {L : List Ent} (h : FS P B o e K v) : FS P B o e (K ++ L) v := fun w ρ hw ha => h w ρ hw.left ha
theorem cert.more {u : Nat} {L : List Ent} (h : cert P B n ops e K u) : cert P B n ops e (K ++ L) u := by
  obtain ⟨o, d, v, h1, h2, h3, h4, h5⟩ := h
  exact ⟨o, d, v, h1, h2, h3, h4, h5.imp (fun h => ⟨h.1, h.2.more⟩) id⟩

/-- An operation that does more than read; those that may still be to come are owed again. -/
theorem HQ_loud (hs : schedOK ops sched = true) {dd : Option Tmp} {ι : Type} {v : ι → Value} {K' : ι → List Ent} (hq : sched[q]? = some (i, true)) (ho : ops[i]? = some ⟨dd, op, t, p, af, none⟩) (hf : LS P B ⟨dd, op, t, p, af, none⟩ e K v K')
    (hd : (dd.all fun x => Nat.blt x n) = true)
    (hst : ∀ x, ∀ u ∈ stay ops i Cl, cert P B n ops e K u → cert P B n ops e (K' x) u) (h : ∀ x, HQ P B n ops Q sched (q + 1) (stay ops i Cp) (stay ops i Cl) (e.put dd (v x)) (K' x)) : HQ P B n ops Q sched q Cp Cl e K := by
  obtain ⟨hreg, hin, hlone⟩ := sched_at hs hq
  simp only [Bool.and_eq_true, Bool.not_eq_true', List.all_eq_true] at hin
  intro hS hdn hCS hcp hcl
  refine HJ_louds hreg [i] (by simp) (hlone rfl) (fun l hl => ?_) hS hdn hCS hcp hcl
  obtain rfl := List.mem_singleton.1 hl
  refine ⟨ι, _, v, K', ho, fun d hdd => ?_, fun hm => by simp [hm] at hin, fun j hj => by simpa using hin.2 j hj, .inl ⟨gAns_none rfl, hf⟩, fun x => ⟨fun u hu => hst x u hu (hcl u (List.mem_filter.1 hu).1), ?_⟩⟩
  · have hdd : dd = some d := hdd
    subst hdd
    simpa [Nat.blt_eq] using hd
  · rw [sched_succ hq]
    exact h x
def CertL (P : Program) (B : Base) (n : Nat) (ops : Array Oper) (e : Env) (K : List Ent) : List Nat → Prop
  | [] => True
  | u :: r => cert P B n ops e K u ∧ CertL P B n ops e K r
theorem CertL.mem : ∀ {us : List Nat}, CertL P B n ops e K us → ∀ u ∈ us, cert P B n ops e K u
  | x :: r, h, u, hu => by
    rcases List.mem_cons.1 hu with rfl | hu
    · exact h.1
    · exact h.2.mem u hu
theorem cert_of {u : Nat} {v : Value} (ho : ops[u]? = some ⟨some d, op, t, p, af, none⟩) (hf : FS P B ⟨some d, op, t, p, af, none⟩ e K v) (hd : Nat.blt d n = true) (hv : e.get d = some v) : cert P B n ops e K u :=
  ⟨_, d, v, ho, rfl, by simpa [Nat.blt_eq] using hd, hv, .inl ⟨gAns_none rfl, hf⟩⟩
theorem cert_ofg {u : Nat} {gd : Tmp} {uu v : Value} {g : Bool} (ho : ops[u]? = some ⟨some d, op, t, p, af, some (j, want)⟩) (hj : (ops[j]?).bind (·.dst) = some gd) (hu : e.get gd = some uu) (hg : GV uu want g)
    (hf : g = true → FS P B ⟨some d, op, t, p, af, some (j, want)⟩ e K v) (hd : Nat.blt d n = true) (hv : e.get d = some (gv g v)) : cert P B n ops e K u := by
  refine ⟨_, d, _, ho, rfl, by simpa [Nat.blt_eq] using hd, hv, ?_⟩
  cases g with
  | true => exact .inl ⟨gAns_some rfl hj hu hg, hf rfl⟩
  | false => exact .inr ⟨gAns_some rfl hj hu hg, rfl⟩
/-- The same, the loads that may still be to come shown again. -/
theorem HQ_loudC (hs : schedOK ops sched = true) (us : List Nat) {dd : Option Tmp} {ι : Type} {v : ι → Value} {K' : ι → List Ent} (hq : sched[q]? = some (i, true)) (ho : ops[i]? = some ⟨dd, op, t, p, af, none⟩) (hf : LS P B ⟨dd, op, t, p, af, none⟩ e K v K')
    (hd : (dd.all fun x => Nat.blt x n) = true) (hus : stay ops i Cl = us) (hst : ∀ x, CertL P B n ops e (K' x) us) (h : ∀ x, HQ P B n ops Q sched (q + 1) (stay ops i Cp) us (e.put dd (v x)) (K' x)) : HQ P B n ops Q sched q Cp Cl e K :=
  HQ_loud hs hq ho hf hd (fun x u hu _ => (hst x).mem u (hus ▸ hu)) fun x => hus ▸ h x
/-- The same where no load may still be to come. -/
theorem HQ_loud0 (hs : schedOK ops sched = true) {dd : Option Tmp} {ι : Type} {v : ι → Value} {K' : ι → List Ent} (hq : sched[q]? = some (i, true)) (ho : ops[i]? = some ⟨dd, op, t, p, af, none⟩) (hf : LS P B ⟨dd, op, t, p, af, none⟩ e K v K')
    (hd : (dd.all fun x => Nat.blt x n) = true) (hst : (stay ops i Cl).isEmpty = true) (h : ∀ x, HQ P B n ops Q sched (q + 1) (stay ops i Cp) (stay ops i Cl) (e.put dd (v x)) (K' x)) : HQ P B n ops Q sched q Cp Cl e K :=
  HQ_loud hs hq ho hf hd (fun _ u hu _ => by rw [List.isEmpty_iff.1 hst] at hu; cases hu) h
theorem HQ_fun (hs : schedOK ops sched = true) {dd : Option Tmp} {v : Value} (hq : sched[q]? = some (i, true)) (ho : ops[i]? = some ⟨dd, op, t, p, af, none⟩) (hf : LS P B ⟨dd, op, t, p, af, none⟩ e K (fun _ : Unit => v) (fun _ => K))
    (hd : (dd.all fun x => Nat.blt x n) = true) (h : HQ P B n ops Q sched (q + 1) (stay ops i Cp) (stay ops i Cl) (e.put dd v) K) : HQ P B n ops Q sched q Cp Cl e K :=
  HQ_loud hs hq ho hf hd (fun _ _ _ h => h) fun _ => h
theorem HQ_new (hs : schedOK ops sched = true) {dd : Option Tmp} {ι : Type} {v : ι → Value} {L : ι → List Ent} (hq : sched[q]? = some (i, true)) (ho : ops[i]? = some ⟨dd, op, t, p, af, none⟩) (hf : LS P B ⟨dd, op, t, p, af, none⟩ e K v (fun i => K ++ L i))
    (hd : (dd.all fun x => Nat.blt x n) = true) (h : ∀ x, HQ P B n ops Q sched (q + 1) (stay ops i Cp) (stay ops i Cl) (e.put dd (v x)) (K ++ L x)) : HQ P B n ops Q sched q Cp Cl e K :=
  HQ_loud hs hq ho hf hd (fun _ _ _ h => h.more) h
theorem HQ_gfun (hs : schedOK ops sched = true) {dd : Option Tmp} {gd : Tmp} {u v : Value} {g : Bool} (hq : sched[q]? = some (i, true)) (ho : ops[i]? = some ⟨dd, op, t, p, af, some (j, want)⟩) (hj : (ops[j]?).bind (·.dst) = some gd) (hu : e.get gd = some u) (hg : GV u want g)
    (hf : g = true → LS P B ⟨dd, op, t, p, af, some (j, want)⟩ e K (fun _ : Unit => v) (fun _ => K)) (hd : (dd.all fun x => Nat.blt x n) = true)
    (h : HQ P B n ops Q sched (q + 1) (stay ops i Cp) (stay ops i Cl) (e.put dd (gv g v)) K) : HQ P B n ops Q sched q Cp Cl e K := by
  obtain ⟨hreg, hin, hlone⟩ := sched_at hs hq
  simp only [Bool.and_eq_true, Bool.not_eq_true', List.all_eq_true] at hin
  intro hS hdn hCS hcp hcl
  refine HJ_louds hreg [i] (by simp) (hlone rfl) (fun l hl => ?_) hS hdn hCS hcp hcl
  obtain rfl := List.mem_singleton.1 hl
  refine ⟨Unit, _, fun _ => gv g v, fun _ => K, ho, fun d hdd => ?_, fun hm => by simp [hm] at hin, fun j hj => by simpa using hin.2 j hj, ?_, fun _ => ⟨fun u hu => hcl u (List.mem_filter.1 hu).1, ?_⟩⟩
  · have hdd : dd = some d := hdd
    subst hdd
    simpa [Nat.blt_eq] using hd
  · cases g with
    | true => exact .inl ⟨gAns_some rfl hj hu hg, hf rfl⟩
    | false => exact .inr ⟨gAns_some rfl hj hu hg, (), rfl, rfl⟩
  · rw [sched_succ hq]
    exact h
theorem HQ_end {Fin : Exit → Act → World → Prop} {k : List It} (hs : schedOK ops sched = true) (hq : Nat.beq sched.length q = true) (h : JS P Fin B n k e K) : HQ P B n ops (wpS P Fin k) sched q Cp Cl e K := by
  have hs' := hs
  unfold schedOK at hs'
  simp only [Bool.and_eq_true] at hs'
  obtain ⟨⟨hreg, hlen⟩, hall⟩ := hs'
  have hq : sched.length = q := by simpa [Nat.beq_eq] using hq
  have hlen : sched.length = ops.size := by simpa [Nat.beq_eq] using hlen
  have hS : schedIn sched q = (sched.map (·.1)).reverse := by simp [schedIn, ← hq]
  refine HJ_end hreg ?_ fun a w ha hw => h a w ha hw
  rw [List.all_eq_true]
  intro j hj
  have hj := List.mem_range.1 hj
  rw [hS]
  have hnd : (sched.map (·.1)).Nodup := by
    rw [List.nodup_iff_pairwise_ne, List.pairwise_iff_getElem]
    intro a b ha hb hab heq
    have hb' : b < sched.length := by simpa using hb
    have ha' : a < sched.length := by simpa using ha
    have h1 : sched[b]? = some (sched[b].1, sched[b].2) := by simp [hb']
    obtain ⟨_, h2, _⟩ := sched_at hs h1
    simp only [Bool.and_eq_true, Bool.not_eq_true'] at h2
    have h3 := h2.1
    rw [Bool.eq_false_iff] at h3
    apply h3
    simp only [List.getElem_map] at heq
    simp only [schedIn, List.contains_eq_mem, List.mem_reverse, List.mem_map, decide_eq_true_eq]
    exact ⟨sched[a], by rw [List.mem_take_iff_getElem]; exact ⟨a, by omega, rfl⟩, heq⟩
  have hlt : ∀ x ∈ sched.map (·.1), x < ops.size := by
    intro x hx
    obtain ⟨y, hy, rfl⟩ := List.mem_map.1 hx
    obtain ⟨a, ha, rfl⟩ := List.getElem_of_mem hy
    have h1 : sched[a]? = some (sched[a].1, sched[a].2) := by simp [ha]
    have := (List.all_eq_true.1 hall) a (List.mem_range.2 ha)
    simp only [h1, Bool.and_eq_true, Nat.blt_eq] at this
    exact this.1.1.1
  have := all_of_many hnd hlt (by simp [hlen]) j hj
  simpa using this
theorem JS_drawn {Fin : Exit → Act → World → Prop} {k : List It} {id : Nat} {l : List Oper} (hm : P.follows .mixedOrders = true) (sched : List (Nat × Bool)) (hs : schedOK l.toArray sched = true) (h : schedOK l.toArray sched = true → HQ P B n l.toArray (wpS P Fin k) sched 0 [] [] e K) :
    JS P Fin B n (.c (.region id l.toArray true) :: k) e K := JS_draw hm (h hs)
end
end Go.Proofs.Ytmhjcemcjfkejaa
