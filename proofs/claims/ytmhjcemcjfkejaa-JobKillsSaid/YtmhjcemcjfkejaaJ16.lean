/- The calculus, sixteenth part: a drawn region forks: each road has a schedule of its own. -/
import Derived.Test.YtmhjcemcjfkejaaJ15
namespace Go.Proofs.Ytmhjcemcjfkejaa
open Go.RowKit
set_option linter.unusedVariables false
set_option linter.unusedSimpArgs false

section
variable {P : Program} {B : Base} {n : Nat} {ops : Array Oper} {Q : Exit → Act → World → Prop} {sched sched' : List (Nat × Bool)} {q i : Nat} {l : Bool} {Cp Cl : List Nat} {e : Env} {K : List Ent}
variable {op : Op} {t : TypeId} {p : String} {af : Array Edge} {dd : Option Tmp}
/-- Those of Ls may come next, and no others. -/
def forkOK (ops : Array Oper) (sched : List (Nat × Bool)) (q : Nat) (Ls : List Nat) : Bool :=
  !Ls.isEmpty && (List.range ops.size).all fun j => (schedIn sched q).contains j || Ls.contains j || !((dep ops j).all (schedIn sched q).contains)
theorem HQ_h (hs : schedOK ops sched = true) (h : schedOK ops sched = true → HQ P B n ops Q sched q Cp Cl e K) : HQ P B n ops Q sched q Cp Cl e K := h hs
/-- A road of a fork. -/
theorem LK (hs : schedOK ops sched' = true) (hS : sched'.take q = sched.take q) {ι : Type} {v : ι → Value} {K' : ι → List Ent} (us : List Nat) (hq : sched'[q]? = some (i, l)) (ho : ops[i]? = some ⟨dd, op, t, p, af, none⟩) (hf : LS P B ⟨dd, op, t, p, af, none⟩ e K v K')
    (hd : (dd.all fun x => Nat.blt x n) = true) (hus : stay ops i Cl = us) (hst : ∀ x, CertL P B n ops e (K' x) us) (h : ∀ x, HQ P B n ops Q sched' (q + 1) (stay ops i Cp) us (e.put dd (v x)) (K' x)) : LJ P B n ops Q (schedIn sched q) Cp Cl e K i := by
  obtain ⟨hreg, hin, _⟩ := sched_at hs hq
  have hS' : schedIn sched' q = schedIn sched q := by unfold schedIn; rw [hS]
  rw [hS'] at hin
  simp only [Bool.and_eq_true, Bool.not_eq_true', List.all_eq_true] at hin
  refine ⟨ι, _, v, K', ho, fun d hdd => ?_, fun hm => by simp [hm] at hin, fun j hj => by simpa using hin.2 j hj, .inl ⟨gAns_none rfl, hf⟩, fun x => ⟨fun u hu => (hst x).mem u (hus ▸ hu), ?_⟩⟩
  · have hdd : dd = some d := hdd
    subst hdd
    simpa [Nat.blt_eq] using hd
  · have := h x
    unfold HQ at this
    rw [← sched_succ hq, hS'] at this
    rw [hus]
    exact this
theorem HQ_fork2 (hs : schedOK ops sched = true) {a b : Nat} (hk : forkOK ops sched q [a, b] = true) (h1 : LJ P B n ops Q (schedIn sched q) Cp Cl e K a) (h2 : LJ P B n ops Q (schedIn sched q) Cp Cl e K b) : HQ P B n ops Q sched q Cp Cl e K := by
  unfold schedOK at hs
  simp only [Bool.and_eq_true] at hs
  unfold forkOK at hk
  simp only [Bool.and_eq_true] at hk
  refine HJ_louds hs.1.1 [a, b] (by simp) hk.2 fun x hx => ?_
  simp only [List.mem_cons, List.not_mem_nil, or_false] at hx
  rcases hx with rfl | rfl
  · exact h1
  · exact h2
theorem HQ_fork3 (hs : schedOK ops sched = true) {a b c : Nat} (hk : forkOK ops sched q [a, b, c] = true) (h1 : LJ P B n ops Q (schedIn sched q) Cp Cl e K a) (h2 : LJ P B n ops Q (schedIn sched q) Cp Cl e K b) (h3 : LJ P B n ops Q (schedIn sched q) Cp Cl e K c) : HQ P B n ops Q sched q Cp Cl e K := by
  unfold schedOK at hs
  simp only [Bool.and_eq_true] at hs
  unfold forkOK at hk
  simp only [Bool.and_eq_true] at hk
  refine HJ_louds hs.1.1 [a, b, c] (by simp) hk.2 fun x hx => ?_
  simp only [List.mem_cons, List.not_mem_nil, or_false] at hx
  rcases hx with rfl | rfl | rfl
  · exact h1
  · exact h2
  · exact h3
end
section
variable {P : Program} {Fin : Exit → Act → World → Prop} {B : Base} {n : Nat} {k : List It} {e : Env} {K : List Ent}
/-- What a piece of code leaves: the state of some index. -/
def After {ι : Type} (B : Base) (n : Nat) (E : ι → Env) (M : ι → List Ent) (a : Act) (w : World) : Prop := ∃ j, AS n (E j) a ∧ SM B (M j) w
theorem wpS_cut {H : Act → World → Prop} (hk : ∀ a w, H a w → wpS P Fin k .normal a w) : ∀ {k' : List It} {ex : Exit} {a : Act} {w : World}, wpS P Fin (k' ++ .stop H :: k) ex a w → wpS P Fin (k' ++ k) ex a w
  | [], .normal, a, w, h => hk a w h
  | [], .exit _, a, w, h => by simpa [wpS] using h
  | [], .goto _, a, w, h => by simpa [wpS] using h
  | [], .ret, a, w, h => by simpa [wpS] using h
  | [], .panic _, a, w, h => by simpa [wpS] using h
  | [], .outgrown, a, w, h => by simpa [wpS] using h
  | .c x :: r, .normal, a, w, h => wp_mono (show x.wp P (wpS P Fin (r ++ .stop H :: k)) a w from h) fun _ _ _ h => wpS_cut hk h
  | .c x :: r, .exit _, a, w, h => wpS_cut (k' := r) hk (by simpa [wpS] using h)
  | .c x :: r, .goto _, a, w, h => wpS_cut (k' := r) hk (by simpa [wpS] using h)
  | .c x :: r, .ret, a, w, h => wpS_cut (k' := r) hk (by simpa [wpS] using h)
  | .c x :: r, .panic _, a, w, h => wpS_cut (k' := r) hk (by simpa [wpS] using h)
  | .c x :: r, .outgrown, a, w, h => wpS_cut (k' := r) hk (by simpa [wpS] using h)
  | .blk id :: r, .exit id', a, w, h => by
    simp only [List.cons_append, wpS] at h ⊢
    split at h
    · rename_i h2; rw [if_pos h2]; exact wpS_cut (k' := r) hk h
    · rename_i h2; rw [if_neg h2]; exact wpS_cut (k' := r) hk h
  | .blk id :: r, .normal, a, w, h => wpS_cut (k' := r) hk (by simpa [wpS] using h)
  | .blk id :: r, .goto _, a, w, h => wpS_cut (k' := r) hk (by simpa [wpS] using h)
  | .blk id :: r, .ret, a, w, h => wpS_cut (k' := r) hk (by simpa [wpS] using h)
  | .blk id :: r, .panic _, a, w, h => wpS_cut (k' := r) hk (by simpa [wpS] using h)
  | .blk id :: r, .outgrown, a, w, h => wpS_cut (k' := r) hk (by simpa [wpS] using h)
  | .stop G :: r, .normal, a, w, h => h
  | .stop G :: r, .exit _, a, w, h => wpS_cut (k' := r) hk (by simpa [wpS] using h)
  | .stop G :: r, .goto _, a, w, h => wpS_cut (k' := r) hk (by simpa [wpS] using h)
  | .stop G :: r, .ret, a, w, h => wpS_cut (k' := r) hk (by simpa [wpS] using h)
  | .stop G :: r, .panic _, a, w, h => wpS_cut (k' := r) hk (by simpa [wpS] using h)
  | .stop G :: r, .outgrown, a, w, h => wpS_cut (k' := r) hk (by simpa [wpS] using h)
/-- A piece of code is walked to its end, and the rest once, from any state that it may leave. -/
theorem JS_cut {ι : Type} {x : Code} (E : ι → Env) (M : ι → List Ent) (h1 : JS P Fin B n (.c x :: .stop (After B n E M) :: k) e K) (h2 : ∀ i, JS P Fin B n k (E i) (M i)) : JS P Fin B n (.c x :: k) e K := fun a w ha hw =>
  wpS_cut (k' := [.c x]) (fun a w ⟨j, hj, hm⟩ => h2 j a w hj hm) (h1 a w ha hw)
theorem JS_there {ι : Type} {E : ι → Env} {M : ι → List Ent} (j : ι) (he : LE (E j) e) (hK : ∀ w, SM B K w → SM B (M j) w) : JS P Fin B n (.stop (After B n E M) :: k) e K := JS_stop fun _ _ ha hw => ⟨j, ha.sub he.spec, hK _ hw⟩
end
end Go.Proofs.Ytmhjcemcjfkejaa
