/- A calculus of my own for walking Go functions: partial frames ('Env'), a list of known blocks ('Ent'), steps op by op. Stated over any program P. -/
import Derived.WalkKit
import Derived.Orders
namespace Go.Proofs.Ytmhjcemcjfkejaa
open Go.RowKit

abbrev Env := List (Nat × Value)
def Env.get : Env → Nat → Option Value
  | [], _ => none
  | (m, v) :: e, n => bif Nat.beq m n then some v else Env.get e n
def Env.ev (e : Env) : Operand → Option Value
  | .tmp n => e.get n
  | .const v => some v
  | .global g => some (.pointer (some ⟨g, 0, none⟩))
  | .func f => some (.func (.func f) #[] #[])
def Env.put (e : Env) : Option Tmp → Value → Env
  | some d, v => (d, v) :: e
  | none, _ => e
/-- The frame a holds what e says. -/
def EnvOK (e : Env) (a : Act) : Prop := ∀ n v, e.get n = some v → a.tmps[n]? = some v

theorem EnvOK.ev {e : Env} {a : Act} (h : EnvOK e a) {x : Operand} {v : Value} (hx : e.ev x = some v) : a.eval x = v := by
  cases x with
  | tmp n => simp only [Env.ev] at hx; simp [Act.eval, Array.getD_eq_getD_getElem?, h n v hx]
  | const c => simpa [Env.ev, Act.eval] using hx
  | global g => simpa [Env.ev, Act.eval] using hx
  | func f => simpa [Env.ev, Act.eval] using hx

theorem Env.get_cons (m n : Nat) (v : Value) (e : Env) : Env.get ((m, v) :: e) n = if m = n then some v else Env.get e n := by
  simp only [Env.get]
  by_cases h : m = n
  · simp [h]
  · have : Nat.beq m n = false := by rw [Bool.eq_false_iff]; simpa [Nat.beq_eq] using h
    simp [this, h]

theorem EnvOK.put {e : Env} {a : Act} (h : EnvOK e a) {d : Option Tmp} {v : Value} (hd : ∀ k, d = some k → k < a.tmps.size) : EnvOK (e.put d v) (a.put d v) := by
  cases d with
  | none => exact h
  | some k =>
    intro n u hu
    have hk := hd k rfl
    simp only [Env.put, Env.get_cons] at hu
    simp only [Act.put]
    by_cases hn : k = n
    · subst hn
      simp only [if_true] at hu
      simp [hk]
      simpa using hu
    · rw [if_neg hn] at hu
      rw [Array.getElem?_setIfInBounds_ne hn]
      exact h n u hu

theorem Act.size_put (a : Act) (d : Option Tmp) (v : Value) : (a.put d v).tmps.size = a.tmps.size := by
  cases d <;> simp [Act.put]
theorem Act.defers_put (a : Act) (d : Option Tmp) (v : Value) : (a.put d v).defers = a.defers := by
  cases d <;> simp [Act.put]

/-- All blocks that were there, but those of S, are as they were. -/
structure Only (S : List Nat) (w w' : World) : Prop where
  os : w'.os = w.os
  tape : w'.tape = w.tape
  output : w'.output = w.output
  size : w.heap.size ≤ w'.heap.size
  block : ∀ k, k < w.heap.size → k ∉ S → w'.heap[k]? = w.heap[k]?

theorem Only.refl (S : List Nat) (w : World) : Only S w w := ⟨rfl, rfl, rfl, Nat.le_refl _, fun _ _ _ => rfl⟩
/-- Behind a step that touches blocks of T: each of them in S, or new. -/
theorem Only.trans {S T : List Nat} {a b c : World} (h : Only S a b) (k : Only T b c) (hT : ∀ x ∈ T, x ∈ S ∨ a.heap.size ≤ x) : Only S a c :=
  ⟨k.os.trans h.os, k.tape.trans h.tape, k.output.trans h.output, Nat.le_trans h.size k.size, fun i hi hS =>
    (k.block i (Nat.lt_of_lt_of_le hi h.size) (fun hm => (hT i hm).elim hS (by omega))).trans (h.block i hi hS)⟩
theorem Only.below {w w' : World} (h : Only [] w w') : Below w.heap.size w w' := ⟨h.os, h.tape, h.output, h.size, fun k hk => h.block k hk (by simp)⟩
theorem Only.of_below {w w' : World} (S : List Nat) (h : Below w.heap.size w w') : Only S w w' := ⟨h.os, h.tape, h.output, h.size, fun k hk _ => h.block k hk⟩
theorem Only.mono {S T : List Nat} {w w' : World} (h : Only S w w') (hs : ∀ x ∈ S, x ∈ T) : Only T w w' := ⟨h.os, h.tape, h.output, h.size, fun k hk hT => h.block k hk (fun hm => hT (hs k hm))⟩

theorem lt_of_heap {w : World} {b : Nat} {o : Obj} (ho : w.heap[b]? = some o) : b < w.heap.size := by
  rcases Nat.lt_or_ge b w.heap.size with h | h
  · exact h
  · rw [Array.getElem?_eq_none h] at ho; cases ho
/-- Blocks, and what is known of the objects in them. -/
structure Ent where
  bs : List Nat
  p : World → Prop
  loc : ∀ w w', (∀ b ∈ bs, w'.heap[b]? = w.heap[b]?) → p w → p w'
  lt : ∀ w, p w → ∀ b ∈ bs, b < w.heap.size
/-- A block, and what is known of the object in it; no block: nothing. -/
def Ent.one (b : Option Nat) (p : Obj → Prop) : Ent := ⟨b.toList, fun w => ∃ o, (∀ b', b = some b' → w.heap[b']? = some o) ∧ p o, fun _ _ h ⟨o, ho, hp⟩ => ⟨o, fun b' hb => (h b' (by simp [hb])).trans (ho b' hb), hp⟩,
  fun _ ⟨_, ho, _⟩ b' hb => lt_of_heap (ho b' (by simpa using hb))⟩
/-- cells of type t, first cs, then sl others; not frozen. -/
def Ent.c (b t : Nat) (cs : List Value) (sl : Nat := 0) : Ent := .one (some b) fun o => ∃ r : List Value, r.length = sl ∧ o = .cells (cs ++ r).toArray t (0, 0)
def Ent.ok (w : World) (e : Ent) : Prop := e.p w
def blks (K : List Ent) : List Nat := K.flatMap Ent.bs
theorem blks_append (K F : List Ent) : blks (K ++ F) = blks K ++ blks F := by simp [blks]
theorem blks_cons (e : Ent) (F : List Ent) : blks (e :: F) = e.bs ++ blks F := by simp [blks]
theorem blks_one (e : Ent) : blks [e] = e.bs := by simp [blks]
theorem mem_blks {K : List Ent} {b : Nat} : b ∈ blks K ↔ ∃ e ∈ K, b ∈ e.bs := by simp [blks, List.mem_flatMap]

structure Mem (w : World) (K : List Ent) : Prop where
  ok : ∀ e ∈ K, e.ok w
  nd : (blks K).Nodup

theorem Mem.nil (w : World) : Mem w [] := ⟨by simp, by simp [blks]⟩
theorem Ent.ok.lt {w : World} {e : Ent} (h : e.ok w) {b : Nat} (hb : b ∈ e.bs) : b < w.heap.size := e.lt w h b hb
theorem Ent.ok.same {w w' : World} {e : Ent} (h : e.ok w) (hs : ∀ b ∈ e.bs, w'.heap[b]? = w.heap[b]?) : e.ok w' := e.loc w w' hs h

theorem Mem.sub {w : World} {K K' : List Ent} (h : Mem w K) (hs : ∀ e ∈ K', e ∈ K) (hn : (blks K').Nodup) : Mem w K' := ⟨fun e he => h.ok e (hs e he), hn⟩
theorem Mem.perm {w : World} {K K' : List Ent} (h : Mem w K) (hp : K.Perm K') : Mem w K' := ⟨fun e he => h.ok e (hp.mem_iff.2 he), (hp.flatMap_right Ent.bs).nodup_iff.1 h.nd⟩
theorem Mem.left {w : World} {K F : List Ent} (h : Mem w (K ++ F)) : Mem w K := ⟨fun e he => h.ok e (List.mem_append_left _ he), by have := h.nd; rw [blks_append] at this; exact (List.nodup_append.1 this).1⟩
theorem Mem.right {w : World} {K F : List Ent} (h : Mem w (K ++ F)) : Mem w F := ⟨fun e he => h.ok e (List.mem_append_right _ he), by have := h.nd; rw [blks_append] at this; exact (List.nodup_append.1 this).2.1⟩
theorem Mem.apart {w : World} {K F : List Ent} (h : Mem w (K ++ F)) {x y : Nat} (hx : x ∈ blks K) (hy : y ∈ blks F) : x ≠ y := by
  have := h.nd
  rw [blks_append, List.nodup_append] at this
  exact this.2.2 _ hx _ hy

/-- What a call does to memory: of the blocks of K0 it may write any; behind it K1 is known: blocks of K0, or new ones. -/
structure Upd (w w' : World) (K0 K1 : List Ent) : Prop where
  only : Only (blks K0) w w'
  mem : Mem w' K1
  own : ∀ b ∈ blks K1, b ∈ blks K0 ∨ w.heap.size ≤ b

/-- The world in which a function began, and the blocks that it may write. -/
structure Base where
  w : World
  own : List Nat

structure SM (B : Base) (K : List Ent) (w : World) : Prop where
  only : Only B.own B.w w
  mem : Mem w K
  own : ∀ b ∈ blks K, b ∈ B.own ∨ B.w.heap.size ≤ b

theorem blks_perm {K K' : List Ent} (hp : K.Perm K') {b : Nat} : b ∈ blks K ↔ b ∈ blks K' := (hp.flatMap_right Ent.bs).mem_iff
theorem SM.perm {B : Base} {K K' : List Ent} {w : World} (h : SM B K w) (hp : K.Perm K') : SM B K' w :=
  ⟨h.only, h.mem.perm hp, fun b hb => h.own b ((blks_perm hp).2 hb)⟩
theorem SM.left {B : Base} {K F : List Ent} {w : World} (h : SM B (K ++ F) w) : SM B K w := ⟨h.only, h.mem.left, fun b hb => h.own b (by rw [blks_append]; exact List.mem_append_left _ hb)⟩
theorem SM.right {B : Base} {K F : List Ent} {w : World} (h : SM B (K ++ F) w) : SM B F w := ⟨h.only, h.mem.right, fun b hb => h.own b (by rw [blks_append]; exact List.mem_append_right _ hb)⟩

/-- A call over a part of what is known. -/
theorem SM.upd {B : Base} {K0 K1 Kr : List Ent} {w w' : World} (h : SM B (K0 ++ Kr) w) (u : Upd w w' K0 K1) : SM B (K1 ++ Kr) w' := by
  have hr := h.mem.right
  have same : ∀ b ∈ blks Kr, w'.heap[b]? = w.heap[b]? := fun b hb => by
    obtain ⟨e, he, hb'⟩ := mem_blks.1 hb
    exact u.only.block b ((hr.ok e he).lt hb') (fun hm => h.mem.apart hm hb rfl)
  refine ⟨h.only.trans u.only (fun x hx => ?_), ⟨fun e he => ?_, ?_⟩, fun b hb => ?_⟩
  · exact h.own x (by rw [blks_append]; exact List.mem_append_left _ hx)
  · rcases List.mem_append.1 he with he | he
    · exact u.mem.ok e he
    · exact (hr.ok e he).same (fun b hb => same b (mem_blks.2 ⟨e, he, hb⟩))
  · rw [blks_append, List.nodup_append]
    refine ⟨u.mem.nd, hr.nd, fun x hx y hy => ?_⟩
    have hlt : y < w.heap.size := by
      obtain ⟨e', he', hb'⟩ := mem_blks.1 hy
      exact (hr.ok e' he').lt hb'
    rcases u.own x hx with hm | hge
    · exact h.mem.apart hm hy
    · omega
  · rw [blks_append] at hb
    rcases List.mem_append.1 hb with hb | hb
    · rcases u.own b hb with hm | hge
      · exact h.own b (by rw [blks_append]; exact List.mem_append_left _ hm)
      · exact .inr (Nat.le_trans h.only.size hge)
    · exact h.own b (by rw [blks_append]; exact List.mem_append_right _ hb)

/-- A list's places, in a row of one's choice. -/
def pick (K : List Ent) (is : List Nat) : List Ent := is.filterMap (K[·]?)
theorem pick_sub {K : List Ent} {is : List Nat} : ∀ e ∈ pick K is, e ∈ K := by
  intro e he
  obtain ⟨i, _, hi⟩ := List.mem_filterMap.1 he
  exact List.mem_of_getElem? hi
theorem pick_nodup {K : List Ent} (hK : (blks K).Nodup) : ∀ {is : List Nat}, is.Nodup → (blks (pick K is)).Nodup := by
  have key : ∀ (K : List Ent), (blks K).Nodup → ∀ (i j : Nat) (e e' : Ent) (b : Nat), K[i]? = some e → K[j]? = some e' → b ∈ e.bs → b ∈ e'.bs → i = j := by
    intro K
    induction K with
    | nil => intro _ i j e e' b h; cases h
    | cons x xs ih =>
      intro hn i j e e' b hi hj hb hb'
      have hsplit : blks (x :: xs) = blks [x] ++ blks xs := blks_append [x] xs
      rw [hsplit, List.nodup_append] at hn
      have hx : ∀ {u : Ent} {m : Nat}, xs[m]? = some u → b ∈ u.bs → b ∈ blks xs := fun {u m} hm hu => mem_blks.2 ⟨u, List.mem_of_getElem? hm, hu⟩
      cases i with
      | zero =>
        cases j with
        | zero => rfl
        | succ j =>
          simp at hi hj
          subst hi
          exact absurd rfl (hn.2.2 b (mem_blks.2 ⟨x, by simp, hb⟩) b (hx hj hb'))
      | succ i =>
        cases j with
        | zero =>
          simp at hi hj
          subst hj
          exact absurd rfl (hn.2.2 b (mem_blks.2 ⟨x, by simp, hb'⟩) b (hx hi hb))
        | succ j =>
          simp at hi hj
          rw [ih hn.2.1 i j e e' b hi hj hb hb']
  intro is
  induction is with
  | nil => intro _; simp [pick, blks]
  | cons i is ih =>
    intro hn
    obtain ⟨hi, hn⟩ := List.nodup_cons.1 hn
    have hrest := ih hn
    simp only [pick, List.filterMap_cons] at hrest ⊢
    cases hk : K[i]? with
    | none => simpa using hrest
    | some e =>
      have hsplit : blks (e :: List.filterMap (fun x => K[x]?) is) = blks [e] ++ blks (List.filterMap (fun x => K[x]?) is) := blks_append [e] _
      simp only
      rw [hsplit, List.nodup_append]
      refine ⟨?_, hrest, fun x hx y hy hxy => ?_⟩
      · have h1 : (blks K).Nodup := hK
        obtain ⟨l1, l2, hl⟩ := List.append_of_mem (List.mem_of_getElem? hk)
        rw [hl, blks_append, List.nodup_append] at h1
        have h2 := h1.2.1
        rw [show e :: l2 = [e] ++ l2 from rfl, blks_append, List.nodup_append] at h2
        exact h2.1
      · subst hxy
        obtain ⟨e1, he1, hb1⟩ := mem_blks.1 hx
        simp only [List.mem_singleton] at he1
        subst he1
        obtain ⟨e', he', hb⟩ := mem_blks.1 hy
        obtain ⟨j, hj, hj'⟩ := List.mem_filterMap.1 he'
        have := key K hK i j e1 e' x hk hj' hb1 hb
        exact hi (this ▸ hj)
theorem SM.pick {B : Base} {K : List Ent} {w : World} (h : SM B K w) {is : List Nat} (hn : is.Nodup) : SM B (pick K is) w :=
  ⟨h.only, h.mem.sub pick_sub (pick_nodup h.mem.nd hn), fun b hb => by
    obtain ⟨e, he, hb⟩ := mem_blks.1 hb
    exact h.own b (mem_blks.2 ⟨e, pick_sub e he, hb⟩)⟩
theorem pick_append (K : List Ent) (is js : List Nat) : pick K (is ++ js) = pick K is ++ pick K js := by simp [pick]
/-- A call over the entries at 'is'; those at 'js' stay. -/
theorem SM.updAt {B : Base} {K K1 : List Ent} {w w' : World} (h : SM B K w) (is js : List Nat) (hn : (is ++ js).Nodup) (u : Upd w w' (Go.Proofs.Ytmhjcemcjfkejaa.pick K is) K1) : SM B (K1 ++ Go.Proofs.Ytmhjcemcjfkejaa.pick K js) w' :=
  (by have := h.pick hn; rw [pick_append] at this; exact this : SM B (_ ++ _) w).upd u

/-! ## Code -/
/-- What is still to be run: code, a block's end, a loop's head. -/
inductive It where
  | c (x : Code)
  | blk (id : Nat)
  | stop (H : Act → World → Prop)

section
variable (P : Program) (Fin : Exit → Act → World → Prop)
def wpS : List It → Exit → Act → World → Prop
  | [], ex, a, w => Fin ex a w
  | .c x :: k, .normal, a, w => x.wp P (wpS k) a w
  | .c _ :: k, ex, a, w => wpS k ex a w
  | .blk id :: k, .exit id', a, w => if id' = id then wpS k .normal a w else wpS k (.exit id') a w
  | .blk _ :: k, ex, a, w => wpS k ex a w
  | .stop H :: _, .normal, a, w => H a w
  | .stop _ :: k, ex, a, w => wpS k ex a w
end

/-- The frame: no deferred calls, n slots, what e says. -/
structure AS (n : Nat) (e : Env) (a : Act) : Prop where
  df : a.defers = []
  sz : a.tmps.size = n
  ok : EnvOK e a

theorem AS.put {n : Nat} {e : Env} {a : Act} (h : AS n e a) {d : Option Tmp} {v : Value} (hd : ∀ k, d = some k → k < n) : AS n (e.put d v) (a.put d v) :=
  ⟨(Act.defers_put a d v).trans h.df, (Act.size_put a d v).trans h.sz, h.ok.put fun k hk => h.sz ▸ hd k hk⟩
theorem AS.sub {n : Nat} {e e' : Env} {a : Act} (h : AS n e a) (hs : ∀ k v, e'.get k = some v → e.get k = some v) : AS n e' a := ⟨h.df, h.sz, fun k v hk => h.ok k v (hs k v hk)⟩

section
variable (P : Program) (Fin : Exit → Act → World → Prop) (B : Base) (n : Nat)
def JS (k : List It) (e : Env) (K : List Ent) : Prop := ∀ a w, AS n e a → SM B K w → wpS P Fin k .normal a w
end

section
variable {P : Program} {Fin : Exit → Act → World → Prop} {B : Base} {n : Nat} {k : List It} {e : Env} {K : List Ent}

theorem JS_seq {x y : Code} (h : JS P Fin B n (.c x :: .c y :: k) e K) : JS P Fin B n (.c (.seq x y) :: k) e K := by
  intro a w ha hw
  refine wp_seq (wp_mono (h a w ha hw) ?_)
  intro ex a w hq
  cases ex <;> exact hq
theorem JS_block {id : Nat} {x : Code} (h : JS P Fin B n (.c x :: .blk id :: k) e K) : JS P Fin B n (.c (.block id x) :: k) e K := by
  intro a w ha hw
  refine wp_block (wp_mono (h a w ha hw) ?_)
  intro ex a w hq
  cases ex <;> exact hq
theorem JS_skip (h : JS P Fin B n k e K) : JS P Fin B n (.c .skip :: k) e K := fun a w ha hw => wp_skip (h a w ha hw)
theorem JS_blk {id : Nat} (h : JS P Fin B n k e K) : JS P Fin B n (.blk id :: k) e K := fun a w ha hw => h a w ha hw
theorem JS_cond {c : Operand} {x y : Code} {b : Bool} (hc : e.ev c = some (.bool b)) (ht : b = true → JS P Fin B n (.c x :: k) e K) (hf : b = false → JS P Fin B n (.c y :: k) e K) :
    JS P Fin B n (.c (.cond c x y) :: k) e K := by
  intro a w ha hw
  exact wp_cond_split (ha.ok.ev hc) (fun hb => ht hb a w ha hw) (fun hb => hf hb a w ha hw)
theorem JS_if {c : Operand} {x y : Code} (hc : e.ev c = some (.bool true)) (h : JS P Fin B n (.c x :: k) e K) : JS P Fin B n (.c (.cond c x y) :: k) e K :=
  JS_cond hc (fun _ => h) (fun h => by cases h)
theorem JS_else {c : Operand} {x y : Code} (hc : e.ev c = some (.bool false)) (h : JS P Fin B n (.c y :: k) e K) : JS P Fin B n (.c (.cond c x y) :: k) e K :=
  JS_cond hc (fun h => by cases h) (fun _ => h)
/-- Where 'exit id' goes. -/
def popTo (id : Nat) : List It → Option (List It)
  | [] => none
  | .blk j :: k => bif Nat.beq id j then some k else popTo id k
  | _ :: k => popTo id k
theorem popTo_wpS {id : Nat} {k' : List It} {a : Act} {w : World} : ∀ {k : List It}, popTo id k = some k' → wpS P Fin k' .normal a w → wpS P Fin k (.exit id) a w
  | [], h, _ => by cases h
  | .blk j :: k, h, hw => by
    simp only [popTo] at h
    by_cases hj : id = j
    · subst hj
      simp at h
      subst h
      simp only [wpS, if_true]
      exact hw
    · have : Nat.beq id j = false := by rw [Bool.eq_false_iff]; simpa [Nat.beq_eq] using hj
      rw [this] at h
      simp only [wpS, if_neg hj]
      exact popTo_wpS h hw
  | .c _ :: k, h, hw => by simp only [wpS]; exact popTo_wpS h hw
  | .stop _ :: k, h, hw => by simp only [wpS]; exact popTo_wpS h hw
theorem JS_exit {id : Nat} {k' : List It} (hp : popTo id k = some k') (h : JS P Fin B n k' e K) : JS P Fin B n (.c (.exit id) :: k) e K :=
  fun a w ha hw => wp_exit (popTo_wpS hp (h a w ha hw))
theorem wpS_ret {a : Act} {w : World} : ∀ {k : List It}, Fin .ret a w → wpS P Fin k .ret a w
  | [], h => h
  | .c _ :: k, h => by simp only [wpS]; exact wpS_ret h
  | .blk _ :: k, h => by simp only [wpS]; exact wpS_ret h
  | .stop _ :: k, h => by simp only [wpS]; exact wpS_ret h
theorem JS_ret (h : ∀ a w, AS n e a → SM B K w → Fin .ret a w) : JS P Fin B n (.c .ret :: k) e K := fun a w ha hw => wp_ret (wpS_ret (h a w ha hw))
theorem JS_end (h : ∀ a w, AS n e a → SM B K w → Fin .normal a w) : JS P Fin B n [] e K := fun a w ha hw => h a w ha hw
theorem JS_stop {H : Act → World → Prop} (h : ∀ a w, AS n e a → SM B K w → H a w) : JS P Fin B n (.stop H :: k) e K := fun a w ha hw => h a w ha hw
/-- Less is known. -/
theorem JS_weak {e' : Env} {K' : List Ent} (he : ∀ i v, e'.get i = some v → e.get i = some v) (hK : ∀ w, SM B K w → SM B K' w) (h : JS P Fin B n k e' K') : JS P Fin B n k e K :=
  fun a w ha hw => h a w (ha.sub he) (hK w hw)
theorem JS_pick (is : List Nat) (hn : is.Nodup) (h : JS P Fin B n k e (pick K is)) : JS P Fin B n k e K := JS_weak (fun _ _ h => h) (fun _ h => h.pick hn) h
/-- A fact that memory bears out. -/
theorem JS_have {p : Prop} (hp : ∀ w, SM B K w → p) (h : p → JS P Fin B n k e K) : JS P Fin B n k e K := fun a w ha hw => h (hp w hw) a w ha hw

/-- A loop: at each head the state of some index i; each round lowers its measure. -/
theorem JS_loop {ι : Type} {x : Code} (E : ι → Env) (M : ι → List Ent) (μ : ι → Nat) (i0 : ι) (he : ∀ j v, (E i0).get j = some v → e.get j = some v) (hK : ∀ w, SM B K w → SM B (M i0) w)
    (round : ∀ i, JS P Fin B n (.c x :: .stop (fun a w => ∃ j, μ j < μ i ∧ AS n (E j) a ∧ SM B (M j) w) :: k) (E i) (M i)) : JS P Fin B n (.c (.loop x) :: k) e K := by
  intro a w ha hw b kk cs
  have key : ∀ m i, μ i = m → ∀ a w, AS n (E i) a → SM B (M i) w →
      ∃ ex a' w', wpS P Fin k ex a' w' ∧ Arrives P (lone (b.at a (.code x :: .inLoop x :: kk)) cs w) b kk cs ex a' w' := by
    intro m
    induction m using Nat.strongRecOn with
    | _ m ih =>
      intro i hm a w ha hw
      obtain ⟨ex, a₁, w₁, hq, harr⟩ := round i a w ha hw b (.inLoop x :: kk) cs
      cases ex with
      | normal =>
        obtain ⟨j, hlt, ha', hw'⟩ := hq
        obtain ⟨e₂, a₂, w₂, hq₂, harr₂⟩ := ih (μ j) (hm ▸ hlt) j rfl a₁ w₁ ha' hw'
        exact ⟨e₂, a₂, w₂, hq₂, .of_steps (Steps.trans harr (.one step_inLoop)) harr₂⟩
      | exit id => exact ⟨_, a₁, w₁, hq, .pass (x := .inLoop x) rfl (fun _ _ => .inl (by simp)) harr⟩
      | goto l => exact ⟨_, a₁, w₁, hq, .pass (x := .inLoop x) rfl (fun _ _ => .inl (by simp)) harr⟩
      | ret => exact ⟨_, a₁, w₁, hq, .pass (x := .inLoop x) rfl (fun _ _ => .inl (by simp)) harr⟩
      | panic ch => exact ⟨_, a₁, w₁, hq, .pass (x := .inLoop x) rfl (fun _ _ => .inl (by simp)) harr⟩
      | outgrown => exact ⟨_, a₁, w₁, hq, .pass (x := .inLoop x) rfl (fun _ _ => .inl (by simp)) harr⟩
  obtain ⟨ex, a', w', hq, harr⟩ := key _ i0 rfl a w (ha.sub he) (hK w hw)
  exact ⟨ex, a', w', hq, .of_steps (.one step_loop) harr⟩
/-- The end of a round. -/
theorem JS_again {ι : Type} {E : ι → Env} {M : ι → List Ent} {μ : ι → Nat} {i : ι} (j : ι) (hlt : μ j < μ i) (he : ∀ l v, (E j).get l = some v → e.get l = some v) (hK : ∀ w, SM B K w → SM B (M j) w) :
    JS P Fin B n (.stop (fun a w => ∃ j, μ j < μ i ∧ AS n (E j) a ∧ SM B (M j) w) :: k) e K := JS_stop fun _ _ ha hw => ⟨j, hlt, ha.sub he, hK _ hw⟩
end

/-! ## Contracts -/
/-- 'pre' of the world, the blocks K0 known: the call returns v i, and K1 i is known behind it, for some i. -/
def Ctr (P : Program) (f : FuncId) (args : List Value) (pre : World → Prop) (K0 : List Ent) {ι : Type} (v : ι → Value) (K1 : ι → List Ent) : Prop :=
  ∀ w, Mem w K0 → pre w → Calls P f args.toArray w fun ex w' => ∃ i, ex = .returned (v i) ∧ Upd w w' K0 (K1 i)

def argEnv (args : List Value) : Env := args.zipIdx.map fun p => (p.2, p.1)
theorem argEnv_get (args : List Value) : ∀ s m v, Env.get ((args.zipIdx s).map fun p => (p.2, p.1)) m = some v → s ≤ m ∧ args[m - s]? = some v := by
  induction args with
  | nil => intro s m v h; cases h
  | cons x xs ih =>
    intro s m v h
    simp only [List.zipIdx_cons, List.map_cons, Env.get_cons] at h
    by_cases hs : s = m
    · subst hs
      simp at h
      simp [h]
    · rw [if_neg hs] at h
      obtain ⟨h1, h2⟩ := ih (s + 1) m v h
      refine ⟨by omega, ?_⟩
      rw [show m - s = (m - (s + 1)) + 1 from by omega]
      simpa using h2

theorem Ctr.of {P : Program} {f : FuncId} {fn : Func} {c : Code} {args : List Value} {pre : World → Prop} {K0 : List Ent} {ι : Type} {v : ι → Value} {K1 : ι → List Ent}
    (hf : P.funcs[f]? = some fn) (hb : fn.body = some c) (hn : args.length ≤ fn.ntmps)
    (h : ∀ w, pre w → JS P (bodyPost P fn fun ex w' => ∃ i, ex = .returned (v i) ∧ Upd w w' K0 (K1 i)) ⟨w, blks K0⟩ fn.ntmps [.c c] (argEnv args) K0) : Ctr P f args pre K0 v K1 := by
  intro w hm hp
  refine calls_of_wp hf hb ?_
  refine wp_mono (h w hp _ w ⟨rfl, ?_, ?_⟩ ⟨Only.refl _ _, hm, fun b hb => .inl hb⟩) ?_
  · simp; omega
  · intro m u hu
    obtain ⟨_, hu⟩ := argEnv_get args 0 m u hu
    simp only [Nat.sub_zero] at hu
    obtain ⟨hlt, hu'⟩ := List.getElem?_eq_some_iff.1 hu
    rw [Array.getElem?_append_left (by simpa using hlt)]
    simpa using hu
  · intro ex a w hq
    cases ex <;> exact hq

end Go.Proofs.Ytmhjcemcjfkejaa
