/- The calculus, twelfth part: slices that are one's own. -/
import Derived.Test.YtmhjcemcjfkejaaR
import Derived.ArgAppend
namespace Go.Proofs.Ytmhjcemcjfkejaa
open Go.RowKit
set_option linter.unusedVariables false
set_option linter.unusedSimpArgs false

/-- A slice's block, what stands ahead of it there, and its room behind (in elements). -/
structure Sl where
  b : Nat
  pre : List Value
  k : Nat
def Sl.addr : Option Sl → Option Addr
  | none => none
  | some s => some ⟨s.b, s.pre.length, none⟩
def Sl.cap (n : Nat) : Option Sl → Nat
  | none => 0
  | some s => n + s.k
def Sl.blk : Option Sl → Nat
  | none => 0
  | some s => s.b
def Sl.off : Option Sl → Nat
  | none => 0
  | some s => s.pre.length
abbrev Sl.v (n : Nat) (s : Option Sl) : Value := .slice (Sl.addr s) n (Sl.cap n s)
/-- Cells cs from a slice's begin on, and its room: elements of z cells. -/
def Sl.e (T z : Nat) (cs : List Value) (s : Option Sl) : Ent := .one (s.map (·.b)) fun o => match s with
  | none => cs = []
  | some t => ∃ r : List Value, t.k * z ≤ r.length ∧ o = .cells (t.pre ++ cs ++ r).toArray T (0, 0)
/-- A fact that is carried along. -/
def Ent.fact (φ : Prop) : Ent := .one none fun _ => φ

theorem Sl.row {w : World} {T z : Nat} {cs : List Value} {s : Option Sl} (h : (Sl.e T z cs s).ok w) : RowAt w (Sl.addr s) cs := by
  obtain ⟨o, ho, hp⟩ := h
  cases s with
  | none => exact .inl hp
  | some s =>
    obtain ⟨r, hr, rfl⟩ := hp
    refine .inr ⟨s.b, s.pre.length, rfl, fun j v hv => ?_⟩
    rw [cell_of_row w s.b (s.pre.length + j) _ _ _ (ho s.b rfl)]
    have hj := (List.getElem?_eq_some_iff.1 hv).1
    simp only [List.getElem?_toArray, List.append_assoc]
    rw [List.getElem?_append_right (by omega), List.getElem?_append_left (by omega)]
    simpa using hv
theorem Sl.none_nil {w : World} {T z : Nat} {cs : List Value} (h : (Sl.e T z cs none).ok w) : cs = [] := by
  obtain ⟨o, _, hp⟩ := h
  exact hp
theorem Ent.fact_ok {w : World} {φ : Prop} (h : (Ent.fact φ).ok w) : φ := by
  obtain ⟨o, _, hp⟩ := h
  exact hp
theorem SM.fact {B : Base} {K : List Ent} {w : World} (h : SM B K w) (i : Nat) {φ : Prop} (hi : K[i]? = some (Ent.fact φ)) : φ := Ent.fact_ok (h.mem.ok _ (List.mem_of_getElem? hi))
theorem SM.sl {B : Base} {K : List Ent} {w : World} (h : SM B K w) (i : Nat) {T z : Nat} {cs : List Value} {s : Option Sl} (hi : K[i]? = some (Sl.e T z cs s)) : RowAt w (Sl.addr s) cs := Sl.row (h.mem.ok _ (List.mem_of_getElem? hi))
theorem SM.capLe {α : Type} {f : α → List Value} {B : Base} {K : List Ent} {w : World} {z : Nat} (h : SM B K w) (hf : ∀ x, (f x).length = z) (hz : 0 < z) (i : Nat) {T : Nat} {xs : List α} {s : Option Sl} (hi : K[i]? = some (Sl.e T z (rows f xs) s)) : xs.length ≤ Sl.cap xs.length s := by
  cases s with
  | none =>
    have := Sl.none_nil (h.mem.ok _ (List.mem_of_getElem? hi))
    cases xs with
    | nil => exact Nat.zero_le _
    | cons x r => exact absurd this (rows_ne hf hz (i := 0) (by simp))
  | some s => simp [Sl.cap]
/-- A fact is added. -/
theorem SM.addFact {B : Base} {K : List Ent} {w : World} (h : SM B K w) {e : Ent} (hb : e.bs = []) (he : e.ok w) : SM B (K ++ [e]) w :=
  ⟨h.only, ⟨fun x hx => by
    rcases List.mem_append.1 hx with hx | hx
    · exact h.mem.ok x hx
    · simp only [List.mem_singleton] at hx
      exact hx ▸ he, by
    have : blks (K ++ [e]) = blks K := by simp [blks, hb]
    rw [this]
    exact h.mem.nd⟩, fun b hb' => by
    have : blks (K ++ [e]) = blks K := by simp [blks, hb]
    rw [this] at hb'
    exact h.own b hb'⟩
theorem SM.addNil {B : Base} {K : List Ent} {w : World} (h : SM B K w) (T z : Nat) : SM B (K ++ [Sl.e T z [] none]) w := h.addFact rfl ⟨.cells #[] 0 (0, 0), by simp [Sl.e], rfl⟩

theorem stv_eq : ∀ (vs cs : List Value) (o : Nat), o + vs.length ≤ cs.length → stv cs o vs = cs.take o ++ vs ++ cs.drop (o + vs.length)
  | [], cs, o, _ => by simp [stv]
  | v :: vs, cs, o, h => by
    simp only [List.length_cons] at h
    simp only [stv]
    rw [stv_eq vs (cs.set o v) (o + 1) (by simp; omega)]
    have h1 : o < cs.length := by omega
    rw [List.take_set, List.drop_set, if_pos (by omega), List.take_succ_eq_append_getElem h1]
    have h2 : (List.take o cs ++ [cs[o]]).set o v = List.take o cs ++ [v] := by
      rw [List.set_append_right _ _ (by simp; omega)]
      simp [Nat.min_eq_left (Nat.le_of_lt h1)]
    rw [h2]
    have h3 : o + 1 + vs.length = o + (v :: vs).length := by simp; omega
    rw [h3]
    simp
theorem stv_mid (pre cs r vs : List Value) (o : Nat) (h : o + vs.length ≤ cs.length) : stv (pre ++ cs ++ r) (pre.length + o) vs = pre ++ stv cs o vs ++ r := by
  rw [stv_eq _ _ _ (by simp; omega), stv_eq _ _ _ h]
  simp only [List.append_assoc]
  rw [List.take_length_add_append, List.take_append_of_le_length (by omega), show pre.length + o + vs.length = pre.length + (o + vs.length) by omega, List.drop_length_add_append, List.drop_append_of_le_length (by omega)]
  simp

theorem stv_zero {W J : List Value} (h : J.length ≤ W.length) : stv W 0 J = J ++ W.drop J.length := by
  rw [stv_eq _ _ _ (by omega)]
  simp
theorem stv_fill {A Z J R : List Value} (h : Z.length = J.length + R.length) : stv (stv (A ++ Z) A.length J) (A.length + J.length) R = A ++ J ++ R := by
  have h1 := stv_mid A Z [] J 0 (by omega)
  simp only [List.append_nil, Nat.add_zero] at h1
  rw [h1, stv_zero (by omega)]
  have h2 := stv_mid (A ++ J) (Z.drop J.length) [] R 0 (by simp; omega)
  simp only [List.append_nil, Nat.add_zero, List.length_append, List.append_assoc] at h2 ⊢
  rw [h2, stv_zero (by simp; omega), List.drop_eq_nil_of_le (by simp; omega), List.append_nil]
theorem stv_fill' {A W J R : List Value} (h : W.length = J.length + R.length) : stv (stv (A ++ W) (A.length + J.length) R) A.length J = A ++ J ++ R := by
  have h1 := stv_mid A W [] R J.length (by omega)
  simp only [List.append_nil] at h1
  have h0 : stv W J.length R = W.take J.length ++ R := by rw [stv_eq _ _ _ (by omega), List.drop_eq_nil_of_le (by omega), List.append_nil]
  rw [h1, h0]
  have h2 := stv_mid A (W.take J.length ++ R) [] J 0 (by simp; omega)
  simp only [List.append_nil, Nat.add_zero] at h2
  rw [h2, stv_zero (by simp; omega)]
  have h3 : (W.take J.length).length = J.length := by simp; omega
  rw [List.drop_left' h3, List.append_assoc]

section
variable {P : Program}
/-- A type's zero, its size in cells and in bytes. -/
theorem run_append_sl {w : World} {s : Option Sl} {t ty el z bytes : Nat} {i : TypeInfo} {zv : Value} {cs ys : List Value} {n m c : Nat} {A : Option Addr} (ht : P.underlying t = some (.slice el)) (hi : P.info? el = some i) (hz : i.zero = some zv)
    (hsz : i.size = z) (hzs : zv.cells.size = z) (hpos : 0 < z) (hs : (Sl.e el z cs s).ok w) (hn : cs.length = n * z) (hr : RowAt w A ys) (hm : ys.length = m * z) (h1 : ys.all (·.oneCell') = true) (hb : (n + m) * i.bytes ≤ 140737488355328) (hb2 : n + m ≤ 140737488355328) :
    ∃ s' w', (Builtin.append_ #[t, t] ty #[Sl.v n s, .slice A m c]).run P w = .ok (Sl.v (n + m) s') w' ∧ Upd w w' [Sl.e el z cs s] [Sl.e el z (cs ++ ys) s'] := by
  subst hsz
  rcases Nat.eq_zero_or_pos m with hm0 | hm0
  · subst hm0
    have hy : ys = [] := List.eq_nil_of_length_eq_zero (by simpa using hm)
    subst hy
    refine ⟨s, w, ?_, ⟨Only.refl _ _, ⟨fun e he => by simp only [List.mem_singleton] at he; subst he; simpa using hs, by cases s <;> simp [blks, Sl.e, Ent.one]⟩, fun b hb => .inl (by simpa [blks, Sl.e] using hb)⟩⟩
    have hfc : (Builtin.firstCells i.size 0 (.slice A 0 c)).run P w = .ok #[] w := by cases A <;> simp [Builtin.firstCells, loadCells, loadCellsFrom]
    have hle : n ≤ Sl.cap n s := by
      cases s with
      | none =>
        have := Sl.none_nil hs
        subst this
        have h0 : n * i.size = 0 := by simpa using hn.symm
        rcases Nat.eq_zero_or_pos n with h | h
        · subst h; exact Nat.le_refl _
        · have := Nat.mul_pos h hpos
          omega
      | some s => simp [Sl.cap]
    cases s with
    | none => 
      have hfc2 := hfc
      simp [Builtin.append_, run_underlying ht, sizeOf, typeInfo, hi, Builtin.lenOf, Sl.addr, hle] at hfc2 ⊢
      simp [hfc2, Builtin.firstCells, loadCells, loadCellsFrom]
      cases A <;> simp [loadCells, loadCellsFrom, Sl.addr]
    | some s =>
      simp [Builtin.append_, run_underlying ht, sizeOf, typeInfo, hi, Builtin.lenOf, Sl.addr, hle, hfc, storeCells]
  · have hne : ys ≠ [] := by
      intro h
      subst h
      have := Nat.mul_pos hm0 hpos
      simp at hm
      omega
    obtain ⟨b, q, rfl, hrange⟩ := hr.resolve_left hne
    have hnews : ∀ j u, ys[j]? = some u → w.cell? ((⟨b, q, none⟩ : Addr).add j) = some u := fun j u hu => by rw [Addr.add_lit]; exact hrange j u hu
    have grown : ∀ (old : Nat), old < n + m → ∃ s' : Option Sl, (Sl.v (n + m) s' = .slice (some ⟨w.heap.size, 0, none⟩) (n + m) (grownCap w (n + m) old el)) ∧
        Upd w (w.drew.alloc (.cells (cs.toArray ++ ys.toArray ++ Builtin.zeroCells zv.cells (grownCap w (n + m) old el - (n + m))) el)) [Sl.e el i.size cs s] [Sl.e el i.size (cs ++ ys) s'] := by
      intro old ho
      have hge := grownCap_ge w (n + m) old el
      refine ⟨some ⟨w.heap.size, [], grownCap w (n + m) old el - (n + m)⟩, ?_, ⟨⟨rfl, rfl, rfl, by simp, fun k hk _ => heap_alloc_old w.drew _ hk⟩, ⟨fun e he => ?_, by simp [blks, Sl.e, Ent.one]⟩, by simp [blks, Sl.e, Ent.one]⟩⟩
      · simp only [Sl.v, Sl.addr, Sl.cap, List.length_nil]
        congr 1
        omega
      · simp only [List.mem_singleton] at he
        subst he
        refine ⟨_, fun b hb => ?_, (Builtin.zeroCells zv.cells (grownCap w (n + m) old el - (n + m))).toList, ?_, rfl⟩
        · simp only [Sl.e, Option.map_some, Option.some.injEq] at hb
          subst hb
          have := heap_alloc_new w.drew (.cells (cs.toArray ++ ys.toArray ++ Builtin.zeroCells zv.cells (grownCap w (n + m) old el - (n + m))) el)
          have hsz : w.drew.heap.size = w.heap.size := rfl
          rw [hsz] at this
          rw [this]
          simp
        · simp [size_zeroCells, hzs]
    cases s with
    | none =>
      have := Sl.none_nil hs
      subst this
      have hn0 : n = 0 := by
        rcases Nat.eq_zero_or_pos n with h | h
        · exact h
        · have := Nat.mul_pos h hpos
          simp at hn
          omega
      subst hn0
      have hrun := run_append_nil (P := P) w t ty el i zv ht hi hz ⟨b, q, none⟩ m c ys hm hnews hm0 (by omega) (by simp only [Nat.zero_add] at hb; omega)
      obtain ⟨s', hv, hu⟩ := grown 0 (by omega)
      simp only [Nat.zero_add, List.nil_append, Array.empty_append] at hv hu ⊢
      exact ⟨s', _, by rw [hv]; exact hrun, hu⟩
    | some s =>
      obtain ⟨o, ho, r, hrl, rfl⟩ := hs
      have ho := ho s.b rfl
      by_cases hroom : n + m ≤ n + s.k
      · have hmk : m * i.size ≤ r.length := Nat.le_trans (Nat.mul_le_mul_right _ (by omega)) hrl
        have hcell : ∀ j, j < ys.length → (w.cell? ⟨s.b, s.pre.length + n * i.size + j, none⟩).isSome = true := fun j hj => by
          rw [cell_of_row w s.b _ _ _ _ ho]
          simp
          rw [hn]
          omega
        have hfz : ∀ j, j < ys.length → w.frozen? ⟨s.b, s.pre.length + n * i.size + j, none⟩ = false := fun j hj => frozen_of_row w s.b _ _ _ ho
        have hrun := run_append_room_cells (P := P) w t ty el i ht hi s.b s.pre.length n (n + s.k) ⟨b, q, none⟩ m c ys hm hnews (fun u hu => by simpa using (List.all_eq_true.1 h1) u hu) hroom hcell hfz
        refine ⟨some ⟨s.b, s.pre, s.k - m⟩, _, by rw [Sl.v, Sl.addr, Sl.cap]; rw [hrun]; simp only [Sl.v, Sl.addr, Sl.cap]; congr 2; omega, ⟨?_, ⟨fun e he => ?_, by simp [blks, Sl.e, Ent.one]⟩, by simp [blks, Sl.e, Ent.one]⟩⟩
        · have := only_setCells s.b ys (s.pre.length + n * i.size) w
          simpa [blks, Sl.e, Ent.one] using this
        · simp only [List.mem_singleton] at he
          subst he
          refine ⟨_, fun b' hb' => ?_, r.drop ys.length, ?_, rfl⟩
          · simp only [Sl.e, Option.map_some, Option.some.injEq] at hb'
            subst hb'
            have h3 := heap_setCells_same s.b el [] ys (s.pre ++ cs ++ r) (s.pre.length + n * i.size) w (by simp; rw [hn]; omega) (by simpa using ho)
            rw [h3]
            have h4 : stv (s.pre ++ cs ++ r) (s.pre.length + n * i.size) ys = s.pre ++ (cs ++ ys) ++ r.drop ys.length := by
              have h5 := stv_mid (s.pre ++ cs) r [] ys 0 (by omega)
              simp only [List.append_nil, List.length_append, Nat.add_zero, hn] at h5
              rw [h5, stv_eq _ _ _ (by omega)]
              simp
            rw [h4]
            simp
          · simp only [List.length_drop, hm]
            rw [Nat.sub_mul]
            omega
      · have holds : ∀ j u, cs[j]? = some u → w.cell? ((⟨s.b, s.pre.length, none⟩ : Addr).add j) = some u := fun j u hu => by
          have := (Sl.row (s := some s) (T := el) (z := i.size) ⟨_, fun b hb => by simp only [Sl.e, Option.map_some, Option.some.injEq] at hb; subst hb; exact ho, r, hrl, rfl⟩)
          rcases this with h | ⟨b', q', hA, h⟩
          · subst h; cases hu
          · simp only [Sl.addr, Option.some.injEq, Addr.mk.injEq, and_true] at hA
            obtain ⟨rfl, rfl⟩ := hA
            rw [Addr.add_lit]; exact h j u hu
        have hrun := run_append_grow (P := P) w t ty el i zv ht hi hz ⟨s.b, s.pre.length, none⟩ n (n + s.k) cs hn holds ⟨b, q, none⟩ m c ys hm hnews (by omega) (by omega) (growslice_fits (by omega) hb)
        obtain ⟨s', hv, hu⟩ := grown (n + s.k) (by omega)
        exact ⟨s', _, by rw [hv]; exact hrun, hu⟩
end
/-- What is asked of an element type: its zero, cells, bytes. -/
def elFacts (P : Program) (el z bytes : Nat) : Prop := ∃ i zv, P.info? el = some i ∧ i.zero = some zv ∧ i.size = z ∧ zv.cells.size = z ∧ i.bytes = bytes
theorem elFacts_of {P : Program} (T : Tab P) {s el z : Nat} {zs : List Value} (ht : elIn T.els s = some (none, el, z)) (hz : zeIn T.zes el = some zs) (hl : zs.length = z) : P.underlying s = some (.slice el) ∧ ∃ i zv, P.info? el = some i ∧ i.zero = some zv ∧ i.size = z ∧ zv.cells.size = z := by
  obtain ⟨hu, i, hi, hsz⟩ := elOf_slice (elIn_ok ht)
  obtain ⟨i', v, hi', hz', hv⟩ := zeroOf_spec (zeIn_ok hz)
  rw [hi] at hi'
  injection hi' with hi'
  subst hi'
  exact ⟨hu, i, v, hi, hz', hsz, by rw [hv]; simpa using hl⟩

section
variable {P : Program} {B : Base} {e : Env} {K : List Ent} {d : Option Tmp} {t : TypeId} {p : String} {af : Array Edge} {g : Option (Nat × Bool)}
/-- append to a slice of one's own. -/
theorem LS_append (T : Tab P) (j : Nat) {x y : Operand} {st el z bytes n m c : Nat} {s : Option Sl} {A : Option Addr} {cs ys zs : List Value} (hx : e.ev x = some (.slice (Sl.addr s) n (Sl.cap n s))) (hy : e.ev y = some (.slice A m c))
    (hK : K[j]? = some (Sl.e el z cs s)) (ht : elIn T.els st = some (none, el, z)) (hz : zeIn T.zes el = some zs) (hby : byIn T.bys el = some bytes) (hl : Nat.beq zs.length z = true) (hpos : Nat.blt 0 z = true)
    (hn : cs.length = n * z) (hr : ∀ w, SM B K w → RowAt w A ys) (hm : ys.length = m * z) (h1 : ys.all (·.oneCell') = true) (hb : (n + m) * bytes ≤ 140737488355328) (hb2 : n + m ≤ 140737488355328) :
    LS P B ⟨d, .call { callee := .builtin .append, args := #[x, y], argTypes := #[st, st] }, t, p, af, g⟩ e K (fun s' : Option Sl => .slice (Sl.addr s') (n + m) (Sl.cap (n + m) s')) (fun s' => K.set j (Sl.e el z (cs ++ ys) s')) := by
  intro w a hw ha next Q hn'
  have h2 := ha x (by simp [Op.operands, Call.operands]) _ hx
  have h3 := ha y (by simp [Op.operands, Call.operands]) _ hy
  obtain ⟨hu, i, zv, hi, hzv, hsz, hzs⟩ := elFacts_of T ht hz (by simpa [Nat.beq_eq] using hl)
  have hbi : i.bytes = bytes := by
    have := byIn_ok hby
    simpa [hi] using this
  obtain ⟨s', w', hrun, hupd⟩ := run_append_sl (P := P) (w := w) (ty := t) (bytes := bytes) hu hi hzv hsz hzs (by simpa [Nat.blt_eq] using hpos) (hw.mem.ok _ (List.mem_of_getElem? hK)) hn (hr w hw) hm h1 (by rw [hbi]; exact hb) hb2
  simp only [Sl.v] at hrun
  unfold Oper.wp execOp
  simp only [resolve, invoke, builtin, Sem.run_bind, Sem.run_pure, Result.andThen_ok, List.map_toArray, List.map_cons, List.map_nil, h2, h3]
  rw [hrun]
  exact hn' s' w' (hw.put hK hupd)
/-- append to nil. -/
theorem LS_appendN (T : Tab P) {x y : Operand} {st el z bytes m c : Nat} {A : Option Addr} {ys zs : List Value} (hx : e.ev x = some (.slice none 0 0)) (hy : e.ev y = some (.slice A m c))
    (ht : elIn T.els st = some (none, el, z)) (hz : zeIn T.zes el = some zs) (hby : byIn T.bys el = some bytes) (hl : Nat.beq zs.length z = true) (hpos : Nat.blt 0 z = true)
    (hr : ∀ w, SM B K w → RowAt w A ys) (hm : ys.length = m * z) (h1 : ys.all (·.oneCell') = true) (hb : m * bytes ≤ 140737488355328) (hb2 : m ≤ 140737488355328) :
    LS P B ⟨d, .call { callee := .builtin .append, args := #[x, y], argTypes := #[st, st] }, t, p, af, g⟩ e K (fun s' : Option Sl => .slice (Sl.addr s') m (Sl.cap m s')) (fun s' => K ++ [Sl.e el z ys s']) := by
  intro w a hw ha next Q hn'
  have hw' := hw.addNil el z
  have := LS_append (P := P) (B := B) (e := e) (K := K ++ [Sl.e el z [] none]) (d := d) (t := t) (p := p) (af := af) (g := g) T K.length (s := none) (n := 0) (cs := []) (x := x) (y := y) hx hy (by simp) ht hz hby hl hpos (by simp) (fun w h => hr w h.left) hm h1 (by simpa using hb) (by simpa using hb2) w a hw' ha next Q
  simp only [Nat.zero_add, List.nil_append] at this
  refine this fun s' w' h => hn' s' w' ?_
  simpa using h
/-- An element's place in a slice of one's own. -/
theorem FS_indexS (T : Tab P) (j : Nat) {st ee z n c : Nat} {x y : Operand} {s : Option Sl} {cs : List Value} {k : IntKind} {i : Int} (hx : e.ev x = some (.slice (Sl.addr s) n c)) (hy : e.ev y = some (.int k i)) (ht : elIn T.els st = some (none, ee, z))
    (hK : K[j]? = some (Sl.e ee z cs s)) (hcs : cs ≠ []) (h0 : 0 ≤ i) (h1 : i < n) : FS P B ⟨d, .indexAddr st x y, t, p, af, g⟩ e K (.pointer (some ⟨Sl.blk s, Sl.off s + i.toNat * z, none⟩)) := by
  intro w ρ hw ha
  cases s with
  | none => exact absurd (Sl.none_nil (hw.mem.ok _ (List.mem_of_getElem? hK))) hcs
  | some s => exact FS_index (K := K) T hx hy ht h0 h1 w ρ hw ha
theorem FS_loadS (T : Tab P) (j : Nat) {ty : TypeId} {x : Operand} {o bt z : Nat} {s : Option Sl} {cs : List Value} {gs : Bool × Nat} {v : Value} (hx : e.ev x = some (.pointer (some ⟨Sl.blk s, Sl.off s + o, none⟩))) (hK : K[j]? = some (Sl.e bt z cs s))
    (hcs : cs ≠ []) (hs : szIn T.szs ty = some gs) (hv : ldv gs cs o = some v) : FS P B ⟨d, .load ty x, t, p, af, g⟩ e K v := by
  intro w ρ hw ha
  have h1 := ha x (by simp [Op.operands]) _ hx
  rcases hw.sl j hK with h | ⟨b, q, hA, hr⟩
  · exact absurd h hcs
  · cases s with
    | none => cases hA
    | some s =>
      simp only [Sl.addr, Option.some.injEq, Addr.mk.injEq, and_true] at hA
      obtain ⟨rfl, rfl⟩ := hA
      have := run_ld (o := o) (szIn_ok hs) hr hv
      simp only [Sl.blk, Sl.off] at h1
      simp [execOp, h1, this]
theorem upd_storeS {w : World} {T z : Nat} {cs : List Value} {s : Option Sl} {o : Nat} {vs : List Value} (h : (Sl.e T z cs s).ok w) (hcs : cs ≠ []) (hle : o + vs.length ≤ cs.length) :
    Upd w (w.setCells (Sl.blk s) (Sl.off s + o) vs) [Sl.e T z cs s] [Sl.e T z (stv cs o vs) s] ∧ w.there (Sl.blk s) (Sl.off s + o) vs.length := by
  obtain ⟨ob, ho, hp⟩ := h
  cases s with
  | none => exact absurd hp hcs
  | some s =>
    obtain ⟨r, hr, rfl⟩ := hp
    have ho := ho s.b rfl
    refine ⟨⟨by simpa [blks, Sl.e, Sl.blk, Ent.one] using only_setCells s.b vs _ w, ⟨fun e he => ?_, by simp [blks, Sl.e, Ent.one]⟩, by simp [blks, Sl.e, Ent.one]⟩, fun j hj => ⟨?_, ?_⟩⟩
    · simp only [List.mem_singleton] at he
      subst he
      refine ⟨_, fun b hb => ?_, r, hr, rfl⟩
      simp only [Sl.e, Option.map_some, Option.some.injEq] at hb
      subst hb
      have h3 := heap_setCells_same s.b T [] vs (s.pre ++ cs ++ r) (s.pre.length + o) w (by simp; omega) (by simpa using ho)
      simp only [Sl.blk, Sl.off]
      rw [h3, stv_mid _ _ _ _ _ hle]
      simp
    · simp only [Sl.blk, Sl.off]
      rw [cell_of_row w s.b _ _ _ _ ho]
      simp
      omega
    · simp only [Sl.blk, Sl.off]
      rw [frozen_of_row w s.b _ _ _ ho]
theorem LS_storeS (T : Tab P) (j : Nat) {ty : TypeId} {x y : Operand} {o bt z : Nat} {s : Option Sl} {cs cs' vs : List Value} {val : Value} {gg : Bool} (hx : e.ev x = some (.pointer (some ⟨Sl.blk s, Sl.off s + o, none⟩))) (hy : e.ev y = some val) (hvs : val.cells.toList = vs)
    (h1 : (vs.all (·.oneCell')) = true) (hs : szIn T.szs ty = some (gg, vs.length)) (hK : K[j]? = some (Sl.e bt z cs s)) (hcs : cs ≠ []) (hle : o + vs.length ≤ cs.length) (hst : stv cs o vs = cs') :
    LS P B ⟨d, .store ty x y, t, p, af, g⟩ e K (fun _ : Unit => undef) (fun _ => K.set j (Sl.e bt z cs' s)) := by
  intro w a hw ha next Q hn
  have h2 := ha x (by simp [Op.operands]) _ hx
  have h3 := ha y (by simp [Op.operands]) _ hy
  subst hst
  obtain ⟨dd, ii, hd, hinf, hsz, _⟩ := szOf_spec (szIn_ok hs)
  obtain ⟨hupd, hth⟩ := upd_storeS (hw.mem.ok _ (List.mem_of_getElem? hK)) hcs hle
  have hval : val.cells = vs.toArray := by rw [← hvs]
  have hrun : (storeVar ty ⟨Sl.blk s, Sl.off s + o, none⟩ val).run P w = .ok () (w.setCells (Sl.blk s) (Sl.off s + o) vs) := by
    have := run_storeVar_mid (P := P) w (Sl.blk s) (Sl.off s + o) ty vs.toArray (by simpa using hth) (by simp [hinf, hsz]) (by simpa using h1)
    simp only [storeVar, Value.cells] at this
    simp only [storeVar, hval]
    exact this
  unfold Oper.wp execOp
  simp only [h2, h3, Instr.storeAt, Instr.sureAddr, Sem.run_bind, Sem.run_pure, Result.andThen_ok, hrun]
  exact hn () _ (hw.put hK hupd)
end

/-! ## Records in rows -/
section
variable {α : Type} {f : α → List Value} {z : Nat}
theorem ld_rec (hf : ∀ x, (f x).length = z) {l : List α} {i : Nat} {x : α} (hi : l[i]? = some x) : ldv (true, z) (rows f l) (i * z) = some (agg (f x)) := by
  have hlt := (List.getElem?_eq_some_iff.1 hi).1
  have hle : i * z + z ≤ (rows f l).length := by
    rw [rows_length hf, ← Nat.succ_mul]
    exact Nat.mul_le_mul_right _ hlt
  simp only [ldv, cond_true, Nat.ble_eq_true_of_le hle]
  congr 2
  apply congrArg
  apply List.ext_getElem?
  intro j
  rw [List.getElem?_take]
  by_cases hj : j < z
  · rw [if_pos hj, List.getElem?_drop, rows_at hf hi hj]
  · rw [if_neg hj, List.getElem?_eq_none (by rw [hf]; omega)]
theorem ld_fld (hf : ∀ x, (f x).length = z) {l : List α} {i o : Nat} {x : α} {v : Value} (hi : l[i]? = some x) (ho : o < z) (hv : (f x)[o]? = some v) {s : Nat} : ldv (false, s) (rows f l) (i * z + o) = some v := by
  simp only [ldv, cond_false]
  rw [rows_at hf hi ho, hv]
theorem stv_rec (hf : ∀ x, (f x).length = z) : ∀ {l : List α} {i : Nat} (y : α), i < l.length → stv (rows f l) (i * z) (f y) = rows f (l.set i y)
  | [], i, y, h => by simp at h
  | x :: r, 0, y, _ => by
    rw [stv_eq _ _ _ (by simp [rows, hf])]
    simp [rows, hf]
  | x :: r, i + 1, y, h => by
    have ih := stv_rec hf (l := r) (i := i) y (by simpa using h)
    have hle : i * z + (f y).length ≤ (rows f r).length := by
      rw [rows_length hf, hf, ← Nat.succ_mul]
      exact Nat.mul_le_mul_right _ (by simp at h; omega)
    have := stv_mid (f x) (rows f r) [] (f y) (i * z) hle
    simp only [List.append_nil, hf] at this
    simp only [rows, List.flatMap_cons, List.set_cons_succ] at this ih ⊢
    rw [← ih, ← this]
    congr 1
    rw [Nat.succ_mul, Nat.add_comm]
theorem rows_append (l m : List α) : rows f (l ++ m) = rows f l ++ rows f m := by simp [rows]
theorem rows_all {f : α → List Value} (h : ∀ x, (f x).all (·.oneCell') = true) (l : List α) : (rows f l).all (·.oneCell') = true := by
  simp only [rows, List.all_flatMap, List.all_eq_true]
  intro x _
  exact List.all_eq_true.1 (h x)
theorem Sl.shift {T : Nat} {l : List α} {x : α} (b : Nat) (pre : List Value) (k : Nat) : Sl.e T z (rows f (x :: l)) (some ⟨b, pre, k⟩) = Sl.e T z (rows f l) (some ⟨b, pre ++ f x, k⟩) := by
  simp [Sl.e, rows]
end
end Go.Proofs.Ytmhjcemcjfkejaa
