/- Rows: lists of records, laid out cell by cell. -/
import Derived.Test.YtmhjcemcjfkejaaJ11
namespace Go.Proofs.Ytmhjcemcjfkejaa
open Go.RowKit
set_option linter.unusedVariables false
set_option linter.unusedSimpArgs false

abbrev vi (x : Int) : Value := .int .i64 x
abbrev vp (b o : Nat) : Value := .pointer (some ⟨b, o, none⟩)
abbrev agg (l : List Value) : Value := .agg l.toArray
theorem own0 {b : Nat} : b ∉ blks [] := List.not_mem_nil

/-- What is known of memory: cells that lie behind an address; none: whatever address. -/
def RowAt (w : World) (A : Option Addr) (cs : List Value) : Prop := cs = [] ∨ ∃ b q, A = some ⟨b, q, none⟩ ∧ w.rangeAt b q cs
abbrev rows {α : Type} (f : α → List Value) (l : List α) : List Value := l.flatMap f
section
variable {α : Type} {f : α → List Value} {z : Nat}
theorem rows_length (hf : ∀ x, (f x).length = z) : ∀ l : List α, (rows f l).length = l.length * z
  | [] => by simp [rows]
  | x :: r => by
    have := rows_length hf r
    simp only [rows] at this
    simp only [rows, List.flatMap_cons, List.length_append, hf, this, List.length_cons]
    rw [Nat.add_mul, Nat.one_mul, Nat.add_comm]
theorem rows_ne (hf : ∀ x, (f x).length = z) (hz : 0 < z) {l : List α} {i : Nat} (hi : i < l.length) : rows f l ≠ [] := by
  intro h
  have := rows_length hf l
  rw [h] at this
  have h2 : 0 < l.length * z := Nat.mul_pos (by omega) hz
  simp at this
  omega
theorem rows_at (hf : ∀ x, (f x).length = z) : ∀ {l : List α} {i : Nat} {x : α} {o : Nat}, l[i]? = some x → o < z → (rows f l)[i * z + o]? = (f x)[o]?
  | [], i, x, o, h, _ => by cases h
  | y :: r, 0, x, o, h, ho => by
    simp at h
    subst h
    simp only [rows, List.flatMap_cons, Nat.zero_mul, Nat.zero_add]
    rw [List.getElem?_append_left (by rw [hf]; exact ho)]
  | y :: r, i + 1, x, o, h, ho => by
    have ih := rows_at hf (l := r) (i := i) (x := x) (o := o) (by simpa using h) ho
    simp only [rows, List.flatMap_cons] at ih ⊢
    rw [List.getElem?_append_right (by rw [hf, Nat.add_mul, Nat.one_mul]; omega), hf]
    rw [← ih]
    congr 1
    rw [Nat.add_mul, Nat.one_mul]
    omega
theorem rangeAt_part {w : World} {b q i : Nat} {l : List α} {x : α} (hf : ∀ x, (f x).length = z) (h : w.rangeAt b q (rows f l)) (hi : l[i]? = some x) : w.rangeAt b (q + i * z) (f x) := by
  intro j v hv
  have hj : j < z := by
    have := (List.getElem?_eq_some_iff.1 hv).1
    rw [hf] at this
    exact this
  have := h (i * z + j) v (by rw [rows_at hf hi hj]; exact hv)
  rwa [← Nat.add_assoc] at this
theorem RowAt.part {w : World} {A : Option Addr} {l : List α} (hf : ∀ x, (f x).length = z) (hz : 0 < z) (h : RowAt w A (rows f l)) {i : Nat} (hi : i < l.length) :
    ∃ b q, A = some ⟨b, q, none⟩ ∧ w.rangeAt b (q + i * z) (f l[i]) := by
  rcases h with h | ⟨b, q, hA, h⟩
  · exact absurd h (rows_ne hf hz hi)
  · exact ⟨b, q, hA, rangeAt_part hf h (by simp [hi])⟩
theorem getD_lt {l : List α} {i : Nat} {d : α} (h : i < l.length) : l.getD i d = l[i] := by simp [List.getD_eq_getElem?_getD, h]
def blkA : Option Addr → Nat
  | some a => a.block
  | none => 0
def offA : Option Addr → Nat
  | some a => a.off
  | none => 0
theorem RowAt.partT {w : World} {A : Option Addr} {l : List α} (hf : ∀ x, (f x).length = z) (hz : 0 < z) (h : RowAt w A (rows f l)) {i : Nat} (hi : i < l.length) :
    (∃ b q, A = some ⟨b, q, none⟩) ∧ w.rangeAt (blkA A) (offA A + i * z) (f l[i]) := by
  obtain ⟨b, q, rfl, h2⟩ := h.part hf hz hi
  exact ⟨⟨b, q, rfl⟩, h2⟩
theorem RowAt.take {w : World} {A : Option Addr} {l : List Value} (h : RowAt w A l) (n : Nat) : RowAt w A (l.take n) := by
  rcases h with rfl | ⟨b, q, hA, h⟩
  · left; simp
  · exact .inr ⟨b, q, hA, fun j v hv => h j v (by rw [List.getElem?_take] at hv; split at hv; exact hv; cases hv)⟩
end
theorem rows_drop {α : Type} {f : α → List Value} {z : Nat} (hf : ∀ x, (f x).length = z) : ∀ (l : List α) (i : Nat), (rows f l).drop (i * z) = rows f (l.drop i)
  | [], i => by simp [rows]
  | x :: r, 0 => by simp [rows]
  | x :: r, i + 1 => by
    have ih := rows_drop hf r i
    simp only [rows] at ih ⊢
    rw [List.drop_succ_cons, List.flatMap_cons, Nat.add_mul, Nat.one_mul, Nat.add_comm, ← ih]
    have := List.drop_length_add_append (l₁ := f x) (l₂ := r.flatMap f) (i * z)
    rwa [hf] at this
theorem rows_take {α : Type} {f : α → List Value} {z : Nat} (hf : ∀ x, (f x).length = z) : ∀ (l : List α) (i : Nat), (rows f l).take (i * z) = rows f (l.take i)
  | [], i => by simp [rows]
  | x :: r, 0 => by simp [rows]
  | x :: r, i + 1 => by
    have ih := rows_take hf r i
    simp only [rows] at ih ⊢
    rw [List.take_succ_cons, List.flatMap_cons, List.flatMap_cons, Nat.add_mul, Nat.one_mul, Nat.add_comm, List.take_append, hf, List.take_of_length_le (by rw [hf]; omega), ← ih]
    congr 2
    omega
section
variable {P : Program} {B : Base} {e : Env} {K : List Ent} {d : Option Tmp} {t : TypeId} {p : String} {af : Array Edge} {g : Option (Nat × Bool)}
theorem FS_loadB0 (T : Tab P) {ty : TypeId} {x : Operand} {b q : Nat} {cs : List Value} {gs : Bool × Nat} {v : Value} (hx : e.ev x = some (.pointer (some ⟨b, q, none⟩))) (hs : szIn T.szs ty = some gs)
    (hb : b ∉ B.own) (hr : B.w.rangeAt b q cs) (hv : ldv gs cs 0 = some v) : FS P B ⟨d, .load ty x, t, p, af, g⟩ e K v := FS_loadB (q := q) (o := 0) T (by rw [hx, Nat.add_zero]) hs hb hr hv
theorem FS_indexT (T : Tab P) {s ee z : Nat} {x y : Operand} {A : Option Addr} {len cap : Nat} {k : IntKind} {i : Int} (hx : e.ev x = some (.slice A len cap)) (hy : e.ev y = some (.int k i)) (ht : elIn T.els s = some (none, ee, z))
    (hA : ∃ b q, A = some ⟨b, q, none⟩) (h0 : 0 ≤ i) (h1 : i < len) : FS P B ⟨d, .indexAddr s x y, t, p, af, g⟩ e K (.pointer (some ⟨blkA A, offA A + i.toNat * z, none⟩)) := by
  obtain ⟨b, q, rfl⟩ := hA
  exact FS_index T hx hy ht h0 h1
end
/-- What an entry bears out of a row that lies in it. -/
theorem SM.row {B : Base} {K : List Ent} {w : World} (h : SM B K w) (i : Nat) {b t sl : Nat} {cs : List Value} (hi : K[i]? = some (Ent.c b t cs sl)) : RowAt w (some ⟨b, 0, none⟩) cs := .inr ⟨b, 0, rfl, Ent.c_range (h.mem.ok _ (List.mem_of_getElem? hi))⟩
theorem SM.range {B : Base} {K : List Ent} {w : World} (h : SM B K w) (i : Nat) {b t sl : Nat} {cs : List Value} (hi : K[i]? = some (Ent.c b t cs sl)) : w.rangeAt b 0 cs := Ent.c_range (h.mem.ok _ (List.mem_of_getElem? hi))
theorem SM.rangeB {B : Base} {K : List Ent} {w : World} (h : SM B K w) {b q : Nat} {cs : List Value} (hb : b ∉ B.own) (hr : B.w.rangeAt b q cs) : w.rangeAt b q cs := fun j u hu => by
  have hc := hr j u hu
  rw [World.cell?_of_block (w := B.w) (h.only.block b (block_lt_of_cell hc) hb)]
  exact hc
theorem SM.rowB {B : Base} {K : List Ent} {w : World} (h : SM B K w) (hb : B.own = []) {A : Option Addr} {cs : List Value} (hr : RowAt B.w A cs) : RowAt w A cs := by
  rcases hr with hr | ⟨b, q, hA, hr⟩
  · exact .inl hr
  · exact .inr ⟨b, q, hA, h.rangeB (by simp [hb]) hr⟩
theorem rangeAt_mid {w : World} {b q : Nat} {pre cs : List Value} (h : w.rangeAt b q (pre ++ cs)) : w.rangeAt b (q + pre.length) cs := fun j u hu => by
  have := h (pre.length + j) u (by rw [List.getElem?_append_right (by omega)]; simpa using hu)
  rwa [← Nat.add_assoc] at this
theorem rangeAt_pre {w : World} {b q : Nat} {pre cs : List Value} (h : w.rangeAt b q (pre ++ cs)) : w.rangeAt b q pre := fun j u hu => h j u (by
  rw [List.getElem?_append_left (List.getElem?_eq_some_iff.1 hu).1]; exact hu)
end Go.Proofs.Ytmhjcemcjfkejaa
