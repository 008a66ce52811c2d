/- The calculus, fourth part: memory: loads, stores, what is made; calls by contract; results. -/
import Derived.Test.YtmhjcemcjfkejaaJ3
import Derived.Deep.MidRow
namespace Go.Proofs.Ytmhjcemcjfkejaa
open Go.RowKit
set_option linter.unusedVariables false
set_option linter.unusedSimpArgs false

/-- The list with vs written over it from place o on. -/
def stv : List Value → Nat → List Value → List Value
  | cs, _, [] => cs
  | cs, o, v :: vs => stv (cs.set o v) (o + 1) vs
theorem stv_length : ∀ (vs cs : List Value) (o : Nat), (stv cs o vs).length = cs.length
  | [], _, _ => rfl
  | v :: vs, cs, o => by simp only [stv]; rw [stv_length vs]; simp
/-- A variable of a type of s cells (g: an aggregate) at place o of cells. -/
def ldv (gs : Bool × Nat) (cs : List Value) (o : Nat) : Option Value :=
  bif gs.1 then (bif Nat.ble (o + gs.2) cs.length then some (.agg ((cs.drop o).take gs.2).toArray) else none) else cs[o]?

section
variable {P : Program}
theorem szOf_spec {t : Nat} {g : Bool} {s : Nat} (h : szOf P t = some (g, s)) : ∃ d i, P.underlying t = some d ∧ P.info? t = some i ∧ i.size = s ∧ g = d.isRow := by
  unfold szOf at h
  split at h
  · rename_i d i hd hi
    simp only [Option.some.injEq, Prod.mk.injEq] at h
    exact ⟨d, i, hd, hi, h.2, by rw [← h.1]; cases d <;> rfl⟩
  · cases h
theorem zeroOf_spec {t : Nat} {z : List Value} (h : zeroOf P t = some z) : ∃ i v, P.info? t = some i ∧ i.zero = some v ∧ v.cells = z.toArray := by
  unfold zeroOf at h
  cases hi : P.info? t with
  | none => simp [hi] at h
  | some i =>
    cases hz : i.zero with
    | none => simp [hi, hz] at h
    | some v => simp [hi, hz] at h; exact ⟨i, v, rfl, hz, by rw [← h]⟩

/-- A load from cells that lie at block b from o on. -/
theorem run_ld {w : World} {b o q : Nat} {ty : TypeId} {gs : Bool × Nat} {cs : List Value} {v : Value} (hs : szOf P ty = some gs) (hr : w.rangeAt b q cs) (hv : ldv gs cs o = some v) :
    (Instr.loadAt ty (.pointer (some ⟨b, q + o, none⟩))).run P w = .ok v w := by
  obtain ⟨g, s⟩ := gs
  obtain ⟨d, i, hd, hi, rfl, rfl⟩ := szOf_spec hs
  unfold ldv at hv
  cases hrow : d.isRow with
  | true =>
    simp only [hrow, cond_true] at hv
    cases hle : Nat.ble (o + i.size) cs.length with
    | false => simp [hle] at hv
    | true =>
      simp only [hle, cond_true, Option.some.injEq] at hv
      subst hv
      have hle : o + i.size ≤ cs.length := by simpa [Nat.ble_eq] using hle
      refine run_loadAt_mid w b (q + o) ty ((cs.drop o).take i.size) d (fun j u hu => ?_) hd hrow ?_
      · rw [List.getElem?_take] at hu
        split at hu
        · rw [List.getElem?_drop] at hu
          have := hr (o + j) u hu
          rwa [← Nat.add_assoc] at this
        · cases hu
      · simp [hi]; omega
  | false =>
    simp only [hrow, cond_false] at hv
    have hagg : (isAgg ty).run P w = .ok false w := by
      unfold isAgg
      rw [Sem.run_bind, run_underlying hd w]
      cases d <;> simp_all
    have hc := hr o v hv
    simp [Instr.loadAt, Instr.sureAddr, loadVar, hagg, load, Sem.run, hc]

theorem Ent.c_range {w : World} {b t : Nat} {cs : List Value} {sl : Nat} (h : (Ent.c b t cs sl).ok w) : w.rangeAt b 0 cs := by
  obtain ⟨ob, ho, r, hr, rfl⟩ := h
  have ho := ho b rfl
  intro j v hv
  rw [cell_of_row w b (0 + j) _ _ _ ho]
  simp only [Nat.zero_add]
  obtain ⟨hlt, _⟩ := List.getElem?_eq_some_iff.1 hv
  simp [List.getElem?_append_left hlt, hv]
theorem Ent.c_there {w : World} {b t : Nat} {cs : List Value} {sl : Nat} (h : (Ent.c b t cs sl).ok w) {o m : Nat} (hm : o + m ≤ cs.length) : w.there b o m := by
  obtain ⟨ob, ho, r, hr, rfl⟩ := h
  have ho := ho b rfl
  intro j hj
  refine ⟨?_, ?_⟩
  · rw [cell_of_row w b (o + j) _ _ _ ho]
    simp [List.getElem?_append_left (show o + j < cs.length by omega), show o + j < cs.length by omega]
  · rw [frozen_of_row w b (o + j) _ _ ho]

theorem heap_setCells_same (b t : Nat) (r : List Value) : ∀ (vs cs : List Value) (o : Nat) (w : World), o + vs.length ≤ cs.length → w.heap[b]? = some (.cells (cs ++ r).toArray t (0, 0)) →
    (w.setCells b o vs).heap[b]? = some (.cells (stv cs o vs ++ r).toArray t (0, 0))
  | [], cs, o, w, _, h => h
  | v :: vs, cs, o, w, hle, h => by
    simp only [World.setCells, stv]
    simp only [List.length_cons] at hle
    refine heap_setCells_same b t r vs (cs.set o v) (o + 1) _ (by simp; omega) ?_
    rw [heap_setCell_same w b o _ _ v h]
    simp [List.set_append_left _ _ (show o < cs.length by omega)]
theorem heap_setCells_other (b k : Nat) (hk : k ≠ b) : ∀ (vs : List Value) (o : Nat) (w : World), (w.setCells b o vs).heap[k]? = w.heap[k]?
  | [], o, w => rfl
  | v :: vs, o, w => by
    simp only [World.setCells]
    rw [heap_setCells_other b k hk vs]
    exact heap_setCell_other w _ k v hk
theorem only_setCells (b : Nat) : ∀ (vs : List Value) (o : Nat) (w : World), Only [b] w (w.setCells b o vs)
  | [], o, w => Only.refl _ _
  | v :: vs, o, w => by
    simp only [World.setCells]
    exact Only.trans (S := [b]) (b := w.setCell ⟨b, o, none⟩ v) ⟨rfl, rfl, rfl, by simp, fun k hk hS => heap_setCell_other w ⟨b, o, none⟩ k v (by simpa using hS)⟩ (only_setCells b vs (o + 1) _) (by simp)

theorem upd_store {w : World} {b t : Nat} {cs : List Value} {sl o : Nat} {vs : List Value} (h : (Ent.c b t cs sl).ok w) (hle : o + vs.length ≤ cs.length) :
    Upd w (w.setCells b o vs) [Ent.c b t cs sl] [Ent.c b t (stv cs o vs) sl] := by
  obtain ⟨ob, ho, r, hr, rfl⟩ := h
  have ho := ho b rfl
  exact ⟨only_setCells b vs o w, ⟨fun e he => by
    simp only [List.mem_singleton] at he
    subst he
    exact ⟨_, fun b' hb' => by injection hb' with hb'; subst hb'; exact heap_setCells_same b t r vs cs o w hle ho, r, hr, rfl⟩, by simp [blks, Ent.c, Ent.one]⟩, by simp [Ent.c, blks, Ent.one]⟩
theorem upd_new (w : World) (t : Nat) (cs : List Value) : Upd w (w.alloc (.cells cs.toArray t)) [] [Ent.c w.heap.size t cs] :=
  ⟨⟨rfl, rfl, rfl, by simp, fun k hk _ => Below.heap_alloc w _ k hk⟩, ⟨fun e he => by
    simp only [List.mem_singleton] at he
    subst he
    exact ⟨_, fun b' hb' => by injection hb' with hb'; subst hb'; exact heap_alloc_new w _, [], rfl, by simp⟩, by simp [blks, Ent.c, Ent.one]⟩, by simp [Ent.c, blks, Ent.one]⟩
theorem SM.new {B : Base} {K : List Ent} {w : World} (h : SM B K w) (t : Nat) (cs : List Value) : SM B (K ++ [Ent.c w.heap.size t cs]) (w.alloc (.cells cs.toArray t)) :=
  (SM.upd (K0 := []) h (upd_new w t cs)).perm List.perm_append_comm
theorem perm_set {K : List Ent} : ∀ {i : Nat} {x y : Ent}, K[i]? = some x → ∃ R, K.Perm (x :: R) ∧ (K.set i y).Perm (y :: R) := by
  induction K with
  | nil => intro i x y h; cases h
  | cons z zs ih =>
    intro i x y h
    cases i with
    | zero => simp at h; subst h; exact ⟨zs, .refl _, by simp⟩
    | succ i =>
      obtain ⟨R, h1, h2⟩ := ih (y := y) (show zs[i]? = some x by simpa using h)
      exact ⟨z :: R, (h1.cons z).trans (.swap x z R), by simpa using (h2.cons z).trans (.swap y z R)⟩
theorem SM.put {B : Base} {K : List Ent} {w w' : World} (h : SM B K w) {i : Nat} {x y : Ent} (hi : K[i]? = some x) (u : Upd w w' [x] [y]) : SM B (K.set i y) w' := by
  obtain ⟨R, h1, h2⟩ := perm_set (y := y) hi
  exact (SM.upd (K0 := [x]) (h.perm h1) u).perm h2.symm
end

section
variable {P : Program} {B : Base} {e : Env} {K : List Ent} {d : Option Tmp} {t : TypeId} {p : String} {af : Array Edge} {g : Option (Nat × Bool)}

/-- A load from a known block. -/
theorem FS_load (T : Tab P) {ty : TypeId} {x : Operand} {b o bt sl : Nat} {cs : List Value} {gs : Bool × Nat} {v : Value} (hx : e.ev x = some (.pointer (some ⟨b, o, none⟩))) (hs : szIn T.szs ty = some gs)
    (hm : Ent.c b bt cs sl ∈ K) (hv : ldv gs cs o = some v) : FS P B ⟨d, .load ty x, t, p, af, g⟩ e K v := by
  intro w ρ hw ha
  have h1 := ha x (by simp [Op.operands]) _ hx
  have := run_ld (o := o) (szIn_ok hs) (Ent.c_range (hw.mem.ok _ hm)) hv
  rw [Nat.zero_add] at this
  simp [execOp, h1, this]
/-- A load from memory that was there when the function began, and that it does not write. -/
theorem FS_loadB (T : Tab P) {ty : TypeId} {x : Operand} {b q o : Nat} {cs : List Value} {gs : Bool × Nat} {v : Value} (hx : e.ev x = some (.pointer (some ⟨b, q + o, none⟩))) (hs : szIn T.szs ty = some gs)
    (hb : b ∉ B.own) (hr : B.w.rangeAt b q cs) (hv : ldv gs cs o = some v) : FS P B ⟨d, .load ty x, t, p, af, g⟩ e K v := by
  intro w ρ hw ha
  have h1 := ha x (by simp [Op.operands]) _ hx
  have hr' : w.rangeAt b q cs := fun j u hu => by
    have hc := hr j u hu
    have hlt := block_lt_of_cell hc
    rw [World.cell?_of_block (w := B.w) (hw.only.block b hlt hb)]
    exact hc
  have := run_ld (o := o) (szIn_ok hs) hr' hv
  simp [execOp, h1, this]
theorem FS_loadB1 (T : Tab P) {ty : TypeId} {x : Operand} {b o s : Nat} {v : Value} (hx : e.ev x = some (.pointer (some ⟨b, o, none⟩))) (hs : szIn T.szs ty = some (false, s))
    (hb : b ∉ B.own) (hc : B.w.cell? ⟨b, o, none⟩ = some v) : FS P B ⟨d, .load ty x, t, p, af, g⟩ e K v :=
  FS_loadB T (q := o) (o := 0) (cs := [v]) hx hs hb (fun j u hu => by cases j with | zero => simp at hu; subst hu; exact hc | succ j => simp at hu) rfl

/-- A store into a known block. -/
theorem LS_store (T : Tab P) {ty : TypeId} {x y : Operand} {b o bt sl i : Nat} {cs cs' vs : List Value} {val : Value} {gg : Bool} (hx : e.ev x = some (.pointer (some ⟨b, o, none⟩))) (hy : e.ev y = some val) (hvs : val.cells.toList = vs)
    (h1 : (vs.all (·.oneCell')) = true) (hs : szIn T.szs ty = some (gg, vs.length)) (hi : K[i]? = some (Ent.c b bt cs sl)) (hle : Nat.ble (o + vs.length) cs.length = true) (hcs : stv cs o vs = cs') :
    LS P B ⟨d, .store ty x y, t, p, af, g⟩ e K (fun _ : Unit => undef) (fun _ => K.set i (Ent.c b bt cs' sl)) := by
  intro w a hw ha next Q hn
  have h2 := ha x (by simp [Op.operands]) _ hx
  have h3 := ha y (by simp [Op.operands]) _ hy
  subst hcs
  have hle : o + vs.length ≤ cs.length := by simpa [Nat.ble_eq] using hle
  obtain ⟨dd, ii, hd, hinf, hsz, _⟩ := szOf_spec (szIn_ok hs)
  have hok := hw.mem.ok _ (List.mem_of_getElem? hi)
  have hth := Ent.c_there hok hle
  have hval : val.cells = vs.toArray := by rw [← hvs]
  have hrun : (storeVar ty ⟨b, o, none⟩ val).run P w = .ok () (w.setCells b o vs) := by
    have := run_storeVar_mid (P := P) w b o ty vs.toArray (by simpa using hth) (by simp [hinf, hsz]) (by simpa using h1)
    simp only [storeVar, Value.cells] at this
    simp only [storeVar, hval]
    exact this
  unfold Oper.wp execOp
  simp only [h2, h3, Instr.storeAt, Instr.sureAddr, Sem.run_bind, Sem.run_pure, Result.andThen_ok, hrun]
  exact hn () _ (hw.put hi (upd_store hok hle))

theorem LS_alloc (T : Tab P) {el : TypeId} {z : List Value} (hz : zeIn T.zes el = some z) : LS P B ⟨d, .alloc el, t, p, af, g⟩ e K (fun b : Nat => .pointer (some ⟨b, 0, none⟩)) (fun b => K ++ [Ent.c b el z]) := by
  intro w a hw ha next Q hn
  obtain ⟨i, v, hi, hz, hv⟩ := zeroOf_spec (zeIn_ok hz)
  unfold Oper.wp execOp
  have hrun : (Instr.alloc el true (.tuple #[])).run P w = .ok (.pointer (some ⟨w.heap.size, 0, none⟩)) (w.alloc (.cells z.toArray el)) := by
    simp [Instr.alloc, zeroValue, typeInfo, hi, hz, newVar, newRow, newObj, hv, Sem.run]
  simp only [Sem.run_bind, Sem.run_pure, hrun, Result.andThen_ok]
  exact hn _ _ (hw.new el z)
theorem LS_box {el : TypeId} {x : Operand} {v : Value} {cs : List Value} (hx : e.ev x = some v) (hc : v.cells.toList = cs) : LS P B ⟨d, .box el x, t, p, af, g⟩ e K (fun b : Nat => .pointer (some ⟨b, 0, none⟩)) (fun b => K ++ [Ent.c b el cs]) := by
  intro w a hw ha next Q hn
  have h1 := ha x (by simp [Op.operands]) _ hx
  have hv : v.cells = cs.toArray := by rw [← hc]
  unfold Oper.wp execOp
  have hrun : (Instr.box el v).run P w = .ok (.pointer (some ⟨w.heap.size, 0, none⟩)) (w.alloc (.cells cs.toArray el)) := by
    simp [Instr.box, newVar, newRow, newObj, hv, Sem.run]
  simp only [h1, Sem.run_bind, Sem.run_pure, hrun, Result.andThen_ok]
  exact hn _ _ (hw.new el cs)

/-- Parts laid into cells. -/
def fillL (place : Nat → Option (Nat × Nat)) : List Value → List (Nat × Value) → Option (List Value)
  | cs, [] => some cs
  | cs, (i, v) :: r =>
    match place i with
    | none => none
    | some (off, size) => bif Nat.beq v.cells.toList.length size && Nat.ble (off + size) cs.length then fillL place (stv cs off v.cells.toList) r else none
theorem fold_stv (off : Nat) : ∀ (vs : List Value) (s : Nat) (cs : List Value), (vs.zipIdx s).foldl (fun (x : Array Value) (q : Value × Nat) => x.setIfInBounds (off + q.2) q.1) cs.toArray = (stv cs (off + s) vs).toArray
  | [], s, cs => rfl
  | v :: vs, s, cs => by
    simp only [List.zipIdx_cons, List.foldl_cons, stv]
    rw [List.setIfInBounds_toArray, fold_stv off vs (s + 1) (cs.set (off + s) v)]
    rfl
theorem fill_of {place : Nat → Option (Nat × Nat)} : ∀ {ps : List (Nat × Value)} {cs cs' : List Value}, fillL place cs ps = some cs' → Instr.fill place cs.toArray ps = some cs'.toArray
  | [], cs, cs', h => by simp [fillL] at h; subst h; rfl
  | (i, v) :: r, cs, cs', h => by
    unfold fillL at h
    unfold Instr.fill
    split at h
    · cases h
    · rename_i off size hp
      rw [hp]
      cases hb : (Nat.beq v.cells.toList.length size && Nat.ble (off + size) cs.length) with
      | false => rw [hb] at h; cases h
      | true =>
        rw [hb] at h
        simp only [cond_true] at h
        simp only [Bool.and_eq_true, Nat.beq_eq, Nat.ble_eq, Array.length_toList] at hb
        have hfold : v.cells.zipIdx.foldl (fun cs (x : Value × Nat) => cs.setIfInBounds (off + x.2) x.1) cs.toArray = (stv cs off v.cells.toList).toArray := by
          rw [← Array.foldl_toList, Array.toList_zipIdx]
          exact fold_stv off v.cells.toList 0 cs
        have := fill_of h
        rw [← hfold] at this
        have hcond : (decide (v.cells.size ≠ size) || decide (off + v.cells.size > cs.toArray.size)) = false := by simp; omega
        simp only [hcond, Bool.false_eq_true, if_false]
        exact this

def partsL (e : Env) (ps : List (Nat × Operand)) : Option (List (Nat × Value)) := ps.mapM fun q => (e.ev q.2).map fun v => (q.1, v)
theorem partsL_map {e : Env} {ρ : Operand → Value} : ∀ {ps : List (Nat × Operand)} {vs : List (Nat × Value)}, partsL e ps = some vs → (∀ q ∈ ps, ∀ u, e.ev q.2 = some u → ρ q.2 = u) → ps.map (fun q => (q.1, ρ q.2)) = vs
  | [], vs, h, _ => by simp [partsL] at h; subst h; rfl
  | q :: r, vs, h, hρ => by
    simp only [partsL, List.mapM_cons] at h
    cases hq : e.ev q.2 with
    | none => simp [hq] at h
    | some u =>
      cases hr : partsL e r with
      | none => unfold partsL at hr; simp [hq, hr] at h
      | some us =>
        have ih := partsL_map hr (fun q' hq' => hρ q' (List.mem_cons_of_mem _ hq'))
        unfold partsL at hr
        simp [hq, hr] at h
        subst h
        simp [hρ q (List.mem_cons_self ..) u hq, ih]
/-- A struct out of its parts. -/
theorem FS_build (T : Tab P) {s : TypeId} {ps : List (Nat × Operand)} {vs : List (Nat × Value)} {z cs : List Value} {pl : List (Nat × Nat)} (hz : zeIn T.zes s = some z) (hl : flIn T.fls s = some pl) (hp : partsL e ps = some vs)
    (hc : fillL (pl[·]?) z vs = some cs) : FS P B ⟨d, .build s ps.toArray, t, p, af, g⟩ e K (.agg cs.toArray) := by
  intro w ρ hw ha
  obtain ⟨i, v, hi, hz, hv⟩ := zeroOf_spec (zeIn_ok hz)
  have hmap := partsL_map (ρ := ρ) hp (fun q hq u hu => ha q.2 (by simp [Op.operands]; exact ⟨q.1, hq⟩) u hu)
  have hf := flIn_ok hl
  unfold fldsOf at hf
  split at hf
  · rename_i fs hu
    have hmapM : ∀ (l : List Field) (pl : List (Nat × Nat)), (l.mapM fun fd => (P.info? fd.type).map fun i => (fd.offset, i.size)) = some pl →
        (l.mapM fun f => do pure (f.offset, ← sizeOf f.type) : Sem (List (Nat × Nat))).run P w = .ok pl w := by
      intro l
      induction l with
      | nil => intro pl h; simp at h; subst h; simp
      | cons x xs ih =>
        intro pl h
        simp only [List.mapM_cons] at h ⊢
        cases hx : P.info? x.type with
        | none => simp [hx] at h
        | some j =>
          cases hr : xs.mapM fun fd => (P.info? fd.type).map fun i => (fd.offset, i.size) with
          | none => simp [hx, hr] at h
          | some us =>
            simp [hx, hr] at h
            subst h
            have := ih us hr
            simp [sizeOf, typeInfo, hx] at this ⊢
            simp [this]
    have hM := hmapM fs.toList pl hf
    have hM' : (fs.mapM fun f => do pure (f.offset, ← sizeOf f.type) : Sem (Array (Nat × Nat))).run P w = .ok pl.toArray w := by
      rw [Array.mapM_eq_mapM_toList]
      simp only [bind_pure_comp] at hM ⊢
      simp [hM]
    have hfill := fill_of hc
    have hfill' : Instr.fill (fun x => pl[x]?) z.toArray (ps.map fun q => (q.1, ρ q.2)) = some cs.toArray := by
      rw [hmap]
      exact hfill
    have hzero : (zeroValue s).run P w = .ok v w := by simp [zeroValue, typeInfo, hi, hz]
    unfold execOp
    simp only [Instr.build, Sem.run_bind, hzero, Result.andThen_ok, run_underlying hu w, hM', hv]
    simp [hfill']
  · cases hf
end
end Go.Proofs.Ytmhjcemcjfkejaa
