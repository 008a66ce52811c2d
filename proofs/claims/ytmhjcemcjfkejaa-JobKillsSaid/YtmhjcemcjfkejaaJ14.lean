/- The calculus, fourteenth part: slices.overlaps; closures; appends of one record. -/
import Derived.Test.YtmhjcemcjfkejaaJ13
import Derived.Lib.Overlaps
namespace Go.Proofs.Ytmhjcemcjfkejaa
open Go.RowKit
set_option linter.unusedVariables false
set_option linter.unusedSimpArgs false

section
variable {P : Program} {B : Base} {e : Env} {K : List Ent} {d : Option Tmp} {t : TypeId} {p : String} {af : Array Edge} {g : Option (Nat × Bool)}
theorem LS_overlaps (T : Tab P) {f : FuncId} {fn : Func} {st el z la ca lb cb b1 o1 b2 o2 : Nat} {x y : Operand} {ts : Array TypeId} (hf : P.funcs[f]? = some fn) (hname : (fn.name == "runtime.NumGoroutine") = false) (hb : fn.body.isNone = true) (hn : Extern.findNext fn = none)
    (he : Extern.find fn = some (Extern.SlicesOverlaps.overlaps fn.params fn.resultTypes)) {tR : TypeId} (hp : fn.params = #[st, st]) (hr : fn.resultTypes = #[tR]) (ht : elIn T.els st = some (none, el, z)) (hx : e.ev x = some (.slice (some ⟨b1, o1, none⟩) la ca)) (hy : e.ev y = some (.slice (some ⟨b2, o2, none⟩) lb cb))
    (hw : ∀ w, SM B K w → b1 ≠ b2 ∧ (∃ c1 t1, w.heap[b1]? = some (.cells c1 t1 (0, 0))) ∧ (∃ c2 t2, w.heap[b2]? = some (.cells c2 t2 (0, 0)) ∧ c2.size ≠ 0)) :
    LS P B ⟨d, .call { callee := .value (.func f), args := #[x, y], argTypes := ts }, t, p, af, g⟩ e K (fun _ : Unit => .bool false) (fun _ => K) := by
  intro w a hsm ha next Q hnx
  have h2 := ha x (by simp [Op.operands, Call.operands]) _ hx
  have h3 := ha y (by simp [Op.operands, Call.operands]) _ hy
  obtain ⟨hne, ⟨c1, t1, hc1⟩, ⟨c2, t2, hc2, hc2s⟩⟩ := hw w hsm
  obtain ⟨hu, i, hi, rfl⟩ := elOf_slice (elIn_ok ht)
  have hfz1 : ∀ o, w.frozen? ⟨b1, o, none⟩ = false := fun o => frozen_of_row w b1 o _ _ hc1
  have hfz2 : ∀ o, w.frozen? ⟨b2, o, none⟩ = false := fun o => frozen_of_row w b2 o _ _ hc2
  have hs1 : w.shape? b1 = some (t1, c1.size) := by simp [World.shape?, hc1]
  have hs2 : w.shape? b2 = some (t2, c2.size) := by simp [World.shape?, hc2]
  have hrun : (Extern.SlicesOverlaps.overlaps fn.params fn.resultTypes #[.slice (some ⟨b1, o1, none⟩) la ca, .slice (some ⟨b2, o2, none⟩) lb cb]).run P w = .ok (.bool false) w := by
    rw [hp, hr]
    exact Lib.run_overlaps_apart w st tR el hu i.size (fun w => by simp [sizeOf, typeInfo, hi]) ⟨b1, o1, none⟩ ⟨b2, o2, none⟩ la ca lb cb hne t1 t2 c1.size c2.size hs1 hs2 hc2s (hfz1 o1) (hfz1 _)
  have hcall : (callFunc f #[.slice (some ⟨b1, o1, none⟩) la ca, .slice (some ⟨b2, o2, none⟩) lb cb]).run P w = .ok (.value (.bool false)) w := by
    rw [run_callFunc_extern hf hname hb hn he, hrun]
    rfl
  unfold Oper.wp execOp
  simp only [resolve, invoke, Sem.run_bind, Sem.run_pure, Result.andThen_ok, List.map_toArray, List.map_cons, List.map_nil, h2, h3]
  have hev : a.eval (.func f) = .func (.func f) #[] #[] := rfl
  simp only [hev, Deferred.ofValue, Array.append_empty, Array.empty_append, Sem.run_pure, Result.andThen_ok, hcall]
  exact hnx () w hsm
theorem LS_funv' {f : FuncId} {c : Operand} {cap : Array Value} {first : Array Value} {xs : List Operand} {ts : Array TypeId} {vs args : List Value} {pre : World → Prop} {v : Value}
    (hc : e.ev c = some (.func (.func f) first cap)) (hx : argsL e xs = some vs) (ha : first.toList ++ vs ++ cap.toList = args)
    (hctr : Ctr P f args pre [] (fun _ : Unit => v) (fun _ => [])) (hcall : callable P f = true) (hpre : ∀ w, SM B K w → pre w) :
    LS P B ⟨d, .call { callee := .value c, args := xs.toArray, argTypes := ts }, t, p, af, g⟩ e K (fun _ : Unit => v) (fun _ => K) := LS_funv hcall hc hx ha hctr hpre

/-- append of one record to a slice of one's own. -/
theorem LS_app1 {α : Type} (f : α → List Value) (T : Tab P) (j jb : Nat) {z : Nat} (hf : ∀ x, (f x).length = z) (h1 : ∀ x, (f x).all (·.oneCell') = true) (hb : ∀ xs : List α, xs.length ≤ 4294967296 → True) {x y : Operand} {st el bytes b : Nat} {s : Option Sl} {xs : List α} {r : α} {zs : List Value}
    (hx : e.ev x = some (.slice (Sl.addr s) xs.length (Sl.cap xs.length s))) (hy : e.ev y = some (.slice (some ⟨b, 0, none⟩) 1 1))
    (hK : K[j]? = some (Sl.e el z (rows f xs) s)) (hKb : K[jb]? = some (Ent.c b el (f r))) (ht : elIn T.els st = some (none, el, z)) (hz : zeIn T.zes el = some zs) (hby : byIn T.bys el = some bytes) (hl : Nat.beq zs.length z = true) (hpos : Nat.blt 0 z = true)
    (hbm : Nat.ble bytes 4096 = true) (hn : xs.length ≤ 4294967296) :
    LS P B ⟨d, .call { callee := .builtin .append, args := #[x, y], argTypes := #[st, st] }, t, p, af, g⟩ e K (fun s' : Option Sl => .slice (Sl.addr s') (xs ++ [r]).length (Sl.cap (xs ++ [r]).length s')) (fun s' => K.set j (Sl.e el z (rows f (xs ++ [r])) s')) := by
  have hbm : bytes ≤ 4096 := by simpa [Nat.ble_eq] using hbm
  have hle : (xs.length + 1) * bytes ≤ 4294967297 * 4096 := Nat.mul_le_mul (by omega) hbm
  have := LS_append (P := P) (B := B) (e := e) (K := K) (d := d) (t := t) (p := p) (af := af) (g := g) T j hx hy hK ht hz hby hl hpos (rows_length hf xs) (fun w h => h.row jb hKb) (by rw [hf, Nat.one_mul]) (h1 r) (by omega) (by omega)
  have hlen : (xs ++ [r]).length = xs.length + 1 := by simp
  have hr : rows f (xs ++ [r]) = rows f xs ++ f r := by simp [rows]
  rw [hlen, hr]
  exact this
theorem LS_app1N {α : Type} (f : α → List Value) (T : Tab P) (jb : Nat) {z : Nat} (hf : ∀ x, (f x).length = z) (h1 : ∀ x, (f x).all (·.oneCell') = true) {x y : Operand} {st el bytes b : Nat} {r : α} {zs : List Value}
    (hx : e.ev x = some (.slice none 0 0)) (hy : e.ev y = some (.slice (some ⟨b, 0, none⟩) 1 1))
    (hKb : K[jb]? = some (Ent.c b el (f r))) (ht : elIn T.els st = some (none, el, z)) (hz : zeIn T.zes el = some zs) (hby : byIn T.bys el = some bytes) (hl : Nat.beq zs.length z = true) (hpos : Nat.blt 0 z = true)
    (hbm : Nat.ble bytes 4096 = true) :
    LS P B ⟨d, .call { callee := .builtin .append, args := #[x, y], argTypes := #[st, st] }, t, p, af, g⟩ e K (fun s' : Option Sl => .slice (Sl.addr s') [r].length (Sl.cap [r].length s')) (fun s' => K ++ [Sl.e el z (rows f [r]) s']) := by
  have hbm : bytes ≤ 4096 := by simpa [Nat.ble_eq] using hbm
  have := LS_appendN (P := P) (B := B) (e := e) (K := K) (d := d) (t := t) (p := p) (af := af) (g := g) T hx hy ht hz hby hl hpos (fun w h => h.row jb hKb) (by rw [hf, Nat.one_mul]) (h1 r) (by omega) (by omega)
  have hr : rows f [r] = f r := by simp [rows]
  rw [hr]
  exact this
/-- append of a row to a slice of one's own. -/
theorem LS_appR {α : Type} (f : α → List Value) (T : Tab P) (j : Nat) {z : Nat} (hf : ∀ x, (f x).length = z) (h1 : ∀ x, (f x).all (·.oneCell') = true) {x y : Operand} {st el bytes c : Nat} {A : Option Addr} {s : Option Sl} {xs ys : List α} {zs : List Value}
    (hx : e.ev x = some (.slice (Sl.addr s) xs.length (Sl.cap xs.length s))) (hy : e.ev y = some (.slice A ys.length c))
    (hK : K[j]? = some (Sl.e el z (rows f xs) s)) (hr : ∀ w, SM B K w → RowAt w A (rows f ys)) (ht : elIn T.els st = some (none, el, z)) (hz : zeIn T.zes el = some zs) (hby : byIn T.bys el = some bytes) (hl : Nat.beq zs.length z = true) (hpos : Nat.blt 0 z = true)
    (hbm : Nat.ble bytes 4096 = true) (hn : xs.length + ys.length ≤ 8589934592) :
    LS P B ⟨d, .call { callee := .builtin .append, args := #[x, y], argTypes := #[st, st] }, t, p, af, g⟩ e K (fun s' : Option Sl => .slice (Sl.addr s') (xs ++ ys).length (Sl.cap (xs ++ ys).length s')) (fun s' => K.set j (Sl.e el z (rows f (xs ++ ys)) s')) := by
  have hbm : bytes ≤ 4096 := by simpa [Nat.ble_eq] using hbm
  have hle : (xs.length + ys.length) * bytes ≤ 8589934592 * 4096 := Nat.mul_le_mul (by omega) hbm
  have := LS_append (P := P) (B := B) (e := e) (K := K) (d := d) (t := t) (p := p) (af := af) (g := g) T j hx hy hK ht hz hby hl hpos (rows_length hf xs) hr (rows_length hf ys) (rows_all h1 ys) (by omega) (by omega)
  rw [List.length_append, rows_append]
  exact this
theorem LS_appRN {α : Type} (f : α → List Value) (T : Tab P) {z : Nat} (hf : ∀ x, (f x).length = z) (h1 : ∀ x, (f x).all (·.oneCell') = true) {x y : Operand} {st el bytes c : Nat} {A : Option Addr} {ys : List α} {zs : List Value}
    (hx : e.ev x = some (.slice none 0 0)) (hy : e.ev y = some (.slice A ys.length c))
    (hr : ∀ w, SM B K w → RowAt w A (rows f ys)) (ht : elIn T.els st = some (none, el, z)) (hz : zeIn T.zes el = some zs) (hby : byIn T.bys el = some bytes) (hl : Nat.beq zs.length z = true) (hpos : Nat.blt 0 z = true)
    (hbm : Nat.ble bytes 4096 = true) (hn : ys.length ≤ 8589934592) :
    LS P B ⟨d, .call { callee := .builtin .append, args := #[x, y], argTypes := #[st, st] }, t, p, af, g⟩ e K (fun s' : Option Sl => .slice (Sl.addr s') ys.length (Sl.cap ys.length s')) (fun s' => K ++ [Sl.e el z (rows f ys) s']) := by
  have hbm : bytes ≤ 4096 := by simpa [Nat.ble_eq] using hbm
  have hle : ys.length * bytes ≤ 8589934592 * 4096 := Nat.mul_le_mul (by omega) hbm
  exact LS_appendN T hx hy ht hz hby hl hpos hr (rows_length hf ys) (rows_all h1 ys) (by omega) (by omega)
theorem FS_val {o : Oper} {v v' : Value} (h : FS P B o e K v) (hv : v = v') : FS P B o e K v' := hv ▸ h
end
theorem slA_some {b q c l z : Nat} (h : c ≠ l) : slA (some ⟨b, q, none⟩) c l z = some ⟨b, q + l * z, none⟩ := by
  unfold slA
  rw [if_neg h]
  simp [Addr.add_lit]
theorem Ent.c_asSl {w : World} {b t sl k z : Nat} {cs : List Value} (h : (Ent.c b t cs sl).ok w) (hk : k * z ≤ sl) : (Sl.e t z cs (some ⟨b, [], k⟩)).ok w := by
  obtain ⟨o, ho, r, hr, rfl⟩ := h
  exact ⟨_, ho, r, by rw [hr]; exact hk, rfl⟩
/-- A block that is known whole, as a slice of one's own. -/
theorem SM.asSl {B : Base} {K : List Ent} {w : World} (h : SM B K w) (j k z : Nat) {b t sl : Nat} {cs : List Value} (hK : K[j]? = some (Ent.c b t cs sl)) (hk : k * z ≤ sl) : SM B (K.set j (Sl.e t z cs (some ⟨b, [], k⟩))) w :=
  h.put hK ⟨Only.refl _ _, ⟨fun e he => by
    simp only [List.mem_singleton] at he
    subst he
    exact Ent.c_asSl (h.mem.ok _ (List.mem_of_getElem? hK)) hk, by simp [blks, Sl.e, Ent.one]⟩, by simp [blks, Sl.e, Ent.c, Ent.one]⟩
section
variable {P : Program} {Fin : Exit → Act → World → Prop} {B : Base} {n : Nat} {k : List It} {e : Env} {K : List Ent} {ops : Array Oper} {rest : List Oper}
theorem RJ_weakK {K' : List Ent} (hK : ∀ w, SM B K w → SM B K' w) (h : RJ P Fin B n ops rest e K' k) : RJ P Fin B n ops rest e K k := fun a w ha hw => h a w ha (hK w hw)
theorem JS_weakK {K' : List Ent} (hK : ∀ w, SM B K w → SM B K' w) (h : JS P Fin B n k e K') : JS P Fin B n k e K := fun a w ha hw => h a w ha (hK w hw)
end
theorem SM.apart {B : Base} {K : List Ent} {w : World} (h : SM B K w) {i j : Nat} {x y : Ent} {b c : Nat} (hi : K[i]? = some x) (hj : K[j]? = some y) (hb : x.bs = [b]) (hc : y.bs = [c]) (hij : i ≠ j) : b ≠ c := by
  intro hbc
  have h1 := h.mem.nd
  have := (h.pick (is := [i, j]) (by simp [hij])).mem.nd
  simp [Go.Proofs.Ytmhjcemcjfkejaa.pick, hi, hj, blks, hb, hc, hbc] at this
/-- The room behind a slice is cells that nobody knows. -/
theorem SM.room {B : Base} {K : List Ent} {w : World} (h : SM B K w) {j T z b k m : Nat} {pre cs : List Value} (hK : K[j]? = some (Sl.e T z cs (some ⟨b, pre, k⟩))) (hm : m ≤ k) : ∃ u : {u : List Value // u.length = m * z}, SM B (K.set j (Sl.e T z (cs ++ u.1) (some ⟨b, pre, k - m⟩))) w := by
  obtain ⟨o, ho, r, hr, rfl⟩ := h.mem.ok _ (List.mem_of_getElem? hK)
  have hle : m * z ≤ r.length := Nat.le_trans (Nat.mul_le_mul_right _ hm) hr
  refine ⟨⟨r.take (m * z), by simp [Nat.min_eq_left hle]⟩, h.put hK ⟨Only.refl _ _, ⟨fun e he => ?_, by simp [blks, Sl.e, Ent.one]⟩, by simp [blks, Sl.e, Ent.one]⟩⟩
  simp only [List.mem_singleton] at he
  subst he
  refine ⟨_, ho, r.drop (m * z), ?_, ?_⟩
  · have hr : k * z ≤ r.length := hr
    simp only [List.length_drop, Nat.sub_mul]
    omega
  · simp only [List.append_assoc, List.take_append_drop]
end Go.Proofs.Ytmhjcemcjfkejaa
