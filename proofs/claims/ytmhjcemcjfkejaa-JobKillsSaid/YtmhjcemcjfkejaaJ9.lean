/- The calculus, ninth part: guarded values without splitting; pure calls; what is live. -/
import Derived.Test.YtmhjcemcjfkejaaJ8
namespace Go.Proofs.Ytmhjcemcjfkejaa
open Go.RowKit
set_option linter.unusedVariables false
set_option linter.unusedSimpArgs false

/-- A slot whose operation is passed over unless g. -/
def gv (g : Bool) (v : Value) : Value := bif g then v else undef
theorem gx {g : Bool} {e : Env} {x : Operand} {v : Value} (hg : g = true) (h : e.ev x = some (gv g v)) : e.ev x = some v := by subst hg; exact h
theorem gx2 {g b : Bool} {e : Env} {x : Operand} {v : Value} (hg : g = true) (h : e.ev x = some (gv (g && b) v)) : e.ev x = some (gv b v) := by subst hg; exact h
/-- Does a guard that looks at u want it? -/
def GV (u : Value) (want g : Bool) : Prop := (boolOf u == some want) = g
theorem gvT {b : Bool} : GV (.bool b) true b := by cases b <;> rfl
theorem gvF {b : Bool} : GV (.bool b) false (!b) := by cases b <;> rfl
theorem gv2T {g b : Bool} : GV (gv g (.bool b)) true (g && b) := by cases b <;> cases g <;> rfl
theorem gv2F {g b : Bool} : GV (gv g (.bool b)) false (g && !b) := by cases b <;> cases g <;> rfl

section
variable {P : Program} {B : Base} {e : Env} {K : List Ent} {d : Option Tmp} {t : TypeId} {p : String} {af : Array Edge} {g : Option (Nat × Bool)}
theorem FS_and {c x : Operand} {b v : Bool} (hc : e.ev c = some (.bool b)) (hx : e.ev x = some (gv b (.bool v))) : FS P B ⟨d, .pick c x (.const (.bool false)), t, p, af, g⟩ e K (.bool (b && v)) := by
  cases b with
  | true => exact FS_pick hc (by simpa [gv] using hx)
  | false => exact FS_pick hc rfl
theorem FS_or {c x : Operand} {b v : Bool} (hc : e.ev c = some (.bool b)) (hx : e.ev x = some (gv (!b) (.bool v))) : FS P B ⟨d, .pick c (.const (.bool true)) x, t, p, af, g⟩ e K (.bool (b || v)) := by
  cases b with
  | false => exact FS_pick hc (by simpa [gv] using hx)
  | true => exact FS_pick hc rfl
/-- A load from the i-th known block. -/
theorem FS_loadK (T : Tab P) (i : Nat) {ty : TypeId} {x : Operand} {b o bt sl : Nat} {cs : List Value} {gs : Bool × Nat} {v : Value} (hx : e.ev x = some (.pointer (some ⟨b, o, none⟩))) (hi : K[i]? = some (Ent.c b bt cs sl))
    (hs : szIn T.szs ty = some gs) (hv : ldv gs cs o = some v) : FS P B ⟨d, .load ty x, t, p, af, g⟩ e K v := FS_load T hx hs (List.mem_of_getElem? hi) hv
/-- A call that touches nothing. -/
theorem LS_fun {f : FuncId} {xs : List Operand} {ts : Array TypeId} {args : List Value} {pre : World → Prop} {v : Value} (hcall : callable P f = true) (hctr : Ctr P f args pre [] (fun _ : Unit => v) (fun _ => [])) (hx : argsL e xs = some args)
    (hpre : ∀ w, SM B K w → pre w) : LS P B ⟨d, .call { callee := .value (.func f), args := xs.toArray, argTypes := ts }, t, p, af, g⟩ e K (fun _ : Unit => v) (fun _ => K) := by
  have := LS_pure (ts := ts) (d := d) (t := t) (p := p) (af := af) (g := g) hcall hx hctr hpre
  simpa using this
theorem LS_funv {f : FuncId} {c : Operand} {cap : Array Value} {first : Array Value} {xs : List Operand} {ts : Array TypeId} {vs args : List Value} {pre : World → Prop} {v : Value}
    (hcall : callable P f = true) (hc : e.ev c = some (.func (.func f) first cap)) (hx : argsL e xs = some vs) (ha : first.toList ++ vs ++ cap.toList = args)
    (hctr : Ctr P f args pre [] (fun _ : Unit => v) (fun _ => [])) (hpre : ∀ w, SM B K w → pre w) :
    LS P B ⟨d, .call { callee := .value c, args := xs.toArray, argTypes := ts }, t, p, af, g⟩ e K (fun _ : Unit => v) (fun _ => K) := by
  have h := LS_callv (P := P) (B := B) (e := e) (K := K) (d := d) (t := t) (p := p) (af := af) (g := g) (ts := ts) [] (List.range K.length) hcall hc hx ha (by simpa [pick] using hctr) (by simpa using List.nodup_range) hpre
  have hk : pick K (List.range K.length) = K := by
    unfold pick
    have : ∀ (l : List Ent), (List.range l.length).filterMap (l[·]?) = l := by
      intro l
      induction l with
      | nil => rfl
      | cons x r ih =>
        rw [List.length_cons, List.range_succ_eq_map, List.filterMap_cons]
        simp only [List.length_cons, Nat.zero_lt_succ, List.getElem?_cons_zero, List.filterMap_map]
        congr 1
    exact this K
  have h2 : after K (List.range K.length) (fun _ : Unit => []) = fun _ => K := by funext i; simp [after, hk]
  rw [h2] at h
  exact h
end

section
variable {P : Program} {Fin : Exit → Act → World → Prop} {B : Base} {n : Nat} {k : List It} {e : Env} {K : List Ent} {ops : Array Oper} {rest : List Oper}
variable {d' : Option Tmp} {op : Op} {t : TypeId} {p : String} {af : Array Edge} {j : Nat} {want : Bool}

theorem RJ_fun {d : Option Tmp} {v : Value} (hs : LS P B ⟨d, op, t, p, af, none⟩ e K (fun _ : Unit => v) (fun _ => K)) (hd : (d.all fun x => Nat.blt x n) = true) (h : RJ P Fin B n ops rest (e.put d v) K k) :
    RJ P Fin B n ops (⟨d, op, t, p, af, none⟩ :: rest) e K k := RJ_loud hs hd fun _ => h
/-- A guarded operation that leaves memory as it is. -/
theorem RJ_gfun {gd : Tmp} {u v : Value} {g : Bool} (hj : (ops[j]?).bind (·.dst) = some gd) (hu : e.get gd = some u) (hg : GV u want g) (hs : g = true → LS P B ⟨d', op, t, p, af, none⟩ e K (fun _ : Unit => v) (fun _ => K))
    (ho : (d'.all fun x => Nat.blt x n) = true) (h : RJ P Fin B n ops rest (e.put d' (gv g v)) K k) : RJ P Fin B n ops (⟨d', op, t, p, af, some (j, want)⟩ :: rest) e K k := by
  intro a w ha hw
  cases g with
  | true =>
    have h1 := RJ_fun (hs rfl) ho h a w ha hw
    have hw : Region.wanted ⟨d', op, t, p, af, some (j, want)⟩ (yielded ops a.tmps) = true := by simp only [Region.wanted, yielded_of hj ha.ok hu]; exact hg
    unfold wpList at h1 ⊢
    rw [if_pos hw]
    rw [if_pos (by rfl)] at h1
    exact h1
  | false =>
    refine wpList_skip ?_ (h _ w (ha.put fun x hx => ?_) hw)
    · simp only [Region.wanted, yielded_of hj ha.ok hu]
      exact hg
    · subst hx
      simpa [Nat.blt_eq] using ho
theorem RJ_g {gd : Tmp} {u v : Value} {g : Bool} (hj : (ops[j]?).bind (·.dst) = some gd) (hu : e.get gd = some u) (hg : GV u want g) (hs : g = true → FS P B ⟨d', op, t, p, af, none⟩ e K v)
    (ho : (d'.all fun x => Nat.blt x n) = true) (h : RJ P Fin B n ops rest (e.put d' (gv g v)) K k) : RJ P Fin B n ops (⟨d', op, t, p, af, some (j, want)⟩ :: rest) e K k := RJ_gfun hj hu hg (fun h => (hs h).ls) ho h

/-- What e' says, e says. -/
def LE (e' e : Env) : Prop := e'.map (fun q => e.get q.1) = e'.map (fun q => some q.2)
theorem LE.spec {e' e : Env} (h : LE e' e) : ∀ i v, e'.get i = some v → e.get i = some v := by
  induction e' with
  | nil => intro i v hi; cases hi
  | cons q r ih =>
    intro i v hi
    simp only [LE, List.map_cons, List.cons.injEq] at h
    rw [show q :: r = (q.1, q.2) :: r from rfl, Env.get_cons] at hi
    by_cases hq : q.1 = i
    · rw [if_pos hq] at hi
      rw [← hq, ← hi]
      exact h.1
    · rw [if_neg hq] at hi
      exact ih h.2 i v hi
theorem JS_live (e' : Env) (h : LE e' e) (hj : JS P Fin B n k e' K) : JS P Fin B n k e K := JS_weak h.spec (fun _ h => h) hj
/-- What a round leaves: the state of some lower index. -/
def Again {ι : Type} (B : Base) (n : Nat) (e0 : Env) (E : ι → Env) (M : ι → List Ent) (μ : ι → Nat) (i : ι) (a : Act) (w : World) : Prop := ∃ j, μ j < μ i ∧ AS n (E j ++ e0) a ∧ SM B (M j) w
/-- A loop; e0: what no round changes. -/
theorem JS_loopF {ι : Type} {x : Code} (e0 : Env) (E : ι → Env) (M : ι → List Ent) (μ : ι → Nat) (i0 : ι) (he : LE (E i0 ++ e0) e) (hK : ∀ w, SM B K w → SM B (M i0) w)
    (round : ∀ i, JS P Fin B n (.c x :: .stop (Again B n e0 E M μ i) :: k) (E i ++ e0) (M i)) : JS P Fin B n (.c (.loop x) :: k) e K :=
  JS_loop (fun i => E i ++ e0) M μ i0 he.spec hK round
theorem JS_againF {ι : Type} {e0 : Env} {E : ι → Env} {M : ι → List Ent} {μ : ι → Nat} {i : ι} (j : ι) (hlt : μ j < μ i) (he : LE (E j ++ e0) e) (hK : ∀ w, SM B K w → SM B (M j) w) :
    JS P Fin B n (.stop (Again B n e0 E M μ i) :: k) e K := JS_stop fun _ _ ha hw => ⟨j, hlt, ha.sub he.spec, hK _ hw⟩
theorem JS_retv {fn : Func} {rs : List ResultVar} {vs : List Value} {w0 : World} {v : Value} (hf : fn.results = rs.toArray) (hv : ResV P e K rs vs) (h1 : one vs = v) :
    JS P (bodyPost P fn fun ex w' => ∃ i : Unit, ex = .returned v ∧ Upd w0 w' [] []) ⟨w0, blks []⟩ n (.c .ret :: k) e K :=
  JS_return (v := fun _ : Unit => v) (K1 := fun _ => []) (K0 := []) () [] hf hv h1 (by simp) rfl
theorem JS_fallv {fn : Func} {rs : List ResultVar} {vs : List Value} {w0 : World} {v : Value} (hf : fn.results = rs.toArray) (hv : ResV P e K rs vs) (h1 : one vs = v) :
    JS P (bodyPost P fn fun ex w' => ∃ i : Unit, ex = .returned v ∧ Upd w0 w' [] []) ⟨w0, blks []⟩ n [] e K :=
  JS_fall (v := fun _ : Unit => v) (K1 := fun _ => []) (K0 := []) () [] hf hv h1 (by simp) rfl
end
end Go.Proofs.Ytmhjcemcjfkejaa
