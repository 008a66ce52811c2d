/- The calculus, fifth part: calls by contract, results, a literal slice. -/
import Derived.Test.YtmhjcemcjfkejaaJ4
namespace Go.Proofs.Ytmhjcemcjfkejaa
open Go.RowKit
set_option linter.unusedVariables false
set_option linter.unusedSimpArgs false

/-- A function that has a body, and is entered by a call. -/
def callable (P : Program) (f : Nat) : Bool := match P.funcs[f]? with | some fn => !(fn.name == "runtime.NumGoroutine") && !fn.body.isNone | none => false
theorem run_enter {P : Program} {f : Nat} (h : callable P f = true) (args : Array Value) (w : World) : (callFunc f args).run P w = .ok (.enter f args) w := by
  unfold callable at h
  split at h
  · rename_i fn hf
    simp only [Bool.and_eq_true, Bool.not_eq_true'] at h
    obtain ⟨h1, h2⟩ := h
    have h3 : fn.name ≠ "runtime.NumGoroutine" := by simpa using h1
    cases hb : fn.body with
    | none => simp [hb] at h2
    | some c => simp [callFunc, hf, h3, hb]
  · cases h

def argsL (e : Env) (xs : List Operand) : Option (List Value) := xs.mapM e.ev
theorem argsL_map {e : Env} {ρ : Operand → Value} : ∀ {xs : List Operand} {vs : List Value}, argsL e xs = some vs → (∀ x ∈ xs, ∀ u, e.ev x = some u → ρ x = u) → xs.map ρ = vs
  | [], vs, h, _ => by simp [argsL] at h; subst h; rfl
  | x :: r, vs, h, hρ => by
    simp only [argsL, List.mapM_cons] at h
    cases hx : e.ev x with
    | none => simp [hx] at h
    | some u =>
      cases hr : argsL e r with
      | none => unfold argsL at hr; simp [hx, hr] at h
      | some us =>
        have ih := argsL_map hr (fun q hq => hρ q (List.mem_cons_of_mem _ hq))
        unfold argsL at hr
        simp [hx, hr] at h
        subst h
        simp [hρ x (List.mem_cons_self ..) u hx, ih]

/-- What a call's contract gives at the entries 'is' of K; the entries 'js' stay. -/
def after {ι : Type} (K : List Ent) (js : List Nat) (K1 : ι → List Ent) (i : ι) : List Ent := K1 i ++ pick K js

section
variable {P : Program} {B : Base} {e : Env} {K : List Ent} {d : Option Tmp} {t : TypeId} {p : String} {af : Array Edge} {g : Option (Nat × Bool)}

theorem LS_callv {f : FuncId} {c : Operand} {cap : Array Value} {first : Array Value} {xs : List Operand} {ts : Array TypeId} {vs args : List Value} {pre : World → Prop} {ι : Type} {v : ι → Value} {K1 : ι → List Ent} (is js : List Nat)
    (hcall : callable P f = true) (hc : e.ev c = some (.func (.func f) first cap)) (hx : argsL e xs = some vs) (ha : first.toList ++ vs ++ cap.toList = args)
    (hctr : Ctr P f args pre (pick K is) v K1) (hn : (is ++ js).Nodup) (hpre : ∀ w, SM B K w → pre w) :
    LS P B ⟨d, .call { callee := .value c, args := xs.toArray, argTypes := ts }, t, p, af, g⟩ e K v (after K js K1) := by
  intro w a hw hag next Q hnx
  have h1 := hag c (by simp [Op.operands, Call.operands]) _ hc
  have h2 := argsL_map (ρ := a.eval) hx (fun x hx' u hu => hag x (by simp [Op.operands, Call.operands, hx']) u hu)
  have hres : (resolve a.eval { callee := .value c, args := xs.toArray, argTypes := ts } t).run P w = .ok { target := .fn (.func f) cap, args := first ++ vs.toArray } w := by
    simp [resolve, h1, Deferred.ofValue, h2]
  have hinv : (invoke (.fn (.func f) cap) (first ++ vs.toArray)).run P w = .ok (.enter f args.toArray) w := by
    simp only [invoke]
    rw [run_enter hcall]
    congr 2
    rw [← ha]
    simp
  unfold Oper.wp execOp
  simp only [Sem.run_bind, hres, Result.andThen_ok, hinv, Oper.upon]
  have hm := (hw.pick (is := is) (List.nodup_append.1 hn).1).mem
  refine (hctr w hm (hpre w hw)).mono ?_
  rintro ex w' ⟨i, rfl, hu⟩
  exact hnx i w' (hw.updAt is js hn hu)
/-- A call of a function by its name. -/
theorem LS_call {f : FuncId} {xs : List Operand} {ts : Array TypeId} {args : List Value} {pre : World → Prop} {ι : Type} {v : ι → Value} {K1 : ι → List Ent} (is js : List Nat)
    (hcall : callable P f = true) (hx : argsL e xs = some args) (hctr : Ctr P f args pre (pick K is) v K1) (hn : (is ++ js).Nodup) (hpre : ∀ w, SM B K w → pre w) :
    LS P B ⟨d, .call { callee := .value (.func f), args := xs.toArray, argTypes := ts }, t, p, af, g⟩ e K v (after K js K1) :=
  LS_callv is js hcall rfl hx (by simp) hctr hn hpre
/-- The same where the call touches nothing that is known: all entries stay in their row; what is new comes behind. -/
theorem LS_pure {f : FuncId} {xs : List Operand} {ts : Array TypeId} {args : List Value} {pre : World → Prop} {ι : Type} {v : ι → Value} {K1 : ι → List Ent}
    (hcall : callable P f = true) (hx : argsL e xs = some args) (hctr : Ctr P f args pre [] v K1) (hpre : ∀ w, SM B K w → pre w) :
    LS P B ⟨d, .call { callee := .value (.func f), args := xs.toArray, argTypes := ts }, t, p, af, g⟩ e K v (fun i => K ++ K1 i) := by
  intro w a hw hag next Q hnx
  have h2 := argsL_map (ρ := a.eval) hx (fun x hx' u hu => hag x (by simp [Op.operands, Call.operands, hx']) u hu)
  have hres : (resolve a.eval { callee := .value (.func f), args := xs.toArray, argTypes := ts } t).run P w = .ok { target := .fn (.func f) #[], args := args.toArray } w := by
    simp [resolve, Act.eval, Deferred.ofValue]
    rw [← h2]
  have hinv : (invoke (.fn (.func f) #[]) args.toArray).run P w = .ok (.enter f args.toArray) w := by
    simp only [invoke]
    rw [run_enter hcall]
    simp
  unfold Oper.wp execOp
  simp only [Sem.run_bind, hres, Result.andThen_ok, hinv, Oper.upon]
  refine (hctr w (Mem.nil w) (hpre w hw)).mono ?_
  rintro ex w' ⟨i, rfl, hu⟩
  exact hnx i w' ((SM.upd (K0 := []) hw hu).perm List.perm_append_comm)

theorem fill_size {place : Nat → Option (Nat × Nat)} : ∀ {ps : List (Nat × Value)} {cs cs' : List Value}, fillL place cs ps = some cs' → cs'.length = cs.length
  | [], cs, cs', h => by simp [fillL] at h; rw [h]
  | (i, v) :: r, cs, cs', h => by
    unfold fillL at h
    split at h
    · cases h
    · cases hb : (Nat.beq v.cells.toList.length _ && Nat.ble _ cs.length) with
      | false => rw [hb] at h; cases h
      | true =>
        rw [hb] at h
        rw [fill_size h, stv_length]

/-- []T{..}: len elements of type el (z cells each). -/
theorem LS_buildSlice (T : Tab P) {s el z len : Nat} {ps : List (Nat × Operand)} {vs : List (Nat × Value)} {zero cs : List Value} (ht : elIn T.els s = some (none, el, z)) (hz : zeIn T.zes el = some zero)
    (hzl : zero.length = z) (hp : partsL e ps = some vs) (hlen : Nat.ble (len * z) 16777216 = true)
    (hc : fillL (fun i => some (i * z, z)) ((List.range (len * z)).map fun j => zero.getD (j % z) default) vs = some cs) :
    LS P B ⟨d, .buildSlice s len ps.toArray, t, p, af, g⟩ e K (fun b : Nat => .slice (some ⟨b, 0, none⟩) len len) (fun b => K ++ [Ent.c b el cs]) := by
  intro w a hw ha next Q hnx
  obtain ⟨hu, i, hi, rfl⟩ := elOf_slice (elIn_ok ht)
  obtain ⟨i', v, hi', hz', hv⟩ := zeroOf_spec (zeIn_ok hz)
  obtain rfl : i = i' := by rw [hi] at hi'; injection hi'
  have hmap := partsL_map (ρ := a.eval) hp (fun q hq u hu => ha q.2 (by simp [Op.operands]; exact ⟨q.1, hq⟩) u hu)
  have hlen : len * i.size ≤ 16777216 := by simpa [Nat.ble_eq] using hlen
  have hzero : (zeroValue el).run P w = .ok v w := by simp [zeroValue, typeInfo, hi, hz']
  have hfill := fill_of hc
  have hcells : ((Array.range (len * i.size)).map fun x => (zero.toArray)[x % zero.toArray.size]!) = ((List.range (len * i.size)).map fun j => zero.getD (j % i.size) default).toArray := by
    apply Array.ext'
    simp only [Array.toList_map, Array.toList_range]
    apply List.map_congr_left
    intro j hj
    have hj := List.mem_range.1 hj
    have hpos : 0 < i.size := by
      rcases Nat.eq_zero_or_pos i.size with h | h
      · rw [h] at hj; simp at hj
      · exact h
    have hm : j % i.size < zero.length := by rw [hzl]; exact Nat.mod_lt _ hpos
    simp [hzl, hm, List.getD_eq_getElem?_getD]
  have hrun : (Instr.buildSlice s len (ps.toArray.map fun q => (q.1, a.eval q.2))).run P w = .ok (.slice (some ⟨w.heap.size, 0, none⟩) len len) (w.alloc (.cells cs.toArray el)) := by
    have hsz : (sizeOf el).run P w = .ok i.size w := by simp [sizeOf, typeInfo, hi]
    have hnot : ¬ (len * i.size > 2 ^ 24) := by simp; omega
    simp only [Instr.buildSlice, Sem.run_bind, run_underlying hu w, Result.andThen_ok, hsz, hnot, if_false, Sem.run_pure]
    have hm2 : (ps.toArray.map fun q => (q.1, a.eval q.2)).toList = vs := by simp [hmap]
    by_cases h0 : len * i.size = 0
    · have e1 : ((Array.range (len * i.size)).map fun x : Nat => (#[] : Array Value)[x % (#[] : Array Value).size]!) = ((List.range (len * i.size)).map fun j => zero.getD (j % i.size) default).toArray := by rw [h0]; apply Array.ext'; simp
      simp only [h0, if_true, Sem.run_bind, Sem.run_pure, Result.andThen_ok]
      rw [h0] at e1 hfill
      rw [e1, hm2, hfill]
      simp [newRow, newObj, Sem.run]
    · simp only [h0, if_false, Sem.run_bind, hzero, Result.andThen_ok, Sem.run_pure, hv]
      rw [hcells, hm2, hfill]
      simp [newRow, newObj, Sem.run]
  unfold Oper.wp execOp
  simp only [Sem.run_bind, Sem.run_pure, hrun, Result.andThen_ok]
  exact hnx _ _ (hw.new el cs)
end

/-! ## What a function returns -/
inductive ResV (P : Program) (e : Env) (K : List Ent) : List ResultVar → List Value → Prop
  | nil : ResV P e K [] []
  | tmp {t r v vs} (h : e.get t = some v) (hr : ResV P e K r vs) : ResV P e K (.tmp t :: r) (v :: vs)
  | cell {x ty r b o bt sl cs gs v vs} (hx : e.get x = some (.pointer (some ⟨b, o, none⟩))) (hs : szOf P ty = some gs) (hm : Ent.c b bt cs sl ∈ K) (hv : ldv gs cs o = some v) (hr : ResV P e K r vs) : ResV P e K (.cell x ty :: r) (v :: vs)
def one : List Value → Value
  | [v] => v
  | vs => .tuple vs.toArray

theorem ResV.run {P : Program} {B : Base} {n : Nat} {e : Env} {K : List Ent} {a : Act} {w : World} (ha : AS n e a) (hw : SM B K w) : ∀ {rs : List ResultVar} {vs : List Value}, ResV P e K rs vs →
    (rs.mapM fun | .tmp t => pure (a.tmps.getD t undef) | .cell x ty => do loadVar ty (← asAddr (a.tmps.getD x undef)) : Sem (List Value)).run P w = .ok vs w := by
  intro rs vs h
  induction h with
  | nil => simp
  | tmp h hr ih =>
    have := ha.ok _ _ h
    simp [Array.getD_eq_getD_getElem?, this] at ih ⊢
    simp [ih]
  | cell hx hs hm hv hr ih =>
    have h1 := ha.ok _ _ hx
    have h2 := run_ld (P := P) (o := _) hs (Ent.c_range (hw.mem.ok _ hm)) hv
    rw [Nat.zero_add] at h2
    simp only [Instr.loadAt, Instr.sureAddr, Sem.run_bind, Sem.run_pure, Result.andThen_ok] at h2
    simp [Array.getD_eq_getD_getElem?, h1, asAddr] at ih ⊢
    simp [ih, h2]
theorem results_run {P : Program} {B : Base} {n : Nat} {e : Env} {K : List Ent} {a : Act} {w : World} {fn : Func} {rs : List ResultVar} {vs : List Value} (hf : fn.results = rs.toArray) (ha : AS n e a) (hw : SM B K w) (h : ResV P e K rs vs) :
    (results fn a.tmps).run P w = .ok (one vs) w := by
  have hl := h.run ha hw
  have hM : (fn.results.mapM fun | .tmp t => pure (a.tmps.getD t undef) | .cell x ty => do loadVar ty (← asAddr (a.tmps.getD x undef)) : Sem (Array Value)).run P w = .ok vs.toArray w := by
    rw [hf, Array.mapM_eq_mapM_toList, ← bind_pure_comp, Sem.run_bind, hl]
    rfl
  unfold results
  rw [Sem.run_bind]
  refine (congrArg (fun r : Result (Array Value) => r.andThen _) (show _ = _ from hM)).trans ?_
  simp only [Result.andThen_ok, Sem.run_pure]
  congr 1
  match vs with
  | [] => rfl
  | [v] => rfl
  | _ :: _ :: _ => simp [one]

section
variable {P : Program} {B : Base} {n : Nat} {e : Env} {K : List Ent} {k : List It}
/-- return: the values, and the entries 'is' of what is known. -/
theorem JS_return {fn : Func} {rs : List ResultVar} {vs : List Value} {w0 : World} {K0 : List Ent} {ι : Type} {v : ι → Value} {K1 : ι → List Ent} (i : ι) (is : List Nat) (hf : fn.results = rs.toArray) (hv : ResV P e K rs vs)
    (h1 : one vs = v i) (hn : is.Nodup) (hk : K1 i = pick K is) :
    JS P (bodyPost P fn fun ex w' => ∃ i, ex = .returned (v i) ∧ Upd w0 w' K0 (K1 i)) ⟨w0, blks K0⟩ n (.c .ret :: k) e K :=
  JS_ret fun a w ha hw => ⟨ha.df, one vs, results_run hf ha hw hv, i, by rw [h1], by
    have := hw.pick hn
    rw [← hk] at this
    exact ⟨this.only, this.mem, this.own⟩⟩
theorem JS_fall {fn : Func} {rs : List ResultVar} {vs : List Value} {w0 : World} {K0 : List Ent} {ι : Type} {v : ι → Value} {K1 : ι → List Ent} (i : ι) (is : List Nat) (hf : fn.results = rs.toArray) (hv : ResV P e K rs vs)
    (h1 : one vs = v i) (hn : is.Nodup) (hk : K1 i = pick K is) :
    JS P (bodyPost P fn fun ex w' => ∃ i, ex = .returned (v i) ∧ Upd w0 w' K0 (K1 i)) ⟨w0, blks K0⟩ n [] e K :=
  JS_end fun a w ha hw => ⟨ha.df, one vs, results_run hf ha hw hv, i, by rw [h1], by
    have := hw.pick hn
    rw [← hk] at this
    exact ⟨this.only, this.mem, this.own⟩⟩
end
end Go.Proofs.Ytmhjcemcjfkejaa
