/- The calculus, eleventh part: small rules that the printed walks use. -/
import Derived.Test.YtmhjcemcjfkejaaJ10
import Derived.KernelRfl
import Derived.Laws.StructEq
import Derived.Laws.Cover3
namespace Go.Proofs.Ytmhjcemcjfkejaa
open Go.RowKit
set_option linter.unusedVariables false
set_option linter.unusedSimpArgs false

theorem and_l {a b : Bool} (h : (a && b) = true) : a = true := by cases a <;> simp_all
theorem LE_nil {e : Env} : LE [] e := rfl
theorem LE_cons {m : Nat} {v : Value} {r e : Env} (h : e.ev (.tmp m) = some v) (hr : LE r e) : LE ((m, v) :: r) e := by
  have h : e.get m = some v := h
  simp only [LE, List.map_cons, h] at hr ⊢
  rw [hr]
theorem LE.ev {e' e : Env} (h : LE e' e) {x : Operand} {u : Value} (hx : e'.ev x = some u) : e.ev x = some u := by
  cases x with
  | tmp n => exact h.spec n u hx
  | const c => exact hx
  | global c => exact hx
  | func c => exact hx
section
variable {P : Program} {B : Base} {e : Env} {K : List Ent} {d : Option Tmp} {t : TypeId} {p : String} {af : Array Edge} {g : Option (Nat × Bool)}
theorem FS_under {o : Oper} {v : Value} (e' : Env) (hle : LE e' e) (h : FS P B o e' K v) : FS P B o e K v := fun w ρ hw ha => h w ρ hw fun x hx u hu => ha x hx u (hle.ev hu)
theorem LS_under {o : Oper} {ι : Type} {v : ι → Value} {K' : ι → List Ent} (e' : Env) (hle : LE e' e) (h : LS P B o e' K v K') : LS P B o e K v K' := fun w a hw ha => h w a hw fun x hx u hu => ha x hx u (hle.ev hu)
theorem LS_pure' {f : FuncId} {xs : List Operand} {ts : Array TypeId} {args : List Value} {pre : World → Prop} {ι : Type} {v : ι → Value} {K1 : ι → List Ent}
    (hcall : callable P f = true) (hctr : Ctr P f args pre [] v K1) (hx : argsL e xs = some args) (hpre : ∀ w, SM B K w → pre w) :
    LS P B ⟨d, .call { callee := .value (.func f), args := xs.toArray, argTypes := ts }, t, p, af, g⟩ e K v (fun i => K ++ K1 i) := LS_pure hcall hx hctr hpre
theorem LS_call' {f : FuncId} {xs : List Operand} {ts : Array TypeId} {args : List Value} {pre : World → Prop} {ι : Type} {v : ι → Value} {K1 : ι → List Ent} {K0 : List Ent} (is js : List Nat) (hk : pick K is = K0)
    (hcall : callable P f = true) (hctr : Ctr P f args pre K0 v K1) (hx : argsL e xs = some args) (hn : (is ++ js).Nodup) (hpre : ∀ w, SM B K w → pre w) :
    LS P B ⟨d, .call { callee := .value (.func f), args := xs.toArray, argTypes := ts }, t, p, af, g⟩ e K v (after K js K1) := LS_call is js hcall hx (hk ▸ hctr) hn hpre
theorem FS_boolEql (T : Tab P) {s s' : TypeId} {x y : Operand} {a b : Bool} (hx : e.ev x = some (.bool a)) (hy : e.ev y = some (.bool b)) (ht : boIn T.bos s = true) : FS P B ⟨d, .binOp .eql s x y s', t, p, af, g⟩ e K (.bool (a == b)) := by
  intro w ρ _ ha
  have h1 := ha x (by simp [Op.operands]) _ hx
  have h2 := ha y (by simp [Op.operands]) _ hy
  have h3 := run_eql_bool (P := P) w s a b (boIn_ok ht)
  simp [execOp, h1, h2, eqGuard, h3]
theorem FS_boolNeq (T : Tab P) {s s' : TypeId} {x y : Operand} {a b : Bool} (hx : e.ev x = some (.bool a)) (hy : e.ev y = some (.bool b)) (ht : boIn T.bos s = true) : FS P B ⟨d, .binOp .neq s x y s', t, p, af, g⟩ e K (.bool (!(a == b))) := by
  intro w ρ _ ha
  have h1 := ha x (by simp [Op.operands]) _ hx
  have h2 := ha y (by simp [Op.operands]) _ hy
  have h3 := run_neq_bool (P := P) w s a b (boIn_ok ht)
  simp [execOp, h1, h2, eqGuard, h3]
theorem FS_sliceNil (T : Tab P) {s s' : TypeId} {x : Operand} {A : Option Addr} {len cap ee z : Nat} (hx : e.ev x = some (.slice A len cap)) (ht : elIn T.els s = some (none, ee, z)) :
    FS P B ⟨d, .binOp .eql s x (.const (.slice none 0 0)) s', t, p, af, g⟩ e K (.bool A.isNone) := by
  intro w ρ _ ha
  have h1 := ha x (by simp [Op.operands]) _ hx
  have h2 := ha (.const (.slice none 0 0)) (by simp [Op.operands]) (.slice none 0 0) rfl
  have h3 := run_equal_slice_nil (P := P) w s ee A len cap (elOf_slice (elIn_ok ht)).1
  simp [execOp, h1, h2, eqGuard, binOp, h3]
theorem FS_sliceNilNot (T : Tab P) {s s' : TypeId} {x : Operand} {A : Option Addr} {len cap ee z : Nat} (hx : e.ev x = some (.slice A len cap)) (ht : elIn T.els s = some (none, ee, z)) :
    FS P B ⟨d, .binOp .neq s x (.const (.slice none 0 0)) s', t, p, af, g⟩ e K (.bool (!A.isNone)) := by
  intro w ρ _ ha
  have h1 := ha x (by simp [Op.operands]) _ hx
  have h2 := ha (.const (.slice none 0 0)) (by simp [Op.operands]) (.slice none 0 0) rfl
  have h3 := run_neq_slice_nil (P := P) w s ee A len cap (elOf_slice (elIn_ok ht)).1
  simp [execOp, h1, h2, eqGuard, h3]

/-- Two flat values, one by one. -/
def eqv1 : Bool → Value → Value → Option Bool
  | false, .int k a, .int k' b => if k = k' then some (a == b) else none
  | true, .bool a, .bool b => some (a == b)
  | _, _, _ => none
def eqvL : List Bool → List Value → List Value → Option Bool
  | [], [], [] => some true
  | f :: fs, x :: xs, y :: ys => match eqv1 f x y, eqvL fs xs ys with | some a, some b => some (a && b) | _, _ => none
  | _, _, _ => none
theorem run_flat {w : World} (dd : Nat) : ∀ (fs : List Field) (s : Nat) (l : List Bool) (pre xs ys pre' : List Value) (b : Bool), pre.length = s → pre'.length = s →
    ((fs.zipIdx s).mapM fun q => if q.1.offset = q.2 && q.1.name != "_" && (P.info? q.1.type).any (fun i => i.size == 1) then (match P.underlying q.1.type with | some (.int _) => some false | some .bool => some true | _ => none) else none) = some l →
    eqvL l xs ys = some b → (Op.eqFields (dd + 1) (pre ++ xs).toArray (pre' ++ ys).toArray fs).run P w = .ok b w
  | [], s, l, pre, xs, ys, pre', b, _, _, h, hb => by
    simp at h
    subst h
    cases xs <;> cases ys <;> simp [eqvL] at hb
    subst hb
    simp [Op.eqFields]
  | f :: fs, s, l, pre, xs, ys, pre', b, hp, hp', h, hb => by
    simp only [List.zipIdx_cons, List.mapM_cons] at h
    by_cases hc : (decide (f.offset = s) && f.name != "_" && (P.info? f.type).any (fun i => i.size == 1)) = true
    · rw [if_pos hc] at h
      simp only [Bool.and_eq_true, decide_eq_true_eq, bne_iff_ne] at hc
      obtain ⟨⟨ho, hn⟩, hs⟩ := hc
      cases hi : P.info? f.type with
      | none => simp [hi] at hs
      | some i =>
        have hs1 : i.size = 1 := by simpa [hi] using hs
        have hpart : ∀ (pre : List Value) (x : Value) (xs : List Value), pre.length = s → (P.underlying f.type = some .bool ∨ ∃ k, P.underlying f.type = some (.int k)) → (part f.type (pre ++ x :: xs).toArray f.offset).run P w = .ok x w := by
          intro pre x xs hp hu
          have hagg : (isAgg f.type).run P w = .ok false w := by
            unfold isAgg
            rcases hu with hu | ⟨k, hu⟩ <;> rw [Sem.run_bind, run_underlying hu w] <;> simp
          subst hp
          simp [part, hagg, sizeOf, typeInfo, hi, hs1, ho]
        cases hu : P.underlying f.type with
        | none => simp [hu] at h
        | some dsc =>
          have key : ∀ (flag : Bool) (us : List Bool), l = flag :: us → (flag = false ∧ (∃ k, P.underlying f.type = some (.int k)) ∨ flag = true ∧ P.underlying f.type = some .bool) →
              ((fs.zipIdx (s + 1)).mapM fun q => if q.1.offset = q.2 && q.1.name != "_" && (P.info? q.1.type).any (fun i => i.size == 1) then (match P.underlying q.1.type with | some (.int _) => some false | some .bool => some true | _ => none) else none) = some us →
              (Op.eqFields (dd + 1) (pre ++ xs).toArray (pre' ++ ys).toArray (f :: fs)).run P w = .ok b w := by
            intro flag us hl hfl hrest
            subst hl
            cases xs with
            | nil => cases ys <;> simp [eqvL] at hb
            | cons x xs =>
              cases ys with
              | nil => simp [eqvL] at hb
              | cons y ys =>
                simp only [eqvL] at hb
                cases h1 : eqv1 flag x y with
                | none => simp [h1] at hb
                | some b1 =>
                  cases h2 : eqvL us xs ys with
                  | none => simp [h1, h2] at hb
                  | some b2 =>
                    simp [h1, h2] at hb
                    subst hb
                    have ih := run_flat (w := w) dd fs (s + 1) us (pre ++ [x]) xs ys (pre' ++ [y]) b2 (by simp [hp]) (by simp [hp']) hrest h2
                    simp only [List.append_assoc, List.singleton_append] at ih
                    have heq : (Op.equalIn (dd + 1) f.type x y).run P w = .ok b1 w := by
                      rcases hfl with ⟨rfl, k, hk⟩ | ⟨rfl, hk⟩
                      · cases x <;> cases y <;> simp [eqv1] at h1
                        obtain ⟨rfl, rfl⟩ := h1
                        exact run_equalIn_int w dd f.type _ k _ _ hk
                      · cases x <;> cases y <;> simp [eqv1] at h1
                        subst h1
                        exact run_equalIn_bool w dd f.type _ _ hk
                    have hu' : P.underlying f.type = some .bool ∨ ∃ k, P.underlying f.type = some (.int k) := by
                      rcases hfl with ⟨_, hk⟩ | ⟨_, hk⟩
                      · exact .inr hk
                      · exact .inl hk
                    simp only [Op.eqFields, ne_eq, hn, not_false_eq_true, if_true, Sem.run_bind, hpart pre x xs hp hu', hpart pre' y ys hp' hu', Result.andThen_ok, heq]
                    cases b1
                    · simp
                    · simpa using ih
          rw [hu] at h
          split at h
          · cases hr : ((fs.zipIdx (s + 1)).mapM fun q => if q.1.offset = q.2 && q.1.name != "_" && (P.info? q.1.type).any (fun i => i.size == 1) then (match P.underlying q.1.type with | some (.int _) => some false | some .bool => some true | _ => none) else none) with
            | none => rw [hr] at h; simp at h
            | some us =>
              rw [hr] at h
              simp at h
              exact key false us h.symm (.inl ⟨rfl, _, hu.trans (by assumption)⟩) hr
          · cases hr : ((fs.zipIdx (s + 1)).mapM fun q => if q.1.offset = q.2 && q.1.name != "_" && (P.info? q.1.type).any (fun i => i.size == 1) then (match P.underlying q.1.type with | some (.int _) => some false | some .bool => some true | _ => none) else none) with
            | none => rw [hr] at h; simp at h
            | some us =>
              rw [hr] at h
              simp at h
              exact key true us h.symm (.inr ⟨rfl, hu.trans (by assumption)⟩) hr
          · simp at h
    · rw [if_neg hc] at h
      simp at h
theorem flat_equal {w : World} {s : Nat} {l : List Bool} {xs ys : List Value} {b : Bool} (hf : flatOf P s = some l) (hb : eqvL l xs ys = some b) :
    (Op.equalIn 10000 s (.agg xs.toArray) (.agg ys.toArray)).run P w = .ok b w ∧ P.eqGuardType P.depth s = false := by
  unfold flatOf at hf
  split at hf
  · rename_i fs hu
    split at hf
    · cases hf
    · rename_i hc
      simp only [Bool.or_eq_true, not_or, Bool.not_eq_true] at hc
      have hfo : P.fieldsOf s = fs := by simp [Program.fieldsOf, hu]
      refine ⟨?_, hc.2⟩
      rw [run_equalIn_struct w 9999 s _ _ (by rw [hfo]; exact hu) hc.1, hfo]
      have := run_flat (P := P) (w := w) 9998 fs.toList 0 l [] xs ys [] b rfl rfl hf hb
      simpa using this
  · cases hf
theorem FS_flatEql (T : Tab P) {s s' : TypeId} {x y : Operand} {xs ys : List Value} {l : List Bool} {b : Bool} (hx : e.ev x = some (.agg xs.toArray)) (hy : e.ev y = some (.agg ys.toArray)) (ht : eqIn T.eqs s = some l) (hb : eqvL l xs ys = some b) :
    FS P B ⟨d, .binOp .eql s x y s', t, p, af, g⟩ e K (.bool b) := by
  intro w ρ _ ha
  have h1 := ha x (by simp [Op.operands]) _ hx
  have h2 := ha y (by simp [Op.operands]) _ hy
  obtain ⟨h3, h4⟩ := flat_equal (P := P) (w := w) (eqIn_ok ht) hb
  simp [execOp, h1, h2, run_eqGuard_agg w .eql s x y xs.toArray ys.toArray h4, run_eql_struct, h3]
theorem FS_flatNeq (T : Tab P) {s s' : TypeId} {x y : Operand} {xs ys : List Value} {l : List Bool} {b : Bool} (hx : e.ev x = some (.agg xs.toArray)) (hy : e.ev y = some (.agg ys.toArray)) (ht : eqIn T.eqs s = some l) (hb : eqvL l xs ys = some b) :
    FS P B ⟨d, .binOp .neq s x y s', t, p, af, g⟩ e K (.bool !b) := by
  intro w ρ _ ha
  have h1 := ha x (by simp [Op.operands]) _ hx
  have h2 := ha y (by simp [Op.operands]) _ hy
  obtain ⟨h3, h4⟩ := flat_equal (P := P) (w := w) (eqIn_ok ht) hb
  simp [execOp, h1, h2, run_eqGuard_agg w .neq s x y xs.toArray ys.toArray h4, run_neq_struct, h3]
end
section
variable {P : Program} {Fin : Exit → Act → World → Prop} {B : Base} {n : Nat} {k : List It} {e : Env} {K : List Ent} {ops : Array Oper} {rest : List Oper} {c : Operand} {x y : Code}
theorem JS_condD {q : Prop} [Decidable q] (hc : e.ev c = some (.bool (decide q))) (ht : q → JS P Fin B n (.c x :: k) e K) (hf : ¬q → JS P Fin B n (.c y :: k) e K) : JS P Fin B n (.c (.cond c x y) :: k) e K :=
  JS_cond hc (fun h => ht (of_decide_eq_true h)) (fun h => hf (of_decide_eq_false h))
theorem JS_condE {a b : Int} (hc : e.ev c = some (.bool (a == b))) (ht : a = b → JS P Fin B n (.c x :: k) e K) (hf : a ≠ b → JS P Fin B n (.c y :: k) e K) : JS P Fin B n (.c (.cond c x y) :: k) e K :=
  JS_cond hc (fun h => ht (by simpa using h)) (fun h => hf (by simpa using h))
theorem JS_condN {a b : Int} (hc : e.ev c = some (.bool (a != b))) (ht : a ≠ b → JS P Fin B n (.c x :: k) e K) (hf : a = b → JS P Fin B n (.c y :: k) e K) : JS P Fin B n (.c (.cond c x y) :: k) e K :=
  JS_cond hc (fun h => ht (by simpa using h)) (fun h => hf (by simpa using h))
theorem RJ_mem (K' : List Ent) (h : K = K') (hj : RJ P Fin B n ops rest e K' k) : RJ P Fin B n ops rest e K k := h ▸ hj
theorem JS_mem (K' : List Ent) (h : K = K') (hj : JS P Fin B n k e K') : JS P Fin B n k e K := h ▸ hj
variable {Q : Exit → Act → World → Prop} {i : Nat} {Cp Cl : List Nat} {sched : List (Nat × Bool)}
theorem HQ_mem (K' : List Ent) (h : K = K') (hj : HQ P B n ops Q sched i Cp Cl e K') : HQ P B n ops Q sched i Cp Cl e K := h ▸ hj
theorem szOf_in (T : Tab P) {t : Nat} {o} (h : szIn T.szs t = some o) : szOf P t = some o := szIn_ok h
end
end Go.Proofs.Ytmhjcemcjfkejaa
