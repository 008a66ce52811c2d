/- The calculus, seventh part: the rules for a region that draws its order. -/
import Derived.Test.YtmhjcemcjfkejaaJ6
namespace Go.Proofs.Ytmhjcemcjfkejaa
open Go.RowKit
set_option linter.unusedVariables false
set_option linter.unusedSimpArgs false

/-- Edges lead back; no slot is written twice; whoever reads a slot waits for its writer. -/
def regOK (ops : Array Oper) : Bool :=
  let R := List.range ops.size
  R.all fun i => ((dep ops i).all fun j => Nat.blt j i) &&
    ((dstOf ops i).all fun d => R.all fun j => Nat.beq i j || ((dstOf ops j).all fun d' => !Nat.beq d d') && (!((readsOf ops j).any fun m => Nat.beq m d) || ((dep ops j).any fun x => Nat.beq x i))) &&
    !((readsOf ops i).any fun m => (dstOf ops i).any fun d => Nat.beq m d)
theorem regOK_spec {ops : Array Oper} (h : regOK ops = true) :
    (∀ i, i < ops.size → ∀ j ∈ dep ops i, j < i) ∧ (∀ i j d, i < ops.size → j < ops.size → i ≠ j → dstOf ops i = some d → dstOf ops j ≠ some d) ∧
      (∀ i j d, i < ops.size → j < ops.size → dstOf ops i = some d → d ∈ readsOf ops j → i ∈ dep ops j) := by
  unfold regOK at h
  simp only [List.all_eq_true, List.mem_range, Bool.and_eq_true] at h
  refine ⟨fun i hi j hj => ?_, fun i j d hi hj hij hd hd' => ?_, fun i j d hi hj hd hm => ?_⟩
  · have := (h i hi).1.1 j hj
    simpa [Nat.blt_eq] using this
  · have h2 := (h i hi).1.2
    simp only [hd, Option.all_some, List.all_eq_true, List.mem_range] at h2
    have := h2 j hj
    simp [hij, hd'] at this
  · by_cases hij : i = j
    · subst hij
      have h3 := (h i hi).2
      simp [hd] at h3
      exact absurd rfl (h3 d hm)
    · have h2 := (h i hi).1.2
      simp only [hd, Option.all_some, List.all_eq_true, List.mem_range] at h2
      have := h2 j hj
      simp [hij] at this
      rcases this.2 with h4 | h4
      · exact absurd rfl (h4 d hm)
      · exact h4

def gAns (ops : Array Oper) (e : Env) (o : Oper) : Option Bool :=
  match o.guard with
  | none => some true
  | some (j, want) => (dstOf ops j).bind fun g => (e.get g).map fun u => boolOf u == some want
theorem mem_slotsOf {xs : List Operand} {t : Nat} : t ∈ slotsOf xs ↔ Operand.tmp t ∈ xs := by
  induction xs with
  | nil => simp [slotsOf]
  | cons x r ih => cases x <;> simp [slotsOf, ih]

section
variable (P : Program) (B : Base) (n : Nat) (ops : Array Oper) (Q : Exit → Act → World → Prop)
/-- Operation u answers what e says of its slot, in memory K. -/
def cert (e : Env) (K : List Ent) (u : Nat) : Prop :=
  ∃ o d v, ops[u]? = some o ∧ o.dst = some d ∧ d < n ∧ e.get d = some v ∧ ((gAns ops e o = some true ∧ FS P B o e K v) ∨ (gAns ops e o = some false ∧ v = undef))
structure PI (S C : List Nat) (e : Env) (K : List Ent) (U : List Nat) (a : Act) (w : World) : Prop where
  nd : U.Nodup
  sub : ∀ u ∈ U, u ∈ C
  cl : ∀ x ∈ S, x ∉ U → ∀ j ∈ dep ops x, j ∉ U
  df : a.defers = []
  sz : a.tmps.size = n
  ok : ∀ m v, e.get m = some v → (∀ u ∈ U, dstOf ops u ≠ some m) → a.tmps[m]? = some v
  sm : SM B K w
/-- Operations S are reckoned with; those of C among them may still be to come: the ones of Cp in any memory, those of Cl in K. -/
def HJ (S Cp Cl : List Nat) (e : Env) (K : List Ent) : Prop :=
  S.Nodup → (∀ i ∈ S, i < ops.size ∧ ∀ j ∈ dep ops i, j ∈ S) → (∀ u ∈ Cp ++ Cl, u ∈ S) → (∀ u ∈ Cp, ∀ K, cert P B n ops e K u) → (∀ u ∈ Cl, cert P B n ops e K u) →
    ∀ U a w, PI B n ops S (Cp ++ Cl) e K U a w → wpX P ops Q (S.filter fun i => !U.contains i) a w
end

section
variable {P : Program} {B : Base} {n : Nat} {ops : Array Oper} {Q : Exit → Act → World → Prop} {S Cp Cl : List Nat} {e : Env} {K : List Ent}

theorem ev_of_get {e e' : Env} {x : Operand} (h : ∀ t, x = .tmp t → e'.get t = e.get t) : e'.ev x = e.ev x := by
  cases x with
  | tmp t => exact h t rfl
  | _ => rfl
theorem FS.env {o : Oper} {e e' : Env} {v : Value} (h : FS P B o e K v) (hs : ∀ t ∈ slotsOf o.op.operands.toList, e'.get t = e.get t) : FS P B o e' K v := by
  intro w ρ hw ha
  refine h w ρ hw fun x hx u hu => ha x hx u ?_
  rw [ev_of_get (e := e) (e' := e') fun t ht => hs t (mem_slotsOf.2 (ht ▸ hx))]
  exact hu
theorem cert.env {e e' : Env} {u : Nat} (h : cert P B n ops e K u) (hs : ∀ t ∈ readsOf ops u, e'.get t = e.get t) (hd : ∀ d, dstOf ops u = some d → e'.get d = e.get d) : cert P B n ops e' K u := by
  obtain ⟨o, d, v, ho, hod, hdn, hv, hc⟩ := h
  have hr : readsOf ops u = guardSlots ops o.guard ++ slotsOf o.op.operands.toList := by simp [readsOf, ho]
  have hg : gAns ops e' o = gAns ops e o := by
    unfold gAns
    cases hgd : o.guard with
    | none => rfl
    | some q =>
      obtain ⟨j, want⟩ := q
      simp only
      cases hj : dstOf ops j with
      | none => rfl
      | some gd =>
        simp only [Option.bind_some]
        rw [hs gd (by rw [hr]; simp [hgd, hj, guardSlots])]
  refine ⟨o, d, v, ho, hod, hdn, ?_, ?_⟩
  · rw [hd d (by simp [dstOf, ho, hod])]
    exact hv
  · rw [hg]
    exact hc.imp (fun h => ⟨h.1, h.2.env fun t ht => hs t (by rw [hr]; exact List.mem_append_right _ ht)⟩) id

/-- One that is still to come is carried out. -/
theorem run_pending {e : Env} {K : List Ent} {S C : List Nat} {U : List Nat} {u : Nat} {a : Act} {w : World} {Kn : Act → World → Prop} (hreg : regOK ops = true) (hsz : ∀ i ∈ C, i < ops.size)
    (hc : cert P B n ops e K u) (hU : u ∈ U) (hp : PI B n ops S C e K U a w) (hdep : ∀ j ∈ dep ops u, j ∉ U) (hn : ∀ a w, PI B n ops S C e K (U.erase u) a w → Kn a w) : wpOp P ops Q u Kn a w := by
  obtain ⟨r1, r2, r3⟩ := regOK_spec hreg
  obtain ⟨o, d, v, ho, hod, hdn, hv, hc⟩ := hc
  have hdo : dstOf ops u = some d := by simp [dstOf, ho, hod]
  have hus := hsz u (hp.sub u hU)
  have free : ∀ t ∈ readsOf ops u, ∀ x ∈ U, dstOf ops x ≠ some t := fun t ht x hx hd => hdep x (r3 x u t (hsz x (hp.sub x hx)) hus hd ht) hx
  have hr : readsOf ops u = guardSlots ops o.guard ++ slotsOf o.op.operands.toList := by simp [readsOf, ho]
  have hput : PI B n ops S C e K (U.erase u) (a.put (some d) v) w := by
    refine ⟨hp.nd.erase u, fun x hx => hp.sub x (List.mem_of_mem_erase hx), fun x hx hxU j hj => ?_, (Act.defers_put _ _ _).trans hp.df, (Act.size_put _ _ _).trans hp.sz, fun m x hm hx => ?_, hp.sm⟩
    · by_cases hxu : x = u
      · subst hxu
        exact fun hm => hdep j hj (List.mem_of_mem_erase hm)
      · exact fun hm => hp.cl x hx (fun hxm => hxU ((List.mem_erase_of_ne hxu).2 hxm)) j hj (List.mem_of_mem_erase hm)
    simp only [Act.put]
    by_cases hmd : d = m
    · subst hmd
      rw [hv] at hm
      injection hm with hm
      subst hm
      have : d < a.tmps.size := by rw [hp.sz]; exact hdn
      simp [this]
    · rw [Array.getElem?_setIfInBounds_ne hmd]
      refine hp.ok m x hm fun y hy => ?_
      by_cases hyu : y = u
      · subst hyu
        rw [hdo]
        simpa using hmd
      · exact hx y ((List.mem_erase_of_ne hyu).2 hy)
  have hy : Region.wanted o (yielded ops a.tmps) = (gAns ops e o == some true) ∧ (gAns ops e o).isSome := by
    unfold Region.wanted gAns
    cases hgd : o.guard with
    | none => simp
    | some q =>
      obtain ⟨j, want⟩ := q
      simp only
      cases hj : dstOf ops j with
      | none =>
        exfalso
        simp [gAns, hgd, hj] at hc
      | some gd =>
        cases hgv : e.get gd with
        | none =>
          exfalso
          simp [gAns, hgd, hj, hgv] at hc
        | some x =>
          have hx := hp.ok gd x hgv (free gd (by rw [hr]; simp [hgd, hj, guardSlots]))
          have hyl : yielded ops a.tmps j = boolOf x := by
            unfold yielded
            unfold dstOf at hj
            simp only [hj, Option.bind_some, hx]
            cases x <;> rfl
          simp [hyl, hgv]
  unfold wpOp
  simp only [ho]
  rcases hc with ⟨hg, hf⟩ | ⟨hg, rfl⟩
  · have hw : Region.wanted o (yielded ops a.tmps) = true := by rw [hy.1, hg]; rfl
    rw [if_pos hw]
    refine .inl ?_
    unfold Oper.wp
    rw [hf w a.eval hp.sm ?_]
    · simp only [Oper.upon]
      rw [hod]
      exact hn _ _ hput
    · intro x hx y hxy
      cases x with
      | tmp t =>
        have := hp.ok t y hxy (free t (by rw [hr]; exact List.mem_append_right _ (mem_slotsOf.2 hx)))
        simp [Act.eval, Array.getD_eq_getD_getElem?, this]
      | const c => simpa [Env.ev, Act.eval] using hxy
      | global c => simpa [Env.ev, Act.eval] using hxy
      | func c => simpa [Env.ev, Act.eval] using hxy
  · have hw : Region.wanted o (yielded ops a.tmps) = false := by rw [hy.1, hg]; rfl
    rw [hw]
    simp only [Bool.false_eq_true, if_false]
    rw [hod]
    exact hn _ _ hput

/-- An operation that only reads: it may be carried out now or later. -/
theorem HJ_add {i d : Nat} {o : Oper} {v : Value} (hreg : regOK ops = true) (pure : Bool) (ho : ops[i]? = some o) (hod : o.dst = some d) (hdn : Nat.blt d n = true) (hi : (!S.contains i && (dep ops i).all S.contains) = true)
    (hc : ∀ K', pure = true ∨ K' = K → (gAns ops e o = some true ∧ FS P B o e K' v) ∨ (gAns ops e o = some false ∧ v = undef))
    (h : HJ P B n ops Q (i :: S) (bif pure then i :: Cp else Cp) (bif pure then Cl else i :: Cl) ((d, v) :: e) K) : HJ P B n ops Q S Cp Cl e K := by
  intro hS hdn' hCS hcp hcl U a w hp
  obtain ⟨r1, r2, r3⟩ := regOK_spec hreg
  have hdn : d < n := by simpa [Nat.blt_eq] using hdn
  simp only [Bool.and_eq_true, Bool.not_eq_true', List.all_eq_true] at hi
  have hiS : i ∉ S := fun hm => by have := hi.1; simp [hm] at this
  have hisz : i < ops.size := (Array.getElem?_eq_some_iff.1 ho).1
  have hdo : dstOf ops i = some d := by simp [dstOf, ho, hod]
  have hget : ∀ m, m ≠ d → Env.get ((d, v) :: e) m = e.get m := fun m hm => by rw [Env.get_cons, if_neg (Ne.symm hm)]
  have old : ∀ u ∈ S, ∀ K', cert P B n ops e K' u → cert P B n ops ((d, v) :: e) K' u := fun u hu K' hc => by
    have husz := (hdn' u hu).1
    refine hc.env (fun t ht => hget t fun htd => ?_) (fun d' hd' => hget d' fun htd => ?_)
    · subst htd
      exact hiS ((hdn' u hu).2 i (r3 i u t hisz husz hdo ht))
    · subst htd
      exact r2 u i d' husz hisz (fun h => hiS (h ▸ hu)) hd' hdo
  have new : ∀ K', pure = true ∨ K' = K → cert P B n ops ((d, v) :: e) K' i := fun K' hK' => by
    have hcc := hc K' hK'
    have hself : ∀ t ∈ readsOf ops i, t ≠ d := fun t ht htd => by
      subst htd
      exact absurd (r1 i hisz i (r3 i i t hisz hisz hdo ht)) (Nat.lt_irrefl i)
    have hr : readsOf ops i = guardSlots ops o.guard ++ slotsOf o.op.operands.toList := by simp [readsOf, ho]
    have hg : gAns ops ((d, v) :: e) o = gAns ops e o := by
      unfold gAns
      cases hgd : o.guard with
      | none => rfl
      | some q =>
        obtain ⟨j, want⟩ := q
        simp only
        cases hj : dstOf ops j with
        | none => rfl
        | some gd =>
          simp only [Option.bind_some]
          rw [hget gd (hself gd (by rw [hr]; simp [hgd, hj, guardSlots]))]
    refine ⟨o, d, v, ho, hod, hdn, by simp [Env.get_cons], ?_⟩
    rw [hg]
    exact hcc.imp (fun h => ⟨h.1, h.2.env fun t ht => hget t (hself t (by rw [hr]; exact List.mem_append_right _ ht))⟩) id
  have hmem : ∀ u, u ∈ (bif pure then i :: Cp else Cp) ++ (bif pure then Cl else i :: Cl) ↔ u = i ∨ u ∈ Cp ++ Cl := by
    intro u
    cases pure <;> simp [or_left_comm]
  have hUi : i ∉ U := fun hm => hiS (hCS i (hp.sub i hm))
  have := h (List.nodup_cons.2 ⟨hiS, hS⟩) (fun x hx => by
      rcases List.mem_cons.1 hx with rfl | hx
      · exact ⟨hisz, fun j hj => List.mem_cons_of_mem _ (by simpa using hi.2 j hj)⟩
      · exact ⟨(hdn' x hx).1, fun j hj => List.mem_cons_of_mem _ ((hdn' x hx).2 j hj)⟩)
    (fun u hu => by
      rcases (hmem u).1 hu with rfl | hu
      · exact List.mem_cons_self ..
      · exact List.mem_cons_of_mem _ (hCS u hu))
    (fun u hu K' => by
      cases pure with
      | true =>
        simp only [cond_true] at hu
        rcases List.mem_cons.1 hu with rfl | hu
        · exact new K' (.inl rfl)
        · exact old u (hCS u (List.mem_append_left _ hu)) K' (hcp u hu K')
      | false => exact old u (hCS u (List.mem_append_left _ hu)) K' (hcp u hu K'))
    (fun u hu => by
      cases pure with
      | true => exact old u (hCS u (List.mem_append_right _ hu)) K (hcl u hu)
      | false =>
        simp only [cond_false] at hu
        rcases List.mem_cons.1 hu with rfl | hu
        · exact new K (.inr rfl)
        · exact old u (hCS u (List.mem_append_right _ hu)) K (hcl u hu))
    (i :: U) a w ⟨List.nodup_cons.2 ⟨hUi, hp.nd⟩, fun u hu => (hmem u).2 ((List.mem_cons.1 hu).imp id (hp.sub u)), fun x hx hxU j hj hm => by
      have hxi : x ≠ i := fun h => hxU (h ▸ List.mem_cons_self ..)
      have hxS : x ∈ S := (List.mem_cons.1 hx).resolve_left hxi
      rcases List.mem_cons.1 hm with rfl | hm
      · exact hiS ((hdn' x hxS).2 j hj)
      · exact hp.cl x hxS (fun h => hxU (List.mem_cons_of_mem _ h)) j hj hm, hp.df, hp.sz, fun m x hm hx => by
      have hne : m ≠ d := fun h => hx i (List.mem_cons_self ..) (h ▸ hdo)
      rw [hget m hne] at hm
      exact hp.ok m x hm fun u hu => hx u (List.mem_cons_of_mem _ hu), hp.sm⟩
  have heq : (i :: S).filter (fun x => !(i :: U).contains x) = S.filter (fun x => !U.contains x) := by
    rw [List.filter_cons_of_neg (by simp)]
    refine List.filter_congr fun x hx => ?_
    have : x ≠ i := fun h => hiS (h ▸ hx)
    simp [this]
  rw [heq] at this
  exact this
end
end Go.Proofs.Ytmhjcemcjfkejaa
