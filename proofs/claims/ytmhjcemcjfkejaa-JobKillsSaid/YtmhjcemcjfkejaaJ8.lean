/- The calculus, eighth part: a drawn region's begin, its louder operations, its end. -/
import Derived.Test.YtmhjcemcjfkejaaJ7
namespace Go.Proofs.Ytmhjcemcjfkejaa
open Go.RowKit
set_option linter.unusedVariables false
set_option linter.unusedSimpArgs false

/-- What i waits for, and what that waits for, as bits. -/
def depMask (ops : Array Oper) (i : Nat) : Nat := (dep ops i).foldl (fun m j => m ||| 2 ^ j) 0
def ancMask (ops : Array Oper) : Nat → Nat → Nat
  | 0, m => m
  | j + 1, m => ancMask ops j (bif m.testBit j then m ||| depMask ops j else m)
theorem depMask_spec {ops : Array Oper} {i b : Nat} (h : (depMask ops i).testBit b = true) : b ∈ dep ops i := by
  unfold depMask at h
  have key : ∀ (l : List Nat) (m : Nat), (l.foldl (fun m j => m ||| 2 ^ j) m).testBit b = true → m.testBit b = true ∨ b ∈ l := by
    intro l
    induction l with
    | nil => intro m h; exact .inl h
    | cons x r ih =>
      intro m h
      rcases ih _ h with h | h
      · rw [Nat.testBit_or, Bool.or_eq_true] at h
        rcases h with h | h
        · exact .inl h
        · rw [Nat.testBit_two_pow] at h
          simp at h
          exact .inr (by simp [h])
      · exact .inr (List.mem_cons_of_mem _ h)
  rcases key _ _ h with h | h
  · simp at h
  · exact h
theorem ancMask_spec {ops : Array Oper} {X : List Nat} (hX : ∀ i ∈ X, ∀ j ∈ dep ops i, j ∈ X) : ∀ (k m : Nat), (∀ b, m.testBit b = true → b ∈ X) → ∀ b, (ancMask ops k m).testBit b = true → b ∈ X
  | 0, m, h, b, hb => h b hb
  | k + 1, m, h, b, hb => by
    refine ancMask_spec hX k _ (fun c hc => ?_) b hb
    cases hk : m.testBit k with
    | false => rw [hk] at hc; exact h c hc
    | true =>
      rw [hk] at hc
      simp only [cond_true, Nat.testBit_or, Bool.or_eq_true] at hc
      rcases hc with hc | hc
      · exact h c hc
      · exact hX k (h k hk) c (depMask_spec hc)
/-- Those of C that may still be to come when l is carried out. -/
def stay (ops : Array Oper) (l : Nat) (C : List Nat) : List Nat := C.filter fun u => !(ancMask ops l (depMask ops l)).testBit u

section
variable (P : Program) (B : Base) (n : Nat) (ops : Array Oper) (Q : Exit → Act → World → Prop)
/-- What is owed where operation l is carried out next. -/
def LJ (S Cp Cl : List Nat) (e : Env) (K : List Ent) (l : Nat) : Prop :=
  ∃ (ι : Type) (o : Oper) (v : ι → Value) (K' : ι → List Ent), ops[l]? = some o ∧ (∀ d, o.dst = some d → d < n) ∧ l ∉ S ∧ (∀ j ∈ dep ops l, j ∈ S) ∧ ((gAns ops e o = some true ∧ LS P B o e K v K') ∨ (gAns ops e o = some false ∧ ∃ i, v i = undef ∧ K' i = K)) ∧
    ∀ i, (∀ u ∈ stay ops l Cl, cert P B n ops e (K' i) u) ∧ HJ P B n ops Q (l :: S) (stay ops l Cp) (stay ops l Cl) (e.put o.dst (v i)) (K' i)
end

section
variable {P : Program} {B : Base} {n : Nat} {ops : Array Oper} {Q : Exit → Act → World → Prop} {S Cp Cl : List Nat} {e : Env} {K : List Ent}

theorem wpX_congr {X X' : List Nat} {a : Act} {w : World} (hX : X.Nodup) (hX' : X'.Nodup) (h : ∀ i, i ∈ X ↔ i ∈ X') (hw : wpX P ops Q X a w) : wpX P ops Q X' a w := by
  have hp : X.Perm X' := (List.perm_ext_iff_of_nodup hX hX').2 h
  intro fuel listed hs hl hf hn hsz
  exact hw fuel listed hs (fun i hi => by rw [hl i hi]; simp [h i]) (by rw [hp.length_eq]; exact hf) hX (fun i hi => hsz i ((h i).1 hi))
theorem exists_min : ∀ {U : List Nat}, U ≠ [] → ∃ u ∈ U, ∀ x ∈ U, u ≤ x
  | [], h => absurd rfl h
  | [x], _ => ⟨x, by simp, by simp⟩
  | x :: y :: r, _ => by
    obtain ⟨u, hu, hm⟩ := exists_min (U := y :: r) (by simp)
    by_cases hxu : x ≤ u
    · exact ⟨x, by simp, fun z hz => by
        rcases List.mem_cons.1 hz with rfl | hz
        · exact Nat.le_refl _
        · exact Nat.le_trans hxu (hm z hz)⟩
    · exact ⟨u, List.mem_cons_of_mem _ hu, fun z hz => by
        rcases List.mem_cons.1 hz with rfl | hz
        · omega
        · exact hm z hz⟩

/-- One after another: whatever is still to come is carried out, until what is asked for stands. -/
theorem HJ_drive (hreg : regOK ops = true) (hgo : (∃ l, l < ops.size ∧ l ∉ S ∧ ∀ j ∈ dep ops l, j ∈ S) ∨ ∀ i, i < ops.size → i ∈ S)
    (hend : (∀ i, i < ops.size → i ∈ S) → ∀ a w, PI B n ops S (Cp ++ Cl) e K [] a w → Q .normal a w)
    (hloud : ∀ i, i < ops.size → i ∉ S → (∀ j ∈ dep ops i, j ∈ S) → ∀ U a w, (∀ j ∈ dep ops i, j ∉ U) → PI B n ops S (Cp ++ Cl) e K U a w → wpOp P ops Q i (wpX P ops Q (i :: S.filter fun i => !U.contains i)) a w) :
    HJ P B n ops Q S Cp Cl e K := by
  intro hS hdn hCS hcp hcl U a w hp
  obtain ⟨r1, r2, r3⟩ := regOK_spec hreg
  have key : ∀ m U a w, U.length = m → PI B n ops S (Cp ++ Cl) e K U a w → wpX P ops Q (S.filter fun i => !U.contains i) a w := by
    intro m
    induction m using Nat.strongRecOn with
    | _ m ih =>
      intro U a w hm hp
      have hX : ∀ i, i ∈ S.filter (fun i => !U.contains i) ↔ i ∈ S ∧ i ∉ U := by intro i; simp
      have hUS : ∀ u ∈ U, u ∈ S := fun u hu => hCS u (hp.sub u hu)
      refine wpX_intro (fun hall => ?_) ?_ r1 (fun i hi hiX hdep => ?_)
      · have hU : U = [] := by
          rw [List.eq_nil_iff_forall_not_mem]
          exact fun u hu => ((hX u).1 (hall u (hdn u (hUS u hu)).1)).2 hu
        subst hU
        exact hend (fun i hi => ((hX i).1 (hall i hi)).1) a w hp
      · rcases Classical.em (U = []) with hU | hU
        · subst hU
          rcases hgo with ⟨l, h1, h2, h3⟩ | hall
          · exact .inr ⟨l, h1, fun hm => h2 ((hX l).1 hm).1, fun j hj => (hX j).2 ⟨h3 j hj, by simp⟩⟩
          · exact .inl fun i hi => (hX i).2 ⟨hall i hi, by simp⟩
        · obtain ⟨u, hu, hmin⟩ := exists_min hU
          refine .inr ⟨u, (hdn u (hUS u hu)).1, fun hm => ((hX u).1 hm).2 hu, fun j hj => (hX j).2 ⟨(hdn u (hUS u hu)).2 j hj, fun hjU => ?_⟩⟩
          have h1 := r1 u (hdn u (hUS u hu)).1 j hj
          have h2 := hmin j hjU
          omega
      · have hdS : ∀ j ∈ dep ops i, j ∈ S := fun j hj => ((hX j).1 (hdep j hj)).1
        have hdU : ∀ j ∈ dep ops i, j ∉ U := fun j hj => ((hX j).1 (hdep j hj)).2
        rcases Classical.em (i ∈ S) with hiS | hiS
        · have hiU : i ∈ U := by
            rcases Classical.em (i ∈ U) with h | h
            · exact h
            · exact absurd ((hX i).2 ⟨hiS, h⟩) hiX
          have hc : cert P B n ops e K i := by
            rcases List.mem_append.1 (hp.sub i hiU) with h | h
            · exact hcp i h K
            · exact hcl i h
          refine run_pending hreg (fun j hj => (hdn j (hCS j hj)).1) hc hiU hp hdU fun a' w' hp' => ?_
          have hlen : (U.erase i).length < m := by
            have := List.length_pos_of_mem hiU
            rw [List.length_erase_of_mem hiU]
            omega
          refine wpX_congr (hS.filter _) (List.nodup_cons.2 ⟨hiX, hS.filter _⟩) (fun j => ?_) (ih _ hlen (U.erase i) a' w' rfl hp')
          simp only [List.mem_filter, Bool.not_eq_true', List.mem_cons]
          by_cases hji : j = i
          · subst hji
            simp [hiS, hp.nd.mem_erase_iff]
          · simp [hji, hp.nd.mem_erase_iff]
        · exact hloud i hi hiS hdS U a w hdU hp
  exact key U.length U a w rfl hp

theorem gAns_wanted {o : Oper} {a : Act} (hg : gAns ops e o = some true) (hok : ∀ m ∈ guardSlots ops o.guard, ∀ v, e.get m = some v → a.tmps[m]? = some v) : Region.wanted o (yielded ops a.tmps) = true := by
  unfold Region.wanted
  unfold gAns at hg
  cases hgd : o.guard with
  | none => rfl
  | some q =>
    obtain ⟨j, want⟩ := q
    simp only [hgd] at hg ⊢
    cases hj : dstOf ops j with
    | none => simp [hj] at hg
    | some gd =>
      cases hgv : e.get gd with
      | none => simp [hj, hgv] at hg
      | some x =>
        have hx := hok gd (by simp [guardSlots, hgd, hj]) x hgv
        simp only [hj, Option.bind_some, hgv, Option.map_some, Option.some.injEq] at hg
        have hyl : yielded ops a.tmps j = boolOf x := by
          unfold yielded
          unfold dstOf at hj
          simp only [hj, Option.bind_some, hx]
          cases x <;> rfl
        rw [hyl]
        exact hg

theorem gAns_unwanted {o : Oper} {a : Act} (hg : gAns ops e o = some false) (hok : ∀ m ∈ guardSlots ops o.guard, ∀ v, e.get m = some v → a.tmps[m]? = some v) : Region.wanted o (yielded ops a.tmps) = false := by
  unfold Region.wanted
  unfold gAns at hg
  cases hgd : o.guard with
  | none => simp [hgd] at hg
  | some q =>
    obtain ⟨j, want⟩ := q
    simp only [hgd] at hg ⊢
    cases hj : dstOf ops j with
    | none => simp [hj] at hg
    | some gd =>
      cases hgv : e.get gd with
      | none => simp [hj, hgv] at hg
      | some x =>
        have hx := hok gd (by simp [guardSlots, hgd, hj]) x hgv
        simp only [hj, Option.bind_some, hgv, Option.map_some, Option.some.injEq] at hg
        have hyl : yielded ops a.tmps j = boolOf x := by
          unfold yielded
          unfold dstOf at hj
          simp only [hj, Option.bind_some, hx]
          cases x <;> rfl
        rw [hyl]
        exact hg

/-- The louder operations that may come next: all of them. -/
theorem HJ_louds (hreg : regOK ops = true) (Ls : List Nat) (hne : Ls ≠ []) (hchk : ((List.range ops.size).all fun j => S.contains j || Ls.contains j || !((dep ops j).all S.contains)) = true)
    (h : ∀ l ∈ Ls, LJ P B n ops Q S Cp Cl e K l) : HJ P B n ops Q S Cp Cl e K := by
  intro hS hdn hCS hcp hcl
  obtain ⟨r1, r2, r3⟩ := regOK_spec hreg
  obtain ⟨l0, hl0⟩ := List.exists_mem_of_ne_nil Ls hne
  obtain ⟨_, o0, _, _, ho0, _, hl0S, hl0d, _⟩ := h l0 hl0
  have hl0sz := (Array.getElem?_eq_some_iff.1 ho0).1
  refine HJ_drive hreg (.inl ⟨l0, hl0sz, hl0S, hl0d⟩) (fun hall => absurd (hall l0 hl0sz) hl0S) (fun l hl hlS hld U a w hdU hp => ?_) hS hdn hCS hcp hcl
  have hlL : l ∈ Ls := by
    have := (List.all_eq_true.1 hchk) l (List.mem_range.2 hl)
    simp only [Bool.or_eq_true, Bool.not_eq_true'] at this
    rcases this with (h1 | h1) | h1
    · exact absurd (by simpa using h1) hlS
    · simpa using h1
    · exfalso
      rw [List.all_eq_false] at h1
      obtain ⟨j, hj, hj'⟩ := h1
      exact hj' (by simpa using hld j hj)
  obtain ⟨ι, o, v, K', ho, hd, _, _, hgl, hnext⟩ := h l hlL
  have hr : readsOf ops l = guardSlots ops o.guard ++ slotsOf o.op.operands.toList := by simp [readsOf, ho]
  have hUsz : ∀ u ∈ U, u < ops.size := fun u hu => (hdn u (hCS u (hp.sub u hu))).1
  have free : ∀ t ∈ readsOf ops l, ∀ x ∈ U, dstOf ops x ≠ some t := fun t ht x hx hdx => hdU x (r3 x l t (hUsz x hx) hl hdx ht) hx
  have hlU : l ∉ U := fun hm => hlS (hCS l (hp.sub l hm))
  have hgk : ∀ m ∈ guardSlots ops o.guard, ∀ x, e.get m = some x → a.tmps[m]? = some x := fun m hm x hx => hp.ok m x hx (free m (by rw [hr]; exact List.mem_append_left _ hm))
  have go : ∀ i w', SM B (K' i) w' → wpX P ops Q (l :: S.filter fun i => !U.contains i) (a.put o.dst (v i)) w' := by
    intro i w' hw'
    obtain ⟨hcl', hj⟩ := hnext i
    have hSsub : ∀ x ∈ S, ∀ t, t ∈ readsOf ops x → o.dst ≠ some t := fun x hx t ht hdt =>
      hlS ((hdn x hx).2 l (r3 l x t hl (hdn x hx).1 (by simp [dstOf, ho, hdt]) ht))
    have hSd : ∀ x ∈ S, ∀ t, dstOf ops x = some t → o.dst ≠ some t := fun x hx t ht hdt =>
      r2 x l t (hdn x hx).1 hl (fun h => hlS (h ▸ hx)) ht (by simp [dstOf, ho, hdt])
    have hget : ∀ m, o.dst ≠ some m → Env.get (e.put o.dst (v i)) m = e.get m := fun m hm => by
      cases hod : o.dst with
      | none => rfl
      | some d =>
        simp only [Env.put]
        rw [Env.get_cons, if_neg (fun h => hm (by rw [hod, h]))]
    have move : ∀ u ∈ S, ∀ K'', cert P B n ops e K'' u → cert P B n ops (e.put o.dst (v i)) K'' u := fun u hu K'' hc =>
      hc.env (fun t ht => hget t (hSsub u hu t ht)) (fun d' hd' => hget d' (hSd u hu d' hd'))
    have stayS : ∀ {C : List Nat}, (∀ u ∈ C, u ∈ S) → ∀ u ∈ stay ops l C, u ∈ S := fun hC u hu => hC u (List.mem_filter.1 hu).1
    have hXdown : ∀ x ∈ S.filter (fun i => !U.contains i), True := fun _ _ => trivial
    have res := hj (List.nodup_cons.2 ⟨hlS, hS⟩) (fun x hx => by
        rcases List.mem_cons.1 hx with rfl | hx
        · exact ⟨hl, fun j hj => List.mem_cons_of_mem _ (hld j hj)⟩
        · exact ⟨(hdn x hx).1, fun j hj => List.mem_cons_of_mem _ ((hdn x hx).2 j hj)⟩)
      (fun u hu => by
        rcases List.mem_append.1 hu with hu | hu
        · exact List.mem_cons_of_mem _ (stayS (fun u hu => hCS u (List.mem_append_left _ hu)) u hu)
        · exact List.mem_cons_of_mem _ (stayS (fun u hu => hCS u (List.mem_append_right _ hu)) u hu))
      (fun u hu K'' => move u (stayS (fun u hu => hCS u (List.mem_append_left _ hu)) u hu) K'' (hcp u (List.mem_filter.1 hu).1 K''))
      (fun u hu => move u (stayS (fun u hu => hCS u (List.mem_append_right _ hu)) u hu) _ (hcl' u hu))
      U (a.put o.dst (v i)) w' ⟨hp.nd, fun u hu => ?_, fun x hx hxU j hjd => by
        rcases List.mem_cons.1 hx with rfl | hx
        · exact hdU j hjd
        · exact hp.cl x hx hxU j hjd, (Act.defers_put _ _ _).trans hp.df, (Act.size_put _ _ _).trans hp.sz, fun m x hm hx => ?_, hw'⟩
    · refine wpX_congr ((List.nodup_cons.2 ⟨hlS, hS⟩).filter _) (List.nodup_cons.2 ⟨fun hm => hlS (List.mem_filter.1 hm).1, hS.filter _⟩) (fun j => ?_) res
      simp only [List.mem_filter, List.mem_cons]
      constructor
      · rintro ⟨rfl | h1, h2⟩
        · exact .inl rfl
        · exact .inr ⟨h1, h2⟩
      · rintro (rfl | ⟨h1, h2⟩)
        · exact ⟨.inl rfl, by simp [hlU]⟩
        · exact ⟨.inr h1, h2⟩
    · have hnot : (ancMask ops l (depMask ops l)).testBit u = false := by
        cases hb : (ancMask ops l (depMask ops l)).testBit u with
        | false => rfl
        | true =>
          exfalso
          -- what l waits for is done: S without U is closed downwards on it
          have hm := ancMask_spec (X := S.filter fun i => !U.contains i) (fun i hi j hj => by
              have hi' : i ∈ S ∧ i ∉ U := by simpa using hi
              have h1 := (hdn i hi'.1).2 j hj
              have h2 := hp.cl i hi'.1 hi'.2 j hj
              simpa using ⟨h1, h2⟩) l _ (fun b hb => by
              have hbd := depMask_spec hb
              simpa using ⟨hld b hbd, hdU b hbd⟩) u hb
          exact (by simpa using hm : u ∈ S ∧ u ∉ U).2 hu
      rcases List.mem_append.1 (hp.sub u hu) with h | h
      · exact List.mem_append_left _ (List.mem_filter.2 ⟨h, by simp [hnot]⟩)
      · exact List.mem_append_right _ (List.mem_filter.2 ⟨h, by simp [hnot]⟩)
    · cases hod : o.dst with
      | none =>
        rw [hod] at hm
        simp only [Act.put]
        exact hp.ok m x hm hx
      | some d =>
        rw [hod] at hm
        simp only [Env.put, Env.get_cons] at hm
        simp only [Act.put]
        by_cases hdm : d = m
        · subst hdm
          rw [if_pos rfl] at hm
          injection hm with hm
          subst hm
          have : d < a.tmps.size := by rw [hp.sz]; exact hd d hod
          simp [this]
        · rw [if_neg hdm] at hm
          rw [Array.getElem?_setIfInBounds_ne hdm]
          exact hp.ok m x hm hx
  unfold wpOp
  simp only [ho]
  rcases hgl with ⟨hg, hls⟩ | ⟨hg, i, hvi, hKi⟩
  · rw [if_pos (gAns_wanted hg hgk)]
    refine .inl (hls w a hp.sm (fun x hx y hxy => ?_) _ _ fun i w' hw' => go i w' hw')
    cases x with
    | tmp t =>
      have := hp.ok t y hxy (free t (by rw [hr]; exact List.mem_append_right _ (mem_slotsOf.2 hx)))
      simp [Act.eval, Array.getD_eq_getD_getElem?, this]
    | const c => simpa [Env.ev, Act.eval] using hxy
    | global c => simpa [Env.ev, Act.eval] using hxy
    | func c => simpa [Env.ev, Act.eval] using hxy
  · rw [if_neg (by rw [gAns_unwanted hg hgk]; simp)]
    have := go i w (hKi ▸ hp.sm)
    rw [hvi] at this
    exact this

/-- All are reckoned with. -/
theorem HJ_end (hreg : regOK ops = true) (hall : ((List.range ops.size).all S.contains) = true) (h : ∀ a w, AS n e a → SM B K w → Q .normal a w) : HJ P B n ops Q S Cp Cl e K := by
  have hall' : ∀ i, i < ops.size → i ∈ S := fun i hi => by simpa using (List.all_eq_true.1 hall) i (List.mem_range.2 hi)
  exact HJ_drive hreg (.inr hall') (fun _ a w hp => h a w ⟨hp.df, hp.sz, fun m v hm => hp.ok m v hm (by simp)⟩ hp.sm) (fun i hi hiS => absurd (hall' i hi) hiS)

/-- The frame's words are turned. -/
theorem HJ_env {e' : Env} (hg : ∀ m, e'.get m = e.get m) (h : HJ P B n ops Q S Cp Cl e' K) : HJ P B n ops Q S Cp Cl e K := by
  intro hS hdn hCS hcp hcl U a w hp
  exact h hS hdn hCS (fun u hu K' => (hcp u hu K').env (fun t _ => hg t) (fun d _ => hg d)) (fun u hu => (hcl u hu).env (fun t _ => hg t) (fun d _ => hg d)) U a w
    ⟨hp.nd, hp.sub, hp.cl, hp.df, hp.sz, fun m v hm hx => hp.ok m v (by rw [← hg]; exact hm) hx, hp.sm⟩
theorem Env.get_same {d : Nat} {u : Value} (hd : e.get d = some u) (m : Nat) : Env.get ((d, u) :: e) m = e.get m := by
  rw [Env.get_cons]
  by_cases h : d = m
  · subst h; rw [if_pos rfl, hd]
  · rw [if_neg h]
/-- A bool that is not known yet: two ways. -/
theorem HJ_ask (d : Nat) {b : Bool} (hd : e.get d = some (.bool b)) (ht : b = true → HJ P B n ops Q S Cp Cl ((d, .bool true) :: e) K) (hf : b = false → HJ P B n ops Q S Cp Cl ((d, .bool false) :: e) K) : HJ P B n ops Q S Cp Cl e K := by
  cases b with
  | true => exact HJ_env (Env.get_same hd) (ht rfl)
  | false => exact HJ_env (Env.get_same hd) (hf rfl)
end

theorem SM.drew {B : Base} {K : List Ent} {w : World} (h : SM B K w) : SM B K { w with drawn := w.drawn + 1 } :=
  ⟨⟨h.only.os, h.only.tape, h.only.output, h.only.size, h.only.block⟩, ⟨fun e he => (h.mem.ok e he).same fun _ _ => rfl, h.mem.nd⟩, h.own⟩
/-- A region that draws its order. -/
theorem JS_draw {P : Program} {Fin : Exit → Act → World → Prop} {B : Base} {n : Nat} {k : List It} {e : Env} {K : List Ent} {id : Nat} {l : List Oper} (hm : P.follows .mixedOrders = true)
    (h : HJ P B n l.toArray (wpS P Fin k) [] [] [] e K) : JS P Fin B n (.c (.region id l.toArray true) :: k) e K := by
  intro a w ha hw
  refine wp_region_any hm ?_
  have := h List.nodup_nil (by simp) (by simp) (by simp) (by simp) [] a _ ⟨List.nodup_nil, by simp, by simp, ha.df, ha.sz, fun m v hm _ => ha.ok m v hm, hw.drew⟩
  exact this l.toArray.size (Array.replicate l.toArray.size false) (by simp) (fun i hi => by
    have : i < l.length := by simpa using hi
    simp [this]) (by simp) (by simp) (by simp)
end Go.Proofs.Ytmhjcemcjfkejaa
