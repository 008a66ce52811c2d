/- The calculus, fifteenth part: two operations of a drawn region that come in either order. -/
import Derived.Test.YtmhjcemcjfkejaaJ14
namespace Go.Proofs.Ytmhjcemcjfkejaa
open Go.RowKit
set_option linter.unusedVariables false
set_option linter.unusedSimpArgs false

section
variable {P : Program} {B : Base} {n : Nat} {ops : Array Oper} {Q : Exit → Act → World → Prop} {S S' Cp Cl : List Nat} {e : Env} {K K' : List Ent}
theorem FS.perm {o : Oper} {v : Value} (hp : K'.Perm K) (h : FS P B o e K v) : FS P B o e K' v := fun w ρ hw ha => h w ρ (hw.perm hp) ha
theorem cert.perm {u : Nat} (hp : K'.Perm K) (h : cert P B n ops e K u) : cert P B n ops e K' u := by
  obtain ⟨o, d, v, h1, h2, h3, h4, h5⟩ := h
  exact ⟨o, d, v, h1, h2, h3, h4, h5.imp (fun h => ⟨h.1, h.2.perm hp⟩) id⟩
theorem HJ_perm (hp : K'.Perm K) (h : HJ P B n ops Q S Cp Cl e K) : HJ P B n ops Q S Cp Cl e K' := by
  intro hS hdn hCS hcp hcl U a w hpi
  exact h hS hdn hCS hcp (fun u hu => (hcl u hu).perm hp.symm) U a w ⟨hpi.nd, hpi.sub, hpi.cl, hpi.df, hpi.sz, hpi.ok, hpi.sm.perm hp⟩
theorem HJ_permS (hp : ∀ x, x ∈ S' ↔ x ∈ S) (hn : S.Nodup) (h : HJ P B n ops Q S Cp Cl e K) : HJ P B n ops Q S' Cp Cl e K := by
  intro hS hdn hCS hcp hcl U a w hpi
  refine wpX_congr (hn.filter _) (hS.filter _) (fun i => by simp [hp i]) (h hn (fun i hi => ⟨(hdn i ((hp i).2 hi)).1, fun j hj => (hp j).1 ((hdn i ((hp i).2 hi)).2 j hj)⟩) (fun u hu => (hp u).1 (hCS u hu)) hcp hcl U a w
    ⟨hpi.nd, hpi.sub, fun x hx => hpi.cl x ((hp x).2 hx), hpi.df, hpi.sz, hpi.ok, hpi.sm⟩)

/-- An operation whose slots e and e' say the same of. -/
theorem LS.env {o : Oper} {e' : Env} {ι : Type} {v : ι → Value} {L : ι → List Ent} (hg : ∀ m ∈ slotsOf o.op.operands.toList, e'.get m = e.get m) (h : LS P B o e K v L) : LS P B o e' K v L := by
  intro w a hw ha
  refine h w a hw fun x hx u hu => ha x hx u ?_
  cases x with
  | tmp m =>
    have := hg m (mem_slotsOf.2 hx)
    simpa [Env.ev, this] using hu
  | const c => exact hu
  | global c => exact hu
  | func c => exact hu

def pairOK (ops : Array Oper) (sched : List (Nat × Bool)) (q i j : Nat) : Bool :=
  let S := schedIn sched q
  !S.contains j && (dep ops j).all S.contains && ((List.range ops.size).all fun x => S.contains x || [i, j].contains x || !((dep ops x).all S.contains)) &&
    ((List.range ops.size).all fun x => (j :: S).contains x || [i].contains x || !((dep ops x).all (j :: S).contains)) &&
    ((List.range ops.size).all fun x => (i :: S).contains x || [j].contains x || !((dep ops x).all (i :: S).contains))

variable {sched : List (Nat × Bool)} {q i j : Nat} {l l' : Bool} {d1 d2 : Tmp} {op1 op2 : Op} {t1 t2 : TypeId} {p1 p2 : String} {af1 af2 : Array Edge}

theorem HQ_two (hs : schedOK ops sched = true) (hp : pairOK ops sched q i j = true) {ι κ : Type} {v1 : ι → Value} {v2 : κ → Value} {L1 : ι → List Ent} {L2 : κ → List Ent} (hq : sched[q]? = some (i, l)) (hq2 : sched[q + 1]? = some (j, l'))
    (ho1 : ops[i]? = some ⟨some d1, op1, t1, p1, af1, none⟩) (ho2 : ops[j]? = some ⟨some d2, op2, t2, p2, af2, none⟩)
    (hf1 : ∀ F, LS P B ⟨some d1, op1, t1, p1, af1, none⟩ e (K ++ F) v1 (fun x => (K ++ F) ++ L1 x)) (hf2 : ∀ F, LS P B ⟨some d2, op2, t2, p2, af2, none⟩ e (K ++ F) v2 (fun y => (K ++ F) ++ L2 y))
    (hd1 : Nat.blt d1 n = true) (hd2 : Nat.blt d2 n = true)
    (h : ∀ x y, HQ P B n ops Q sched (q + 2) (stay ops j (stay ops i Cp)) (stay ops j (stay ops i Cl)) ((d2, v2 y) :: (d1, v1 x) :: e) ((K ++ L1 x) ++ L2 y)) : HQ P B n ops Q sched q Cp Cl e K := by
  obtain ⟨hreg, hin, _⟩ := sched_at hs hq
  obtain ⟨r1, r2, r3⟩ := regOK_spec hreg
  simp only [Bool.and_eq_true, Bool.not_eq_true', List.all_eq_true] at hin
  unfold pairOK at hp
  simp only [Bool.and_eq_true, Bool.not_eq_true'] at hp
  obtain ⟨⟨⟨⟨hj1, hj2⟩, hp1⟩, hp2⟩, hp3⟩ := hp
  have hd1 : d1 < n := by simpa [Nat.blt_eq] using hd1
  have hd2 : d2 < n := by simpa [Nat.blt_eq] using hd2
  have hisz := (Array.getElem?_eq_some_iff.1 ho1).1
  have hjsz := (Array.getElem?_eq_some_iff.1 ho2).1
  have hiS : i ∉ schedIn sched q := fun hm => by simp [hm] at hin
  have hjS : j ∉ schedIn sched q := fun hm => by simp [hm] at hj1
  have hdi : ∀ x ∈ dep ops i, x ∈ schedIn sched q := fun x hx => by simpa using hin.2 x hx
  have hdj : ∀ x ∈ dep ops j, x ∈ schedIn sched q := fun x hx => by simpa using (List.all_eq_true.1 hj2) x hx
  have h2 := sched_succ hq
  have h3 := sched_succ hq2
  have hji : j ≠ i := by
    intro hji
    obtain ⟨_, hin2, _⟩ := sched_at hs hq2
    rw [← h2, hji] at hin2
    simp at hin2
  have hd12 : d1 ≠ d2 := fun hdd => r2 i j d1 hisz hjsz (Ne.symm hji) (by simp [dstOf, ho1]) (by simp [dstOf, ho2, hdd])
  -- neither looks at the other's slot
  have sl1 : ∀ m ∈ slotsOf op1.operands.toList, m ≠ d2 := fun m hm hmd => hjS (hdi j (r3 j i m hjsz hisz (by simp [dstOf, ho2, hmd]) (by simp [readsOf, ho1, hm])))
  have sl2 : ∀ m ∈ slotsOf op2.operands.toList, m ≠ d1 := fun m hm hmd => hiS (hdj i (r3 i j m hisz hjsz (by simp [dstOf, ho1, hmd]) (by simp [readsOf, ho2, hm])))
  have hput : ∀ (m d : Nat) (v : Value), m ≠ d → Env.get ((d, v) :: e) m = e.get m := fun m d v hm => by rw [Env.get_cons, if_neg (Ne.symm hm)]
  have hstay : ∀ C, stay ops j (stay ops i C) = stay ops i (stay ops j C) := fun C => by simp only [stay, List.filter_filter, Bool.and_comm]
  have both : ∀ x y, HJ P B n ops Q (j :: i :: schedIn sched q) (stay ops j (stay ops i Cp)) (stay ops j (stay ops i Cl)) ((d2, v2 y) :: (d1, v1 x) :: e) ((K ++ L1 x) ++ L2 y) := fun x y => by
    have := h x y
    unfold HQ at this
    rw [← h3, ← h2] at this
    exact this
  intro hS hdn hCS hcp hcl
  refine HJ_louds hreg [i, j] (by simp) hp1 (fun m hm => ?_) hS hdn hCS hcp hcl
  have certs : ∀ (L : List Ent) (k : Nat), ∀ u ∈ stay ops k Cl, cert P B n ops e (K ++ L) u := fun L k u hu => (hcl u (List.mem_filter.1 hu).1).more
  simp only [List.mem_cons, List.not_mem_nil, or_false] at hm
  rcases hm with rfl | rfl
  · refine ⟨ι, _, v1, fun x => K ++ L1 x, ho1, fun d hd => by injection hd with hd; exact hd ▸ hd1, hiS, hdi, .inl ⟨gAns_none rfl, by simpa using hf1 []⟩, fun x => ⟨certs (L1 x) m, ?_⟩⟩
    intro hS' hdn' hCS' hcp' hcl'
    refine HJ_louds hreg [j] (by simp) hp3 (fun m' hm' => ?_) hS' hdn' hCS' hcp' hcl'
    obtain rfl := List.mem_singleton.1 hm'
    refine ⟨κ, _, v2, fun y => (K ++ L1 x) ++ L2 y, ho2, fun d hd => by injection hd with hd; exact hd ▸ hd2, by simp [hji, hjS], fun z hz => List.mem_cons_of_mem _ (hdj z hz), .inl ⟨gAns_none rfl, LS.env (fun m hm => hput m _ _ (sl2 m hm)) (hf2 (L1 x))⟩, fun y => ⟨fun u hu => (hcl' u (List.mem_filter.1 hu).1).more, ?_⟩⟩
    exact both x y
  · refine ⟨κ, _, v2, fun y => K ++ L2 y, ho2, fun d hd => by injection hd with hd; exact hd ▸ hd2, hjS, hdj, .inl ⟨gAns_none rfl, by simpa using hf2 []⟩, fun y => ⟨certs (L2 y) m, ?_⟩⟩
    intro hS' hdn' hCS' hcp' hcl'
    refine HJ_louds hreg [i] (by simp) hp2 (fun m' hm' => ?_) hS' hdn' hCS' hcp' hcl'
    obtain rfl := List.mem_singleton.1 hm'
    refine ⟨ι, _, v1, fun x => (K ++ L2 y) ++ L1 x, ho1, fun d hd => by injection hd with hd; exact hd ▸ hd1, by simp [Ne.symm hji, hiS], fun z hz => List.mem_cons_of_mem _ (hdi z hz), .inl ⟨gAns_none rfl, LS.env (fun m hm => hput m _ _ (sl1 m hm)) (hf1 (L2 y))⟩, fun x => ⟨fun u hu => (hcl' u (List.mem_filter.1 hu).1).more, ?_⟩⟩
    have hb := both x y
    rw [hstay, hstay] at hb
    refine HJ_env (e' := (d2, v2 y) :: (d1, v1 x) :: e) (fun m => ?_) (HJ_perm ?_ (HJ_permS (fun z => ?_) (List.nodup_cons.2 ⟨by simp [hji, hjS], List.nodup_cons.2 ⟨hiS, hS⟩⟩) hb))
    · show Env.get ((d2, v2 y) :: (d1, v1 x) :: e) m = Env.get ((d1, v1 x) :: (d2, v2 y) :: e) m
      simp only [Env.get_cons]
      by_cases h1 : d2 = m
      · subst h1
        simp [hd12]
      · by_cases h2 : d1 = m <;> simp [h1, h2]
    · simp only [List.append_assoc]
      exact List.Perm.append_left K List.perm_append_comm
    · simp only [List.mem_cons]
      exact ⟨fun h => by rcases h with h | h | h <;> simp [h], fun h => by rcases h with h | h | h <;> simp [h]⟩
end
end Go.Proofs.Ytmhjcemcjfkejaa
