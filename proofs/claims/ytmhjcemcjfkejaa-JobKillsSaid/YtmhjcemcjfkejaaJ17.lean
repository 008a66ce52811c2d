/- The calculus, seventeenth part: entries in bundles; what one list of entries says of another; contracts that are widened. -/
import Derived.Test.YtmhjcemcjfkejaaJ16
namespace Go.Proofs.Ytmhjcemcjfkejaa
open Go.RowKit
set_option linter.unusedVariables false
set_option linter.unusedSimpArgs false

/-- Entries, as one. -/
def Ent.star (K : List Ent) : Ent := ⟨blks K, fun w => ∀ e ∈ K, e.ok w, fun w w' h hk e he => (hk e he).same fun b hb => h b (mem_blks.2 ⟨e, he, hb⟩), fun w hk b hb => by
  obtain ⟨e, he, hb⟩ := mem_blks.1 hb
  exact (hk e he).lt hb⟩
/-- What K says and owns, K' may say and own. -/
structure Imp (K K' : List Ent) : Prop where
  ok : ∀ w, (∀ e ∈ K, e.ok w) → ∀ e ∈ K', e.ok w
  bs : ∃ r, (blks K).Perm (blks K' ++ r)
theorem Imp.refl (K : List Ent) : Imp K K := ⟨fun _ h => h, [], by simp⟩
theorem Imp.trans {K L M : List Ent} (h : Imp K L) (k : Imp L M) : Imp K M := ⟨fun w hw => k.ok w (h.ok w hw), by
  obtain ⟨r, hr⟩ := h.bs
  obtain ⟨s, hs⟩ := k.bs
  exact ⟨s ++ r, hr.trans (by rw [← List.append_assoc]; exact hs.append_right r)⟩⟩
theorem Imp.perm {K L : List Ent} (h : K.Perm L) : Imp K L := ⟨fun w hw e he => hw e (h.mem_iff.2 he), [], by rw [List.append_nil]; exact h.flatMap_right Ent.bs⟩
theorem Imp.append {K K' L L' : List Ent} (h : Imp K K') (k : Imp L L') : Imp (K ++ L) (K' ++ L') := ⟨fun w hw e he => by
  rcases List.mem_append.1 he with he | he
  · exact h.ok w (fun e he => hw e (List.mem_append_left _ he)) e he
  · exact k.ok w (fun e he => hw e (List.mem_append_right _ he)) e he, by
  obtain ⟨r, hr⟩ := h.bs
  obtain ⟨s, hs⟩ := k.bs
  refine ⟨r ++ s, ?_⟩
  rw [blks_append, blks_append]
  refine (hr.append hs).trans ?_
  simp only [List.append_assoc]
  refine List.Perm.append_left _ ?_
  rw [← List.append_assoc, ← List.append_assoc]
  exact List.perm_append_comm.append_right s⟩
theorem Imp.left (K : List Ent) {L L' : List Ent} (h : Imp L L') : Imp (K ++ L) (K ++ L') := (Imp.refl K).append h
theorem Imp.right (K : List Ent) {L L' : List Ent} (h : Imp L L') : Imp (L ++ K) (L' ++ K) := h.append (Imp.refl K)
theorem Imp.cons (x : Ent) {L L' : List Ent} (h : Imp L L') : Imp (x :: L) (x :: L') := h.left [x]
theorem Imp.head {x y : Ent} (L : List Ent) (h : Imp [x] [y]) : Imp (x :: L) (y :: L) := h.right L
theorem Imp.drop (K L : List Ent) : Imp (K ++ L) K := ⟨fun w hw e he => hw e (List.mem_append_left _ he), blks L, by rw [blks_append]⟩
theorem Imp.swap (x y : Ent) (L : List Ent) : Imp (x :: y :: L) (y :: x :: L) := .perm (List.Perm.swap y x L)
theorem Imp.star (K : List Ent) : Imp K [.star K] := ⟨fun w hw e he => by
  simp only [List.mem_singleton] at he
  subst he
  exact hw, [], by simp [blks_one, Ent.star]⟩
theorem Imp.unstar (K : List Ent) : Imp [.star K] K := ⟨fun w hw => hw _ (List.mem_singleton.2 rfl), [], by simp [blks_one, Ent.star]⟩
theorem Imp.pack (K L : List Ent) : Imp (K ++ L) (.star K :: L) := (Imp.star K).right L
theorem Imp.open (K L : List Ent) : Imp (.star K :: L) (K ++ L) := (Imp.unstar K).right L
theorem pick_range : ∀ (l : List Ent), pick l (List.range l.length) = l := by
  intro l
  unfold pick
  induction l with
  | nil => rfl
  | cons x r ih =>
    rw [List.length_cons, List.range_succ_eq_map, List.filterMap_cons]
    simp only [List.length_cons, Nat.zero_lt_succ, List.getElem?_cons_zero, List.filterMap_map]
    congr 1
theorem pick_perm {K : List Ent} {is : List Nat} (hn : is.Nodup) : ∃ R, K.Perm (pick K is ++ R) := by
  have h1 : (List.range K.length).Perm (is.filter (fun j => decide (j < K.length)) ++ (List.range K.length).filter (fun j => !is.contains j)) := by
    refine (List.perm_ext_iff_of_nodup List.nodup_range ?_).2 fun j => ?_
    · rw [List.nodup_append]
      refine ⟨hn.filter _, List.nodup_range.filter _, fun x hx y hy hxy => ?_⟩
      subst hxy
      simp only [List.mem_filter, Bool.not_eq_true', List.contains_eq_mem, decide_eq_false_iff_not] at hx hy
      exact hy.2 hx.1
    · simp only [List.mem_append, List.mem_filter, List.mem_range, decide_eq_true_eq, Bool.not_eq_true', List.contains_eq_mem, decide_eq_false_iff_not]
      by_cases h : j ∈ is <;> simp [h]
  have h2 : (pick K (List.range K.length)).Perm (pick K (is.filter (fun j => decide (j < K.length))) ++ pick K ((List.range K.length).filter (fun j => !is.contains j))) := by
    have := h1.filterMap (K[·]?)
    rwa [List.filterMap_append] at this
  rw [pick_range] at h2
  refine ⟨pick K ((List.range K.length).filter (fun j => !is.contains j)), h2.trans (List.Perm.of_eq ?_)⟩
  congr 1
  unfold pick
  rw [List.filterMap_filter]
  congr 1
  funext j
  by_cases h : j < K.length
  · simp [h]
  · simp [h]
theorem Imp.pick {K : List Ent} (is : List Nat) (hn : is.Nodup) : Imp K (pick K is) := by
  obtain ⟨R, hR⟩ := pick_perm (K := K) hn
  exact (Imp.perm hR).trans (Imp.drop _ _)
theorem Imp.nodup {K K' : List Ent} (h : Imp K K') (hn : (blks K).Nodup) : (blks K').Nodup := by
  obtain ⟨r, hr⟩ := h.bs
  exact (List.nodup_append.1 (hr.nodup_iff.1 hn)).1
theorem Imp.sub {K K' : List Ent} (h : Imp K K') {b : Nat} (hb : b ∈ blks K') : b ∈ blks K := by
  obtain ⟨r, hr⟩ := h.bs
  exact hr.mem_iff.2 (List.mem_append_left _ hb)
theorem Mem.imp {w : World} {K K' : List Ent} (h : Mem w K) (k : Imp K K') : Mem w K' := ⟨k.ok w h.ok, k.nodup h.nd⟩
theorem SM.imp {B : Base} {K K' : List Ent} {w : World} (h : SM B K w) (k : Imp K K') : SM B K' w := ⟨h.only, h.mem.imp k, fun b hb => h.own b (k.sub hb)⟩
/-- Those that are named by place go into a bundle, which is the first. -/
theorem Imp.packs {K : List Ent} (is js : List Nat) (hn : (is ++ js).Nodup) : Imp K (.star (Go.Proofs.Ytmhjcemcjfkejaa.pick K is) :: Go.Proofs.Ytmhjcemcjfkejaa.pick K js) := by
  have := Imp.pick (K := K) (is ++ js) hn
  rw [pick_append] at this
  exact this.trans (Imp.pack _ _)

/-! ## A row of bundles -/
def Ent.row {α : Type} (f : α → Ent) (l : List α) : Ent := .star (l.map f)
theorem Imp.row_open {α : Type} {f : α → Ent} {l : List α} {i : Nat} {x : α} (hi : l[i]? = some x) : Imp [.row f l] [f x, .row f (l.eraseIdx i)] := by
  refine (Imp.unstar _).trans ((Imp.perm ?_).trans ((Imp.star ((l.eraseIdx i).map f)).left [f x]))
  obtain ⟨hlt, hx⟩ := List.getElem?_eq_some_iff.1 hi
  have hl : l = l.take i ++ x :: l.drop (i + 1) := by rw [← hx, ← List.drop_eq_getElem_cons hlt, List.take_append_drop]
  have he : l.eraseIdx i = l.take i ++ l.drop (i + 1) := List.eraseIdx_eq_take_drop_succ ..
  rw [he]
  conv => lhs; rw [hl]
  simp only [List.map_append, List.map_cons]
  exact List.perm_middle
theorem Imp.row_close {α : Type} {f : α → Ent} {l : List α} {i : Nat} (y : α) (hi : i < l.length) : Imp [f y, .row f (l.eraseIdx i)] [.row f (l.set i y)] := by
  refine ((Imp.unstar ((l.eraseIdx i).map f)).left [f y]).trans ((Imp.perm ?_).trans (Imp.star _))
  have hl : l.set i y = l.take i ++ y :: l.drop (i + 1) := List.set_eq_take_append_cons_drop .. |>.trans (by rw [if_pos hi])
  have he : l.eraseIdx i = l.take i ++ l.drop (i + 1) := List.eraseIdx_eq_take_drop_succ ..
  rw [he, hl]
  simp only [List.map_append, List.map_cons, List.singleton_append]
  exact List.perm_middle.symm
theorem Imp.row_back {α : Type} {f : α → Ent} {l : List α} {i : Nat} {x : α} (hi : l[i]? = some x) : Imp [f x, .row f (l.eraseIdx i)] [.row f l] := by
  obtain ⟨hlt, hx⟩ := List.getElem?_eq_some_iff.1 hi
  have := Imp.row_close (f := f) (l := l) (i := i) x hlt
  have hs : l.set i x = l := by rw [← hx, List.set_getElem_self]
  rw [hs] at this
  exact this
theorem Imp.row_add {α : Type} {f : α → Ent} {l : List α} (y : α) : Imp [.row f l, f y] [.row f (l ++ [y])] := by
  refine ((Imp.unstar (l.map f)).right [f y]).trans ((Imp.perm ?_).trans (Imp.star _))
  simp
theorem Imp.row_nil {α : Type} (f : α → Ent) : Imp [] [.row f []] := Imp.star []
theorem Ent.row_ok {α : Type} {f : α → Ent} {l : List α} {w : World} (h : (Ent.row f l).ok w) {i : Nat} {x : α} (hi : l[i]? = some x) : (f x).ok w := h _ (List.mem_map.2 ⟨x, List.mem_of_getElem? hi, rfl⟩)
theorem Ent.star_ok {K : List Ent} {w : World} (h : (Ent.star K).ok w) {e : Ent} (i : Nat) (hi : K[i]? = some e) : e.ok w := h _ (List.mem_of_getElem? hi)
theorem SM.at {B : Base} {K : List Ent} {w : World} (h : SM B K w) (i : Nat) {e : Ent} (hi : K[i]? = some e) : e.ok w := h.mem.ok _ (List.mem_of_getElem? hi)

/-! ## Contracts -/
theorem Ctr.widen {P : Program} {f : FuncId} {args : List Value} {pre pre' : World → Prop} {K0 K0' R : List Ent} {ι : Type} {v : ι → Value} {K1 K1' : ι → List Ent} (h : Ctr P f args pre K0 v K1)
    (h0 : Imp K0' (K0 ++ R)) (h1 : ∀ i, Imp (K1 i ++ R) (K1' i)) (hp : ∀ w, Mem w K0' → pre' w → pre w) : Ctr P f args pre' K0' v K1' := by
  intro w hm hpre
  have hm0 := hm.imp h0
  refine (h w hm0.left (hp w hm hpre)).mono ?_
  rintro ex w' ⟨i, hex, u⟩
  have hs : SM ⟨w, blks K0'⟩ (K0 ++ R) w := ⟨Only.refl _ _, hm0, fun b hb => .inl (h0.sub hb)⟩
  have hs1 := (hs.upd u).imp (h1 i)
  exact ⟨i, hex, hs1.only, hs1.mem, hs1.own⟩
/-- Other words for the answer. -/
theorem Ctr.re {P : Program} {f : FuncId} {args : List Value} {pre : World → Prop} {K0 : List Ent} {ι κ : Type} {v : ι → Value} {K1 : ι → List Ent} {v' : κ → Value} {K1' : κ → List Ent} (h : Ctr P f args pre K0 v K1)
    (g : ι → κ) (hv : ∀ i, v i = v' (g i)) (h1 : ∀ i, Imp (K1 i) (K1' (g i))) : Ctr P f args pre K0 v' K1' := by
  intro w hm hpre
  refine (h w hm hpre).mono ?_
  rintro ex w' ⟨i, hex, u⟩
  have hs : SM ⟨w, blks K0⟩ K0 w := ⟨Only.refl _ _, hm, fun b hb => .inl hb⟩
  have hs1 := (SM.upd (Kr := []) (by simpa using hs) u).imp (by simpa using h1 i)
  exact ⟨g i, by rw [hex, hv], hs1.only, hs1.mem, hs1.own⟩
theorem Ctr.pre {P : Program} {f : FuncId} {args : List Value} {pre pre' : World → Prop} {K0 : List Ent} {ι : Type} {v : ι → Value} {K1 : ι → List Ent} (h : Ctr P f args pre K0 v K1) (hp : ∀ w, Mem w K0 → pre' w → pre w) : Ctr P f args pre' K0 v K1 :=
  fun w hm hpre => h w hm (hp w hm hpre)
theorem Ctr.if {P : Program} {f : FuncId} {args : List Value} {pre : World → Prop} {K0 : List Ent} {ι : Type} {v : ι → Value} {K1 : ι → List Ent} (c : Prop) (h : c → Ctr P f args pre K0 v K1) (hp : ∀ w, Mem w K0 → pre w → c) : Ctr P f args pre K0 v K1 :=
  fun w hm hpre => h (hp w hm hpre) w hm hpre

section
variable {P : Program} {Fin : Exit → Act → World → Prop} {B : Base} {n : Nat} {k : List It} {e : Env} {K : List Ent} {ops : Array Oper} {rest : List Oper}
theorem JS_imp {K' : List Ent} (h : Imp K K') (hj : JS P Fin B n k e K') : JS P Fin B n k e K := JS_weakK (fun _ hw => hw.imp h) hj
theorem RJ_imp {K' : List Ent} (h : Imp K K') (hj : RJ P Fin B n ops rest e K' k) : RJ P Fin B n ops rest e K k := RJ_weakK (fun _ hw => hw.imp h) hj
/-- A piece of code is walked to its end, and the rest once; e0: what it does not change. -/
theorem JS_cutF {ι : Type} {x : Code} (e0 : Env) (he : LE e0 e) (E : ι → Env) (M : ι → List Ent) (h1 : JS P Fin B n (.c x :: .stop (After B n (fun i => E i ++ e0) M) :: k) e K) (h2 : ∀ i, JS P Fin B n k (E i ++ e0) (M i)) : JS P Fin B n (.c x :: k) e K :=
  JS_cut (fun i => E i ++ e0) M h1 h2
end
end Go.Proofs.Ytmhjcemcjfkejaa
