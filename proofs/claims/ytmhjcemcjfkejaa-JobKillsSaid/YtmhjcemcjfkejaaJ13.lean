/- The calculus, thirteenth part: more operations. -/
import Derived.Test.YtmhjcemcjfkejaaJ12
import Derived.IntWalk
import Derived.Laws.Externs
import Derived.Laws.IdiomCopy
namespace Go.Proofs.Ytmhjcemcjfkejaa
open Go.RowKit
set_option linter.unusedVariables false
set_option linter.unusedSimpArgs false

section
variable {P : Program} {B : Base} {e : Env} {K : List Ent} {d : Option Tmp} {t : TypeId} {p : String} {af : Array Edge} {g : Option (Nat × Bool)}
theorem FS_rem {s s' : TypeId} {x y : Operand} {k : IntKind} {a b : Int} (hx : e.ev x = some (.int k a)) (hy : e.ev y = some (.int k b)) (ha : 0 ≤ a) (hb : 0 < b) : FS P B ⟨d, .binOp .rem s x y s', t, p, af, g⟩ e K (.int k (a % b)) := by
  intro w ρ _ hag
  have h1 := hag x (by simp [Op.operands]) _ hx
  have h2 := hag y (by simp [Op.operands]) _ hy
  have h3 : b ≠ 0 := by omega
  simp [execOp, h1, h2, eqGuard, binOp, Op.intDiv, h3, IntWalk.rem_in _ _ ha]
theorem FS_remT {s s' : TypeId} {x y : Operand} {k : IntKind} {a b : Int} (hx : e.ev x = some (.int k a)) (hy : e.ev y = some (.int k b)) (hb : b ≠ 0) : FS P B ⟨d, .binOp .rem s x y s', t, p, af, g⟩ e K (.int k (a.tmod b)) := by
  intro w ρ _ hag
  have h1 := hag x (by simp [Op.operands]) _ hx
  have h2 := hag y (by simp [Op.operands]) _ hy
  simp [execOp, h1, h2, eqGuard, binOp, Op.intDiv, hb]
theorem FS_quo {s s' : TypeId} {x y : Operand} {a b : Int} (hx : e.ev x = some (.int .i64 a)) (hy : e.ev y = some (.int .i64 b)) (ha : 0 ≤ a) (ha2 : a ≤ 9223372036854775807) (hb : 1 ≤ b) : FS P B ⟨d, .binOp .quo s x y s', t, p, af, g⟩ e K (.int .i64 (a / b)) := by
  intro w ρ _ hag
  have h1 := hag x (by simp [Op.operands]) _ hx
  have h2 := hag y (by simp [Op.operands]) _ hy
  have h3 : b ≠ 0 := by omega
  simp [execOp, h1, h2, eqGuard, binOp, Op.intDiv, h3, IntWalk.i64_quo _ _ ⟨ha, ha2, hb⟩]
theorem FS_shr {s s' : TypeId} {x y : Operand} {k k' : IntKind} {a b : Int} (hx : e.ev x = some (.int k a)) (hy : e.ev y = some (.int k' b)) (h0 : 0 ≤ b) (h1 : b.toNat ≤ k.bits) : FS P B ⟨d, .binOp .shr s x y s', t, p, af, g⟩ e K (.int k (a / 2 ^ b.toNat)) := by
  intro w ρ _ hag
  have h2 := hag x (by simp [Op.operands]) _ hx
  have h3 := hag y (by simp [Op.operands]) _ hy
  have h4 : ¬ b < 0 := by omega
  have h5 : a.fdiv (2 ^ b.toNat) = a / 2 ^ b.toNat := Int.fdiv_eq_ediv_of_nonneg _ (Int.le_of_lt (by exact Int.pow_pos (by decide)))
  simp [execOp, h2, h3, eqGuard, binOp, Op.shift, h4, Nat.min_eq_left h1, h5]
theorem FS_shl {s s' : TypeId} {x y : Operand} {k' : IntKind} {a b : Int} (hx : e.ev x = some (.int .i64 a)) (hy : e.ev y = some (.int k' b)) (h0 : 0 ≤ b) (h1 : b.toNat ≤ 64) (h2 : -9223372036854775808 ≤ a * 2 ^ b.toNat) (h3 : a * 2 ^ b.toNat ≤ 9223372036854775807) :
    FS P B ⟨d, .binOp .shl s x y s', t, p, af, g⟩ e K (.int .i64 (a * 2 ^ b.toNat)) := by
  intro w ρ _ hag
  have h4 := hag x (by simp [Op.operands]) _ hx
  have h5 := hag y (by simp [Op.operands]) _ hy
  have h6 : ¬ b < 0 := by omega
  simp [execOp, h4, h5, eqGuard, binOp, Op.shift, h6, IntKind.bits, Nat.min_eq_left h1, IntWalk.i64_in _ ⟨h2, h3⟩]
/-- And with a mask of the low j bits. -/
theorem mask_int (a : Int) (j : Nat) (hj : j < 63) : IntKind.i64.wrap (((BitVec.ofInt 64 a) &&& (BitVec.ofInt 64 (2 ^ j - 1))).toNat : Int) = a % 2 ^ j := by
  have hpow : (2 : Nat) ^ j < 2 ^ 63 := Nat.pow_lt_pow_right (by decide) hj
  have hpos : 0 < (2 : Nat) ^ j := Nat.pos_of_ne_zero (by simp)
  have hm : (BitVec.ofInt 64 ((2 : Int) ^ j - 1)).toNat = 2 ^ j - 1 := by
    have h1 : ((2 : Int) ^ j - 1) = ((2 ^ j - 1 : Nat) : Int) := by
      have : ((2 ^ j : Nat) : Int) = 2 ^ j := by simp
      omega
    rw [h1, BitVec.toNat_ofInt]
    have h2 : (((2 ^ j - 1 : Nat) : Int) % ((2 ^ 64 : Nat) : Int)) = ((2 ^ j - 1 : Nat) : Int) := Int.emod_eq_of_lt (by omega) (by omega)
    rw [h2]
    rfl
  have hval : ((BitVec.ofInt 64 a) &&& (BitVec.ofInt 64 (2 ^ j - 1))).toNat = (a % 2 ^ j).toNat := by
    rw [BitVec.toNat_and, hm, Nat.and_two_pow_sub_one_eq_mod, BitVec.toNat_ofInt]
    have hd : ((2 : Int) ^ j) ∣ ((2 ^ 64 : Nat) : Int) := by
      have : ((2 ^ 64 : Nat) : Int) = 2 ^ j * 2 ^ (64 - j) := by
        rw [← Int.pow_add, Nat.add_sub_cancel' (by omega)]
        rfl
      rw [this]
      exact Int.dvd_mul_right _ _
    have h3 := Int.emod_emod_of_dvd a hd
    have h4 : (0 : Int) ≤ a % ((2 ^ 64 : Nat) : Int) := Int.emod_nonneg _ (by decide)
    have h5 : ((a % ((2 ^ 64 : Nat) : Int)).toNat % 2 ^ j : Nat) = ((a % ((2 ^ 64 : Nat) : Int)) % 2 ^ j).toNat := by
      have h6 : ((2 : Int) ^ j) = ((2 ^ j : Nat) : Int) := by simp
      rw [h6]
      conv => rhs; rw [← Int.toNat_of_nonneg h4]
      rw [← Int.natCast_emod, Int.toNat_natCast]
    rw [h5, h3]
  rw [hval]
  have h7 : (0 : Int) ≤ a % 2 ^ j := Int.emod_nonneg _ (by have : ((2 ^ j : Nat) : Int) = 2 ^ j := by simp
                                                           omega)
  have h8 : a % 2 ^ j < 2 ^ j := Int.emod_lt_of_pos _ (by have : ((2 ^ j : Nat) : Int) = 2 ^ j := by simp
                                                          omega)
  rw [Int.toNat_of_nonneg h7]
  refine IntWalk.i64_in _ ⟨by omega, ?_⟩
  have : ((2 ^ j : Nat) : Int) = 2 ^ j := by simp
  omega
theorem FS_mask (j : Nat) {s s' : TypeId} {x y : Operand} {a b : Int} (hx : e.ev x = some (.int .i64 a)) (hy : e.ev y = some (.int .i64 b)) (hb : b = 2 ^ j - 1) (hj : Nat.blt j 63 = true) : FS P B ⟨d, .binOp .and s x y s', t, p, af, g⟩ e K (.int .i64 (a % 2 ^ j)) := by
  intro w ρ _ hag
  have h1 := hag x (by simp [Op.operands]) _ hx
  have h2 := hag y (by simp [Op.operands]) _ hy
  subst hb
  have := mask_int a j (by simpa [Nat.blt_eq] using hj)
  simp [execOp, h1, h2, eqGuard, binOp, Op.intBits, IntKind.bits, -BitVec.toNat_and, -BitVec.toNat_ofInt]
  exact this
theorem FS_convert (T : Tab P) {s dt : TypeId} {x : Operand} {k k' : IntKind} {a v : Int} (hx : e.ev x = some (.int k a)) (hs : ikIn T.iks s = some k) (hd : ikIn T.iks dt = some k') (hv : k'.wrap a = v) : FS P B ⟨d, .convert s dt x, t, p, af, g⟩ e K (.int k' v) := by
  intro w ρ _ hag
  have h1 := hag x (by simp [Op.operands]) _ hx
  subst hv
  simp [execOp, h1, convert, run_underlying (ikIn_ok hs), run_underlying (ikIn_ok hd), Conv.intToInt]
theorem FS_cap (T : Tab P) {x : Operand} {s ee z : Nat} {A : Option Addr} {len cap : Nat} (hx : e.ev x = some (.slice A len cap)) (ht : elIn T.els s = some (none, ee, z)) :
    FS P B ⟨d, .call { callee := .builtin .cap, args := #[x], argTypes := #[s] }, t, p, af, g⟩ e K (.int .i64 cap) := by
  intro w ρ _ ha
  have hx := ha x (by simp [Op.operands, Call.operands]) _ hx
  simp [execOp, resolve, hx, invoke, builtin, Builtin.cap_, run_underlying (elOf_slice (elIn_ok ht)).1, goInt]
theorem FS_makeFunc {fs cs : List Operand} {f : FuncId} {xs ys : List Value} (hf : argsL e fs = some xs) (hc : argsL e cs = some ys) : FS P B ⟨d, .makeFunc (.func f) fs.toArray cs.toArray, t, p, af, g⟩ e K (.func (.func f) xs.toArray ys.toArray) := by
  intro w ρ _ ha
  have h1 := argsL_map (ρ := ρ) hf (fun x hx u hu => ha x (by simp [Op.operands, hx]) u hu)
  have h2 := argsL_map (ρ := ρ) hc (fun x hx u hu => ha x (by simp [Op.operands, hx]) u hu)
  simp [execOp, h1, h2, Instr.makeFunc]

/-- The address of s[l:]. -/
def slA (A : Option Addr) (c l z : Nat) : Option Addr := if c = l then A else A.map (·.add (l * z))
theorem slA_zero (A : Option Addr) (c z : Nat) : slA A c 0 z = A := by
  unfold slA
  split
  · rfl
  · cases A <;> simp [Addr.add]
theorem RowAt.slice {w : World} {A : Option Addr} {cs : List Value} (h : RowAt w A cs) {n c l m z : Nat} (hn : cs.length = n * z) (hl : l ≤ m) (hm : m ≤ n) (hc : n ≤ c) : RowAt w (slA A c l z) ((cs.drop (l * z)).take ((m - l) * z)) := by
  by_cases hcl : c = l
  · left
    have : m - l = 0 := by omega
    simp [this]
  · unfold slA
    rw [if_neg hcl]
    rcases h with h | ⟨b, q, hA, h⟩
    · left; simp [h]
    · subst hA
      refine .inr ⟨b, q + l * z, by simp [Addr.add_lit], fun j v hv => ?_⟩
      rw [List.getElem?_take] at hv
      split at hv
      · rw [List.getElem?_drop] at hv
        have := h _ v hv
        rwa [← Nat.add_assoc] at this
      · cases hv
theorem FS_slice (T : Tab P) {s ee z : Nat} {x : Operand} {A : Option Addr} {n c l h : Nat} {lo hi : Option Operand} (hx : e.ev x = some (.slice A n c)) (ht : elIn T.els s = some (none, ee, z))
    (hlo : match lo with | none => l = 0 | some o => ∃ k, e.ev o = some (.int k l)) (hhi : match hi with | none => h = n | some o => ∃ k, e.ev o = some (.int k h)) (hl : l ≤ h) (hh : h ≤ c) :
    FS P B ⟨d, .slice s x lo hi none, t, p, af, g⟩ e K (.slice (slA A c l z) (h - l) (c - l)) := by
  intro w ρ _ ha
  have h1 := ha x (by simp [Op.operands]) _ hx
  obtain ⟨hu, i, hi', rfl⟩ := elOf_slice (elIn_ok ht)
  have hlo' : lo.map ρ = lo.map (fun o => ρ o) := rfl
  cases lo with
  | none =>
    subst hlo
    cases hi with
    | none =>
      subst hhi
      simp [execOp, h1, Instr.sliceAt, Instr.slice, run_underlying hu, Instr.sliceBounds, sizeOf, typeInfo, hi', slA]
    | some o =>
      obtain ⟨k, hk⟩ := hhi
      have h3 := ha o (by simp [Op.operands]) _ hk
      simp [execOp, h1, h3, Instr.sliceAt, Instr.slice, run_underlying hu, Instr.sliceBounds, Instr.sliceBound, asIntOf, sizeOf, typeInfo, hi', slA, hh]
  | some o' =>
    obtain ⟨k', hk'⟩ := hlo
    have h4 := ha o' (by simp [Op.operands]) _ hk'
    cases hi with
    | none =>
      subst hhi
      simp [execOp, h1, h4, Instr.sliceAt, Instr.slice, run_underlying hu, Instr.sliceBounds, Instr.sliceBound, asIntOf, sizeOf, typeInfo, hi', slA, hl]
    | some o =>
      obtain ⟨k, hk⟩ := hhi
      have h3 := ha o (by simp [Op.operands]) _ hk
      simp [execOp, h1, h3, h4, Instr.sliceAt, Instr.slice, run_underlying hu, Instr.sliceBounds, Instr.sliceBound, asIntOf, sizeOf, typeInfo, hi', slA, hh, hl]

/-- append that makes new room: whatever lies behind the first slice's address is copied. -/
theorem LS_appendG (T : Tab P) {x y : Operand} {st el z bytes n c m : Nat} {k : IntKind} {tt : TypeId} {A : Option Addr} {cs zs : List Value} (hx : e.ev x = some (.slice A n c)) (hy : e.ev y = some (.int k m)) (hk : k = .i64)
    (ht : elIn T.els st = some (none, el, z)) (hz : zeIn T.zes el = some zs) (hby : byIn T.bys el = some bytes) (hl : Nat.beq zs.length z = true) (hpos : Nat.blt 0 z = true) (htt : ikIn T.iks tt = some k)
    (hr : ∀ w, SM B K w → RowAt w A cs) (hn : cs.length = n * z) (hg : c < n + m) (hb : (n + m) * bytes ≤ 140737488355328) (hb2 : n + m ≤ 140737488355328) :
    LS P B ⟨d, .call { callee := .builtin .append, args := #[x, y], argTypes := #[st, tt] }, t, p, af, g⟩ e K (fun q : Sl × {l : List Value // l.length = m * z} => .slice (Sl.addr (some q.1)) (n + m) (Sl.cap (n + m) (some q.1)))
      (fun q => K ++ [Sl.e el z (cs ++ q.2.1) (some q.1)]) := by
  intro w a hw ha next Q hn'
  have h2 := ha x (by simp [Op.operands, Call.operands]) _ hx
  have h3 := ha y (by simp [Op.operands, Call.operands]) _ hy
  obtain ⟨hu, i, zv, hi, hzv, hsz, hzs⟩ := elFacts_of T ht hz (by simpa [Nat.beq_eq] using hl)
  have hbi : i.bytes = bytes := by
    have := byIn_ok hby
    simpa [hi] using this
  subst hbi
  subst hk
  have hpos : 0 < z := by simpa [Nat.blt_eq] using hpos
  have htt' := ikIn_ok htt
  have hwrap : IntKind.i64.wrap (m : Int) = m := IntWalk.i64_in _ ⟨by omega, by omega⟩
  have hneg : ¬ ((m : Int) < 0) := by omega
  have hmb : m * i.bytes ≤ (n + m) * i.bytes := Nat.mul_le_mul_right _ (by omega)
  have hbig : ¬ ((281474976710656 : Int) < (m : Int) * (i.bytes : Int)) := by
    have : ((m * i.bytes : Nat) : Int) = (m : Int) * (i.bytes : Int) := by simp
    omega
  have hcap : ¬ (n + m ≤ c) := by omega
  have h63' : ¬ (9223372036854775807 < ((n : Int) + (m : Int))) := by omega
  have hfit := growslice_fits hg hb
  have h48' : ¬ (281474976710656 < Builtin.nextslicecap (n + m) c * i.bytes) := by omega
  have hq : (Question.appendCap (n + m) c el).forced = false := rfl
  have hfc : (Builtin.firstCells i.size n (.slice A n c)).run P w.drew = .ok cs.toArray w.drew := by
    rcases hr w hw with h | ⟨b, q, hA, h⟩
    · subst h
      have h0 : n * z = 0 := by simpa using hn.symm
      have : n = 0 := by
        rcases Nat.eq_zero_or_pos n with h | h
        · exact h
        · have := Nat.mul_pos h hpos; omega
      subst this
      cases A <;> simp [Builtin.firstCells, loadCells, loadCellsFrom]
    · subst hA
      exact run_firstCells_some w.drew i.size n ⟨b, q, none⟩ n c cs (by rw [hsz]; exact hn) fun j u hu => by rw [Addr.add_lit]; simpa using h j u hu
  have hap : (if m * i.size = 0 then (pure #[] : Sem (Array Value)) else do pure (Builtin.zeroCells (← zeroValue el).cells m)).run P w.drew = .ok (if m * i.size = 0 then #[] else Builtin.zeroCells zv.cells m) w.drew := by
    split <;> simp [zeroValue, typeInfo, hi, hzv]
  obtain ⟨Z, hZ, hZl⟩ : ∃ Z : Array Value, (if m * i.size = 0 then #[] else Builtin.zeroCells zv.cells m) = Z ∧ Z.size = m * z := ⟨_, rfl, by
    split
    · simp; rw [← hsz]; omega
    · simp [size_zeroCells, hzs]⟩
  rw [hZ] at hap
  have hrun : ∃ w' s', (Builtin.append_ #[st, tt] t #[.slice A n c, .int .i64 m]).run P w = .ok (.slice (Sl.addr (some s')) (n + m) (Sl.cap (n + m) (some s'))) w' ∧ SM B (K ++ [Sl.e el z (cs ++ Z.toList) (some s')]) w' := by
    have hge := grownCap_ge w (n + m) c el
    refine ⟨w.drew.alloc (.cells (cs.toArray ++ Z ++ Builtin.zeroCells zv.cells (grownCap w (n + m) c el - (n + m))) el), ⟨w.heap.size, [], grownCap w (n + m) c el - (n + m)⟩, ?_, ?_⟩
    · simp only [Sl.addr, Sl.cap, List.length_nil]
      rw [show n + m + (grownCap w (n + m) c el - (n + m)) = grownCap w (n + m) c el by omega]
      by_cases hm0 : m * i.size = 0
      · have hZ' : Z = #[] := by rw [← hZ, if_pos hm0]
        subst hZ'
        simp [Builtin.append_, run_underlying hu, run_underlying htt', sizeOf, typeInfo, hi, hwrap, asInt, asIntOf, hneg, hbig, hcap, h63', h48', hq, hfc, zeroValue, hzv, newRow, newObj, hm0]
        simp [Sem.run, grownCap]
        rfl
      · have hZ' : Z = Builtin.zeroCells zv.cells m := by rw [← hZ, if_neg hm0]
        subst hZ'
        simp [Builtin.append_, run_underlying hu, run_underlying htt', sizeOf, typeInfo, hi, hwrap, asInt, asIntOf, hneg, hbig, hcap, h63', h48', hq, hfc, zeroValue, hzv, newRow, newObj, hm0]
        simp [Sem.run, grownCap]
        rfl
    · refine (SM.upd (K0 := []) (K1 := [Sl.e el z (cs ++ Z.toList) (some ⟨w.heap.size, [], grownCap w (n + m) c el - (n + m)⟩)]) (w' := w.drew.alloc (.cells (cs.toArray ++ Z ++ Builtin.zeroCells zv.cells (grownCap w (n + m) c el - (n + m))) el)) hw
        ⟨⟨rfl, rfl, rfl, by simp, fun k hk _ => heap_alloc_old w.drew _ hk⟩, ⟨fun e he => ?_, by simp [blks, Sl.e, Ent.one]⟩, by simp [blks, Sl.e, Ent.one]⟩).perm List.perm_append_comm
      simp only [List.mem_singleton] at he
      subst he
      refine ⟨_, fun b hb => ?_, (Builtin.zeroCells zv.cells (grownCap w (n + m) c el - (n + m))).toList, ?_, rfl⟩
      · simp only [Sl.e, Option.map_some, Option.some.injEq] at hb
        subst hb
        have := heap_alloc_new w.drew (.cells (cs.toArray ++ Z ++ Builtin.zeroCells zv.cells (grownCap w (n + m) c el - (n + m))) el)
        have hsz : w.drew.heap.size = w.heap.size := rfl
        rw [hsz] at this
        rw [this]
        simp
      · simp [size_zeroCells, hzs]
  obtain ⟨w', s', hrun, hsm⟩ := hrun
  unfold Oper.wp execOp
  simp only [resolve, invoke, builtin, Sem.run_bind, Sem.run_pure, Result.andThen_ok, List.map_toArray, List.map_cons, List.map_nil, h2, h3]
  rw [hrun]
  exact hn' (s', ⟨Z.toList, by simpa using hZl⟩) w' hsm
theorem LS_copy (T : Tab P) (j : Nat) {x y : Operand} {st st' el z dl dc m c o : Nat} {D A : Option Addr} {s : Option Sl} {cs ys : List Value} (hx : e.ev x = some (.slice D dl dc)) (hy : e.ev y = some (.slice A m c)) (ht : elIn T.els st = some (none, el, z))
    (hK : K[j]? = some (Sl.e el z cs s)) (hr : ∀ w, SM B K w → RowAt w A ys) (hm : ys.length = Nat.min m dl * z) (h1 : ys.all (·.oneCell') = true) (hD : ys = [] ∨ D = some ⟨Sl.blk s, Sl.off s + o, none⟩) (hle : o + ys.length ≤ cs.length) :
    LS P B ⟨d, .call { callee := .builtin .copy, args := #[x, y], argTypes := #[st, st'] }, t, p, af, g⟩ e K (fun _ : Unit => .int .i64 (Nat.min m dl : Nat)) (fun _ => K.set j (Sl.e el z (stv cs o ys) s)) := by
  intro w a hw ha next Q hn'
  have h2 := ha x (by simp [Op.operands, Call.operands]) _ hx
  have h3 := ha y (by simp [Op.operands, Call.operands]) _ hy
  obtain ⟨hu, i, hi, rfl⟩ := elOf_slice (elIn_ok ht)
  have hfc : (Builtin.firstCells i.size (Nat.min m dl) (.slice A m c)).run P w = .ok ys.toArray w := by
    rcases hr w hw with h | ⟨b, q, hA, h⟩
    · subst h
      have h0 : Nat.min m dl * i.size = 0 := by simpa using hm.symm
      cases A with
      | none => simp [Builtin.firstCells]
      | some A => simp only [Builtin.firstCells, h0]; simp [loadCells, loadCellsFrom]
    · subst hA
      exact run_firstCells_some w i.size _ ⟨b, q, none⟩ m c ys hm fun j u hu => by rw [Addr.add_lit]; exact h j u hu
  have hcopy : ∃ w', (Builtin.copy_ #[st, st'] t #[.slice D dl dc, .slice A m c]).run P w = .ok (.int .i64 (Nat.min m dl : Nat)) w' ∧ SM B (K.set j (Sl.e el i.size (stv cs o ys) s)) w' := by
    have hset : K.set j (Sl.e el i.size cs s) = K := by
      obtain ⟨h1, h2⟩ := List.getElem?_eq_some_iff.1 hK
      rw [← h2, List.set_getElem_self]
    rcases Classical.em (ys = []) with hy0 | hy0
    · subst hy0
      refine ⟨w, ?_, by simpa [stv, hset] using hw⟩
      cases D <;> simp [Builtin.copy_, run_underlying hu, Builtin.lenOf, sizeOf, typeInfo, hi, hfc, storeCells, goInt]
    · have hD := hD.resolve_left hy0
      subst hD
      have hcs : cs ≠ [] := by
        intro h
        subst h
        have := List.length_pos_iff.2 hy0
        simp only [List.length_nil] at hle
        omega
      obtain ⟨hupd, hth⟩ := upd_storeS (hw.mem.ok _ (List.mem_of_getElem? hK)) hcs hle
      refine ⟨_, ?_, hw.put hK hupd⟩
      have hst := run_storeCells_cells (P := P) (Sl.blk s) (Sl.off s + o) ys 0 w (fun j hj => by simpa using (hth j hj).1) (fun j hj => by simpa using (hth j hj).2) (fun u hu => by simpa using (List.all_eq_true.1 h1) u hu)
      simp only [Nat.add_zero] at hst
      simp [Builtin.copy_, run_underlying hu, Builtin.lenOf, sizeOf, typeInfo, hi, hfc, hst, goInt]
  obtain ⟨w', hrun, hsm⟩ := hcopy
  unfold Oper.wp execOp
  simp only [resolve, invoke, builtin, Sem.run_bind, Sem.run_pure, Result.andThen_ok, List.map_toArray, List.map_cons, List.map_nil, h2, h3]
  rw [hrun]
  exact hn' () w' hsm
end
section
variable {P : Program} {Fin : Exit → Act → World → Prop} {B : Base} {n : Nat} {k : List It} {e : Env} {K : List Ent}
/-- What memory bears out with some unknown. -/
theorem JS_ex {ι : Type} {K' : ι → List Ent} (h : ∀ w, SM B K w → ∃ i, SM B (K' i) w) (hj : ∀ i, JS P Fin B n k e (K' i)) : JS P Fin B n k e K := by
  intro a w ha hw
  obtain ⟨i, hi⟩ := h w hw
  exact hj i a w ha hi
end
end Go.Proofs.Ytmhjcemcjfkejaa
