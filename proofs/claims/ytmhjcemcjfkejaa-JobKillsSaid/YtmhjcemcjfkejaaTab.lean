/- Facts on the types of this program: written by wip/tab.py off the translation; each is checked by the kernel. -/
import Derived.Test.YtmhjcemcjfkejaaProg
import Derived.Test.YtmhjcemcjfkejaaJ19
import Derived.KernelRfl
namespace Go.Proofs.Ytmhjcemcjfkejaa
open Go.Proofs
set_option maxRecDepth 100000 in
noncomputable def Try.fos : List (FoE Try.prog) := [
  ⟨28, 0, 0, by kernel_rfl⟩,
  ⟨28, 1, 1, by kernel_rfl⟩,
  ⟨28, 2, 2, by kernel_rfl⟩,
  ⟨28, 3, 3, by kernel_rfl⟩,
  ⟨28, 4, 4, by kernel_rfl⟩,
  ⟨28, 5, 5, by kernel_rfl⟩,
  ⟨32, 0, 0, by kernel_rfl⟩,
  ⟨32, 1, 1, by kernel_rfl⟩,
  ⟨32, 2, 2, by kernel_rfl⟩,
  ⟨42, 0, 0, by kernel_rfl⟩,
  ⟨42, 1, 1, by kernel_rfl⟩,
  ⟨42, 2, 2, by kernel_rfl⟩,
  ⟨51, 0, 0, by kernel_rfl⟩,
  ⟨51, 1, 1, by kernel_rfl⟩,
  ⟨51, 2, 2, by kernel_rfl⟩,
  ⟨51, 3, 3, by kernel_rfl⟩,
  ⟨51, 4, 4, by kernel_rfl⟩,
  ⟨51, 5, 5, by kernel_rfl⟩,
  ⟨51, 6, 6, by kernel_rfl⟩,
  ⟨56, 0, 0, by kernel_rfl⟩,
  ⟨56, 1, 1, by kernel_rfl⟩,
  ⟨56, 2, 2, by kernel_rfl⟩,
  ⟨56, 3, 3, by kernel_rfl⟩,
  ⟨56, 4, 4, by kernel_rfl⟩,
  ⟨60, 0, 0, by kernel_rfl⟩,
  ⟨60, 1, 1, by kernel_rfl⟩,
  ⟨60, 2, 2, by kernel_rfl⟩,
  ⟨60, 3, 3, by kernel_rfl⟩,
  ⟨64, 0, 0, by kernel_rfl⟩,
  ⟨64, 1, 1, by kernel_rfl⟩,
  ⟨66, 0, 0, by kernel_rfl⟩,
  ⟨66, 1, 6, by kernel_rfl⟩,
  ⟨66, 2, 8, by kernel_rfl⟩,
  ⟨77, 0, 0, by kernel_rfl⟩,
  ⟨77, 1, 1, by kernel_rfl⟩,
  ⟨85, 0, 0, by kernel_rfl⟩,
  ⟨85, 1, 1, by kernel_rfl⟩,
  ⟨85, 2, 2, by kernel_rfl⟩,
  ⟨85, 3, 3, by kernel_rfl⟩,
  ⟨94, 0, 0, by kernel_rfl⟩,
  ⟨94, 1, 6, by kernel_rfl⟩,
  ⟨106, 0, 0, by kernel_rfl⟩,
  ⟨106, 1, 1, by kernel_rfl⟩,
  ⟨111, 0, 0, by kernel_rfl⟩,
  ⟨111, 1, 1, by kernel_rfl⟩,
  ⟨111, 2, 2, by kernel_rfl⟩,
  ⟨116, 0, 0, by kernel_rfl⟩,
  ⟨119, 0, 0, by kernel_rfl⟩,
  ⟨119, 1, 1, by kernel_rfl⟩]
set_option maxRecDepth 100000 in
noncomputable def Try.szs : List (SzE Try.prog) := [
  ⟨3, false, 1, by kernel_rfl⟩,
  ⟨4, false, 1, by kernel_rfl⟩,
  ⟨28, true, 6, by kernel_rfl⟩,
  ⟨29, false, 1, by kernel_rfl⟩,
  ⟨30, false, 1, by kernel_rfl⟩,
  ⟨32, true, 3, by kernel_rfl⟩,
  ⟨40, true, 4, by kernel_rfl⟩,
  ⟨42, true, 3, by kernel_rfl⟩,
  ⟨46, false, 1, by kernel_rfl⟩,
  ⟨51, true, 7, by kernel_rfl⟩,
  ⟨52, false, 1, by kernel_rfl⟩,
  ⟨53, false, 1, by kernel_rfl⟩,
  ⟨54, false, 1, by kernel_rfl⟩,
  ⟨56, true, 5, by kernel_rfl⟩,
  ⟨58, false, 1, by kernel_rfl⟩,
  ⟨61, false, 1, by kernel_rfl⟩,
  ⟨62, false, 1, by kernel_rfl⟩,
  ⟨64, true, 2, by kernel_rfl⟩,
  ⟨77, true, 2, by kernel_rfl⟩,
  ⟨85, true, 4, by kernel_rfl⟩,
  ⟨106, true, 2, by kernel_rfl⟩,
  ⟨111, true, 3, by kernel_rfl⟩]
set_option maxRecDepth 100000 in
noncomputable def Try.els : List (ElE Try.prog) := [
  ⟨29, none, 28, 6, by kernel_rfl⟩,
  ⟨30, none, 106, 2, by kernel_rfl⟩,
  ⟨34, none, 40, 4, by kernel_rfl⟩,
  ⟨46, none, 51, 7, by kernel_rfl⟩,
  ⟨52, none, 32, 3, by kernel_rfl⟩,
  ⟨53, none, 111, 3, by kernel_rfl⟩,
  ⟨54, none, 85, 4, by kernel_rfl⟩,
  ⟨58, none, 61, 1, by kernel_rfl⟩,
  ⟨62, none, 3, 1, by kernel_rfl⟩,
  ⟨78, some 3, 77, 2, by kernel_rfl⟩]
set_option maxRecDepth 100000 in
noncomputable def Try.fls : List (FlE Try.prog) := [
  ⟨28, [(0, 1), (1, 1), (2, 1), (3, 1), (4, 1), (5, 1)], by kernel_rfl⟩,
  ⟨32, [(0, 1), (1, 1), (2, 1)], by kernel_rfl⟩,
  ⟨40, [(0, 1), (1, 1), (2, 1), (3, 1)], by kernel_rfl⟩,
  ⟨42, [(0, 1), (1, 1), (2, 1)], by kernel_rfl⟩,
  ⟨51, [(0, 1), (1, 1), (2, 1), (3, 1), (4, 1), (5, 1), (6, 1)], by kernel_rfl⟩,
  ⟨56, [(0, 1), (1, 1), (2, 1), (3, 1), (4, 1)], by kernel_rfl⟩,
  ⟨60, [(0, 1), (1, 1), (2, 1), (3, 1)], by kernel_rfl⟩,
  ⟨64, [(0, 1), (1, 1)], by kernel_rfl⟩,
  ⟨66, [(0, 6), (6, 2), (8, 1)], by kernel_rfl⟩,
  ⟨77, [(0, 1), (1, 1)], by kernel_rfl⟩,
  ⟨94, [(0, 6), (6, 2)], by kernel_rfl⟩,
  ⟨116, [(0, 1)], by kernel_rfl⟩,
  ⟨119, [(0, 1), (1, 7)], by kernel_rfl⟩]
set_option maxRecDepth 100000 in
noncomputable def Try.pts : List (PtE Try.prog) := [
  ⟨23, 60, by kernel_rfl⟩]
set_option maxRecDepth 100000 in
noncomputable def Try.iks : List (IkE Try.prog) := [
  ⟨3, .i64, by kernel_rfl⟩,
  ⟨132, .u64, by kernel_rfl⟩]
set_option maxRecDepth 100000 in
noncomputable def Try.bys : List (ByE Try.prog) := [
  ⟨3, 8, by kernel_rfl⟩,
  ⟨28, 48, by kernel_rfl⟩,
  ⟨32, 56, by kernel_rfl⟩,
  ⟨40, 32, by kernel_rfl⟩,
  ⟨51, 56, by kernel_rfl⟩,
  ⟨61, 8, by kernel_rfl⟩,
  ⟨85, 32, by kernel_rfl⟩,
  ⟨106, 16, by kernel_rfl⟩,
  ⟨111, 24, by kernel_rfl⟩]
set_option maxRecDepth 100000 in
noncomputable def Try.zes : List (ZeE Try.prog) := [
  ⟨3, [.int .i64 0], by kernel_rfl⟩,
  ⟨28, [.int .i64 0, .int .i64 0, .int .i64 0, .int .i64 0, .int .i64 0, .int .i64 0], by kernel_rfl⟩,
  ⟨32, [.int .i64 0, .slice none 0 0, .slice none 0 0], by kernel_rfl⟩,
  ⟨40, [.int .i64 0, .int .i64 0, .int .i64 0, .int .i64 0], by kernel_rfl⟩,
  ⟨42, [.bool false, .bool false, .bool false], by kernel_rfl⟩,
  ⟨51, [.int .i64 0, .int .i64 0, .int .i64 0, .int .i64 0, .int .i64 0, .int .i64 0, .int .i64 0], by kernel_rfl⟩,
  ⟨56, [.int .i64 0, .int .i64 0, .slice none 0 0, .slice none 0 0, .slice none 0 0], by kernel_rfl⟩,
  ⟨60, [.int .i64 0, .int .i64 0, .slice none 0 0, .slice none 0 0], by kernel_rfl⟩,
  ⟨61, [.pointer none], by kernel_rfl⟩,
  ⟨64, [.int .i64 0, .slice none 0 0], by kernel_rfl⟩,
  ⟨66, [.int .i64 0, .int .i64 0, .int .i64 0, .int .i64 0, .int .i64 0, .int .i64 0, .int .i64 0, .slice none 0 0, .int .i64 0], by kernel_rfl⟩,
  ⟨77, [.bool false, .int .i64 0], by kernel_rfl⟩,
  ⟨78, [.bool false, .int .i64 0, .bool false, .int .i64 0, .bool false, .int .i64 0], by kernel_rfl⟩,
  ⟨85, [.int .i64 0, .int .i64 0, .int .i64 0, .int .i64 0], by kernel_rfl⟩,
  ⟨94, [.int .i64 0, .int .i64 0, .int .i64 0, .int .i64 0, .int .i64 0, .int .i64 0, .int .i64 0, .slice none 0 0], by kernel_rfl⟩,
  ⟨106, [.int .i64 0, .int .i64 0], by kernel_rfl⟩,
  ⟨111, [.int .i64 0, .int .i64 0, .int .i64 0], by kernel_rfl⟩,
  ⟨116, [.slice none 0 0], by kernel_rfl⟩,
  ⟨119, [.slice none 0 0, .int .i64 0, .int .i64 0, .int .i64 0, .int .i64 0, .int .i64 0, .int .i64 0, .int .i64 0], by kernel_rfl⟩]
set_option maxRecDepth 100000 in
noncomputable def Try.eqs : List (EqE Try.prog) := [
  ⟨40, [false, false, false, false], by kernel_rfl⟩,
  ⟨42, [true, true, true], by kernel_rfl⟩]
set_option maxRecDepth 100000 in
noncomputable def Try.bos : List (BoE Try.prog) := [
  ⟨4, by kernel_rfl⟩]
set_option maxRecDepth 100000 in
noncomputable def Try.sts : List (StE Try.prog) := [
  ]
noncomputable def Try.tab : Tab Try.prog := ⟨Try.iks, Try.bys, Try.eqs, Try.bos, Try.sts, Try.pts, Try.fos, Try.szs, Try.els, Try.zes, Try.fls⟩
theorem Try.mixed : Try.prog.follows .mixedOrders = true := by kernel_rfl
set_option maxRecDepth 100000 in
theorem Try.callables : ((List.range 85).all fun f => Nat.beq f 0 || Nat.beq f 1 || Nat.beq f 61 || Nat.beq f 68 || Nat.beq f 69 || Nat.beq f 70 || Nat.beq f 71 || Nat.beq f 72 || Nat.beq f 73 || Nat.beq f 74 || Nat.beq f 75 || Nat.beq f 76 || Nat.beq f 77 || Nat.beq f 78 || Nat.beq f 79 || Nat.beq f 80 || Nat.beq f 81 || Nat.beq f 82 || Nat.beq f 83 || Nat.beq f 84 || callable Try.prog f) = true := by kernel_rfl
theorem Try.can {f : Nat} (h : (Nat.blt f 85 && !(Nat.beq f 0 || Nat.beq f 1 || Nat.beq f 61 || Nat.beq f 68 || Nat.beq f 69 || Nat.beq f 70 || Nat.beq f 71 || Nat.beq f 72 || Nat.beq f 73 || Nat.beq f 74 || Nat.beq f 75 || Nat.beq f 76 || Nat.beq f 77 || Nat.beq f 78 || Nat.beq f 79 || Nat.beq f 80 || Nat.beq f 81 || Nat.beq f 82 || Nat.beq f 83 || Nat.beq f 84)) = true) : callable Try.prog f = true := by
  simp only [Bool.and_eq_true, Bool.not_eq_true'] at h
  have := List.all_eq_true.1 Try.callables f (List.mem_range.2 (by simpa [Nat.blt_eq] using h.1))
  rw [h.2, Bool.false_or] at this
  exact this
end Go.Proofs.Ytmhjcemcjfkejaa
