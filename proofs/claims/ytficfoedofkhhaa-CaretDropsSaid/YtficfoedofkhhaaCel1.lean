/-
  The keys of the cells' maps: names, and names with offsets.
-/
import Derived.Test.YtficfoedofkhhaaProg
import Derived.Test.YtficfoedofkhhaaMaps_
import Derived.KernelRfl
namespace Go.Proofs.Ytficfoedofkhhaa
open Go.RowKit Go.Mine Go.Maps

theorem Try.laidOutC : laidOutB Try.prog = true := by kernel_rfl
theorem kName : Keyed Try.prog 39 := Keyed.of_law (deep_law_laid Try.laidOutC (m := 3) (by omega) (of_decide_eq_true (by kernel_rfl)) (by kernel_rfl) (by kernel_rfl))
theorem kId : Keyed Try.prog 58 := Keyed.of_law (deep_law_laid Try.laidOutC (m := 3) (by omega) (of_decide_eq_true (by kernel_rfl)) (by kernel_rfl) (by kernel_rfl))

/-- An int64. -/
def I64 (n : Int) : Prop := -9223372036854775808 ≤ n ∧ n ≤ 9223372036854775807
theorem I64.wf {n : Int} (h : I64 n) : (Lit.int .i64 n).wf = true := by
  unfold I64 at h
  have e : IntKind.i64.min = -9223372036854775808 := by decide
  simp [Lit.wf, e]
  omega

theorem keyFuel : ∃ m, Try.prog.types.size + 1 = m + 3 := ⟨Try.prog.types.size - 2, by have : 2 ≤ Try.prog.types.size := of_decide_eq_true (by kernel_rfl); omega⟩
theorem key_name {a b : Int} (ha : I64 a) (hb : I64 b) : isKey Try.prog 39 (.agg #[.int .i64 a, .int .i64 b]) := by
  obtain ⟨m, hm⟩ := keyFuel
  have hc : Try.prog.cellsOf 39 = 2 := by kernel_rfl
  have hi : Try.prog.cellsOf 3 = 1 := by kernel_rfl
  have hk : Try.prog.keyType 39 = true := by kernel_rfl
  unfold isKey keyOf
  rw [hm]
  simp [Try.underlying39, hk, Value.formed, hc, Value.cells, Program.keyLits, Try.underlying3, hi, ha.wf, hb.wf]
theorem key_id {a b c : Int} (ha : I64 a) (hb : I64 b) (hc' : I64 c) : isKey Try.prog 58 (.agg #[.int .i64 a, .int .i64 b, .int .i64 c]) := by
  obtain ⟨m, hm⟩ := keyFuel
  have hc : Try.prog.cellsOf 39 = 2 := by kernel_rfl
  have hd : Try.prog.cellsOf 58 = 3 := by kernel_rfl
  have hi : Try.prog.cellsOf 3 = 1 := by kernel_rfl
  have hk : Try.prog.keyType 58 = true := by kernel_rfl
  unfold isKey keyOf
  rw [hm]
  simp [Try.underlying58, Try.underlying39, hk, Value.formed, hc, hd, Value.cells, Program.keyLits, Try.underlying3, hi, ha.wf, hb.wf, hc'.wf]
  rw [if_pos (by decide)]
  exact ⟨_, rfl⟩

end Go.Proofs.Ytficfoedofkhhaa
