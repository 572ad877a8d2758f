/-
  Texts on which the claim rests, one behind the other: RowK.
-/
import Derived.Test.YthicagfeaekmoaaDoorCp4
import Derived.Test.YthicagfeaekmoaaDoorRows
import Derived.Test.YthicagfeaekmoaaDoorCards
import Derived.Test.YthicagfeaekmoaaDoorTie
import Derived.ProofKit
import Derived.OpenShut
import Derived.LaidMore
import Derived.Lay
import Derived.SevenTiedAt
import Derived.Stop.Joined
import Derived.Lib.LaidU8T
import Derived.PinnedBridge
import Derived.Lib.SmallJoins

namespace Go.Proofs.YthicagfeaekmoaaDoor
open Go.ChangeShapes Go.WideShapes Go.ChangeAt Go.RowKit Go.Mine Go.Deep

theorem Tryd.own5 : ownKnob Tryd.prog.godebug = none := by kernel_rfl
theorem Tryd.laidOut5 : laidOutB Tryd.prog = true := by kernel_rfl

theorem accept_eq : (Rows.laid_unicode_utf8_acceptRanges : DataW Unit) = Lib.acceptData := by kernel_rfl
theorem u8types : U8Types Tryd.prog Tryd.lays197_ren := { Tryd.lays197 with }
theorem tabs_of {W : World} (h : laidMetH Tryd.prog [("unicode/utf8.acceptRanges", Rows.laid_unicode_utf8_acceptRanges), ("unicode/utf8.first", Rows.laid_unicode_utf8_first)] W) : tabsOk W := by
  rw [MakeChecks.laidMetH_plain _ _ _ (by kernel_rfl)] at h
  have h4 := Lib.laidMet.reads h (n := "unicode/utf8.acceptRanges") (.head _)
  have h3 := Lib.laidMet.reads h (n := "unicode/utf8.first") (.tail _ (.head _))
  rw [accept_eq] at h4
  have h3' : Lib.VarReads Tryd.prog W "unicode/utf8.first" Lib.firstData := by
    have := h3
    unfold Rows.laid_unicode_utf8_first at this
    rwa [Pinned.utf8First_eq] at this
  exact utf8Tabs_of_readsT u8types ⟨by kernel_rfl, by kernel_rfl, by kernel_rfl, by kernel_rfl, by kernel_rfl, by kernel_rfl, by kernel_rfl⟩ h3' h4
theorem okWide_three {P : Program} {w : World} {r : Reach} {b0 : Nat} {t e : TypeId} {v : Value} (ht : P.underlying t = some (.array 3 e)) (hC : P.cellsOf t = 3) (h : Value.okWide P w r b0 t v) : ∃ c0 c1 c2, v = .agg #[c0, c1, c2] := by
  simp only [Value.okWide, ht] at h
  obtain ⟨cs, rfl, h2, _⟩ := h
  obtain ⟨c0, c1, c2, rfl⟩ := Go.Joins.array3 (h2.trans hC)
  exact ⟨c0, c1, c2, rfl⟩
theorem okWide_two {P : Program} {w : World} {r : Reach} {b0 : Nat} {t e : TypeId} {v : Value} (ht : P.underlying t = some (.array 2 e)) (hC : P.cellsOf t = 2) (h : Value.okWide P w r b0 t v) : ∃ c0 c1, v = .agg #[c0, c1] := by
  simp only [Value.okWide, ht] at h
  obtain ⟨cs, rfl, h2, _⟩ := h
  obtain ⟨l⟩ := cs
  match l, h2.trans hC with
  | [c0, c1], _ => exact ⟨c0, c1, rfl⟩
theorem ints_two {H : Type} {enc : TypeId × Value → H} {P : Program} {w : World} {base : Nat} {sp : Nat → Bool} {held : Bool} {fuel : Nat} {t e : TypeId} {v0 v1 : Value} {x : DataW H × List MemPlace} (ht : P.underlying t = some (.array 2 e)) (he : P.underlying e = some (.int .i64)) (hC : P.cellsOf e = 1) (h : DataW.trod enc P w base sp held fuel t [v0, v1] = some x) :
    ∃ m0 m1 : Int, (-9223372036854775808 ≤ m0 ∧ m0 ≤ 9223372036854775807) ∧ (-9223372036854775808 ≤ m1 ∧ m1 ≤ 9223372036854775807) ∧ v0 = .int .i64 m0 ∧ v1 = .int .i64 m1 := by
  obtain ⟨ys, m, _, _, _, hyl, hg⟩ := DataW.trod_array ht h
  have h0 := hg 0 (by omega)
  have h1 := hg 1 (by omega)
  rw [hC] at h0 h1
  rw [List.getElem?_eq_getElem (by omega)] at h0 h1
  obtain ⟨m0, e0, _, w0⟩ := DataW.trod_int he h0
  obtain ⟨m1, e1, _, w1⟩ := DataW.trod_int he h1
  simp only [Nat.zero_mul, Nat.one_mul, List.drop_zero, List.drop_succ_cons, List.take_succ_cons, List.take_zero, List.cons.injEq, and_true] at e0 e1
  exact ⟨m0, m1, bounds_i64 w0, bounds_i64 w1, e0, e1⟩
theorem okWide_four {P : Program} {w : World} {r : Reach} {b0 : Nat} {t e : TypeId} {v : Value} (ht : P.underlying t = some (.array 4 e)) (hC : P.cellsOf t = 4) (h : Value.okWide P w r b0 t v) : ∃ c0 c1 c2 c3, v = .agg #[c0, c1, c2, c3] := by
  simp only [Value.okWide, ht] at h
  obtain ⟨cs, rfl, h2, _⟩ := h
  obtain ⟨l⟩ := cs
  match l, h2.trans hC with
  | [c0, c1, c2, c3], _ => exact ⟨c0, c1, c2, c3, rfl⟩
theorem ints_four {H : Type} {enc : TypeId × Value → H} {P : Program} {w : World} {base : Nat} {sp : Nat → Bool} {held : Bool} {fuel : Nat} {t e : TypeId} {v0 v1 v2 v3 : Value} {x : DataW H × List MemPlace} (ht : P.underlying t = some (.array 4 e)) (he : P.underlying e = some (.int .i64)) (hC : P.cellsOf e = 1) (h : DataW.trod enc P w base sp held fuel t [v0, v1, v2, v3] = some x) :
    ∃ m0 m1 m2 m3 : Int, (-9223372036854775808 ≤ m0 ∧ m0 ≤ 9223372036854775807) ∧ (-9223372036854775808 ≤ m3 ∧ m3 ≤ 9223372036854775807) ∧ v0 = .int .i64 m0 ∧ v1 = .int .i64 m1 ∧ v2 = .int .i64 m2 ∧ v3 = .int .i64 m3 := by
  obtain ⟨ys, m, _, _, _, hyl, hg⟩ := DataW.trod_array ht h
  have h0 := hg 0 (by omega)
  have h1 := hg 1 (by omega)
  have h2 := hg 2 (by omega)
  have h3 := hg 3 (by omega)
  rw [hC, List.getElem?_eq_getElem (by omega)] at h0 h1 h2 h3
  obtain ⟨m0, e0, _, w0⟩ := DataW.trod_int he h0
  obtain ⟨m1, e1, _, _⟩ := DataW.trod_int he h1
  obtain ⟨m2, e2, _, _⟩ := DataW.trod_int he h2
  obtain ⟨m3, e3, _, w3⟩ := DataW.trod_int he h3
  simp only [Nat.zero_mul, Nat.mul_one, List.drop_zero, List.drop_succ_cons, List.take_succ_cons, List.take_zero, List.cons.injEq, and_true] at e0 e1 e2 e3
  exact ⟨m0, m1, m2, m3, bounds_i64 w0, bounds_i64 w3, e0, e1, e2, e3⟩
end Go.Proofs.YthicagfeaekmoaaDoor
