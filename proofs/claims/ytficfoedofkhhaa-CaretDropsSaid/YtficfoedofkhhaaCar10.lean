/-
  Layer 16 (caret): plain facts for alive.
-/
import Derived.Test.YtficfoedofkhhaaCar9
import Derived.Test.YtficfoedofkhhaaCar8
import Derived.Test.YtficfoedofkhhaaBlk1
namespace Go.Proofs.Ytficfoedofkhhaa
open Go.RowKit Go.Mine
open Classical

def xy : ByteArray := ⟨#[120, 121]⟩
theorem ulen_xy : ulen xy = 2 := by
  have h0 : Lib.decodeGo xy = (120, 1) := by decide
  have h1 : tl xy 1 = ⟨#[121]⟩ := by decide
  have h2 : Lib.decodeGo ⟨#[121]⟩ = (121, 1) := by decide
  have h3 : tl ⟨#[121]⟩ 1 = ⟨#[]⟩ := by decide
  unfold ulen
  rw [runesOf_step (by decide) (by unfold bad1; rw [h0]; decide), h0]
  dsimp only
  rw [h1, runesOf_step (by decide) (by unfold bad1; rw [h2]; decide), h2]
  dsimp only
  rw [h3, runesOf_nil (by decide)]
  rfl
theorem ascii_xy : ascii xy := by unfold ascii xy; decide

/-- alive's operation, by a site. -/
def alOp (s : Int) : OpV := ⟨s, 1, 0, 1, 1, xy, none, 0, 0⟩
theorem alOp_ok (s : Int) (hs : 1 ≤ s ∧ s ≤ 16) (w : World) : (alOp s).ok w [] := by
  refine ⟨?_, ?_, ?_, ?_, ?_, .inr ascii_xy, (by decide : xy.size < 4611686018427387904), ⟨rfl, Nat.le_refl _, Nat.zero_le _, fun x hx => (by cases hx), fun i x hx => by simp at hx⟩⟩ <;> simp [alOp] <;> omega
theorem alOp_ins (s : Int) : insOk (alOp s) 3 = true := by
  have h : xy.size = 2 := by decide
  simp [insOk, alOp, textOk, ulen_xy, inB, h]
theorem alOp_adds (s : Int) : addsOf (alOp s) = 2 := by
  unfold addsOf alOp
  rw [if_pos rfl]
  dsimp only
  rw [ulen_xy]
  rfl

/-- alive's cells, k of them turned. -/
def alC (k : Nat) : List CellV := (List.range 3).map fun i : Nat => ⟨if i < k then 9 else 99, 1, (i : Int), 46, false⟩
theorem alC_ok : ∀ c ∈ alC 3, c.ok := by
  intro c hc
  simp [alC, List.range, List.range.loop] at hc
  rcases hc with rfl | rfl | rfl <;> exact ⟨by dsimp only; omega, by dsimp only; omega, by dsimp only; omega, by dsimp only; omega⟩
theorem alC_new : newE (alC 3) = 0 := by
  unfold newE
  rw [if_pos (by decide), if_pos (by simp [alC, List.range, List.range.loop, CellV.id]), if_pos (by decide)]
theorem alC_put : putV (alC 3) 1 1 1 = .tuple #[.agg #[.int .i64 1, .int .i64 1, .int .i64 1], .int .i64 0] := by
  have h1 : gapBad (alC 3) 1 = false := by decide
  have h2 : gapN (alC 3) 1 = 1 := by decide
  unfold putV
  rw [h1, h2]
  rfl
theorem alC_blanks : alC 0 = blanks 3 := by rfl

end Go.Proofs.Ytficfoedofkhhaa
