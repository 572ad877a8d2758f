/-
  Layer 7 (spans): how the document counts the places below p: marks, one by one (no program).
-/
import Derived.Test.YtficfoedofkhhaaSp2
namespace Go.Proofs.Ytficfoedofkhhaa
open Go.RowKit Go.Mine

/-- Does a span of the list have the place? -/
def hasPl (l : List (Int × Int)) (i : Nat) : Bool := l.any fun x => decide (x.1 ≤ (i : Int) ∧ (i : Int) < x.1 + x.2)
/-- How many places below j. -/
def cntTo (l : List (Int × Int)) : Nat → Nat
  | 0 => 0
  | j + 1 => cntTo l j + if hasPl l j then 1 else 0

theorem hasPl_past : ∀ (l : List (Int × Int)) (last : Int) (i : Nat), spansFrom last l = true → (i : Int) ≤ last → hasPl l i = false
  | [], _, _, _, _ => rfl
  | x :: r, last, i, h, hi => by
    simp only [spansFrom, Bool.and_eq_true, decide_eq_true_eq] at h
    have h2 := hasPl_past r (x.1 + x.2) i h.2 (by omega)
    unfold hasPl at h2 ⊢
    rw [List.any_cons, h2, Bool.or_false]
    simp; omega
theorem ahead_step : ∀ (l : List (Int × Int)) (last : Int) (j : Nat), spansFrom last l = true → aheadOf l ((j : Int) + 1) = aheadOf l j + if hasPl l j then 1 else 0
  | [], _, _, _ => rfl
  | x :: r, last, j, h => by
    have h' := h
    simp only [spansFrom, Bool.and_eq_true, decide_eq_true_eq] at h
    have ih := ahead_step r (x.1 + x.2) j h.2
    simp only [aheadOf]
    rw [ih]
    have e : hasPl (x :: r) j = (decide (x.1 ≤ (j : Int) ∧ (j : Int) < x.1 + x.2) || hasPl r j) := rfl
    rw [e]
    by_cases hj : x.1 ≤ (j : Int) ∧ (j : Int) < x.1 + x.2
    · have hp := hasPl_past r (x.1 + x.2) j h.2 (by omega)
      rw [hp, decide_eq_true hj]
      simp
      omega
    · rw [decide_eq_false hj, Bool.false_or]
      have : min (max ((j : Int) + 1) x.1) (x.1 + x.2) = min (max (j : Int) x.1) (x.1 + x.2) := by omega
      rw [this]
      omega
theorem ahead_low : ∀ (l : List (Int × Int)) (last p : Int), spansFrom last l = true → p ≤ 0 → aheadOf l p = 0
  | [], _, _, _, _ => rfl
  | x :: r, last, p, h, hp => by
    simp only [spansFrom, Bool.and_eq_true, decide_eq_true_eq] at h
    simp only [aheadOf]
    rw [ahead_low r _ p h.2 hp]
    omega
theorem ahead_high : ∀ (l : List (Int × Int)) (last p : Int), spansFrom last l = true → 20000 ≤ p → aheadOf l p = aheadOf l 20000
  | [], _, _, _, _ => rfl
  | x :: r, last, p, h, hp => by
    simp only [spansFrom, Bool.and_eq_true, decide_eq_true_eq] at h
    simp only [aheadOf]
    rw [ahead_high r _ p h.2 hp]
    omega
theorem cnt_ahead (l : List (Int × Int)) (h : spansOk l = true) : ∀ j : Nat, (cntTo l j : Int) = aheadOf l j
  | 0 => by rw [show ((0 : Nat) : Int) = 0 from rfl, ahead_low l (-1) 0 h (by omega)]; rfl
  | j + 1 => by
    have ih := cnt_ahead l h j
    have e : ((j + 1 : Nat) : Int) = (j : Int) + 1 := by omega
    rw [e, ahead_step l (-1) j h, ← ih]
    simp only [cntTo]
    split <;> simp
theorem cntTo_le (l : List (Int × Int)) : ∀ j, cntTo l j ≤ j
  | 0 => Nat.le_refl _
  | j + 1 => by
    have := cntTo_le l j
    simp only [cntTo]
    split <;> omega

end Go.Proofs.Ytficfoedofkhhaa
