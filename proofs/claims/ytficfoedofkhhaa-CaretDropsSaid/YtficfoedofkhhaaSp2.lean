/-
  Layer 7 (spans): the document's May; Ahead.
-/
import Derived.Test.YtficfoedofkhhaaSp1
namespace Go.Proofs.Ytficfoedofkhhaa
open Go.RowKit Go.Mine

set_option maxHeartbeats 2000000 in
set_option maxRecDepth 1000000 in
theorem rspansMay_any (w : World) (a : Option Addr) (len cap : Nat) (l : List (Int × Int)) (h : IsSpans w a len cap l) :
    Calls Try.prog 20 #[.slice a len cap] w fun e w' => e = .returned (.bool (spansOk l)) ∧ Mod none_ w w' := by
  have hle := h.le
  have hbig := h.big
  unfold maxLen at hbig
  have hN := h.n
  have H := Lib.hid h
  clear h
  go_enter Try.func20, Try.ntmps20
  go_wp2_with fail
  go_loopg [3, 4] len (fun g s3 s4 wx => ∃ (k : Nat) (last : Int), g = len - k ∧ s3 = .int .i64 last ∧ s4 = .int .i64 k ∧ k ≤ len ∧ (-1 ≤ last ∧ last ≤ 20000) ∧ Mod none_ w wx ∧ RowKit.Hid (spansOk l = spansFrom last (l.drop k)))
  case atStart => exact ⟨0, -1, rfl, rfl, rfl, Nat.zero_le _, by omega, Mod.refl _ _, Lib.hid rfl⟩
  case round =>
    obtain ⟨k, last, rfl, rfl, rfl, hk, hlast, m0, hS⟩ := hrel
    have M0 := Lib.hid m0
    by_cases hlk : k < len
    · obtain ⟨⟨f, n⟩, hx⟩ : ∃ x, l[k]? = some x := ⟨l[k]'(by omega), by simp⟩
      obtain ⟨b, off, rfl, c0, c1⟩ := H.out.cells k _ hx
      obtain ⟨hf, hn⟩ := H.out.ok _ (List.mem_of_getElem? hx)
      have hd : l.drop k = (f, n) :: l.drop (k + 1) := by
        obtain ⟨hk', e⟩ := List.getElem?_eq_some_iff.1 hx
        rw [List.drop_eq_getElem_cons hk', e]
      have c0' := m0.cell (fun e => e) c0
      have c1' := m0.cell (fun e => e) c1
      dsimp only at hf hn c0' c1'
      have hlb := block_lt_of_cell c0'
      rw [hd, spansFrom_cons] at hS
      clear c0 c1 hx hd m0
      by_cases hn1 : n < 1
      · have HR := Lib.hid (show spansOk l = false by rw [hS.out]; simp; omega)
        have hd1 : decide (n < 1) = true := by simpa using hn1
        go_wp2_with fail
        go_quiet (fail)
        go_wp2_with fail
        go_ret
        exact ⟨by rw [HR.out]; rfl, M0.out.drewN _⟩
      have hd1 : decide (n < 1) = false := by simp; omega
      by_cases hl1 : f ≤ last
      · have HR := Lib.hid (show spansOk l = false by rw [hS.out]; simp; omega)
        have hd2 : decide (f ≤ last) = true := by simpa using hl1
        go_wp2_with fail
        go_quiet (fail)
        go_wp2_with fail
        go_ret
        exact ⟨by rw [HR.out]; rfl, M0.out.drewN _⟩
      have hd2 : decide (f ≤ last) = false := by simp; omega
      by_cases h20 : 20000 < f
      · have HR := Lib.hid (show spansOk l = false by rw [hS.out]; simp; omega)
        have hd3 : decide (20000 < f) = true := by simpa using h20
        go_wp2_with fail
        go_quiet (fail)
        go_wp2_with fail
        go_ret
        exact ⟨by rw [HR.out]; rfl, M0.out.drewN _⟩
      have hd3 : decide (20000 < f) = false := by simp; omega
      by_cases hfn : 20000 - f < n
      · have HR := Lib.hid (show spansOk l = false by rw [hS.out]; simp; omega)
        have hd4 : decide (20000 - f < n) = true := by simpa using hfn
        go_wp2_with fail
        go_quiet (fail)
        go_wp2_with fail
        go_ret
        exact ⟨by rw [HR.out]; rfl, M0.out.drewN _⟩
      have hd4 : decide (20000 - f < n) = false := by simp; omega
      have HR := Lib.hid (show spansOk l = spansFrom (f + n) (l.drop (k + 1)) by
        have e1 : decide (0 ≤ f ∧ f ≤ 20000 ∧ 1 ≤ n ∧ n ≤ 20000 - f ∧ last < f) = true := by simp; omega
        rw [hS.out, e1, Bool.true_and])
      go_wp2_with fail
      go_quiet (fail)
      go_wp2_with fail
      go_quiet (fail)
      go_wp2_with fail
      go_roundg (len - (k + 1))
      case measure => omega
      case rel => exact ⟨k + 1, f + n, rfl, rfl, by go_num, by omega, by omega, M0.out.drewN _, HR⟩
    · obtain rfl : k = len := by omega
      have HR := Lib.hid (show spansOk l = true by rw [hS.out, List.drop_eq_nil_of_le (by omega)]; rfl)
      clear hS m0
      go_wp2_with fail
      go_ret
      exact ⟨by rw [HR.out]; rfl, M0.out⟩

/-- How many places below p. -/
def aheadOf : List (Int × Int) → Int → Int
  | [], _ => 0
  | x :: r, p => (min (max p x.1) (x.1 + x.2) - x.1) + aheadOf r p
theorem aheadOf_le : ∀ (l : List (Int × Int)) (p : Int), (∀ x ∈ l, 0 ≤ x.2 ∧ x.2 ≤ 20000) → 0 ≤ aheadOf l p ∧ aheadOf l p ≤ 20000 * l.length
  | [], p, _ => by simp [aheadOf]
  | x :: r, p, h => by
    have h1 := h x (List.mem_cons_self ..)
    have h2 := aheadOf_le r p (fun y hy => h y (List.mem_cons_of_mem _ hy))
    simp only [aheadOf, List.length_cons]
    omega
theorem spansFrom_ok : ∀ (l : List (Int × Int)) (last : Int), spansFrom last l = true → ∀ x ∈ l, 0 ≤ x.1 ∧ x.1 ≤ 20000 ∧ 1 ≤ x.2 ∧ x.2 ≤ 20000 - x.1
  | [], _, _, x, hx => by simp at hx
  | y :: r, last, h, x, hx => by
    simp only [spansFrom, Bool.and_eq_true, decide_eq_true_eq] at h
    rcases List.mem_cons.1 hx with rfl | hx
    · omega
    · exact spansFrom_ok r _ h.2 x hx
theorem aheadOf_split (l : List (Int × Int)) (p : Int) (k : Nat) (f n : Int) (r : List (Int × Int)) (hd : l.drop k = (f, n) :: r) : aheadOf (l.drop k) p = (min (max p f) (f + n) - f) + aheadOf r p := by rw [hd]; rfl

set_option maxHeartbeats 2000000 in
set_option maxRecDepth 1000000 in
theorem ahead_any (w : World) (a : Option Addr) (len cap : Nat) (l : List (Int × Int)) (p : Int) (h : IsSpans w a len cap l) (hlen : len ≤ 1000000) (hp : -9223372036854775808 ≤ p ∧ p ≤ 9223372036854775807) :
    Calls Try.prog 17 #[.slice a len cap, .int .i64 p] w fun e w' => e = .returned (.int .i64 (if spansOk l then aheadOf l p else 0)) ∧ Mod none_ w w' := by
  have hle := h.le
  have hbig := h.big
  unfold maxLen at hbig
  have hN := h.n
  have H := Lib.hid h
  clear h
  obtain ⟨R, hR⟩ : ∃ R, R = (if spansOk l then aheadOf l p else 0) := ⟨_, rfl⟩
  rw [← hR]
  go_enter Try.func17, Try.ntmps17
  go_wp2_with fail
  refine (spansMay_any w a len cap l H.out).mono ?_
  rintro e w0 ⟨rfl, m0⟩
  by_cases hok : spansOk l = true
  · rw [if_pos hok] at hR
    rw [hok]
    have HRR := Lib.hid hR
    clear hR
    have hall := spansFrom_ok l (-1) hok
    have H0 := Lib.hid (H.out.grown m0)
    have M0 := Lib.hid m0
    have HA := Lib.hid hall
    have HL := Lib.hid (aheadOf_le l p (fun x hx => by have := hall x hx; omega))
    clear H m0 hok hall
    go_wp2_with fail
    go_loopg [5, 13] len (fun g s5 s13 wx => ∃ (k : Nat) (c : Int), g = len - k ∧ s5 = .int .i64 c ∧ s13 = .int .i64 k ∧ k ≤ len ∧ (0 ≤ c ∧ c ≤ 20000 * k) ∧ Mod none_ w0 wx ∧ RowKit.Hid (aheadOf l p = c + aheadOf (l.drop k) p))
    case atStart => exact ⟨0, 0, rfl, rfl, rfl, Nat.zero_le _, by omega, Mod.refl _ _, Lib.hid (by simp)⟩
    case round =>
      obtain ⟨k, c, rfl, rfl, rfl, hk, hc, m1, hS⟩ := hrel
      have M1 := Lib.hid m1
      by_cases hlk : k < len
      · obtain ⟨⟨f, n⟩, hx⟩ : ∃ x, l[k]? = some x := ⟨l[k]'(by omega), by simp⟩
        obtain ⟨b, off, rfl, c0, c1⟩ := H0.out.cells k _ hx
        obtain ⟨hf0, hf1, hn0, hn1⟩ := HA.out _ (List.mem_of_getElem? hx)
        have hd : l.drop k = (f, n) :: l.drop (k + 1) := by
          obtain ⟨hk', e⟩ := List.getElem?_eq_some_iff.1 hx
          rw [List.drop_eq_getElem_cons hk', e]
        have c0' := m1.cell (fun e => e) c0
        have c1' := m1.cell (fun e => e) c1
        dsimp only at hf0 hf1 hn0 hn1 c0' c1'
        have hlb := block_lt_of_cell c0'
        have HR := Lib.hid (show aheadOf l p = (c + (min (max p f) (f + n) - f)) + aheadOf (l.drop (k + 1)) p by
          rw [hS.out, aheadOf_split l p k f n _ hd]; omega)
        have mB := Lib.hid (m1.alloc (.cells #[.int .i64 f, .int .i64 n] 77))
        have kb := Blk.new (w := wr) (cs := [.int .i64 f, .int .i64 n]) (t := 77)
        clear c0 c1 hx hd m1 hS
        go_upto_region 7 with fail
        generalize wr.alloc (.cells #[.int .i64 f, .int .i64 n] 77) = wA at mB kb ⊢
        have e0 : wA.cell? ⟨wr.heap.size, 0, none⟩ = some (.int .i64 f) := by rw [kb.cell]; rfl
        have e1 : wA.cell? ⟨wr.heap.size, 1, none⟩ = some (.int .i64 n) := by rw [kb.cell]; rfl
        have KB := Lib.hid kb
        clear kb c0' c1'
        go_region_law (go_simp; go_at_call 31; refine (end_any f n _ (by omega)).mono ?_; rintro e w2 ⟨rfl, m2⟩; have e2 := m2.cell (p := ⟨wr.heap.size, 0, none⟩) (fun e => e) e0; have e3 := m2.cell (p := ⟨wr.heap.size, 1, none⟩) (fun e => e) e1; have M2 := Lib.hid m2; clear m2)
        all_goals have hmm : f ≤ min (max p f) (f + n) ∧ min (max p f) (f + n) ≤ f + n := by omega
        all_goals go_wp2_with fail
        all_goals go_roundg (len - (k + 1))
        all_goals first
          | omega
          | exact ⟨k + 1, c + (min (max p f) (f + n) - f), rfl, by go_num, by go_num, by omega, by omega, (Mod.drew mB.out).trans M2.out, HR⟩
      · obtain rfl : k = len := by omega
        have HR := Lib.hid (show R = c by rw [HRR.out, hS.out, List.drop_eq_nil_of_le (by omega)]; simp [aheadOf])
        clear hS m1
        go_wp2_with fail
        go_ret
        exact ⟨by rw [HR.out]; rfl, M0.out.trans M1.out⟩
  · have hok' : spansOk l = false := by simpa using hok
    rw [if_neg hok] at hR
    rw [hok']
    have HRR := Lib.hid hR
    clear hR
    go_wp2_with fail
    go_ret
    exact ⟨by rw [HRR.out]; rfl, m0⟩

end Go.Proofs.Ytficfoedofkhhaa
