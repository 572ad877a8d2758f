/-
  Layer 7 (spans): within, fits, end, May: whether a list of spans may be; the document's May.
-/
import Derived.Test.YtficfoedofkhhaaUtf
import Derived.Test.YtficfoedofkhhaaRows_
namespace Go.Proofs.Ytficfoedofkhhaa
open Go.RowKit Go.Mine

/-- Spans in memory. -/
structure IsSpans (w : World) (a : Option Addr) (len cap : Nat) (l : List (Int × Int)) : Prop where
  n : l.length = len
  le : len ≤ cap
  big : cap ≤ maxLen
  ok : ∀ x ∈ l, (-9223372036854775808 ≤ x.1 ∧ x.1 ≤ 9223372036854775807) ∧ (-9223372036854775808 ≤ x.2 ∧ x.2 ≤ 9223372036854775807)
  cells : ∀ (i : Nat) (x : Int × Int), l[i]? = some x → ∃ b off, a = some ⟨b, off, none⟩ ∧ w.cell? ⟨b, off + i * 2, none⟩ = some (.int .i64 x.1) ∧ w.cell? ⟨b, off + i * 2 + 1, none⟩ = some (.int .i64 x.2)
theorem IsSpans.grown {w w' : World} {a : Option Addr} {len cap : Nat} {l : List (Int × Int)} (h : IsSpans w a len cap l) (m : Mod none_ w w') : IsSpans w' a len cap l :=
  ⟨h.n, h.le, h.big, h.ok, fun i x hx => by
    obtain ⟨b, off, e, c0, c1⟩ := h.cells i x hx
    exact ⟨b, off, e, m.cell (fun e => e) c0, m.cell (fun e => e) c1⟩⟩

/-- May a list of spans be, behind a place? -/
def spansFrom : Int → List (Int × Int) → Bool
  | _, [] => true
  | last, x :: r => decide (0 ≤ x.1 ∧ x.1 ≤ 20000 ∧ 1 ≤ x.2 ∧ x.2 ≤ 20000 - x.1 ∧ last < x.1) && spansFrom (x.1 + x.2) r
def spansOk (l : List (Int × Int)) : Bool := spansFrom (-1) l

def fitsB (x : Int × Int) : Bool := decide (0 ≤ x.1 ∧ x.1 ≤ 20000 ∧ 0 ≤ x.2 ∧ x.2 ≤ 20000 - x.1)

theorem fits_any (a b : Int) (w : World) (ha : -9223372036854775808 ≤ a ∧ a ≤ 9223372036854775807) (hb : -9223372036854775808 ≤ b ∧ b ≤ 9223372036854775807) :
    Calls Try.prog 30 #[.agg #[.int .i64 a, .int .i64 b]] w fun e w' => e = .returned (.bool (fitsB (a, b))) ∧ Mod none_ w w' := by
  have m := (Mod.refl none_ w).alloc (.cells #[.int .i64 a, .int .i64 b] 77)
  by_cases h1 : 0 ≤ a
  · by_cases h2 : a ≤ 20000
    · by_cases h3 : 0 ≤ b
      · by_cases h4 : b ≤ 20000 - a
        · have hf : fitsB (a, b) = true := by simp [fitsB]; omega
          rw [hf]
          go_enter Try.func30, Try.ntmps30
          go_wp2
          go_ret
          exact ⟨rfl, m⟩
        · have hf : fitsB (a, b) = false := by simp [fitsB]; omega
          rw [hf]
          go_enter Try.func30, Try.ntmps30
          go_wp2
          go_ret
          exact ⟨rfl, m⟩
      · have hf : fitsB (a, b) = false := by simp [fitsB]; omega
        rw [hf]
        go_enter Try.func30, Try.ntmps30
        go_wp2
        go_ret
        exact ⟨rfl, m⟩
    · have hf : fitsB (a, b) = false := by simp [fitsB]; omega
      rw [hf]
      go_enter Try.func30, Try.ntmps30
      go_wp2
      go_ret
      exact ⟨rfl, m⟩
  · have hf : fitsB (a, b) = false := by simp [fitsB]; omega
    rw [hf]
    go_enter Try.func30, Try.ntmps30
    go_wp2
    go_ret
    exact ⟨rfl, m⟩

theorem end_any (a b : Int) (w : World) (h : -9223372036854775808 ≤ a + b ∧ a + b ≤ 9223372036854775807) :
    Calls Try.prog 31 #[.agg #[.int .i64 a, .int .i64 b]] w fun e w' => e = .returned (.int .i64 (a + b)) ∧ Mod none_ w w' := by
  have m := (Mod.refl none_ w).alloc (.cells #[.int .i64 a, .int .i64 b] 77)
  go_enter Try.func31, Try.ntmps31
  go_wp2
  go_ret
  exact ⟨rfl, m⟩

theorem spansFrom_cons (last f n : Int) (r : List (Int × Int)) : spansFrom last ((f, n) :: r) = (decide (0 ≤ f ∧ f ≤ 20000 ∧ 1 ≤ n ∧ n ≤ 20000 - f ∧ last < f) && spansFrom (f + n) r) := rfl

set_option maxHeartbeats 1000000 in
set_option maxRecDepth 1000000 in
theorem spansMay_any (w : World) (a : Option Addr) (len cap : Nat) (l : List (Int × Int)) (h : IsSpans w a len cap l) :
    Calls Try.prog 15 #[.slice a len cap] w fun e w' => e = .returned (.bool (spansOk l)) ∧ Mod none_ w w' := by
  have hle := h.le
  have hbig := h.big
  unfold maxLen at hbig
  have hN := h.n
  have H := Lib.hid h
  clear h
  go_enter Try.func15, Try.ntmps15
  go_wp2_with fail
  go_loopg [3, 8] len (fun g s3 s8 wx => ∃ (k : Nat) (last : Int), g = len - k ∧ s3 = .int .i64 last ∧ s8 = .int .i64 k ∧ k ≤ len ∧ (-1 ≤ last ∧ last ≤ 20000) ∧ Mod none_ w wx ∧ RowKit.Hid (spansOk l = spansFrom last (l.drop k)))
  case atStart => exact ⟨0, -1, rfl, rfl, rfl, Nat.zero_le _, by omega, Mod.refl _ _, Lib.hid rfl⟩
  case round =>
    obtain ⟨k, last, rfl, rfl, rfl, hk, hlast, m0, hS⟩ := hrel
    have M0 := Lib.hid m0
    by_cases hlk : k < len
    · obtain ⟨⟨f, n⟩, hx⟩ : ∃ x, l[k]? = some x := ⟨l[k]'(by omega), by simp⟩
      obtain ⟨b, off, rfl, c0, c1⟩ := H.out.cells k _ hx
      obtain ⟨hf, hn⟩ := H.out.ok _ (List.mem_of_getElem? hx)
      have hd : l.drop k = (f, n) :: l.drop (k + 1) := by
        obtain ⟨hk', e⟩ := List.getElem?_eq_some_iff.1 hx
        rw [List.drop_eq_getElem_cons hk', e]
      have c0' := m0.cell (fun e => e) c0
      have c1' := m0.cell (fun e => e) c1
      dsimp only at hf hn c0' c1'
      have hlb := block_lt_of_cell c0'
      rw [hd, spansFrom_cons] at hS
      clear c0 c1 hx hd m0
      by_cases hF : fitsB (f, n) = true
      · have hff : 0 ≤ f ∧ f ≤ 20000 ∧ 0 ≤ n ∧ n ≤ 20000 - f := by simpa [fitsB] using hF
        by_cases hn1 : n < 1
        · have HR := Lib.hid (show spansOk l = false by rw [hS.out]; simp; omega)
          have hd1 : decide (n < 1) = true := by simpa using hn1
          go_wp2_with fail
          refine (fits_any f n _ hf hn).mono ?_
          rintro e w1 ⟨rfl, m1⟩
          rw [hF]
          have M1 := Lib.hid (M0.out.trans (((Mod.refl none_ wr).alloc _).trans m1))
          have kb := (Blk.new (w := wr) (cs := [.int .i64 f, .int .i64 n]) (t := 77)).mod m1 (fun e => e)
          have c2 : w1.cell? ⟨wr.heap.size, 1, none⟩ = some (.int .i64 n) := by rw [kb.cell]; rfl
          clear m1 kb
          go_wp2_with fail
          go_ret
          exact ⟨by rw [HR.out]; rfl, M1.out⟩
        · have hd1 : decide (n < 1) = false := by simp; omega
          by_cases hl1 : f ≤ last
          · have HR := Lib.hid (show spansOk l = false by rw [hS.out]; simp; omega)
            have hd2 : decide (f ≤ last) = true := by simpa using hl1
            go_wp2_with fail
            refine (fits_any f n _ hf hn).mono ?_
            rintro e w1 ⟨rfl, m1⟩
            rw [hF]
            have M1 := Lib.hid (M0.out.trans (((Mod.refl none_ wr).alloc _).trans m1))
            have kb := (Blk.new (w := wr) (cs := [.int .i64 f, .int .i64 n]) (t := 77)).mod m1 (fun e => e)
            have c2 : w1.cell? ⟨wr.heap.size, 1, none⟩ = some (.int .i64 n) := by rw [kb.cell]; rfl
            have c3 : w1.cell? ⟨wr.heap.size, 0, none⟩ = some (.int .i64 f) := by rw [kb.cell]; rfl
            clear m1 kb
            go_wp2_with fail
            go_ret
            exact ⟨by rw [HR.out]; rfl, M1.out⟩
          · have hd2 : decide (f ≤ last) = false := by simp; omega
            have HR := Lib.hid (show spansOk l = spansFrom (f + n) (l.drop (k + 1)) by
              have e1 : decide (0 ≤ f ∧ f ≤ 20000 ∧ 1 ≤ n ∧ n ≤ 20000 - f ∧ last < f) = true := by simp; omega
              rw [hS.out, e1, Bool.true_and])
            go_wp2_with fail
            refine (fits_any f n _ hf hn).mono ?_
            rintro e w1 ⟨rfl, m1⟩
            rw [hF]
            have M1 := Lib.hid (M0.out.trans (((Mod.refl none_ wr).alloc _).trans m1))
            have kb := (Blk.new (w := wr) (cs := [.int .i64 f, .int .i64 n]) (t := 77)).mod m1 (fun e => e)
            have c2 : w1.cell? ⟨wr.heap.size, 1, none⟩ = some (.int .i64 n) := by rw [kb.cell]; rfl
            have c3 : w1.cell? ⟨wr.heap.size, 0, none⟩ = some (.int .i64 f) := by rw [kb.cell]; rfl
            clear m1 kb
            go_wp2_with fail
            refine (end_any f n _ (by omega)).mono ?_
            rintro e w2 ⟨rfl, m2⟩
            have M2 := Lib.hid (M1.out.trans m2)
            clear m2
            go_wp2_with fail
            go_roundg (len - (k + 1))
            case measure => omega
            case rel => exact ⟨k + 1, f + n, rfl, rfl, by go_num, by omega, by omega, M2.out, HR⟩
      · have hF' : fitsB (f, n) = false := by simpa using hF
        have hff : ¬ (0 ≤ f ∧ f ≤ 20000 ∧ 0 ≤ n ∧ n ≤ 20000 - f) := by
          intro h; apply hF; simpa [fitsB] using h
        have HR := Lib.hid (show spansOk l = false by rw [hS.out]; simp; omega)
        go_wp2_with fail
        refine (fits_any f n _ hf hn).mono ?_
        rintro e w1 ⟨rfl, m1⟩
        rw [hF']
        have M1 := Lib.hid (M0.out.trans (((Mod.refl none_ wr).alloc _).trans m1))
        clear m1
        go_wp2_with fail
        go_ret
        exact ⟨by rw [HR.out]; rfl, M1.out⟩
    · obtain rfl : k = len := by omega
      have HR := Lib.hid (show spansOk l = true by rw [hS.out, List.drop_eq_nil_of_le (by omega)]; rfl)
      clear hS m0
      go_wp2_with fail
      go_ret
      exact ⟨by rw [HR.out]; rfl, M0.out⟩

end Go.Proofs.Ytficfoedofkhhaa
