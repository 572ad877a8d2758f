/-
  Layer 12 (cells): Gap: the place ahead of a live cell.
-/
import Derived.Test.YtficfoedofkhhaaCel8
namespace Go.Proofs.Ytficfoedofkhhaa
open Go.RowKit Go.Mine

/-- How many cells stand ahead of live cell number i. -/
def gapPos : List CellV → Nat → Nat
  | [], _ => 0
  | c :: t, i => if c.gone then 1 + gapPos t i else if i = 0 then 0 else 1 + gapPos t (i - 1)
theorem liveN_cons (c : CellV) (t : List CellV) : liveN (c :: t) = (if c.gone then 0 else 1) + liveN t := by
  unfold liveN
  cases h : c.gone <;> simp [h]; omega
theorem gapPos_ge : ∀ (c r : List CellV) (i : Nat), liveN c ≤ i → gapPos (c ++ r) i = c.length + gapPos r (i - liveN c)
  | [], r, i, _ => by simp [liveN]
  | c :: t, r, i, h => by
    rw [liveN_cons] at h ⊢
    rw [List.cons_append, List.length_cons, gapPos]
    cases hg : c.gone
    · rw [hg] at h
      simp only [Bool.false_eq_true, if_false] at h ⊢
      rw [if_neg (by omega), gapPos_ge t r (i - 1) (by omega), show i - 1 - liveN t = i - (1 + liveN t) by omega]
      omega
    · rw [hg] at h
      simp only [if_true, Nat.zero_add] at h ⊢
      rw [gapPos_ge t r i h]
      omega
theorem gapPos_lt : ∀ (c r : List CellV) (i : Nat), i < liveN c → gapPos (c ++ r) i = gapPos c i
  | [], r, i, h => by simp [liveN] at h
  | c :: t, r, i, h => by
    rw [liveN_cons] at h
    rw [List.cons_append, gapPos, gapPos]
    cases hg : c.gone
    · rw [hg] at h
      simp only [Bool.false_eq_true, if_false] at h ⊢
      by_cases h0 : i = 0
      · rw [if_pos h0, if_pos h0]
      · rw [if_neg h0, if_neg h0, gapPos_lt t r (i - 1) (by omega)]
    · rw [hg] at h
      simp only [if_true, Nat.zero_add] at h ⊢
      rw [gapPos_lt t r i h]

/-- What Gap answers. -/
def gapV (l : List CellV) (i : Int) : Value := if i < 0 ∨ (liveN l : Int) < i then .tuple #[.int .i64 0, .int .i64 3] else if i = liveN l then .tuple #[.int .i64 (l.length : Int), .int .i64 0] else .tuple #[.int .i64 (gapPos l i.toNat : Int), .int .i64 0]

/-- What the blocks from the k-th on hold. -/
def rstBs (bl : List (Nat × List CellV)) (k : Nat) : List CellV := (bl.drop k).flatMap Prod.snd
theorem rstBs_step {bl : List (Nat × List CellV)} {k : Nat} {x : Nat × List CellV} (hx : bl[k]? = some x) : rstBs bl k = x.2 ++ rstBs bl (k + 1) := by
  obtain ⟨hk', e⟩ := List.getElem?_eq_some_iff.1 hx
  unfold rstBs
  rw [List.drop_eq_getElem_cons hk', e, List.flatMap_cons]

set_option maxHeartbeats 4000000 in
set_option maxRecDepth 1000000 in
theorem gap_any (w : World) (B D : Nat) (l : List CellV) (i : Int) (h : DocIs w B D l) (hlen : l.length ≤ 1099511627776) :
    Calls Try.prog 27 #[.pointer (some ⟨D, 0, none⟩), .int .i64 i] w fun e w' => e = .returned (gapV l i) ∧ Mod none_ w w' := by
  have HALL := Lib.hid (all_any w B D l h hlen)
  have HDOC := Lib.hid h
  have hlv := liveN_le l
  obtain ⟨R, hR⟩ : ∃ R, R = gapV l i := ⟨_, rfl⟩
  rw [← hR]
  have HR := Lib.hid hR
  clear hR h
  go_enter Try.func27, Try.ntmps27
  go_wp2_with fail
  refine HALL.out.mono ?_
  rintro e w1 ⟨rfl, m1⟩
  have MA := Lib.hid (m1.alloc (.cells #[.int .i64 (l.length : Int), .int .i64 (liveN l : Int)] 90))
  have kA := Blk.new (w := w1) (cs := [.int .i64 (l.length : Int), .int .i64 (liveN l : Int)]) (t := 90)
  clear m1
  go_upto_region 4 with fail
  generalize w1.alloc (.cells #[.int .i64 (l.length : Int), .int .i64 (liveN l : Int)] 90) = wA at MA kA ⊢
  have s0 : wA.cell? ⟨w1.heap.size, 0, none⟩ = some (.int .i64 (l.length : Int)) := by rw [kA.cell]; rfl
  have s1 : wA.cell? ⟨w1.heap.size, 1, none⟩ = some (.int .i64 (liveN l : Int)) := by rw [kA.cell]; rfl
  clear kA
  by_cases hi0 : i < 0
  · have HE := Lib.hid (show R = .tuple #[.int .i64 0, .int .i64 3] by rw [HR.out]; unfold gapV; rw [if_pos (.inl hi0)])
    have hd : decide (i < 0) = true := by simp; omega
    go_wp2_with fail
    go_ret2
    exact ⟨by rw [HE.out]; rfl, MA.out⟩
  have hd0 : decide (i < 0) = false := by simp; omega
  by_cases hi1 : (liveN l : Int) < i
  · have HE := Lib.hid (show R = .tuple #[.int .i64 0, .int .i64 3] by rw [HR.out]; unfold gapV; rw [if_pos (.inr hi1)])
    have hd : decide ((liveN l : Int) < i) = true := by simp; omega
    go_wp2_with fail
    go_ret2
    exact ⟨by rw [HE.out]; rfl, MA.out⟩
  have hd1 : decide ((liveN l : Int) < i) = false := by simp; omega
  by_cases hi2 : i = (liveN l : Int)
  · have HE := Lib.hid (show R = .tuple #[.int .i64 (l.length : Int), .int .i64 0] by rw [HR.out]; unfold gapV; rw [if_neg (by omega), if_pos hi2])
    subst hi2
    go_wp2_with fail
    go_ret2
    exact ⟨by rw [HE.out]; rfl, MA.out⟩
  have hi3 : (i == (liveN l : Int)) = false := by simp; omega
  obtain ⟨i0, rfl⟩ : ∃ i0 : Nat, i = (i0 : Int) := ⟨i.toNat, by omega⟩
  have HE := Lib.hid (show R = .tuple #[.int .i64 (gapPos l i0 : Int), .int .i64 0] by rw [HR.out]; unfold gapV; rw [if_neg (by omega), if_neg hi2]; rfl)
  have hi4 : i0 < liveN l := by omega
  obtain ⟨⟨v, MB, bl, n, kd, hdb, hfl, _⟩, _⟩ := HDOC.out
  obtain ⟨va, vc, rfl⟩ : ∃ va vc, v = .slice va bl.length vc := by
    rcases ownsRow_blk hdb.1 with ⟨rfl, h0, _⟩ | ⟨g, c', _, rfl, _⟩
    · exact ⟨none, 0, by rw [h0]⟩
    · exact ⟨_, c', rfl⟩
  have hcap := hdb.cap
  unfold maxLen at hcap
  have hbn : bl.length ≤ 9223372036854775807 := by omega
  have cd : wA.cell? ⟨D, 0, none⟩ = some (.slice va bl.length vc) := by
    have := (kd.mod MA.out (fun e => e)).cell 0
    exact this
  obtain ⟨GP, hGP⟩ : ∃ GP, GP = gapPos l i0 := ⟨_, rfl⟩
  have H0 : rstBs bl 0 = l := by unfold rstBs; rw [List.drop_zero, hfl]
  have HS := Lib.hid (show i0 < liveN (rstBs bl 0) ∧ 0 + gapPos (rstBs bl 0) i0 = GP ∧ 0 + (rstBs bl 0).length = l.length by rw [H0, hGP]; omega)
  rw [← hGP] at HE
  have HDB := Lib.hid hdb
  clear hcap hdb hfl kd hGP H0 hi2 HR hi4
  go_wp2_with fail
  go_loopg [1, 7, 35] bl.length (fun g s1 s7 s35 wx => ∃ k i' p' : Nat, g = bl.length - k ∧ s1 = .int .i64 i' ∧ s7 = .int .i64 p' ∧ s35 = .int .i64 k ∧ k ≤ bl.length ∧ Mod none_ w wx ∧ RowKit.Hid (i' < liveN (rstBs bl k) ∧ p' + gapPos (rstBs bl k) i' = GP ∧ p' + (rstBs bl k).length = l.length))
  case atStart => exact ⟨0, i0, 0, rfl, rfl, rfl, rfl, Nat.zero_le _, MA.out, HS⟩
  case round =>
    obtain ⟨k, i', p', rfl, rfl, rfl, rfl, hk, mx, hst⟩ := hrel
    have MX := Lib.hid mx
    by_cases hlk : k < bl.length
    · obtain ⟨x, hx⟩ : ∃ x, bl[k]? = some x := ⟨bl[k]'hlk, by simp⟩
      have hdx := HDB.out.grown mx
      obtain ⟨g, rfl, c0⟩ := hdx.at_ hx
      obtain ⟨⟨vb, kb, hrow, _⟩, _⟩ := hdx.2 x (List.mem_of_getElem? hx)
      obtain ⟨h1, h2, h3⟩ := hst.out
      rw [rstBs_step hx] at h1 h2 h3
      obtain ⟨p, c⟩ := x
      dsimp only at c0 kb hrow h1 h2 h3
      rw [List.length_append] at h3
      rw [liveN_append] at h1
      have b0 : wr.cell? ⟨p, 0, none⟩ = some (.int .i64 (c.length : Int)) := by rw [kb.cell]; rfl
      have b1 : wr.cell? ⟨p, 1, none⟩ = some (.int .i64 (liveN c : Int)) := by rw [kb.cell]; rfl
      have b2 : wr.cell? ⟨p, 2, none⟩ = some vb := by rw [kb.cell]; rfl
      have hcl := liveN_le c
      have hrl := liveN_le (rstBs bl (k + 1))
      by_cases hge : liveN c ≤ i'
      · rw [gapPos_ge _ _ _ hge] at h2
        have HS2 := Lib.hid (show i' - liveN c < liveN (rstBs bl (k + 1)) ∧ (p' + c.length) + gapPos (rstBs bl (k + 1)) (i' - liveN c) = GP ∧ (p' + c.length) + (rstBs bl (k + 1)).length = l.length by omega)
        have hw1 : (i' : Int) - liveN c ≤ 1099511627776 := by omega
        have hw2 : (p' : Int) + c.length ≤ 1099511627776 := by omega
        have hdg : decide ((liveN c : Int) ≤ (i' : Int)) = true := by simp; omega
        clear hdx hx mx kb hrow h1 h2 h3 hst
        go_wp2_with fail
        go_roundg (bl.length - (k + 1))
        case measure => omega
        case rel => exact ⟨k + 1, i' - liveN c, p' + c.length, rfl, by (congr 1; omega), by (congr 1), by go_num, by omega, MX.out, HS2⟩
      · rw [gapPos_lt _ _ _ (by omega)] at h2
        have HS2 := Lib.hid (show i' < liveN (c.drop 0) ∧ p' + gapPos (c.drop 0) i' = GP ∧ p' + (c.drop 0).length ≤ l.length by rw [List.drop_zero]; omega)
        have hdg : decide ((liveN c : Int) ≤ (i' : Int)) = false := by simp; omega
        have hw1 : i' ≤ 1099511627776 := by omega
        have hw2 : c.length ≤ 1099511627776 := by omega
        rcases ownsRow_blk hrow with ⟨rfl, hz, _⟩ | ⟨gc, capc, more, rfl, _, kg, hnc, hcm, _⟩
        · omega
        unfold maxLen at hcm
        have KG := Lib.hid kg
        clear hdx hx mx kb hrow h1 h2 h3 hst kg
        go_wp2_with fail
        go_loopg [1, 7, 65] c.length (fun g s1 s7 s65 wx => ∃ j i2 p2 : Nat, g = c.length - j ∧ s1 = .int .i64 i2 ∧ s7 = .int .i64 p2 ∧ s65 = .int .i64 j ∧ j ≤ c.length ∧ Mod none_ wr wx ∧ RowKit.Hid (i2 < liveN (c.drop j) ∧ p2 + gapPos (c.drop j) i2 = GP ∧ p2 + (c.drop j).length ≤ l.length))
        case atStart => exact ⟨0, i', p', rfl, rfl, rfl, rfl, Nat.zero_le _, Mod.refl _ _, HS2⟩
        case round =>
          obtain ⟨j, i2, p2, rfl, rfl, rfl, rfl, hj, my, hst2⟩ := hrel
          obtain ⟨h1, h2, h3⟩ := hst2.out
          have hjl : j < c.length := by
            apply Classical.byContradiction
            intro hh
            rw [List.drop_eq_nil_of_le (by omega)] at h1
            simp [liveN] at h1
          obtain ⟨y, hy⟩ : ∃ y, c[j]? = some y := ⟨c[j]'hjl, by simp⟩
          have hdj : c.drop j = y :: c.drop (j + 1) := by
            obtain ⟨hk', e⟩ := List.getElem?_eq_some_iff.1 hy
            rw [List.drop_eq_getElem_cons hk', e]
          rw [hdj] at h1 h2 h3
          rw [liveN_cons] at h1
          rw [gapPos] at h2
          rw [List.length_cons] at h3
          have kgx := KG.out.mod my (fun e => e)
          have q0 := Blk.elem CellV.len kgx j 0 y hy (by decide)
          have q1 := Blk.elem CellV.len kgx j 1 y hy (by decide)
          have q2 := Blk.elem CellV.len kgx j 2 y hy (by decide)
          have q3 := Blk.elem CellV.len kgx j 3 y hy (by decide)
          have q4 := Blk.elem CellV.len kgx j 4 y hy (by decide)
          simp only [CellV.cs, Nat.add_zero, List.getElem?_cons_zero, List.getElem?_cons_succ] at q0 q1 q2 q3 q4
          have hgl := kgx.lt
          have MY := Lib.hid my
          have MZ := Lib.hid (MX.out.trans my)
          have hlv2 := liveN_le (c.drop (j + 1))
          cases hgone : y.gone
          · rw [hgone] at q4 h1 h2
            simp only [Bool.false_eq_true, if_false] at h1 h2
            by_cases h0 : i2 = 0
            · rw [if_pos h0] at h2
              obtain rfl : p2 = GP := by omega
              subst h0
              clear hst2 h1 h2 h3 hdj hy my kgx
              go_wp2_with fail
              all_goals go_ret2
              all_goals exact ⟨by rw [HE.out]; rfl, MZ.out.alloc _⟩
            · rw [if_neg h0] at h2
              have h00 : ((i2 : Int) == 0) = false := by simp; omega
              have HS3 := Lib.hid (show i2 - 1 < liveN (c.drop (j + 1)) ∧ (p2 + 1) + gapPos (c.drop (j + 1)) (i2 - 1) = GP ∧ (p2 + 1) + (c.drop (j + 1)).length ≤ l.length by omega)
              have hw3 : p2 ≤ 1099511627776 := by omega
              have hw4 : i2 ≤ 1099511627776 := by omega
              clear hst2 h1 h2 h3 hdj hy my kgx
              go_wp2_with fail
              all_goals go_roundg (c.length - (j + 1))
              all_goals first
                | omega
                | exact ⟨j + 1, i2 - 1, p2 + 1, rfl, by (congr 1; omega), by go_num, by go_num, by omega, MY.out.alloc _, HS3⟩
          · rw [hgone] at q4 h1 h2
            simp only [if_true] at h1 h2
            have HS3 := Lib.hid (show i2 < liveN (c.drop (j + 1)) ∧ (p2 + 1) + gapPos (c.drop (j + 1)) i2 = GP ∧ (p2 + 1) + (c.drop (j + 1)).length ≤ l.length by omega)
            have hw3 : p2 ≤ 1099511627776 := by omega
            clear hst2 h1 h2 h3 hdj hy my kgx
            go_wp2_with fail
            all_goals go_roundg (c.length - (j + 1))
            all_goals first
              | omega
              | exact ⟨j + 1, i2, p2 + 1, rfl, rfl, by go_num, by go_num, by omega, MY.out.alloc _, HS3⟩
    · exfalso
      obtain rfl : k = bl.length := by omega
      have := hst.out.1
      unfold rstBs at this
      rw [List.drop_length] at this
      simp [liveN] at this

end Go.Proofs.Ytficfoedofkhhaa
