/-
  Layer 7 (spans): the document's Marks and Ahead.
-/
import Derived.Test.YtficfoedofkhhaaSp3
namespace Go.Proofs.Ytficfoedofkhhaa
open Go.RowKit Go.Mine

def marksOf (M : Nat → Bool) : List Value := (List.range 20000).map fun i => .bool (M i)
theorem marksOf_len (M : Nat → Bool) : (marksOf M).length = 20000 := by unfold marksOf; rw [List.length_map, List.length_range]
theorem marksOf_at (M : Nat → Bool) (i : Nat) (hi : i < 20000) : (marksOf M)[i]? = some (.bool (M i)) := by
  unfold marksOf; rw [List.getElem?_map, List.getElem?_range hi]; rfl
theorem marksOf_nil : marksOf (fun _ => false) = List.replicate 20000 (.bool false) := by
  unfold marksOf
  apply List.ext_getElem?
  intro j
  rw [List.getElem?_map, List.getElem?_replicate]
  by_cases h : j < 20000
  · rw [List.getElem?_range h, if_pos h]; rfl
  · rw [List.getElem?_eq_none (by rw [List.length_range]; omega), if_neg h]; rfl
theorem marksOf_set (M : Nat → Bool) (i : Nat) (hi : i < 20000) : (marksOf M).set i (.bool true) = marksOf (fun j => M j || decide (j = i)) := by
  apply List.ext_getElem?
  intro j
  by_cases hj : j < 20000
  · rw [marksOf_at _ _ hj, List.getElem?_set, marksOf_len, marksOf_at _ _ hj]
    by_cases e : i = j
    · subst e; rw [if_pos rfl, if_pos hi]; simp
    · rw [if_neg e]; simp [show ¬ j = i from fun h => e h.symm]
  · rw [List.getElem?_eq_none (by rw [List.length_set, marksOf_len]; omega), List.getElem?_eq_none (by rw [marksOf_len]; omega)]
theorem made_n (n : Nat) : (madeCells #[Value.bool false] n) = (List.replicate n (Value.bool false)).toArray := by
  rw [← toList_madeCells_one]
theorem marksOf_made (w : World) : Blk (w.alloc (.cells (madeCells #[.bool false] 20000) 4)) w.heap.size (marksOf (hasPl [])) 4 := by
  have e : hasPl [] = fun _ => false := rfl
  rw [e, marksOf_nil]
  rw [made_n]
  exact Blk.new
theorem hasPl_take (l : List (Int × Int)) (k F N : Nat) (hx : l[k]? = some ((F : Int), (N : Int))) (i : Nat) : hasPl (l.take (k + 1)) i = (hasPl (l.take k) i || decide (F ≤ i ∧ i < F + N)) := by
  obtain ⟨hk, e⟩ := List.getElem?_eq_some_iff.1 hx
  unfold hasPl
  rw [List.take_succ_eq_append_getElem hk, List.any_append, e]
  congr 1
  simp only [List.any_cons, List.any_nil, Bool.or_false]
  congr 1
  exact propext ⟨fun h => by omega, fun h => by omega⟩

set_option maxHeartbeats 2000000 in
set_option maxRecDepth 1000000 in
theorem marks_any (w : World) (a : Option Addr) (len cap : Nat) (l : List (Int × Int)) (h : IsSpans w a len cap l) (hok : spansOk l = true) :
    Calls Try.prog 32 #[.slice a len cap] w fun e w' => e = .returned (.tuple #[.slice (some ⟨w.heap.size, 0, none⟩) 20000 20000, .bool true]) ∧ Blk w' w.heap.size (marksOf (hasPl l)) 4 ∧ Mod none_ w w' := by
  have hle := h.le
  have hbig := h.big
  unfold maxLen at hbig
  have hN := h.n
  have H := Lib.hid h
  have HA := Lib.hid (spansFrom_ok l (-1) hok)
  have hmk : ∀ w, (Instr.makeSlice 80 (.int .i64 20000) (.int .i64 20000)).run Try.prog w = .ok (.slice (some ⟨w.heap.size, 0, none⟩) 20000 20000) (w.alloc (.cells (madeCells #[.bool false] 20000) 4)) := fun w => by
    exact run_make_row' (P := Try.prog) 80 4 (.bool false) 1 Try.underlying80 (by kernel_rfl) rfl .i64 .i64 20000 (by decide) (by decide) w
  have kG := Lib.hid (marksOf_made w)
  have mG := Lib.hid ((Mod.refl none_ w).alloc (.cells (madeCells #[.bool false] 20000) 4))
  clear h hok
  go_enter Try.func32, Try.ntmps32
  go_wp2_with fail
  generalize w.alloc (.cells (madeCells #[.bool false] 20000) 4) = w0 at kG mG ⊢
  obtain ⟨G, hG⟩ : ∃ G, G = w.heap.size := ⟨_, rfl⟩
  rw [← hG] at kG ⊢
  have HG := Lib.hid hG
  have hGlow : w.heap.size ≤ G := by omega
  clear hG
  go_loopg [5] len (fun g s5 wx => ∃ k : Nat, g = len - k ∧ s5 = .int .i64 k ∧ k ≤ len ∧ Mod none_ w wx ∧ Blk wx G (marksOf (hasPl (l.take k))) 4)
  case atStart => exact ⟨0, rfl, rfl, Nat.zero_le _, mG.out, by rw [List.take_zero]; exact kG.out⟩
  case round =>
    obtain ⟨k, rfl, rfl, hk, m0, kb⟩ := hrel
    have M0 := Lib.hid m0
    have KB := Lib.hid kb
    by_cases hlk : k < len
    · obtain ⟨⟨f, n⟩, hx⟩ : ∃ x, l[k]? = some x := ⟨l[k]'(by omega), by simp⟩
      obtain ⟨b, off, rfl, c0, c1⟩ := H.out.cells k _ hx
      obtain ⟨hf0, hf1, hn0, hn1⟩ := HA.out _ (List.mem_of_getElem? hx)
      have c0' := m0.cell (fun e => e) c0
      have c1' := m0.cell (fun e => e) c1
      dsimp only at hf0 hf1 hn0 hn1 c0' c1'
      obtain ⟨F, rfl⟩ : ∃ F : Nat, f = F := ⟨f.toNat, by omega⟩
      obtain ⟨N, rfl⟩ : ∃ N : Nat, n = N := ⟨n.toNat, by omega⟩
      have hlb := block_lt_of_cell c0'
      have HT := Lib.hid (hasPl_take l k F N hx)
      have hd1 : decide ((F : Int) < 0) = false := by simp
      have hd2 : decide (20000 < (F : Int)) = false := by simp; omega
      have hd3 : decide ((N : Int) < 0) = false := by simp
      have hd4 : decide (20000 - (F : Int) < (N : Int)) = false := by simp; omega
      have mB := Lib.hid (m0.alloc (.cells #[.int .i64 (F : Int), .int .i64 (N : Int)] 77))
      have kS := Lib.hid (Blk.new (w := wr) (cs := [.int .i64 (F : Int), .int .i64 (N : Int)]) (t := 77))
      have kB := Lib.hid (kb.mod ((Mod.refl none_ wr).alloc (.cells #[.int .i64 (F : Int), .int .i64 (N : Int)] 77)) (fun e => e))
      have hGl := kb.lt
      clear c0 c1 hx m0 kb
      go_wp2_with fail
      generalize wr.alloc (.cells #[.int .i64 (F : Int), .int .i64 (N : Int)] 77) = wA at mB kS kB ⊢
      obtain ⟨S, hS⟩ : ∃ S, S = wr.heap.size := ⟨_, rfl⟩
      rw [← hS] at kS hGl ⊢
      clear hS
      go_loopg [7] N (fun g s7 wx => ∃ j : Nat, g = N - j ∧ s7 = .int .i64 j ∧ j ≤ N ∧ Mod none_ w wx ∧ Blk wx G (marksOf (fun i => hasPl (l.take k) i || decide (F ≤ i ∧ i < F + j))) 4 ∧ Blk wx S [.int .i64 (F : Int), .int .i64 (N : Int)] 77)
      case atStart =>
        refine ⟨0, rfl, rfl, Nat.zero_le _, mB.out, ?_, kS.out⟩
        have e : (fun i => hasPl (l.take k) i || decide (F ≤ i ∧ i < F + 0)) = hasPl (l.take k) := by
          funext i
          rw [decide_eq_false (by omega), Bool.or_false]
        rw [e]; exact kB.out
      case round =>
        obtain ⟨j, rfl, rfl, hj, m2, kg, ks⟩ := hrel
        have M2 := Lib.hid m2
        have e0 : wr.cell? ⟨S, 0, none⟩ = some (.int .i64 (F : Int)) := by rw [ks.cell]; rfl
        have e1 : wr.cell? ⟨S, 1, none⟩ = some (.int .i64 (N : Int)) := by rw [ks.cell]; rfl
        by_cases hjn : j < N
        · have hFj : F + j < 20000 := by omega
          have g0 : wr.cell? ⟨G, F + j, none⟩ = some (.bool (hasPl (l.take k) (F + j) || decide (F ≤ F + j ∧ F + j < F + j))) := by rw [kg.cell, marksOf_at _ _ hFj]
          have gf := kg.frozen (F + j)
          have kn := kg.set (F + j) (.bool true)
          rw [marksOf_set _ _ hFj] at kn
          have ef : (fun i => (hasPl (l.take k) i || decide (F ≤ i ∧ i < F + j)) || decide (i = F + j)) = (fun i => hasPl (l.take k) i || decide (F ≤ i ∧ i < F + (j + 1))) := by
            funext i
            rw [Bool.or_assoc]
            congr 1
            rw [← Bool.decide_or]
            congr 1
            exact propext ⟨fun h => by omega, fun h => by omega⟩
          have KN := Lib.hid (by rw [← ef]; exact kn : Blk (wr.setCell ⟨G, F + j, none⟩ (.bool true)) G (marksOf (fun i => hasPl (l.take k) i || decide (F ≤ i ∧ i < F + (j + 1)))) 4)
          have mS := (Mod.refl (one G) wr).setCell ⟨G, F + j, none⟩ (fun _ => rfl) (.bool true)
          have KS := Lib.hid (ks.mod mS (fun e => by have e' : S = G := e; omega))
          have MN := Lib.hid (m2.setCell ⟨G, F + j, none⟩ (fun h => absurd h (by show ¬ G < w.heap.size; omega)) (.bool true))
          clear m2 kg ks kn ef mS
          go_wp2_with fail
          go_roundg (N - (j + 1))
          case measure => omega
          case rel => exact ⟨j + 1, rfl, by go_num, by omega, MN.out, KN.out, KS.out⟩
        · obtain rfl : j = N := by omega
          have ef : (fun i => hasPl (l.take k) i || decide (F ≤ i ∧ i < F + j)) = hasPl (l.take (k + 1)) := by
            funext i; rw [HT.out i]
          rw [ef] at kg
          have KG := Lib.hid kg
          clear m2 kg ks ef
          go_wp2_with fail
          go_roundg (len - (k + 1))
          case measure => omega
          case rel => exact ⟨k + 1, rfl, by go_num, by omega, M2.out, KG.out⟩
    · obtain rfl : k = len := by omega
      have e : l.take k = l := List.take_of_length_le (by omega)
      have KE := Lib.hid (by rw [← e]; exact kb : Blk wr G (marksOf (hasPl l)) 4)
      clear m0 kb
      go_wp2_with fail
      go_ret2
      exact ⟨by rw [← HG.out]; rfl, by rw [← HG.out]; exact KE.out, M0.out⟩

set_option maxHeartbeats 2000000 in
set_option maxRecDepth 1000000 in
theorem rahead_any (w : World) (a : Option Addr) (len cap : Nat) (l : List (Int × Int)) (p : Int) (h : IsSpans w a len cap l) (hok : spansOk l = true) (hp : -9223372036854775808 ≤ p ∧ p ≤ 9223372036854775807) :
    Calls Try.prog 21 #[.slice a len cap, .int .i64 p] w fun e w' => e = .returned (.int .i64 (aheadOf l p)) ∧ Mod none_ w w' := by
  have hL := Lib.hid (cnt_ahead l hok)
  have hlow := Lib.hid (fun q : Int => fun hq : q ≤ 0 => ahead_low l (-1) q hok hq)
  have hhigh := Lib.hid (fun q : Int => fun hq : 20000 ≤ q => ahead_high l (-1) q hok hq)
  go_enter Try.func21, Try.ntmps21
  go_wp2_with fail
  refine (marks_any w a len cap l h hok).mono ?_
  rintro e w1 ⟨rfl, kG, m1⟩
  have KG := Lib.hid kG
  have M1 := Lib.hid m1
  clear h hok kG m1
  generalize w.heap.size = G at KG ⊢
  go_wp2_with fail
  go_loopg [7, 8] 20000 (fun g s7 s8 wx => ∃ j : Nat, g = 20000 - j ∧ s7 = .int .i64 ((cntTo l j : Nat) : Int) ∧ s8 = .int .i64 j ∧ j ≤ 20000 ∧ ((j : Int) ≤ p ∨ j = 0) ∧ wx = w1)
  case atStart => exact ⟨0, rfl, rfl, rfl, Nat.zero_le _, .inr rfl, rfl⟩
  case round =>
    obtain ⟨j, rfl, rfl, rfl, hj, hjp, rfl⟩ := hrel
    have hc := cntTo_le l j
    by_cases hj2 : j < 20000
    · by_cases hlt : (j : Int) < p
      · have c0 : wr.cell? ⟨G, j, none⟩ = some (.bool (hasPl l j)) := by rw [KG.out.cell, marksOf_at _ _ hj2]
        have hd : decide ((j : Int) < p) = true := by simpa using hlt
        have hn : (cntTo l (j + 1) : Int) = (cntTo l j : Int) + if hasPl l j then 1 else 0 := by simp only [cntTo]; split <;> simp
        have HN := Lib.hid hn
        clear hn
        by_cases hb : hasPl l j = true
        · rw [hb] at c0
          go_wp2_with fail
          go_roundg (20000 - (j + 1))
          case measure => omega
          case rel => exact ⟨j + 1, rfl, by rw [HN.out, if_pos hb], by go_num, by omega, .inl (by omega), rfl⟩
        · have hb' : hasPl l j = false := by simpa using hb
          rw [hb'] at c0
          go_wp2_with fail
          go_roundg (20000 - (j + 1))
          case measure => omega
          case rel => exact ⟨j + 1, rfl, by rw [HN.out, hb']; simp, by go_num, by omega, .inl (by omega), rfl⟩
      · have hd : decide ((j : Int) < p) = false := by simp; omega
        have HE := Lib.hid (show aheadOf l p = (cntTo l j : Int) by
          rcases hjp with h1 | h1
          · have e : p = (j : Int) := by omega
            rw [e, hL.out j]
          · subst h1
            rw [hlow.out p (by omega)]; rfl)
        go_wp2_with fail
        go_ret
        exact ⟨by rw [HE.out]; rfl, M1.out⟩
    · obtain rfl : j = 20000 := by omega
      have HE := Lib.hid (show aheadOf l p = (cntTo l 20000 : Int) by
        rw [hL.out 20000, hhigh.out p (by omega)]; rfl)
      go_wp2_with fail
      go_ret
      exact ⟨by rw [HE.out]; rfl, M1.out⟩

end Go.Proofs.Ytficfoedofkhhaa
