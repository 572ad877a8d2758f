/-
  Layer 16 (caret): May, at; the document's May.
-/
import Derived.Test.YtficfoedofkhhaaCar1
namespace Go.Proofs.Ytficfoedofkhhaa
open Go.RowKit Go.Mine

theorem ix0 (a t : Int) (w : World) : (Instr.index 50 (.agg #[.int .i64 a, .int .i64 t]) (.int .i64 0)).run Try.prog w = .ok (.int .i64 a) w := by kernel_rfl
theorem ix1 (a t : Int) (w : World) : (Instr.index 50 (.agg #[.int .i64 a, .int .i64 t]) (.int .i64 1)).run Try.prog w = .ok (.int .i64 t) w := by kernel_rfl
attribute [local go_sem] ix0 ix1

set_option maxHeartbeats 2000000 in
set_option maxRecDepth 1000000 in
theorem cmay_any (s a t size : Int) (w : World) : Calls Try.prog 14 #[.agg #[.int .i64 s, .int .i64 a, .int .i64 t], .int .i64 size] w fun e w' => e = .returned (.bool (markOk s a t size)) ∧ Mod none_ w w' := by
  obtain ⟨W0, hW0⟩ : ∃ W0, w.alloc (.cells #[.int .i64 s, .int .i64 a, .int .i64 t] 27) = W0 := ⟨_, rfl⟩
  have kB : Blk W0 w.heap.size [.int .i64 s, .int .i64 a, .int .i64 t] 27 := by rw [← hW0]; exact Blk.new
  have M0 := Lib.hid (show Mod none_ w W0 by rw [← hW0]; exact (Mod.refl none_ w).alloc _)
  have c0 : W0.cell? ⟨w.heap.size, 0, none⟩ = some (.int .i64 s) := by rw [kB.cell]; rfl
  have c1 : W0.cell? ⟨w.heap.size, 1, none⟩ = some (.int .i64 a) := by rw [kB.cell]; rfl
  have c2 : W0.cell? ⟨w.heap.size, 2, none⟩ = some (.int .i64 t) := by rw [kB.cell]; rfl
  obtain ⟨R, hR⟩ : ∃ R, R = markOk s a t size := ⟨_, rfl⟩
  rw [← hR]
  have HR := Lib.hid hR
  clear hR kB
  go_enter Try.func14, Try.ntmps14
  go_upto_region 1 with fail
  clear hW0
  go_wp2_with fail
  refine (cwithin_any size 0 20000 _).mono ?_
  rintro e w1 ⟨rfl, rfl⟩
  cases h1 : inB size 0 20000
  · go_wp2_with fail
    go_ret
    exact ⟨by rw [HR.out]; simp [markOk, h1], M0.out⟩
  go_wp2_with fail
  refine (cwithin_any s 1 16 _).mono ?_
  rintro e w1 ⟨rfl, rfl⟩
  cases h2 : inB s 1 16
  · go_wp2_with fail
    go_ret
    exact ⟨by rw [HR.out]; simp [markOk, h1, h2], M0.out⟩
  go_wp2_with fail
  refine (places_any s a t _).mono ?_
  rintro e w2 ⟨rfl, m2⟩
  have M2 := Lib.hid (M0.out.trans m2)
  clear m2
  go_wp2_with fail
  go_loopg [18] 2 (fun g s18 wx => ∃ k : Nat, g = 2 - k ∧ s18 = .int .i64 k ∧ k ≤ 2 ∧ wx = w2 ∧ (1 ≤ k → RowKit.Hid (inB a 0 size = true)) ∧ (2 ≤ k → RowKit.Hid (inB t 0 size = true)))
  case atStart => exact ⟨0, rfl, rfl, by omega, rfl, fun h => by omega, fun h => by omega⟩
  case round =>
    obtain ⟨k, rfl, rfl, hk, rfl, ha, ht⟩ := hrel
    match k, hk, ha, ht with
    | 0, _, _, _ =>
      go_wp2_with fail
      refine (cwithin_any a 0 size _).mono ?_
      rintro e w1 ⟨rfl, rfl⟩
      cases h3 : inB a 0 size
      · go_wp2_with fail
        go_ret
        exact ⟨by rw [HR.out]; simp [markOk, h1, h2, h3], M2.out⟩
      · go_wp2_with fail
        go_roundg 1
        case measure => omega
        case rel => exact ⟨1, rfl, by go_num, by omega, rfl, fun _ => Lib.hid h3, fun h => by omega⟩
    | 1, _, ha, _ =>
      have h3 := ha (Nat.le_refl _)
      go_wp2_with fail
      refine (cwithin_any t 0 size _).mono ?_
      rintro e w1 ⟨rfl, rfl⟩
      cases h4 : inB t 0 size
      · go_wp2_with fail
        go_ret
        exact ⟨by rw [HR.out]; simp [markOk, h1, h2, h3.out, h4], M2.out⟩
      · go_wp2_with fail
        go_roundg 0
        case measure => omega
        case rel => exact ⟨2, rfl, by go_num, by omega, rfl, fun _ => h3, fun _ => Lib.hid h4⟩
    | 2, _, ha, ht =>
      have h3 := ha (by omega)
      have h4 := ht (Nat.le_refl _)
      go_wp2_with fail
      go_ret
      exact ⟨by rw [HR.out]; simp [markOk, h1, h2, h3.out, h4.out], M2.out⟩

set_option maxHeartbeats 2000000 in
set_option maxRecDepth 1000000 in
theorem rmay_any (s a t size : Int) (w : World) : Calls Try.prog 19 #[.agg #[.int .i64 s, .int .i64 a, .int .i64 t], .int .i64 size] w fun e w' => e = .returned (.bool (markOk s a t size)) ∧ Mod none_ w w' := by
  have m := (Mod.refl none_ w).alloc (.cells #[.int .i64 s, .int .i64 a, .int .i64 t] 23)
  obtain ⟨R, hR⟩ : ∃ R, R = markOk s a t size := ⟨_, rfl⟩
  rw [← hR]
  have HR := Lib.hid hR
  have M0 := Lib.hid m
  clear hR m
  by_cases h1 : 0 ≤ size
  · by_cases h2 : size ≤ 20000
    · by_cases h3 : 1 ≤ s
      · by_cases h4 : s ≤ 16
        · by_cases h5 : 0 ≤ a
          · by_cases h6 : a ≤ size
            · by_cases h7 : 0 ≤ t
              · by_cases h8 : t ≤ size
                · go_enter Try.func19, Try.ntmps19
                  go_wp2
                  go_ret
                  exact ⟨by rw [HR.out]; simp [markOk, inB]; omega, M0.out⟩
                · go_enter Try.func19, Try.ntmps19
                  go_wp2
                  go_ret
                  exact ⟨by rw [HR.out]; simp [markOk, inB]; omega, M0.out⟩
              · go_enter Try.func19, Try.ntmps19
                go_wp2
                go_ret
                exact ⟨by rw [HR.out]; simp [markOk, inB]; omega, M0.out⟩
            · go_enter Try.func19, Try.ntmps19
              go_wp2
              go_ret
              exact ⟨by rw [HR.out]; simp [markOk, inB]; omega, M0.out⟩
          · go_enter Try.func19, Try.ntmps19
            go_wp2
            go_ret
            exact ⟨by rw [HR.out]; simp [markOk, inB]; omega, M0.out⟩
        · go_enter Try.func19, Try.ntmps19
          go_wp2
          go_ret
          exact ⟨by rw [HR.out]; simp [markOk, inB]; omega, M0.out⟩
      · go_enter Try.func19, Try.ntmps19
        go_wp2
        go_ret
        exact ⟨by rw [HR.out]; simp [markOk, inB]; omega, M0.out⟩
    · go_enter Try.func19, Try.ntmps19
      go_wp2
      go_ret
      exact ⟨by rw [HR.out]; simp [markOk, inB]; omega, M0.out⟩
  · go_enter Try.func19, Try.ntmps19
    go_wp2
    go_ret
    exact ⟨by rw [HR.out]; simp [markOk, inB]; omega, M0.out⟩

end Go.Proofs.Ytficfoedofkhhaa
