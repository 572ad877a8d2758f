/-
  The walk of CaretDrops.
-/
import Derived.Test.YtficfoedofkhhaaCar11
import Derived.Test.YtficfoedofkhhaaCar6
namespace Go.Proofs.Ytficfoedofkhhaa
open Go.RowKit Go.Mine

set_option maxHeartbeats 1000000 in
set_option maxRecDepth 1000000 in
theorem of_mark (s a t : Int) (w : World) : Calls Try.prog 7 #[.agg #[.int .i64 s, .int .i64 a, .int .i64 t]] w fun e w' => e = .returned (.agg #[.int .i64 s, .int .i64 a, .int .i64 t]) ∧ Mod none_ w w' := by
  obtain ⟨W0, hW0⟩ : ∃ W0, (w.alloc (.cells #[.int .i64 s, .int .i64 a, .int .i64 t] 23)).alloc (.cells #[.int .i64 0, .int .i64 0, .int .i64 0] 27) = W0 := ⟨_, rfl⟩
  have m0 : Mod none_ w W0 := by rw [← hW0]; exact ((Mod.refl none_ w).alloc _).alloc _
  have k0 : Blk W0 w.heap.size [.int .i64 s, .int .i64 a, .int .i64 t] 23 := by
    rw [← hW0]
    exact (Blk.new (w := w) (cs := [.int .i64 s, .int .i64 a, .int .i64 t]) (t := 23)).mod ((Mod.refl none_ _).alloc _) (fun e => e)
  have k1 : Blk W0 (w.heap.size + 1) [.int .i64 0, .int .i64 0, .int .i64 0] 27 := by
    have := Blk.new (w := w.alloc (.cells #[.int .i64 s, .int .i64 a, .int .i64 t] 23)) (cs := [.int .i64 0, .int .i64 0, .int .i64 0]) (t := 27)
    rw [World.size_alloc] at this
    rw [← hW0]
    exact this
  have a0 := k0.cell 0
  have a1 := k0.cell 1
  have a2 := k0.cell 2
  have d0 := k1.cell 0
  have d1 := k1.cell 1
  have d2 := k1.cell 2
  simp only [List.getElem?_cons_zero, List.getElem?_cons_succ] at a0 a1 a2 d0 d1 d2
  have r0 := k1.frozen 0
  have r1 := k1.frozen 1
  have r2 := k1.frozen 2
  have KF := Lib.hid (((k1.set 0 (.int .i64 s)).set 1 (.int .i64 a)).set 2 (.int .i64 t))
  have MF := Lib.hid (((m0.setCell ⟨w.heap.size + 1, 0, none⟩ (fun h => absurd h (by simp)) (.int .i64 s)).setCell ⟨w.heap.size + 1, 1, none⟩ (fun h => absurd h (by simp)) (.int .i64 a)).setCell ⟨w.heap.size + 1, 2, none⟩ (fun h => absurd h (by simp)) (.int .i64 t))
  clear k0 k1 m0
  go_enter Try.func7, Try.ntmps7
  go_upto_region 1 with fail
  clear hW0
  go_wp2_with fail
  exact bodyPost_ret (results_mk1 rfl _ _ (w.heap.size + 1) [.int .i64 s, .int .i64 a, .int .i64 t] rfl rfl (blk_range KF.out)) rfl ⟨rfl, MF.out⟩

theorem results_rm1 {fn : Func} {p : Tmp} (h : fn.results = #[.cell p 23]) (tmps : Array Value) (w : World) (g : Nat) (cs : List Value) (hp : tmps.getD p undef = .pointer (some ⟨g, 0, none⟩)) (hl : cs.length = 3) (hr : w.rangeAt g 0 cs) :
    (results fn tmps).run Try.prog w = .ok (.agg cs.toArray) w := by
  have := run_loadVar_mid (P := Try.prog) w g 0 23 cs _ hr Try.underlying23 rfl (by rw [hl]; exact Try.rmSize)
  have hp' : tmps[p]?.getD undef = .pointer (some ⟨g, 0, none⟩) := by simpa using hp
  simp [results, h, hp', asAddr, this, Result.andThen]
set_option maxHeartbeats 1000000 in
set_option maxRecDepth 1000000 in
theorem plain_mark (s a t : Int) (w : World) : Calls Try.prog 9 #[.agg #[.int .i64 s, .int .i64 a, .int .i64 t]] w fun e w' => e = .returned (.agg #[.int .i64 s, .int .i64 a, .int .i64 t]) ∧ Mod none_ w w' := by
  obtain ⟨W0, hW0⟩ : ∃ W0, (w.alloc (.cells #[.int .i64 s, .int .i64 a, .int .i64 t] 27)).alloc (.cells #[.int .i64 0, .int .i64 0, .int .i64 0] 23) = W0 := ⟨_, rfl⟩
  have m0 : Mod none_ w W0 := by rw [← hW0]; exact ((Mod.refl none_ w).alloc _).alloc _
  have k0 : Blk W0 w.heap.size [.int .i64 s, .int .i64 a, .int .i64 t] 27 := by
    rw [← hW0]
    exact (Blk.new (w := w) (cs := [.int .i64 s, .int .i64 a, .int .i64 t]) (t := 27)).mod ((Mod.refl none_ _).alloc _) (fun e => e)
  have k1 : Blk W0 (w.heap.size + 1) [.int .i64 0, .int .i64 0, .int .i64 0] 23 := by
    have := Blk.new (w := w.alloc (.cells #[.int .i64 s, .int .i64 a, .int .i64 t] 27)) (cs := [.int .i64 0, .int .i64 0, .int .i64 0]) (t := 23)
    rw [World.size_alloc] at this
    rw [← hW0]
    exact this
  have a0 := k0.cell 0
  have a1 := k0.cell 1
  have a2 := k0.cell 2
  have d0 := k1.cell 0
  have d1 := k1.cell 1
  have d2 := k1.cell 2
  simp only [List.getElem?_cons_zero, List.getElem?_cons_succ] at a0 a1 a2 d0 d1 d2
  have r0 := k1.frozen 0
  have r1 := k1.frozen 1
  have r2 := k1.frozen 2
  have KF := Lib.hid (((k1.set 0 (.int .i64 s)).set 1 (.int .i64 a)).set 2 (.int .i64 t))
  have MF := Lib.hid (((m0.setCell ⟨w.heap.size + 1, 0, none⟩ (fun h => absurd h (by simp)) (.int .i64 s)).setCell ⟨w.heap.size + 1, 1, none⟩ (fun h => absurd h (by simp)) (.int .i64 a)).setCell ⟨w.heap.size + 1, 2, none⟩ (fun h => absurd h (by simp)) (.int .i64 t))
  clear k0 k1 m0
  go_enter Try.func9, Try.ntmps9
  go_upto_region 1 with fail
  clear hW0
  go_wp2_with fail
  exact bodyPost_ret (results_rm1 rfl _ _ (w.heap.size + 1) [.int .i64 s, .int .i64 a, .int .i64 t] rfl rfl (blk_range KF.out)) rfl ⟨rfl, MF.out⟩

theorem great_spans (sa : Option Addr) (len cap : Nat) (w : World) (hl : len ≤ cap) (hc : cap ≤ maxLen) : Calls Try.prog 5 #[.slice sa len cap] w fun e w' => e = .returned (.bool (decide (60 < (len : Int)))) ∧ w' = w := by
  unfold maxLen at hc
  go_enter Try.func5, Try.ntmps5
  go_wp2_with fail
  go_ret
  exact ⟨rfl, rfl⟩

set_option maxHeartbeats 4000000 in
set_option maxRecDepth 1000000 in
theorem caretDrops_any (s a t : Int) (w : World) (sa : Option Addr) (len cap : Nat) (l : List (Int × Int)) (h : IsSpans w sa len cap l) :
    Calls Try.prog 3 #[.agg #[.int .i64 s, .int .i64 a, .int .i64 t], .slice sa len cap] w fun e w' => e = .returned (.bool true) ∧ Mod none_ w w' := by
  obtain ⟨W0, hW0⟩ : ∃ W0, w.alloc (.cells #[.int .i64 s, .int .i64 a, .int .i64 t] 23) = W0 := ⟨_, rfl⟩
  have m0 : Mod none_ w W0 := by rw [← hW0]; exact (Mod.refl none_ w).alloc _
  have k0 : Blk W0 w.heap.size [.int .i64 s, .int .i64 a, .int .i64 t] 23 := by
    rw [← hW0]
    exact Blk.new (w := w) (cs := [.int .i64 s, .int .i64 a, .int .i64 t]) (t := 23)
  have hle := h.le
  have hbig := h.big
  have H := Lib.hid h
  have M0 := Lib.hid m0
  have K0 := Lib.hid k0
  clear h m0 k0
  obtain ⟨x, y, z, er, hR⟩ : ∃ x y z er, dropV s a t l = .tuple #[.agg #[.int .i64 x, .int .i64 y, .int .i64 z], .int .i64 er] := by
    unfold dropV
    split
    · exact ⟨_, _, _, _, rfl⟩
    · exact ⟨_, _, _, _, rfl⟩
  have HR := Lib.hid hR
  clear hR
  go_enter Try.func3, Try.ntmps3
  go_upto_region 1 with fail
  clear hW0
  go_wp2_with fail
  refine (alive_any W0).mono ?_
  rintro e w1 ⟨rfl, m1⟩
  have k1 := K0.out.mod m1 (fun e => e)
  have M1 := Lib.hid (M0.out.trans m1)
  clear m1
  go_wp2_with fail
  refine (great_spans sa len cap w1 hle hbig).mono ?_
  rintro e w2 ⟨rfl, rfl⟩
  by_cases hg : 60 < len
  · have hd : decide (60 < (len : Int)) = true := by simp; omega
    go_wp2_with fail
    go_ret
    exact ⟨rfl, M1.out⟩
  have hd : decide (60 < (len : Int)) = false := by simp; omega
  have a0 := k1.cell 0
  have a1 := k1.cell 1
  have a2 := k1.cell 2
  simp only [List.getElem?_cons_zero, List.getElem?_cons_succ] at a0 a1 a2
  have K1 := Lib.hid k1
  clear k1
  go_wp2_with fail
  refine (of_mark s a t _).mono ?_
  rintro e w3 ⟨rfl, m3⟩
  have M3 := Lib.hid (M1.out.trans m3)
  have K3 := Lib.hid (K1.out.mod m3 (fun e => e))
  have HC := cdrop_any s a t w3 sa len cap l (H.out.grown M3.out) (by omega)
  rw [HR.out] at HC
  have HC := Lib.hid HC
  clear m3
  go_wp2_with fail
  refine HC.out.mono ?_
  rintro e w4 ⟨rfl, m4⟩
  have mA := m4.alloc (.cells #[.int .i64 x, .int .i64 y, .int .i64 z] 27)
  have kA := Blk.new (w := w4) (cs := [.int .i64 x, .int .i64 y, .int .i64 z]) (t := 27)
  have M5 := Lib.hid (M3.out.trans mA)
  have k5 := K3.out.mod mA (fun e => e)
  clear mA m4 a0 a1 a2
  go_upto_region 6 with fail
  generalize w4.alloc (.cells #[.int .i64 x, .int .i64 y, .int .i64 z] 27) = w5 at kA k5 M5 ⊢
  have a0 := k5.cell 0
  have a1 := k5.cell 1
  have a2 := k5.cell 2
  simp only [List.getElem?_cons_zero, List.getElem?_cons_succ] at a0 a1 a2
  have KA := Lib.hid kA
  have HD := rdrop_any s a t w5 sa len cap l (H.out.grown M5.out) (by omega)
  rw [HR.out] at HD
  have HD := Lib.hid HD
  clear kA k5
  go_wp2_with fail
  refine HD.out.mono ?_
  rintro e w6 ⟨rfl, m6⟩
  have mB := m6.alloc (.cells #[.int .i64 x, .int .i64 y, .int .i64 z] 23)
  have kB := Blk.new (w := w6) (cs := [.int .i64 x, .int .i64 y, .int .i64 z]) (t := 23)
  have M7 := Lib.hid (M5.out.trans mB)
  have k7 := KA.out.mod mB (fun e => e)
  clear mB m6 a0 a1 a2
  go_upto_region 7 with fail
  generalize w6.alloc (.cells #[.int .i64 x, .int .i64 y, .int .i64 z] 23) = w7 at kB k7 M7 ⊢
  have b0 := kB.cell 0
  have b1 := kB.cell 1
  have b2 := kB.cell 2
  have c0 := k7.cell 0
  have c1 := k7.cell 1
  have c2 := k7.cell 2
  simp only [List.getElem?_cons_zero, List.getElem?_cons_succ] at b0 b1 b2 c0 c1 c2
  clear kB k7
  obtain ⟨Y, hY⟩ : ∃ Y, Y = w4.heap.size := ⟨_, rfl⟩
  obtain ⟨Z, hZ⟩ : ∃ Z, Z = w6.heap.size := ⟨_, rfl⟩
  rw [← hY] at c0 c1 c2 ⊢
  rw [← hZ] at b0 b1 b2 ⊢
  clear hY hZ
  go_region_held3 (fun w' => Mod none_ w7 w' ∧ w'.cell? ⟨Y, 0, none⟩ = some (.int .i64 x) ∧ w'.cell? ⟨Y, 1, none⟩ = some (.int .i64 y) ∧ w'.cell? ⟨Y, 2, none⟩ = some (.int .i64 z) ∧ w'.cell? ⟨Z, 0, none⟩ = some (.int .i64 x) ∧ w'.cell? ⟨Z, 1, none⟩ = some (.int .i64 y) ∧ w'.cell? ⟨Z, 2, none⟩ = some (.int .i64 z))
    (first
      | exact ⟨Mod.drew (Mod.refl none_ w7), c0, c1, c2, b0, b1, b2⟩
      | assumption
      | (obtain ⟨q, q0, q1, q2, q3, q4, q5⟩ := ‹Mod none_ w7 _ ∧ _›; exact ⟨q.trans m1, m1.cell (fun e => e) q0, m1.cell (fun e => e) q1, m1.cell (fun e => e) q2, m1.cell (fun e => e) q3, m1.cell (fun e => e) q4, m1.cell (fun e => e) q5⟩))
    (first
      | (go_at_call 9; refine (plain_mark x y z _).mono ?_; rintro e w8 ⟨rfl, m1⟩))
  go_wp2_with fail
  go_ret
  exact ⟨rfl, M7.out.trans (And.left (by assumption))⟩

end Go.Proofs.Ytficfoedofkhhaa
