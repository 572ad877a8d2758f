/-
  Layer 16 (caret): Put.
-/
import Derived.Test.YtficfoedofkhhaaCar7
namespace Go.Proofs.Ytficfoedofkhhaa
open Go.RowKit Go.Mine

/-- What Put answers. -/
def putV (l : List CellV) (s i j : Int) : Value := if inB s 1 16 then (if gapBad l i || gapBad l j then .tuple #[.agg #[.int .i64 0, .int .i64 0, .int .i64 0], .int .i64 3] else .tuple #[.agg #[.int .i64 s, .int .i64 (gapN l i), .int .i64 (gapN l j)], .int .i64 0]) else .tuple #[.agg #[.int .i64 0, .int .i64 0, .int .i64 0], .int .i64 1]

set_option maxHeartbeats 4000000 in
set_option maxRecDepth 1000000 in
theorem put_any (w : World) (B D : Nat) (l : List CellV) (s i j : Int) (h : DocIs w B D l) (hlen : l.length ≤ 1099511627776) :
    Calls Try.prog 12 #[.pointer (some ⟨D, 0, none⟩), .int .i64 s, .int .i64 i, .int .i64 j] w fun e w' => e = .returned (putV l s i j) ∧ Mod none_ w w' := by
  obtain ⟨W0, hW0⟩ : ∃ W0, w.alloc (.cells #[.int .i64 0, .int .i64 0, .int .i64 0] 27) = W0 := ⟨_, rfl⟩
  have m0 : Mod none_ w W0 := by rw [← hW0]; exact (Mod.refl none_ w).alloc _
  have k0 : Blk W0 w.heap.size [.int .i64 0, .int .i64 0, .int .i64 0] 27 := by
    rw [← hW0]
    exact Blk.new (w := w) (cs := [.int .i64 0, .int .i64 0, .int .i64 0]) (t := 27)
  have c0 := k0.cell 0
  have c1 := k0.cell 1
  have c2 := k0.cell 2
  simp only [List.getElem?_cons_zero, List.getElem?_cons_succ] at c0 c1 c2
  have f0 := k0.frozen 0
  have f1 := k0.frozen 1
  have f2 := k0.frozen 2
  have M0 := Lib.hid m0
  have K0 := Lib.hid k0
  have HD := Lib.hid (h.grown m0)
  obtain ⟨R, hR⟩ : ∃ R, R = putV l s i j := ⟨_, rfl⟩
  rw [← hR]
  have HR := Lib.hid hR
  clear hR h m0 k0
  go_enter Try.func12, Try.ntmps12
  go_upto_region 1 with fail
  clear hW0
  go_wp2_with fail
  refine (cwithin_any s 1 16 _).mono ?_
  rintro e w1 ⟨rfl, rfl⟩
  cases hs : inB s 1 16
  · have HE := Lib.hid (show R = .tuple #[.agg #[.int .i64 0, .int .i64 0, .int .i64 0], .int .i64 1] by rw [HR.out]; unfold putV; rw [hs]; rfl)
    have KF := Lib.hid (((K0.out.set 0 (.int .i64 0)).set 1 (.int .i64 0)).set 2 (.int .i64 0))
    have MF := Lib.hid (((M0.out.setCell ⟨w.heap.size, 0, none⟩ (fun h => absurd h (by simp)) (.int .i64 0)).setCell ⟨w.heap.size, 1, none⟩ (fun h => absurd h (by simp)) (.int .i64 0)).setCell ⟨w.heap.size, 2, none⟩ (fun h => absurd h (by simp)) (.int .i64 0))
    go_wp2_with fail
    exact bodyPost_ret (results_mkt rfl _ _ w.heap.size [.int .i64 0, .int .i64 0, .int .i64 0] rfl rfl (blk_range KF.out)) rfl ⟨by rw [HE.out]; rfl, MF.out⟩
  have HA := asks_any w1 B D l i j HD.out hlen
  clear c0 c1 c2 f0 f1 f2
  cases hb : gapBad l i || gapBad l j
  · have HE := Lib.hid (show R = .tuple #[.agg #[.int .i64 s, .int .i64 (gapN l i), .int .i64 (gapN l j)], .int .i64 0] by rw [HR.out]; unfold putV; rw [hs, hb]; rfl)
    rw [show asksV l i j = .tuple #[.agg #[.int .i64 (gapN l i), .int .i64 (gapN l j)], .int .i64 0] by unfold asksV; rw [hb]; rfl] at HA
    have HA := Lib.hid HA
    clear hs hb
    go_wp2_with fail
    refine HA.out.mono ?_
    rintro e w2 ⟨rfl, m2⟩
    have kB := Blk.new (w := w2) (cs := [.int .i64 (gapN l i), .int .i64 (gapN l j)]) (t := 50)
    have mB := (Mod.refl none_ w2).alloc (.cells #[.int .i64 (gapN l i), .int .i64 (gapN l j)] 50)
    have MB := Lib.hid ((M0.out.trans m2).trans mB)
    have K2 := Lib.hid ((K0.out.mod m2 (fun e => e)).mod mB (fun e => e))
    clear m2 mB
    go_upto_region 4 with fail
    generalize w2.alloc (.cells #[.int .i64 (gapN l i), .int .i64 (gapN l j)] 50) = w3 at kB MB K2 ⊢
    have q0 := kB.cell 0
    have q1 := kB.cell 1
    simp only [List.getElem?_cons_zero, List.getElem?_cons_succ] at q0 q1
    clear kB
    go_wp2_with fail
    refine (at_any s 0 0 (gapN l i) (gapN l j) _).mono ?_
    rintro e w4 ⟨rfl, m4⟩
    have k4 := K2.out.mod m4 (fun e => e)
    have M4 := Lib.hid (MB.out.trans m4)
    have c0 := k4.cell 0
    have c1 := k4.cell 1
    have c2 := k4.cell 2
    simp only [List.getElem?_cons_zero, List.getElem?_cons_succ] at c0 c1 c2
    have f0 := k4.frozen 0
    have f1 := k4.frozen 1
    have f2 := k4.frozen 2
    have KF := Lib.hid (((k4.set 0 (.int .i64 s)).set 1 (.int .i64 (gapN l i))).set 2 (.int .i64 (gapN l j)))
    have MF := Lib.hid (((M4.out.setCell ⟨w.heap.size, 0, none⟩ (fun h => absurd h (by simp)) (.int .i64 s)).setCell ⟨w.heap.size, 1, none⟩ (fun h => absurd h (by simp)) (.int .i64 (gapN l i))).setCell ⟨w.heap.size, 2, none⟩ (fun h => absurd h (by simp)) (.int .i64 (gapN l j)))
    clear m4 k4
    go_wp2_with fail
    exact bodyPost_ret (results_mkt rfl _ _ w.heap.size [.int .i64 s, .int .i64 (gapN l i), .int .i64 (gapN l j)] rfl rfl (blk_range KF.out)) rfl ⟨by rw [HE.out]; rfl, MF.out⟩
  · have HE := Lib.hid (show R = .tuple #[.agg #[.int .i64 0, .int .i64 0, .int .i64 0], .int .i64 3] by rw [HR.out]; unfold putV; rw [hs, hb]; rfl)
    rw [show asksV l i j = .tuple #[.agg #[.int .i64 0, .int .i64 0], .int .i64 3] by unfold asksV; rw [hb]; rfl] at HA
    have HA := Lib.hid HA
    clear hs hb
    go_wp2_with fail
    refine HA.out.mono ?_
    rintro e w2 ⟨rfl, m2⟩
    have mB := (Mod.refl none_ w2).alloc (.cells #[.int .i64 0, .int .i64 0] 50)
    have MB := Lib.hid ((M0.out.trans m2).trans mB)
    have k4 := (K0.out.mod m2 (fun e => e)).mod mB (fun e => e)
    clear m2 mB
    go_upto_region 4 with fail
    generalize w2.alloc (.cells #[.int .i64 0, .int .i64 0] 50) = w3 at MB k4 ⊢
    have c0 := k4.cell 0
    have c1 := k4.cell 1
    have c2 := k4.cell 2
    simp only [List.getElem?_cons_zero, List.getElem?_cons_succ] at c0 c1 c2
    have f0 := k4.frozen 0
    have f1 := k4.frozen 1
    have f2 := k4.frozen 2
    have KF := Lib.hid (((k4.set 0 (.int .i64 0)).set 1 (.int .i64 0)).set 2 (.int .i64 0))
    have MF := Lib.hid (((MB.out.setCell ⟨w.heap.size, 0, none⟩ (fun h => absurd h (by simp)) (.int .i64 0)).setCell ⟨w.heap.size, 1, none⟩ (fun h => absurd h (by simp)) (.int .i64 0)).setCell ⟨w.heap.size, 2, none⟩ (fun h => absurd h (by simp)) (.int .i64 0))
    clear k4
    go_wp2_with fail
    exact bodyPost_ret (results_mkt rfl _ _ w.heap.size [.int .i64 0, .int .i64 0, .int .i64 0] rfl rfl (blk_range KF.out)) rfl ⟨by rw [HE.out]; rfl, MF.out⟩

end Go.Proofs.Ytficfoedofkhhaa
