/-
  Layer 16 (caret): at; Move by an insertion that may be.
-/
import Derived.Test.YtficfoedofkhhaaCar3
namespace Go.Proofs.Ytficfoedofkhhaa
open Go.RowKit Go.Mine

set_option maxHeartbeats 4000000 in
set_option maxRecDepth 1000000 in
theorem at_any (s a t x y : Int) (w : World) : Calls Try.prog 18 #[.agg #[.int .i64 s, .int .i64 a, .int .i64 t], .agg #[.int .i64 x, .int .i64 y]] w fun e w' => e = .returned (.agg #[.int .i64 s, .int .i64 x, .int .i64 y]) ∧ Mod none_ w w' := by
  obtain ⟨W0, hW0⟩ : ∃ W0, ((w.alloc (.cells #[.int .i64 s, .int .i64 a, .int .i64 t] 27)).alloc (.cells #[.int .i64 x, .int .i64 y] 50)).alloc (.cells #[.int .i64 0, .int .i64 0, .int .i64 0] 27) = W0 := ⟨_, rfl⟩
  have M0 := Lib.hid (show Mod none_ w W0 by rw [← hW0]; exact (((Mod.refl none_ w).alloc _).alloc _).alloc _)
  have k0 : Blk W0 w.heap.size [.int .i64 s, .int .i64 a, .int .i64 t] 27 := by
    rw [← hW0]
    exact ((Blk.new (w := w) (cs := [.int .i64 s, .int .i64 a, .int .i64 t]) (t := 27)).mod ((Mod.refl none_ _).alloc _) (fun e => e)).mod ((Mod.refl none_ _).alloc _) (fun e => e)
  have k1 : Blk W0 (w.heap.size + 1) [.int .i64 x, .int .i64 y] 50 := by
    have := Blk.new (w := w.alloc (.cells #[.int .i64 s, .int .i64 a, .int .i64 t] 27)) (cs := [.int .i64 x, .int .i64 y]) (t := 50)
    rw [World.size_alloc] at this
    rw [← hW0]
    exact this.mod ((Mod.refl none_ _).alloc _) (fun e => e)
  have k2 : Blk W0 (w.heap.size + 1 + 1) [.int .i64 0, .int .i64 0, .int .i64 0] 27 := by
    have := Blk.new (w := (w.alloc (.cells #[.int .i64 s, .int .i64 a, .int .i64 t] 27)).alloc (.cells #[.int .i64 x, .int .i64 y] 50)) (cs := [.int .i64 0, .int .i64 0, .int .i64 0]) (t := 27)
    rw [World.size_alloc, World.size_alloc] at this
    rw [← hW0]
    exact this
  have c0 : W0.cell? ⟨w.heap.size, 0, none⟩ = some (.int .i64 s) := by rw [k0.cell]; rfl
  have c1 : W0.cell? ⟨w.heap.size, 1, none⟩ = some (.int .i64 a) := by rw [k0.cell]; rfl
  have c2 : W0.cell? ⟨w.heap.size, 2, none⟩ = some (.int .i64 t) := by rw [k0.cell]; rfl
  have f1 := k0.frozen 1
  have f2 := k0.frozen 2
  have e0 : W0.cell? ⟨w.heap.size + 1, 0, none⟩ = some (.int .i64 x) := by rw [k1.cell]; rfl
  have e1 : W0.cell? ⟨w.heap.size + 1, 1, none⟩ = some (.int .i64 y) := by rw [k1.cell]; rfl
  have g0 : W0.cell? ⟨w.heap.size + 1 + 1, 0, none⟩ = some (.int .i64 0) := by rw [k2.cell]; rfl
  have g1 : W0.cell? ⟨w.heap.size + 1 + 1, 1, none⟩ = some (.int .i64 0) := by rw [k2.cell]; rfl
  have g2 : W0.cell? ⟨w.heap.size + 1 + 1, 2, none⟩ = some (.int .i64 0) := by rw [k2.cell]; rfl
  have h0 := k2.frozen 0
  have h1 := k2.frozen 1
  have h2 := k2.frozen 2
  have K2 := Lib.hid k2
  have K0 := Lib.hid k0
  clear k0 k1 k2
  go_enter Try.func18, Try.ntmps18
  go_upto_region 1 with fail
  clear hW0
  go_region_law (fail)
  all_goals
    have kk0 := ((K0.out.set 1 (.int .i64 x)).set 2 (.int .i64 y)).drew
    have mm := ((Mod.refl (one w.heap.size) W0).setCell ⟨w.heap.size, 1, none⟩ (fun _ => rfl) (.int .i64 x)).setCell ⟨w.heap.size, 2, none⟩ (fun _ => rfl) (.int .i64 y)
    have kk2 := (K2.out.mod mm (fun e => by have e' : w.heap.size + 1 + 1 = w.heap.size := e; omega)).drew
    have M1 := Lib.hid ((M0.out.transIn mm (fun b hb e => by have e' : b = w.heap.size := e; omega)).drew)
    generalize ((W0.setCell ⟨w.heap.size, 1, none⟩ (.int .i64 x)).setCell ⟨w.heap.size, 2, none⟩ (.int .i64 y)).drew = W1 at kk0 kk2 M1 ⊢
    clear c0 c1 c2 f1 f2 e0 e1 g0 g1 g2 h0 h1 h2 mm
    have c0 : W1.cell? ⟨w.heap.size, 0, none⟩ = some (.int .i64 s) := by rw [kk0.cell]; rfl
    have c1 : W1.cell? ⟨w.heap.size, 1, none⟩ = some (.int .i64 x) := by rw [kk0.cell]; rfl
    have c2 : W1.cell? ⟨w.heap.size, 2, none⟩ = some (.int .i64 y) := by rw [kk0.cell]; rfl
    have g0 : W1.cell? ⟨w.heap.size + 1 + 1, 0, none⟩ = some (.int .i64 0) := by rw [kk2.cell]; rfl
    have g1 : W1.cell? ⟨w.heap.size + 1 + 1, 1, none⟩ = some (.int .i64 0) := by rw [kk2.cell]; rfl
    have g2 : W1.cell? ⟨w.heap.size + 1 + 1, 2, none⟩ = some (.int .i64 0) := by rw [kk2.cell]; rfl
    have h0 := kk2.frozen 0
    have h1 := kk2.frozen 1
    have h2 := kk2.frozen 2
    have KF := Lib.hid (((kk2.set 0 (.int .i64 s)).set 1 (.int .i64 x)).set 2 (.int .i64 y))
    have MF := Lib.hid (((M1.out.setCell ⟨w.heap.size + 1 + 1, 0, none⟩ (fun h => absurd h (by simp; omega)) (.int .i64 s)).setCell ⟨w.heap.size + 1 + 1, 1, none⟩ (fun h => absurd h (by simp; omega)) (.int .i64 x)).setCell ⟨w.heap.size + 1 + 1, 2, none⟩ (fun h => absurd h (by simp; omega)) (.int .i64 y))
    clear kk0 kk2
    go_wp2_with fail
    exact bodyPost_ret (results_mk1 rfl _ _ (w.heap.size + 1 + 1) [.int .i64 s, .int .i64 x, .int .i64 y] rfl rfl (blk_range KF.out)) rfl ⟨rfl, MF.out⟩

end Go.Proofs.Ytficfoedofkhhaa
