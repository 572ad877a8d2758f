/-
  Layer 16 (caret): the document's Drop.
-/
import Derived.Test.YtficfoedofkhhaaCar5
namespace Go.Proofs.Ytficfoedofkhhaa
open Go.RowKit Go.Mine

set_option maxHeartbeats 4000000 in
set_option maxRecDepth 1000000 in
theorem rdrop_any (s a t : Int) (w : World) (sa : Option Addr) (len cap : Nat) (l : List (Int × Int)) (h : IsSpans w sa len cap l) (hlen : len ≤ 1000000) :
    Calls Try.prog 8 #[.agg #[.int .i64 s, .int .i64 a, .int .i64 t], .slice sa len cap] w fun e w' => e = .returned (dropV s a t l) ∧ Mod none_ w w' := by
  obtain ⟨W0, hW0⟩ : ∃ W0, (w.alloc (.cells #[.int .i64 s, .int .i64 a, .int .i64 t] 23)).alloc (.cells #[.int .i64 0, .int .i64 0, .int .i64 0] 23) = W0 := ⟨_, rfl⟩
  have m0 : Mod none_ w W0 := by rw [← hW0]; exact ((Mod.refl none_ w).alloc _).alloc _
  have k0 : Blk W0 w.heap.size [.int .i64 s, .int .i64 a, .int .i64 t] 23 := by
    rw [← hW0]
    exact (Blk.new (w := w) (cs := [.int .i64 s, .int .i64 a, .int .i64 t]) (t := 23)).mod ((Mod.refl none_ _).alloc _) (fun e => e)
  have k1 : Blk W0 (w.heap.size + 1) [.int .i64 0, .int .i64 0, .int .i64 0] 23 := by
    have := Blk.new (w := w.alloc (.cells #[.int .i64 s, .int .i64 a, .int .i64 t] 23)) (cs := [.int .i64 0, .int .i64 0, .int .i64 0]) (t := 23)
    rw [World.size_alloc] at this
    rw [← hW0]
    exact this
  have M0 := Lib.hid m0
  have HW := Lib.hid h
  have H0 := Lib.hid (h.grown m0)
  have K0 := Lib.hid k0
  have K1 := Lib.hid k1
  have c0 : W0.cell? ⟨w.heap.size, 0, none⟩ = some (.int .i64 s) := by rw [k0.cell]; rfl
  have c1 : W0.cell? ⟨w.heap.size, 1, none⟩ = some (.int .i64 a) := by rw [k0.cell]; rfl
  have c2 : W0.cell? ⟨w.heap.size, 2, none⟩ = some (.int .i64 t) := by rw [k0.cell]; rfl
  obtain ⟨R, hR⟩ : ∃ R, R = dropV s a t l := ⟨_, rfl⟩
  rw [← hR]
  have HR := Lib.hid hR
  clear hR h m0 k0 k1
  go_enter Try.func8, Try.ntmps8
  go_upto_region 1 with fail
  clear hW0
  go_wp2_with fail
  refine (rmay_any s a t 20000 _).mono ?_
  rintro e w1 ⟨rfl, m1⟩
  have M1 := Lib.hid (M0.out.trans m1)
  have H1 := Lib.hid (H0.out.grown m1)
  have k0 := K0.out.mod m1 (fun e => e)
  have k1 := K1.out.mod m1 (fun e => e)
  have c0 : w1.cell? ⟨w.heap.size, 0, none⟩ = some (.int .i64 s) := by rw [k0.cell]; rfl
  have c1 : w1.cell? ⟨w.heap.size, 1, none⟩ = some (.int .i64 a) := by rw [k0.cell]; rfl
  have c2 : w1.cell? ⟨w.heap.size, 2, none⟩ = some (.int .i64 t) := by rw [k0.cell]; rfl
  have d0 : w1.cell? ⟨w.heap.size + 1, 0, none⟩ = some (.int .i64 0) := by rw [k1.cell]; rfl
  have d1 : w1.cell? ⟨w.heap.size + 1, 1, none⟩ = some (.int .i64 0) := by rw [k1.cell]; rfl
  have d2 : w1.cell? ⟨w.heap.size + 1, 2, none⟩ = some (.int .i64 0) := by rw [k1.cell]; rfl
  have h0 := k1.frozen 0
  have h1 := k1.frozen 1
  have h2 := k1.frozen 2
  cases hmk : markOk s a t 20000
  · have HE := Lib.hid (show R = .tuple #[.agg #[.int .i64 0, .int .i64 0, .int .i64 0], .int .i64 1] by rw [HR.out]; unfold dropV; rw [hmk]; rfl)
    have KF := Lib.hid (((k1.set 0 (.int .i64 0)).set 1 (.int .i64 0)).set 2 (.int .i64 0))
    have MF := Lib.hid (((M1.out.setCell ⟨w.heap.size + 1, 0, none⟩ (fun h => absurd h (by simp)) (.int .i64 0)).setCell ⟨w.heap.size + 1, 1, none⟩ (fun h => absurd h (by simp)) (.int .i64 0)).setCell ⟨w.heap.size + 1, 2, none⟩ (fun h => absurd h (by simp)) (.int .i64 0))
    clear k0 k1 m1
    go_wp2_with fail
    exact bodyPost_ret (results_rmt rfl _ _ (w.heap.size + 1) [.int .i64 0, .int .i64 0, .int .i64 0] rfl rfl (blk_range KF.out)) rfl ⟨by rw [HE.out]; rfl, MF.out⟩
  have K01 := Lib.hid k0
  have K11 := Lib.hid k1
  clear k0 k1 m1
  go_wp2_with fail
  refine (rspansMay_any _ sa len cap l H1.out).mono ?_
  rintro e w2 ⟨rfl, m2⟩
  have M2 := Lib.hid (M1.out.trans m2)
  have H2 := Lib.hid (H1.out.grown m2)
  have k0 := K01.out.mod m2 (fun e => e)
  have k1 := K11.out.mod m2 (fun e => e)
  clear c0 c1 c2 d0 d1 d2 h0 h1 h2
  have c0 : w2.cell? ⟨w.heap.size, 0, none⟩ = some (.int .i64 s) := by rw [k0.cell]; rfl
  have c1 : w2.cell? ⟨w.heap.size, 1, none⟩ = some (.int .i64 a) := by rw [k0.cell]; rfl
  have c2 : w2.cell? ⟨w.heap.size, 2, none⟩ = some (.int .i64 t) := by rw [k0.cell]; rfl
  have d0 : w2.cell? ⟨w.heap.size + 1, 0, none⟩ = some (.int .i64 0) := by rw [k1.cell]; rfl
  have d1 : w2.cell? ⟨w.heap.size + 1, 1, none⟩ = some (.int .i64 0) := by rw [k1.cell]; rfl
  have d2 : w2.cell? ⟨w.heap.size + 1, 2, none⟩ = some (.int .i64 0) := by rw [k1.cell]; rfl
  have h0 := k1.frozen 0
  have h1 := k1.frozen 1
  have h2 := k1.frozen 2
  cases hok : spansOk l
  · have HE := Lib.hid (show R = .tuple #[.agg #[.int .i64 0, .int .i64 0, .int .i64 0], .int .i64 1] by rw [HR.out]; unfold dropV; rw [hmk, hok]; rfl)
    have KF := Lib.hid (((k1.set 0 (.int .i64 0)).set 1 (.int .i64 0)).set 2 (.int .i64 0))
    have MF := Lib.hid (((M2.out.setCell ⟨w.heap.size + 1, 0, none⟩ (fun h => absurd h (by simp)) (.int .i64 0)).setCell ⟨w.heap.size + 1, 1, none⟩ (fun h => absurd h (by simp)) (.int .i64 0)).setCell ⟨w.heap.size + 1, 2, none⟩ (fun h => absurd h (by simp)) (.int .i64 0))
    clear k0 k1 m2
    go_wp2_with fail
    exact bodyPost_ret (results_rmt rfl _ _ (w.heap.size + 1) [.int .i64 0, .int .i64 0, .int .i64 0] rfl rfl (blk_range KF.out)) rfl ⟨by rw [HE.out]; rfl, MF.out⟩
  have HE := Lib.hid (show R = .tuple #[.agg #[.int .i64 s, .int .i64 (a - aheadOf l a), .int .i64 (t - aheadOf l t)], .int .i64 0] by rw [HR.out]; unfold dropV; rw [hmk, hok]; rfl)
  have hmk' : ((0 ≤ a ∧ a ≤ 20000) ∧ (0 ≤ t ∧ t ≤ 20000)) := by
    simp [markOk, inB] at hmk; omega
  have HL := Lib.hid (fun p => aheadOf_le l p (fun x hx => by have := spansFrom_ok l (-1) hok x hx; omega))
  have hN := H2.out.n
  have HOK := Lib.hid hok
  have hA := HL.out a
  have hT := HL.out t
  have KX := Lib.hid k0
  have KY := Lib.hid k1
  have HX := H2
  have MX := M2
  clear k0 k1 m2 hmk hok d0 d1 d2 h0 h1 h2
  have hwa : IntKind.i64.wrap (a - aheadOf l a) = a - aheadOf l a := by rw [IntKind.wrap_i64]; omega
  have hwt : IntKind.i64.wrap (t - aheadOf l t) = t - aheadOf l t := by rw [IntKind.wrap_i64]; omega
  go_upto_region 3 with fail
  go_region_law ((try go_simp); go_at_call 21; refine (rahead_any _ sa len cap l a (by exact HX.out.grown (Mod.drew (Mod.refl none_ _))) HOK.out (by omega)).mono ?_; rintro e w4 ⟨rfl, m4⟩; have q0 := m4.cell (p := ⟨w.heap.size, 0, none⟩) (fun e => e) c0; have q1 := m4.cell (p := ⟨w.heap.size, 1, none⟩) (fun e => e) c1; have q2 := m4.cell (p := ⟨w.heap.size, 2, none⟩) (fun e => e) c2; have KX4 := Lib.hid (KX.out.drew.mod m4 (fun e => e)); have r0 := KX4.out.frozen 0; have r1 := KX4.out.frozen 1; have r2 := KX4.out.frozen 2; have KY4 := Lib.hid (KY.out.drew.mod m4 (fun e => e)); have MX4 := Lib.hid ((Mod.drew MX.out).trans m4); clear m4)
  all_goals
    have k3 := KX4.out.set 1 (.int .i64 (a - aheadOf l a))
    have mm := (Mod.refl (one w.heap.size) w4).setCell ⟨w.heap.size, 1, none⟩ (fun _ => rfl) (.int .i64 (a - aheadOf l a))
    have k4 := KY4.out.mod mm (fun e => by have e' : w.heap.size + 1 = w.heap.size := e; omega)
    have M5 := Lib.hid (MX4.out.transIn mm (fun b hb e => by have e' : b = w.heap.size := e; omega))
    clear c0 c1 c2 q0 q1 q2 r0 r1 r2 KX KY HX MX mm KX4 KY4 MX4
    go_upto_region 4 with fail
    generalize w4.setCell ⟨w.heap.size, 1, none⟩ (.int .i64 (a - aheadOf l a)) = W5 at k3 k4 M5 ⊢
    have c0 : W5.cell? ⟨w.heap.size, 0, none⟩ = some (.int .i64 s) := by rw [k3.cell]; rfl
    have c1 : W5.cell? ⟨w.heap.size, 1, none⟩ = some (.int .i64 (a - aheadOf l a)) := by rw [k3.cell]; rfl
    have c2 : W5.cell? ⟨w.heap.size, 2, none⟩ = some (.int .i64 t) := by rw [k3.cell]; rfl
    have KX := Lib.hid k3
    have KY := Lib.hid k4
    have HX := Lib.hid (HW.out.grown M5.out)
    have MX := M5
    clear k3 k4
    go_region_law ((try go_simp); go_at_call 21; refine (rahead_any _ sa len cap l t (by exact HX.out.grown (Mod.drew (Mod.refl none_ _))) HOK.out (by omega)).mono ?_; rintro e w4 ⟨rfl, m4⟩; have q0 := m4.cell (p := ⟨w.heap.size, 0, none⟩) (fun e => e) c0; have q1 := m4.cell (p := ⟨w.heap.size, 1, none⟩) (fun e => e) c1; have q2 := m4.cell (p := ⟨w.heap.size, 2, none⟩) (fun e => e) c2; have KX4 := Lib.hid (KX.out.drew.mod m4 (fun e => e)); have r0 := KX4.out.frozen 0; have r1 := KX4.out.frozen 1; have r2 := KX4.out.frozen 2; have KY4 := Lib.hid (KY.out.drew.mod m4 (fun e => e)); have MX4 := Lib.hid ((Mod.drew MX.out).trans m4); clear m4)
  all_goals
    have k3 := KX4.out.set 2 (.int .i64 (t - aheadOf l t))
    have mm := (Mod.refl (one w.heap.size) w4).setCell ⟨w.heap.size, 2, none⟩ (fun _ => rfl) (.int .i64 (t - aheadOf l t))
    have k1 := KY4.out.mod mm (fun e => by have e' : w.heap.size + 1 = w.heap.size := e; omega)
    have M7 := Lib.hid (MX4.out.transIn mm (fun b hb e => by have e' : b = w.heap.size := e; omega))
    clear c0 c1 c2 q0 q1 q2 r0 r1 r2 KX KY HX MX mm KX4 KY4 MX4
    go_upto_region 5 with fail
    generalize w4.setCell ⟨w.heap.size, 2, none⟩ (.int .i64 (t - aheadOf l t)) = W7 at k3 k1 M7 ⊢
    have c0 : W7.cell? ⟨w.heap.size, 0, none⟩ = some (.int .i64 s) := by rw [k3.cell]; rfl
    have c1 : W7.cell? ⟨w.heap.size, 1, none⟩ = some (.int .i64 (a - aheadOf l a)) := by rw [k3.cell]; rfl
    have c2 : W7.cell? ⟨w.heap.size, 2, none⟩ = some (.int .i64 (t - aheadOf l t)) := by rw [k3.cell]; rfl
    have d0 : W7.cell? ⟨w.heap.size + 1, 0, none⟩ = some (.int .i64 0) := by rw [k1.cell]; rfl
    have d1 : W7.cell? ⟨w.heap.size + 1, 1, none⟩ = some (.int .i64 0) := by rw [k1.cell]; rfl
    have d2 : W7.cell? ⟨w.heap.size + 1, 2, none⟩ = some (.int .i64 0) := by rw [k1.cell]; rfl
    have h0 := k1.frozen 0
    have h1 := k1.frozen 1
    have h2 := k1.frozen 2
    have KF := Lib.hid (((k1.set 0 (.int .i64 s)).set 1 (.int .i64 (a - aheadOf l a))).set 2 (.int .i64 (t - aheadOf l t)))
    have MF := Lib.hid (((M7.out.setCell ⟨w.heap.size + 1, 0, none⟩ (fun h => absurd h (by simp)) (.int .i64 s)).setCell ⟨w.heap.size + 1, 1, none⟩ (fun h => absurd h (by simp)) (.int .i64 (a - aheadOf l a))).setCell ⟨w.heap.size + 1, 2, none⟩ (fun h => absurd h (by simp)) (.int .i64 (t - aheadOf l t)))
    clear k1 k3
    go_wp2_with fail
    exact bodyPost_ret (results_rmt rfl _ _ (w.heap.size + 1) [.int .i64 s, .int .i64 (a - aheadOf l a), .int .i64 (t - aheadOf l t)] rfl rfl (blk_range KF.out)) rfl ⟨by rw [HE.out]; rfl, MF.out⟩

end Go.Proofs.Ytficfoedofkhhaa
