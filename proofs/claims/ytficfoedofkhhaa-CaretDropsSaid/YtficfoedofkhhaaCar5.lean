/-
  Layer 16 (caret): Drop.
-/
import Derived.Test.YtficfoedofkhhaaCar4
namespace Go.Proofs.Ytficfoedofkhhaa
open Go.RowKit Go.Mine

/-- What is answered when cells are dropped. -/
def dropV (s a t : Int) (l : List (Int × Int)) : Value := if markOk s a t 20000 && spansOk l then .tuple #[.agg #[.int .i64 s, .int .i64 (a - aheadOf l a), .int .i64 (t - aheadOf l t)], .int .i64 0] else .tuple #[.agg #[.int .i64 0, .int .i64 0, .int .i64 0], .int .i64 1]

/-- The two places behind k of them. -/
def twoAt (k : Nat) (a t x y : Int) : List Value := match k with
  | 0 => [.int .i64 a, .int .i64 t]
  | 1 => [.int .i64 x, .int .i64 t]
  | _ => [.int .i64 x, .int .i64 y]

set_option maxHeartbeats 4000000 in
set_option maxRecDepth 1000000 in
theorem cdrop_any (s a t : Int) (w : World) (sa : Option Addr) (len cap : Nat) (l : List (Int × Int)) (h : IsSpans w sa len cap l) (hlen : len ≤ 1000000) :
    Calls Try.prog 6 #[.agg #[.int .i64 s, .int .i64 a, .int .i64 t], .slice sa len cap] w fun e w' => e = .returned (dropV s a t l) ∧ Mod none_ w w' := by
  obtain ⟨W0, hW0⟩ : ∃ W0, (w.alloc (.cells #[.int .i64 s, .int .i64 a, .int .i64 t] 27)).alloc (.cells #[.int .i64 0, .int .i64 0, .int .i64 0] 27) = W0 := ⟨_, rfl⟩
  have m0 : Mod none_ w W0 := by rw [← hW0]; exact ((Mod.refl none_ w).alloc _).alloc _
  have k0 : Blk W0 w.heap.size [.int .i64 s, .int .i64 a, .int .i64 t] 27 := by
    rw [← hW0]
    exact (Blk.new (w := w) (cs := [.int .i64 s, .int .i64 a, .int .i64 t]) (t := 27)).mod ((Mod.refl none_ _).alloc _) (fun e => e)
  have k1 : Blk W0 (w.heap.size + 1) [.int .i64 0, .int .i64 0, .int .i64 0] 27 := by
    have := Blk.new (w := w.alloc (.cells #[.int .i64 s, .int .i64 a, .int .i64 t] 27)) (cs := [.int .i64 0, .int .i64 0, .int .i64 0]) (t := 27)
    rw [World.size_alloc] at this
    rw [← hW0]
    exact this
  have M0 := Lib.hid m0
  have HW := Lib.hid h
  have H0 := Lib.hid (h.grown m0)
  have K0 := Lib.hid k0
  have K1 := Lib.hid k1
  have c0 : W0.cell? ⟨w.heap.size, 0, none⟩ = some (.int .i64 s) := by rw [k0.cell]; rfl
  have c1 : W0.cell? ⟨w.heap.size, 1, none⟩ = some (.int .i64 a) := by rw [k0.cell]; rfl
  have c2 : W0.cell? ⟨w.heap.size, 2, none⟩ = some (.int .i64 t) := by rw [k0.cell]; rfl
  obtain ⟨R, hR⟩ : ∃ R, R = dropV s a t l := ⟨_, rfl⟩
  rw [← hR]
  have HR := Lib.hid hR
  clear hR h m0 k0 k1
  go_enter Try.func6, Try.ntmps6
  go_upto_region 1 with fail
  clear hW0
  go_wp2_with fail
  refine (cmay_any s a t 20000 _).mono ?_
  rintro e w1 ⟨rfl, m1⟩
  have M1 := Lib.hid (M0.out.trans m1)
  have H1 := Lib.hid (H0.out.grown m1)
  have k0 := K0.out.mod m1 (fun e => e)
  have k1 := K1.out.mod m1 (fun e => e)
  have c0 : w1.cell? ⟨w.heap.size, 0, none⟩ = some (.int .i64 s) := by rw [k0.cell]; rfl
  have c1 : w1.cell? ⟨w.heap.size, 1, none⟩ = some (.int .i64 a) := by rw [k0.cell]; rfl
  have c2 : w1.cell? ⟨w.heap.size, 2, none⟩ = some (.int .i64 t) := by rw [k0.cell]; rfl
  have d0 : w1.cell? ⟨w.heap.size + 1, 0, none⟩ = some (.int .i64 0) := by rw [k1.cell]; rfl
  have d1 : w1.cell? ⟨w.heap.size + 1, 1, none⟩ = some (.int .i64 0) := by rw [k1.cell]; rfl
  have d2 : w1.cell? ⟨w.heap.size + 1, 2, none⟩ = some (.int .i64 0) := by rw [k1.cell]; rfl
  have h0 := k1.frozen 0
  have h1 := k1.frozen 1
  have h2 := k1.frozen 2
  cases hmk : markOk s a t 20000
  · have HE := Lib.hid (show R = .tuple #[.agg #[.int .i64 0, .int .i64 0, .int .i64 0], .int .i64 1] by rw [HR.out]; unfold dropV; rw [hmk]; rfl)
    have KF := Lib.hid (((k1.set 0 (.int .i64 0)).set 1 (.int .i64 0)).set 2 (.int .i64 0))
    have MF := Lib.hid (((M1.out.setCell ⟨w.heap.size + 1, 0, none⟩ (fun h => absurd h (by simp)) (.int .i64 0)).setCell ⟨w.heap.size + 1, 1, none⟩ (fun h => absurd h (by simp)) (.int .i64 0)).setCell ⟨w.heap.size + 1, 2, none⟩ (fun h => absurd h (by simp)) (.int .i64 0))
    clear k0 k1 m1
    go_wp2_with fail
    exact bodyPost_ret (results_mkt rfl _ _ (w.heap.size + 1) [.int .i64 0, .int .i64 0, .int .i64 0] rfl rfl (blk_range KF.out)) rfl ⟨by rw [HE.out]; rfl, MF.out⟩
  have K01 := Lib.hid k0
  have K11 := Lib.hid k1
  clear k0 k1 m1
  go_wp2_with fail
  refine (spansMay_any _ sa len cap l H1.out).mono ?_
  rintro e w2 ⟨rfl, m2⟩
  have M2 := Lib.hid (M1.out.trans m2)
  have H2 := Lib.hid (H1.out.grown m2)
  have k0 := K01.out.mod m2 (fun e => e)
  have k1 := K11.out.mod m2 (fun e => e)
  clear c0 c1 c2 d0 d1 d2 h0 h1 h2
  have c0 : w2.cell? ⟨w.heap.size, 0, none⟩ = some (.int .i64 s) := by rw [k0.cell]; rfl
  have c1 : w2.cell? ⟨w.heap.size, 1, none⟩ = some (.int .i64 a) := by rw [k0.cell]; rfl
  have c2 : w2.cell? ⟨w.heap.size, 2, none⟩ = some (.int .i64 t) := by rw [k0.cell]; rfl
  have d0 : w2.cell? ⟨w.heap.size + 1, 0, none⟩ = some (.int .i64 0) := by rw [k1.cell]; rfl
  have d1 : w2.cell? ⟨w.heap.size + 1, 1, none⟩ = some (.int .i64 0) := by rw [k1.cell]; rfl
  have d2 : w2.cell? ⟨w.heap.size + 1, 2, none⟩ = some (.int .i64 0) := by rw [k1.cell]; rfl
  have h0 := k1.frozen 0
  have h1 := k1.frozen 1
  have h2 := k1.frozen 2
  cases hok : spansOk l
  · have HE := Lib.hid (show R = .tuple #[.agg #[.int .i64 0, .int .i64 0, .int .i64 0], .int .i64 1] by rw [HR.out]; unfold dropV; rw [hmk, hok]; rfl)
    have KF := Lib.hid (((k1.set 0 (.int .i64 0)).set 1 (.int .i64 0)).set 2 (.int .i64 0))
    have MF := Lib.hid (((M2.out.setCell ⟨w.heap.size + 1, 0, none⟩ (fun h => absurd h (by simp)) (.int .i64 0)).setCell ⟨w.heap.size + 1, 1, none⟩ (fun h => absurd h (by simp)) (.int .i64 0)).setCell ⟨w.heap.size + 1, 2, none⟩ (fun h => absurd h (by simp)) (.int .i64 0))
    clear k0 k1 m2
    go_wp2_with fail
    exact bodyPost_ret (results_mkt rfl _ _ (w.heap.size + 1) [.int .i64 0, .int .i64 0, .int .i64 0] rfl rfl (blk_range KF.out)) rfl ⟨by rw [HE.out]; rfl, MF.out⟩
  have HE := Lib.hid (show R = .tuple #[.agg #[.int .i64 s, .int .i64 (a - aheadOf l a), .int .i64 (t - aheadOf l t)], .int .i64 0] by rw [HR.out]; unfold dropV; rw [hmk, hok]; rfl)
  have hmk' : ((0 ≤ a ∧ a ≤ 20000) ∧ (0 ≤ t ∧ t ≤ 20000)) := by
    simp [markOk, inB] at hmk; omega
  have HL := Lib.hid (fun p => aheadOf_le l p (fun x hx => by have := spansFrom_ok l (-1) hok x hx; omega))
  have hN := H2.out.n
  have HOK := Lib.hid hok
  have K02 := Lib.hid k0
  have K12 := Lib.hid k1
  clear k0 k1 m2 hmk hok
  go_wp2_with fail
  refine (places_any s a t _).mono ?_
  rintro e w3 ⟨rfl, m3⟩
  go_wp2_with fail
  have hP := Lib.hid (M2.out.trans m3)
  obtain ⟨P, hPe⟩ : ∃ P, P = w3.heap.size := ⟨_, rfl⟩
  have kP : Blk (w3.alloc (.cells #[.int .i64 a, .int .i64 t] 50)) P [.int .i64 a, .int .i64 t] 50 := by rw [hPe]; exact Blk.new
  have mP := Lib.hid (m3.alloc (.cells #[.int .i64 a, .int .i64 t] 50))
  have MP := Lib.hid (M2.out.trans mP.out)
  have hPw : w.heap.size + 2 ≤ P := by have := K12.out.lt; have := m3.size; omega
  rw [← hPe]
  clear hPe m3
  generalize w3.alloc (.cells #[.int .i64 a, .int .i64 t] 50) = wP at kP mP MP ⊢
  have KP0 := Lib.hid (K02.out.mod mP.out (fun e => e))
  have KP1 := Lib.hid (K12.out.mod mP.out (fun e => e))
  clear c0 c1 c2 d0 d1 d2 h0 h1 h2
  go_loopg [19] 2 (fun g s19 wx => ∃ k : Nat, g = 2 - k ∧ s19 = .int .i64 k ∧ k ≤ 2 ∧ Mod (one P) wP wx ∧ Blk wx P (twoAt k a t (a - aheadOf l a) (t - aheadOf l t)) 50)
  case atStart => exact ⟨0, rfl, rfl, by omega, Mod.refl _ _, kP⟩
  case round =>
    obtain ⟨k, rfl, rfl, hk, mx, kx⟩ := hrel
    match k, hk, kx with
    | 0, _, kx =>
      have kx0 : Blk wr P [.int .i64 a, .int .i64 t] 50 := kx
      have q0 : wr.cell? ⟨P, 0, none⟩ = some (.int .i64 a) := by rw [kx0.cell]; rfl
      have q1 : wr.cell? ⟨P, 1, none⟩ = some (.int .i64 t) := by rw [kx0.cell]; rfl
      have r0 := kx0.frozen 0
      have r1 := kx0.frozen 1
      have KX := Lib.hid kx0
      have MX := Lib.hid mx
      have MW := Lib.hid (MP.out.transIn mx (fun b hb e => by have e' : b = P := e; omega))
      have hA := HL.out a
      clear kx kx0 mx
      go_upto_region 7 with fail
      go_region_law ((try go_simp); go_at_call 17; refine (ahead_any _ sa len cap l a (by exact HW.out.grown (Mod.drew MW.out)) hlen (by omega)).mono ?_; rintro e w4 ⟨rfl, m4⟩; rw [if_pos HOK.out]; have q2 := m4.cell (p := ⟨P, 0, none⟩) (fun e => e) q0; have q3 := m4.cell (p := ⟨P, 1, none⟩) (fun e => e) q1; have KX4 := Lib.hid (KX.out.drew.mod m4 (fun e => e)); have r2 := KX4.out.frozen 0; have r3 := KX4.out.frozen 1; have MX4 := Lib.hid ((Mod.drew MX.out).trans (m4.mono (fun _ _ e => e.elim))); clear m4)
      all_goals go_wp2_with fail
      all_goals go_roundg 1
      all_goals first
        | omega
        | exact ⟨1, rfl, by go_num, by omega, by exact (MX4.out.setCell ⟨P, 0, none⟩ (fun _ => rfl) _), by exact (KX4.out.set 0 (.int .i64 (a - aheadOf l a)))⟩
    | 1, _, kx =>
      have kx0 : Blk wr P [.int .i64 (a - aheadOf l a), .int .i64 t] 50 := kx
      have q0 : wr.cell? ⟨P, 0, none⟩ = some (.int .i64 (a - aheadOf l a)) := by rw [kx0.cell]; rfl
      have q1 : wr.cell? ⟨P, 1, none⟩ = some (.int .i64 t) := by rw [kx0.cell]; rfl
      have r0 := kx0.frozen 0
      have r1 := kx0.frozen 1
      have KX := Lib.hid kx0
      have MX := Lib.hid mx
      have MW := Lib.hid (MP.out.transIn mx (fun b hb e => by have e' : b = P := e; omega))
      have hA := HL.out t
      clear kx kx0 mx
      go_upto_region 7 with fail
      go_region_law ((try go_simp); go_at_call 17; refine (ahead_any _ sa len cap l t (by exact HW.out.grown (Mod.drew MW.out)) hlen (by omega)).mono ?_; rintro e w4 ⟨rfl, m4⟩; rw [if_pos HOK.out]; have q2 := m4.cell (p := ⟨P, 0, none⟩) (fun e => e) q0; have q3 := m4.cell (p := ⟨P, 1, none⟩) (fun e => e) q1; have KX4 := Lib.hid (KX.out.drew.mod m4 (fun e => e)); have r2 := KX4.out.frozen 0; have r3 := KX4.out.frozen 1; have MX4 := Lib.hid ((Mod.drew MX.out).trans (m4.mono (fun _ _ e => e.elim))); clear m4)
      all_goals go_wp2_with fail
      all_goals go_roundg 0
      all_goals first
        | omega
        | exact ⟨2, rfl, by go_num, by omega, by exact (MX4.out.setCell ⟨P, 1, none⟩ (fun _ => rfl) _), by exact (KX4.out.set 1 (.int .i64 (t - aheadOf l t)))⟩
    | 2, _, kx =>
      have kx0 : Blk wr P [.int .i64 (a - aheadOf l a), .int .i64 (t - aheadOf l t)] 50 := kx
      have kA := KP0.out.mod mx (fun e => by have e' : w.heap.size = P := e; omega)
      have kB := KP1.out.mod mx (fun e => by have e' : w.heap.size + 1 = P := e; omega)
      have MW := Lib.hid (MP.out.transIn mx (fun b hb e => by have e' : b = P := e; omega))
      have c0 : wr.cell? ⟨w.heap.size, 0, none⟩ = some (.int .i64 s) := by rw [kA.cell]; rfl
      have c1 : wr.cell? ⟨w.heap.size, 1, none⟩ = some (.int .i64 a) := by rw [kA.cell]; rfl
      have c2 : wr.cell? ⟨w.heap.size, 2, none⟩ = some (.int .i64 t) := by rw [kA.cell]; rfl
      have q0 : wr.cell? ⟨P, 0, none⟩ = some (.int .i64 (a - aheadOf l a)) := by rw [kx0.cell]; rfl
      have q1 : wr.cell? ⟨P, 1, none⟩ = some (.int .i64 (t - aheadOf l t)) := by rw [kx0.cell]; rfl
      have KB := Lib.hid kB
      clear kA kB kx kx0 mx kP
      go_wp2_with fail
      refine (at_any s a t (a - aheadOf l a) (t - aheadOf l t) _).mono ?_
      rintro e w5 ⟨rfl, m5⟩
      have k1 := KB.out.mod m5 (fun e => e)
      have M5 := Lib.hid (MW.out.trans m5)
      have d0 : w5.cell? ⟨w.heap.size + 1, 0, none⟩ = some (.int .i64 0) := by rw [k1.cell]; rfl
      have d1 : w5.cell? ⟨w.heap.size + 1, 1, none⟩ = some (.int .i64 0) := by rw [k1.cell]; rfl
      have d2 : w5.cell? ⟨w.heap.size + 1, 2, none⟩ = some (.int .i64 0) := by rw [k1.cell]; rfl
      have h0 := k1.frozen 0
      have h1 := k1.frozen 1
      have h2 := k1.frozen 2
      have KF := Lib.hid (((k1.set 0 (.int .i64 s)).set 1 (.int .i64 (a - aheadOf l a))).set 2 (.int .i64 (t - aheadOf l t)))
      have MF := Lib.hid (((M5.out.setCell ⟨w.heap.size + 1, 0, none⟩ (fun h => absurd h (by simp)) (.int .i64 s)).setCell ⟨w.heap.size + 1, 1, none⟩ (fun h => absurd h (by simp)) (.int .i64 (a - aheadOf l a))).setCell ⟨w.heap.size + 1, 2, none⟩ (fun h => absurd h (by simp)) (.int .i64 (t - aheadOf l t)))
      clear k1 m5
      go_wp2_with fail
      exact bodyPost_ret (results_mkt rfl _ _ (w.heap.size + 1) [.int .i64 s, .int .i64 (a - aheadOf l a), .int .i64 (t - aheadOf l t)] rfl rfl (blk_range KF.out)) rfl ⟨by rw [HE.out]; rfl, MF.out⟩

end Go.Proofs.Ytficfoedofkhhaa
