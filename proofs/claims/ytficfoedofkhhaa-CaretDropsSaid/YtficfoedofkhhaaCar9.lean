/-
  Layer 16 (caret): Move by an insertion that may be.
-/
import Derived.Test.YtficfoedofkhhaaCar5
namespace Go.Proofs.Ytficfoedofkhhaa
open Go.RowKit Go.Mine

set_option maxHeartbeats 4000000 in
set_option maxRecDepth 1000000 in
theorem move_ins (o : OpV) (s a t size : Int) (w : World) (l : List (Int × Int)) (h : o.ok w l) (hk : o.kind = 1) (h1 : inB size 0 20000 = true) (h2 : nameOk o.site o.seq = true) (h3 : inB o.num 0 1099511627776 = true) (h4 : insOk o size = true) (hm : markOk s a t size = true) :
    Calls Try.prog 13 #[.agg #[.int .i64 s, .int .i64 a, .int .i64 t], o.v, .int .i64 size] w fun e w' => e = .returned (.tuple #[.agg #[.int .i64 s, .int .i64 (pointOf a o.at_ (addsOf o) (o.site != s)), .int .i64 (pointOf t o.at_ (addsOf o) (o.site != s))], .int .i64 0]) ∧ Mod none_ w w' := by
  obtain ⟨A, hA⟩ : ∃ A, A = pointOf a o.at_ (addsOf o) (o.site != s) := ⟨_, rfl⟩
  obtain ⟨T, hT⟩ : ∃ T, T = pointOf t o.at_ (addsOf o) (o.site != s) := ⟨_, rfl⟩
  rw [← hA, ← hT]
  have HA := Lib.hid hA
  have HT := Lib.hid hT
  have hab : (0 ≤ a ∧ a ≤ size) ∧ (0 ≤ t ∧ t ≤ size) := by simp [markOk, inB] at hm; omega
  obtain ⟨W0, hW0⟩ : ∃ W0, ((w.alloc (.cells #[.int .i64 s, .int .i64 a, .int .i64 t] 27)).alloc (.cells o.cs.toArray 47)).alloc (.cells #[.int .i64 0, .int .i64 0, .int .i64 0] 27) = W0 := ⟨_, rfl⟩
  have m0 : Mod none_ w W0 := by rw [← hW0]; exact (((Mod.refl none_ w).alloc _).alloc _).alloc _
  have k0 : Blk W0 w.heap.size [.int .i64 s, .int .i64 a, .int .i64 t] 27 := by
    rw [← hW0]
    exact ((Blk.new (w := w) (cs := [.int .i64 s, .int .i64 a, .int .i64 t]) (t := 27)).mod ((Mod.refl none_ _).alloc _) (fun e => e)).mod ((Mod.refl none_ _).alloc _) (fun e => e)
  have k1 : Blk W0 (w.heap.size + 1) o.cs 47 := by
    have := Blk.new (w := w.alloc (.cells #[.int .i64 s, .int .i64 a, .int .i64 t] 27)) (cs := o.cs) (t := 47)
    rw [World.size_alloc] at this
    rw [← hW0]
    exact this.mod ((Mod.refl none_ _).alloc _) (fun e => e)
  have k2 : Blk W0 (w.heap.size + 1 + 1) [.int .i64 0, .int .i64 0, .int .i64 0] 27 := by
    have := Blk.new (w := (w.alloc (.cells #[.int .i64 s, .int .i64 a, .int .i64 t] 27)).alloc (.cells o.cs.toArray 47)) (cs := [.int .i64 0, .int .i64 0, .int .i64 0]) (t := 27)
    rw [World.size_alloc, World.size_alloc] at this
    rw [← hW0]
    exact this
  obtain ⟨X, hX⟩ : ∃ X, X = w.heap.size := ⟨_, rfl⟩
  rw [← hX] at k0 k1 k2
  have HX := Lib.hid hX
  have M0 := Lib.hid m0
  have K0 := Lib.hid k0
  have K1 := Lib.hid k1
  have K2 := Lib.hid k2
  have HO := Lib.hid h
  have H0 := Lib.hid h
  have a0 := k0.cell 0
  have a1 := k0.cell 1
  have a2 := k0.cell 2
  have d0 := k1.cell 0
  have d1 := k1.cell 1
  have d2 := k1.cell 2
  have d3 := k1.cell 3
  have d4 := k1.cell 4
  have d5 := k1.cell 5
  have d6 := k1.cell 6
  simp only [OpV.cs, List.getElem?_cons_zero, List.getElem?_cons_succ] at a0 a1 a2 d0 d1 d2 d3 d4 d5 d6
  have HM := Lib.hid (cmay_any s a t size)
  rw [hm] at HM
  have HK := Lib.hid hk
  have HQ1 := Lib.hid h1
  have HQ2 := Lib.hid h2
  have HQ3 := Lib.hid h3
  have HQ4 := Lib.hid h4
  clear hA hT m0 k0 k1 k2 hm hk h h1 h2 h3 h4 HO
  go_enter Try.func13, Try.ntmps13
  go_upto_region 1 with fail
  clear hW0
  rw [← hX]
  clear hX
  go_wp2_with fail
  refine (HM.out _).mono ?_
  rintro e w1 ⟨rfl, m1⟩
  have k1 := K1.out.mod m1 (fun e => e)
  have M1 := Lib.hid (M0.out.trans m1)
  clear d0 d1 d2 d3 d4 d5 d6 a0 a1 a2
  have d0 := k1.cell 0
  have d1 := k1.cell 1
  have d2 := k1.cell 2
  have d3 := k1.cell 3
  have d4 := k1.cell 4
  have d5 := k1.cell 5
  have d6 := k1.cell 6
  simp only [OpV.cs, List.getElem?_cons_zero, List.getElem?_cons_succ] at d0 d1 d2 d3 d4 d5 d6
  have HI := Lib.hid (mayIns_any o size w1 l (H0.out.grown M1.out) HK.out HQ1.out HQ2.out HQ3.out)
  rw [HQ4.out] at HI
  have K01 := Lib.hid (K0.out.mod m1 (fun e => e))
  have K11 := Lib.hid k1
  have K21 := Lib.hid (K2.out.mod m1 (fun e => e))
  clear m1 k1
  go_wp2_with fail
  refine HI.out.mono ?_
  rintro e w2 ⟨rfl, m2⟩
  have k0 := K01.out.mod m2 (fun e => e)
  have M2 := Lib.hid (M1.out.trans m2)
  have K12 := Lib.hid (K11.out.mod m2 (fun e => e))
  have K22 := Lib.hid (K21.out.mod m2 (fun e => e))
  have a0 := k0.cell 0
  have a1 := k0.cell 1
  have a2 := k0.cell 2
  simp only [List.getElem?_cons_zero, List.getElem?_cons_succ] at a0 a1 a2
  have K02 := Lib.hid k0
  clear d0 d1 d2 d3 d4 d5 d6 m2 k0
  go_wp2_with fail
  refine (places_any s a t _).mono ?_
  rintro e w3 ⟨rfl, m3⟩
  go_wp2_with fail
  obtain ⟨P, hPe⟩ : ∃ P, P = w3.heap.size := ⟨_, rfl⟩
  have kP : Blk (w3.alloc (.cells #[.int .i64 a, .int .i64 t] 50)) P [.int .i64 a, .int .i64 t] 50 := by rw [hPe]; exact Blk.new
  have mP := Lib.hid (m3.alloc (.cells #[.int .i64 a, .int .i64 t] 50))
  have MP := Lib.hid (M2.out.trans mP.out)
  have hPw : X + 2 < P := by have := K22.out.lt; have := m3.size; omega
  rw [← hPe]
  clear hPe m3
  generalize w3.alloc (.cells #[.int .i64 a, .int .i64 t] 50) = wP at kP mP MP ⊢
  have KP0 := Lib.hid (K02.out.mod mP.out (fun e => e))
  have KP1 := Lib.hid (K12.out.mod mP.out (fun e => e))
  have KP2 := Lib.hid (K22.out.mod mP.out (fun e => e))
  clear a0 a1 a2
  go_loopg [25] 2 (fun g s25 wx => ∃ k : Nat, g = 2 - k ∧ s25 = .int .i64 k ∧ k ≤ 2 ∧ Mod (one P) wP wx ∧ Blk wx P (twoAt k a t A T) 50)
  case atStart => exact ⟨0, rfl, rfl, by omega, Mod.refl _ _, kP⟩
  case round =>
    obtain ⟨k, rfl, rfl, hk2, mx, kx⟩ := hrel
    match k, hk2, kx with
    | 0, _, kx =>
      have kx0 : Blk wr P [.int .i64 a, .int .i64 t] 50 := kx
      have kA := KP0.out.mod mx (fun e => by have e' : X = P := e; omega)
      have kB := KP1.out.mod mx (fun e => by have e' : X + 1 = P := e; omega)
      have MW := Lib.hid (MP.out.transIn mx (fun b hb e => by have e' : b = P := e; have := HX.out; omega))
      have KX := Lib.hid kx0
      have MX := Lib.hid mx
      have q0 := kx0.cell 0
      have a0 := kA.cell 0
      have d0 := kB.cell 0
      have d1 := kB.cell 1
      have d2 := kB.cell 2
      have d3 := kB.cell 3
      have d4 := kB.cell 4
      have d5 := kB.cell 5
      have d6 := kB.cell 6
      simp only [OpV.cs, List.getElem?_cons_zero, List.getElem?_cons_succ] at q0 a0 d0 d1 d2 d3 d4 d5 d6
      have hH := H0.out.grown MW.out
      clear kx kx0 kA kB mx
      go_upto_region 7 with fail
      go_region_held3 (fun w' => Mod none_ wr w' ∧ w'.cell? ⟨P, 0, none⟩ = some (.int .i64 a) ∧ w'.cell? ⟨X, 0, none⟩ = some (.int .i64 s) ∧ w'.cell? ⟨X + 1, 0, none⟩ = some (.int .i64 o.site) ∧ w'.cell? ⟨X + 1, 1, none⟩ = some (.int .i64 o.seq) ∧ w'.cell? ⟨X + 1, 2, none⟩ = some (.int .i64 o.num) ∧ w'.cell? ⟨X + 1, 3, none⟩ = some (.int .i64 o.kind) ∧ w'.cell? ⟨X + 1, 4, none⟩ = some (.int .i64 o.at_) ∧ w'.cell? ⟨X + 1, 5, none⟩ = some (.string o.text) ∧ w'.cell? ⟨X + 1, 6, none⟩ = some (.slice o.sa o.slen o.scap))
        (first
          | exact ⟨Mod.drew (Mod.refl none_ wr), q0, a0, d0, d1, d2, d3, d4, d5, d6⟩
          | assumption
          | (obtain ⟨q, qa, qb, q0, q1, q2, q3, q4, q5, q6⟩ := ‹Mod none_ wr _ ∧ _›; exact ⟨q.trans m1, m1.cell (fun e => e) qa, m1.cell (fun e => e) qb, m1.cell (fun e => e) q0, m1.cell (fun e => e) q1, m1.cell (fun e => e) q2, m1.cell (fun e => e) q3, m1.cell (fun e => e) q4, m1.cell (fun e => e) q5, m1.cell (fun e => e) q6⟩))
        (first
          | (go_at_call 29; refine (ipoint_any o a size _ _ _ (hH.grown (And.left (by assumption))) HK.out HQ1.out HQ2.out HQ3.out HQ4.out (by omega)).mono ?_; rintro e w4 ⟨rfl, m1⟩))
      rename_i hHeld
      have M4 := And.left hHeld
      have k4 := KX.out.mod M4 (fun e => e)
      have x0 := k4.cell 0
      have x1 := k4.cell 1
      simp only [List.getElem?_cons_zero, List.getElem?_cons_succ] at x0 x1
      have r0 := k4.frozen 0
      have r1 := k4.frozen 1
      have K4 := Lib.hid k4
      have M5 := Lib.hid (MX.out.trans (M4.mono (T := one P) (fun _ _ e => e.elim)))
      clear hHeld M4 k4 m1
      rw [← HA.out]
      go_wp2_with fail
      go_roundg 1
      all_goals first
        | omega
        | exact ⟨1, rfl, by go_num, by omega, M5.out.setCell ⟨P, 0, none⟩ (fun _ => rfl) _, K4.out.set 0 (.int .i64 A)⟩
    | 1, _, kx =>
      have kx0 : Blk wr P [.int .i64 A, .int .i64 t] 50 := kx
      have kA := KP0.out.mod mx (fun e => by have e' : X = P := e; omega)
      have kB := KP1.out.mod mx (fun e => by have e' : X + 1 = P := e; omega)
      have MW := Lib.hid (MP.out.transIn mx (fun b hb e => by have e' : b = P := e; have := HX.out; omega))
      have KX := Lib.hid kx0
      have MX := Lib.hid mx
      have q0 := kx0.cell 1
      have a0 := kA.cell 0
      have d0 := kB.cell 0
      have d1 := kB.cell 1
      have d2 := kB.cell 2
      have d3 := kB.cell 3
      have d4 := kB.cell 4
      have d5 := kB.cell 5
      have d6 := kB.cell 6
      simp only [OpV.cs, List.getElem?_cons_zero, List.getElem?_cons_succ] at q0 a0 d0 d1 d2 d3 d4 d5 d6
      have hH := H0.out.grown MW.out
      clear kx kx0 kA kB mx
      go_upto_region 7 with fail
      go_region_held3 (fun w' => Mod none_ wr w' ∧ w'.cell? ⟨P, 1, none⟩ = some (.int .i64 t) ∧ w'.cell? ⟨X, 0, none⟩ = some (.int .i64 s) ∧ w'.cell? ⟨X + 1, 0, none⟩ = some (.int .i64 o.site) ∧ w'.cell? ⟨X + 1, 1, none⟩ = some (.int .i64 o.seq) ∧ w'.cell? ⟨X + 1, 2, none⟩ = some (.int .i64 o.num) ∧ w'.cell? ⟨X + 1, 3, none⟩ = some (.int .i64 o.kind) ∧ w'.cell? ⟨X + 1, 4, none⟩ = some (.int .i64 o.at_) ∧ w'.cell? ⟨X + 1, 5, none⟩ = some (.string o.text) ∧ w'.cell? ⟨X + 1, 6, none⟩ = some (.slice o.sa o.slen o.scap))
        (first
          | exact ⟨Mod.drew (Mod.refl none_ wr), q0, a0, d0, d1, d2, d3, d4, d5, d6⟩
          | assumption
          | (obtain ⟨q, qa, qb, q0, q1, q2, q3, q4, q5, q6⟩ := ‹Mod none_ wr _ ∧ _›; exact ⟨q.trans m1, m1.cell (fun e => e) qa, m1.cell (fun e => e) qb, m1.cell (fun e => e) q0, m1.cell (fun e => e) q1, m1.cell (fun e => e) q2, m1.cell (fun e => e) q3, m1.cell (fun e => e) q4, m1.cell (fun e => e) q5, m1.cell (fun e => e) q6⟩))
        (first
          | (go_at_call 29; refine (ipoint_any o t size _ _ _ (hH.grown (And.left (by assumption))) HK.out HQ1.out HQ2.out HQ3.out HQ4.out (by omega)).mono ?_; rintro e w4 ⟨rfl, m1⟩))
      rename_i hHeld
      have M4 := And.left hHeld
      have k4 := KX.out.mod M4 (fun e => e)
      have x0 := k4.cell 0
      have x1 := k4.cell 1
      simp only [List.getElem?_cons_zero, List.getElem?_cons_succ] at x0 x1
      have r0 := k4.frozen 0
      have r1 := k4.frozen 1
      have K4 := Lib.hid k4
      have M5 := Lib.hid (MX.out.trans (M4.mono (T := one P) (fun _ _ e => e.elim)))
      clear hHeld M4 k4 m1
      rw [← HT.out]
      go_wp2_with fail
      go_roundg 0
      all_goals first
        | omega
        | exact ⟨2, rfl, by go_num, by omega, M5.out.setCell ⟨P, 1, none⟩ (fun _ => rfl) _, K4.out.set 1 (.int .i64 T)⟩
    | 2, _, kx =>
      have kx0 : Blk wr P [.int .i64 A, .int .i64 T] 50 := kx
      have kA := KP0.out.mod mx (fun e => by have e' : X = P := e; omega)
      have kB := KP2.out.mod mx (fun e => by have e' : X + 1 + 1 = P := e; omega)
      have MW := Lib.hid (MP.out.transIn mx (fun b hb e => by have e' : b = P := e; have := HX.out; omega))
      have a0 := kA.cell 0
      have a1 := kA.cell 1
      have a2 := kA.cell 2
      have q0 := kx0.cell 0
      have q1 := kx0.cell 1
      simp only [List.getElem?_cons_zero, List.getElem?_cons_succ] at a0 a1 a2 q0 q1
      have KB := Lib.hid kB
      clear kA kB kx kx0 mx kP
      go_wp2_with fail
      refine (at_any s a t A T _).mono ?_
      rintro e w5 ⟨rfl, m5⟩
      have k1 := KB.out.mod m5 (fun e => e)
      have M5 := Lib.hid (MW.out.trans m5)
      have d0 := k1.cell 0
      have d1 := k1.cell 1
      have d2 := k1.cell 2
      simp only [List.getElem?_cons_zero, List.getElem?_cons_succ] at d0 d1 d2
      have r0 := k1.frozen 0
      have r1 := k1.frozen 1
      have r2 := k1.frozen 2
      have KF := Lib.hid (((k1.set 0 (.int .i64 s)).set 1 (.int .i64 A)).set 2 (.int .i64 T))
      have MF := Lib.hid (((M5.out.setCell ⟨X + 1 + 1, 0, none⟩ (fun h => absurd h (by have := HX.out; simp; omega)) (.int .i64 s)).setCell ⟨X + 1 + 1, 1, none⟩ (fun h => absurd h (by have := HX.out; simp; omega)) (.int .i64 A)).setCell ⟨X + 1 + 1, 2, none⟩ (fun h => absurd h (by have := HX.out; simp; omega)) (.int .i64 T))
      clear k1 m5
      go_wp2_with fail
      exact bodyPost_ret (results_mkt rfl _ _ (X + 1 + 1) [.int .i64 s, .int .i64 A, .int .i64 T] rfl rfl (blk_range KF.out)) rfl ⟨rfl, MF.out⟩

end Go.Proofs.Ytficfoedofkhhaa
