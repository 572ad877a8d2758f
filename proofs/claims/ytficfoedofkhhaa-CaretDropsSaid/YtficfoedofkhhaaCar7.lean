/-
  Layer 16 (caret): asks (of Gap), Put.
-/
import Derived.Test.YtficfoedofkhhaaCel9
import Derived.Test.YtficfoedofkhhaaCar5
namespace Go.Proofs.Ytficfoedofkhhaa
open Go.RowKit Go.Mine

def gapBad (l : List CellV) (i : Int) : Bool := decide (i < 0) || decide ((liveN l : Int) < i)
def gapN (l : List CellV) (i : Int) : Int := if gapBad l i then 0 else if i = liveN l then l.length else gapPos l i.toNat
theorem gapV_bad {l : List CellV} {i : Int} (h : gapBad l i = true) : gapV l i = .tuple #[.int .i64 0, .int .i64 3] := by
  unfold gapV gapBad at *; rw [if_pos (by simpa using h)]
theorem gapV_ok {l : List CellV} {i : Int} (h : gapBad l i = false) : gapV l i = .tuple #[.int .i64 (gapN l i), .int .i64 0] := by
  have h1 : ¬ (i < 0 ∨ (liveN l : Int) < i) := by unfold gapBad at h; simp at h; omega
  unfold gapV gapN
  rw [if_neg h1, h]
  simp only [Bool.false_eq_true, if_false]
  split <;> rfl

/-- What asks answers, asked of Gap. -/
def asksV (l : List CellV) (i j : Int) : Value := if gapBad l i || gapBad l j then .tuple #[.agg #[.int .i64 0, .int .i64 0], .int .i64 3] else .tuple #[.agg #[.int .i64 (gapN l i), .int .i64 (gapN l j)], .int .i64 0]

set_option maxHeartbeats 4000000 in
set_option maxRecDepth 1000000 in
theorem asks_any (w : World) (B D : Nat) (l : List CellV) (i j : Int) (h : DocIs w B D l) (hlen : l.length ≤ 1099511627776) :
    Calls Try.prog 26 #[.pointer (some ⟨D, 0, none⟩), .func (.func 27) #[] #[], .agg #[.int .i64 i, .int .i64 j]] w fun e w' => e = .returned (asksV l i j) ∧ Mod none_ w w' := by
  obtain ⟨W0, hW0⟩ : ∃ W0, ((w.alloc (.cells #[.int .i64 i, .int .i64 j] 50)).alloc (.cells #[.int .i64 0, .int .i64 0] 50)).alloc (.cells #[.int .i64 0, .int .i64 0] 50) = W0 := ⟨_, rfl⟩
  have m0 : Mod none_ w W0 := by rw [← hW0]; exact (((Mod.refl none_ w).alloc _).alloc _).alloc _
  have k0 : Blk W0 w.heap.size [.int .i64 i, .int .i64 j] 50 := by
    rw [← hW0]
    exact ((Blk.new (w := w) (cs := [.int .i64 i, .int .i64 j]) (t := 50)).mod ((Mod.refl none_ _).alloc _) (fun e => e)).mod ((Mod.refl none_ _).alloc _) (fun e => e)
  have k1 : Blk W0 (w.heap.size + 1) [.int .i64 0, .int .i64 0] 50 := by
    have := Blk.new (w := w.alloc (.cells #[.int .i64 i, .int .i64 j] 50)) (cs := [.int .i64 0, .int .i64 0]) (t := 50)
    rw [World.size_alloc] at this
    rw [← hW0]
    exact this.mod ((Mod.refl none_ _).alloc _) (fun e => e)
  have k2 : Blk W0 (w.heap.size + 1 + 1) [.int .i64 0, .int .i64 0] 50 := by
    have := Blk.new (w := (w.alloc (.cells #[.int .i64 i, .int .i64 j] 50)).alloc (.cells #[.int .i64 0, .int .i64 0] 50)) (cs := [.int .i64 0, .int .i64 0]) (t := 50)
    rw [World.size_alloc, World.size_alloc] at this
    rw [← hW0]
    exact this
  obtain ⟨X, hX⟩ : ∃ X, X = w.heap.size := ⟨_, rfl⟩
  rw [← hX] at k0 k1 k2
  have M0 := Lib.hid m0
  have K0 := Lib.hid k0
  have K1 := Lib.hid k1
  have K2 := Lib.hid k2
  have HD := Lib.hid h
  obtain ⟨R, hR⟩ : ∃ R, R = asksV l i j := ⟨_, rfl⟩
  rw [← hR]
  have HR := Lib.hid hR
  clear hR h m0 k0 k1 k2
  go_enter Try.func26, Try.ntmps26
  go_upto_region 2 with fail
  clear hW0
  rw [← hX]
  have HX := Lib.hid hX
  clear hX
  go_wp2_with fail
  go_loopg [12] 2 (fun g s12 wx => ∃ k : Nat, g = 2 - k ∧ s12 = .int .i64 k ∧ k ≤ 2 ∧ Mod (one (X + 1 + 1)) W0 wx ∧ Blk wx (X + 1 + 1) (twoAt k 0 0 (gapN l i) (gapN l j)) 50 ∧ RowKit.Hid ((1 ≤ k → gapBad l i = false) ∧ (2 ≤ k → gapBad l j = false)))
  case atStart => exact ⟨0, rfl, rfl, by omega, Mod.refl _ _, K2.out, Lib.hid ⟨fun h => absurd h (by omega), fun h => absurd h (by omega)⟩⟩
  case round =>
    obtain ⟨k, rfl, rfl, hk, mx, kx, hst⟩ := hrel
    match k, hk, kx, hst with
    | 0, _, kx, hst =>
      have kx0 : Blk wr (X + 1 + 1) [.int .i64 0, .int .i64 0] 50 := kx
      have ka := K0.out.mod mx (fun e => by have e' : X = X + 1 + 1 := e; omega)
      have kb := K1.out.mod mx (fun e => by have e' : X + 1 = X + 1 + 1 := e; omega)
      have c0 : wr.cell? ⟨X, 0, none⟩ = some (.int .i64 i) := by rw [ka.cell]; rfl
      have c1 : wr.cell? ⟨X, 1, none⟩ = some (.int .i64 j) := by rw [ka.cell]; rfl
      have KX := Lib.hid kx0
      have KB := Lib.hid kb
      have MX := Lib.hid mx
      have MW := Lib.hid (M0.out.transIn mx (fun b hb e => by have e' : b = X + 1 + 1 := e; have := HX.out; omega))
      have HG := gap_any wr B D l i (HD.out.grown MW.out) hlen
      cases hb : gapBad l i
      · rw [gapV_ok hb] at HG
        have HG := Lib.hid HG
        have HST := Lib.hid (show (1 ≤ 1 → gapBad l i = false) ∧ (2 ≤ 1 → gapBad l j = false) from ⟨fun _ => hb, fun hh => absurd hh (by omega)⟩)
        clear kx kx0 mx ka kb hst hb
        go_wp2_with fail
        refine HG.out.mono ?_
        rintro e w4 ⟨rfl, m4⟩
        have k4 := KX.out.mod m4 (fun e => e)
        have q0 := k4.cell 0
        have q1 := k4.cell 1
        simp only [List.getElem?_cons_zero, List.getElem?_cons_succ] at q0 q1
        have r0 := k4.frozen 0
        have r1 := k4.frozen 1
        have M4 := Lib.hid (MX.out.trans (m4.mono (T := one (X + 1 + 1)) (fun _ _ e => e.elim)))
        have K4 := Lib.hid k4
        clear m4 k4
        go_wp2_with fail
        go_roundg 1
        all_goals first
          | omega
          | exact ⟨1, rfl, by go_num, by omega, M4.out.setCell ⟨X + 1 + 1, 0, none⟩ (fun _ => rfl) _, K4.out.set 0 (.int .i64 (gapN l i)), HST⟩
      · rw [gapV_bad hb] at HG
        have HG := Lib.hid HG
        have HE := Lib.hid (show R = .tuple #[.agg #[.int .i64 0, .int .i64 0], .int .i64 3] by rw [HR.out]; unfold asksV; rw [hb]; simp)
        clear kx kx0 mx ka kb hst hb
        go_wp2_with fail
        refine HG.out.mono ?_
        rintro e w4 ⟨rfl, m4⟩
        have k4 := KB.out.mod m4 (fun e => e)
        have q0 := k4.cell 0
        have q1 := k4.cell 1
        simp only [List.getElem?_cons_zero, List.getElem?_cons_succ] at q0 q1
        have r0 := k4.frozen 0
        have r1 := k4.frozen 1
        have KF := Lib.hid ((k4.set 0 (.int .i64 0)).set 1 (.int .i64 0))
        have MF := Lib.hid ((((MW.out.trans m4).setCell ⟨X + 1, 0, none⟩ (fun h => absurd h (by have := HX.out; simp; omega)) (.int .i64 0))).setCell ⟨X + 1, 1, none⟩ (fun h => absurd h (by have := HX.out; simp; omega)) (.int .i64 0))
        clear m4 k4
        go_wp2_with fail
        exact bodyPost_ret (results_prt rfl _ _ (X + 1) [.int .i64 0, .int .i64 0] rfl rfl (blk_range KF.out)) rfl ⟨by rw [HE.out]; rfl, MF.out⟩
    | 1, _, kx, hst =>
      have kx0 : Blk wr (X + 1 + 1) [.int .i64 (gapN l i), .int .i64 0] 50 := kx
      have ka := K0.out.mod mx (fun e => by have e' : X = X + 1 + 1 := e; omega)
      have kb := K1.out.mod mx (fun e => by have e' : X + 1 = X + 1 + 1 := e; omega)
      have c0 : wr.cell? ⟨X, 0, none⟩ = some (.int .i64 i) := by rw [ka.cell]; rfl
      have c1 : wr.cell? ⟨X, 1, none⟩ = some (.int .i64 j) := by rw [ka.cell]; rfl
      have KX := Lib.hid kx0
      have KB := Lib.hid kb
      have MX := Lib.hid mx
      have MW := Lib.hid (M0.out.transIn mx (fun b hb e => by have e' : b = X + 1 + 1 := e; have := HX.out; omega))
      have HG := gap_any wr B D l j (HD.out.grown MW.out) hlen
      cases hb : gapBad l j
      · rw [gapV_ok hb] at HG
        have HG := Lib.hid HG
        have HST := Lib.hid (show (1 ≤ 2 → gapBad l i = false) ∧ (2 ≤ 2 → gapBad l j = false) from ⟨fun _ => hst.out.1 (by omega), fun hh => hb⟩)
        clear kx kx0 mx ka kb hst hb
        go_wp2_with fail
        refine HG.out.mono ?_
        rintro e w4 ⟨rfl, m4⟩
        have k4 := KX.out.mod m4 (fun e => e)
        have q0 := k4.cell 0
        have q1 := k4.cell 1
        simp only [List.getElem?_cons_zero, List.getElem?_cons_succ] at q0 q1
        have r0 := k4.frozen 0
        have r1 := k4.frozen 1
        have M4 := Lib.hid (MX.out.trans (m4.mono (T := one (X + 1 + 1)) (fun _ _ e => e.elim)))
        have K4 := Lib.hid k4
        clear m4 k4
        go_wp2_with fail
        go_roundg 0
        all_goals first
          | omega
          | exact ⟨2, rfl, by go_num, by omega, M4.out.setCell ⟨X + 1 + 1, 1, none⟩ (fun _ => rfl) _, K4.out.set 1 (.int .i64 (gapN l j)), HST⟩
      · rw [gapV_bad hb] at HG
        have HG := Lib.hid HG
        have HE := Lib.hid (show R = .tuple #[.agg #[.int .i64 0, .int .i64 0], .int .i64 3] by rw [HR.out]; unfold asksV; rw [hb]; simp)
        clear kx kx0 mx ka kb hst hb
        go_wp2_with fail
        refine HG.out.mono ?_
        rintro e w4 ⟨rfl, m4⟩
        have k4 := KB.out.mod m4 (fun e => e)
        have q0 := k4.cell 0
        have q1 := k4.cell 1
        simp only [List.getElem?_cons_zero, List.getElem?_cons_succ] at q0 q1
        have r0 := k4.frozen 0
        have r1 := k4.frozen 1
        have KF := Lib.hid ((k4.set 0 (.int .i64 0)).set 1 (.int .i64 0))
        have MF := Lib.hid ((((MW.out.trans m4).setCell ⟨X + 1, 0, none⟩ (fun h => absurd h (by have := HX.out; simp; omega)) (.int .i64 0))).setCell ⟨X + 1, 1, none⟩ (fun h => absurd h (by have := HX.out; simp; omega)) (.int .i64 0))
        clear m4 k4
        go_wp2_with fail
        exact bodyPost_ret (results_prt rfl _ _ (X + 1) [.int .i64 0, .int .i64 0] rfl rfl (blk_range KF.out)) rfl ⟨by rw [HE.out]; rfl, MF.out⟩
    | 2, _, kx, hst =>
      have kx0 : Blk wr (X + 1 + 1) [.int .i64 (gapN l i), .int .i64 (gapN l j)] 50 := kx
      have kb := K1.out.mod mx (fun e => by have e' : X + 1 = X + 1 + 1 := e; omega)
      have MW := Lib.hid (M0.out.transIn mx (fun b hb e => by have e' : b = X + 1 + 1 := e; have := HX.out; omega))
      have HE := Lib.hid (show R = .tuple #[.agg #[.int .i64 (gapN l i), .int .i64 (gapN l j)], .int .i64 0] by
        rw [HR.out]; unfold asksV; rw [hst.out.1 (by omega), hst.out.2 (by omega)]; rfl)
      have q0 := kx0.cell 0
      have q1 := kx0.cell 1
      have p0 := kb.cell 0
      have p1 := kb.cell 1
      simp only [List.getElem?_cons_zero, List.getElem?_cons_succ] at q0 q1 p0 p1
      have r0 := kb.frozen 0
      have r1 := kb.frozen 1
      have KF := Lib.hid ((kb.set 0 (.int .i64 (gapN l i))).set 1 (.int .i64 (gapN l j)))
      have MF := Lib.hid ((((MW.out).setCell ⟨X + 1, 0, none⟩ (fun h => absurd h (by have := HX.out; simp; omega)) (.int .i64 (gapN l i)))).setCell ⟨X + 1, 1, none⟩ (fun h => absurd h (by have := HX.out; simp; omega)) (.int .i64 (gapN l j)))
      clear kx kx0 mx kb hst
      go_wp2_with fail
      exact bodyPost_ret (results_prt rfl _ _ (X + 1) [.int .i64 (gapN l i), .int .i64 (gapN l j)] rfl rfl (blk_range KF.out)) rfl ⟨by rw [HE.out]; rfl, MF.out⟩

end Go.Proofs.Ytficfoedofkhhaa
