/-
  Texts on which the claim rests, one behind the other: Car5 Shn1 Mov1 Car7 Car8 Sta1 Shw1 Nil1 Drp4 Dct1 Car9 Blk1 Car10 Car11 Shw2 Utf1 Run2 Dct2 Open Read1.
-/
import Derived.Test.YtlbkalbelefhmaaDoorCe3
import Derived.Outline
import Derived.Deep.LoopGhost
import Derived.Lib.MapLaws
import Derived.Laws.IdiomStrings
import Derived.Laws.Cover4
import Derived.WalkKit
import Derived.ProofKit
import Derived.OpenShut
import Derived.ShutString
import Derived.ChangeOld
import Derived.ChangeSame
import Derived.Deep.Slices
import Derived.Deep.Fields
import Derived.Lib.SmallJoins

namespace Go.Proofs.YtlbkalbelefhmaaDoor
open Go.RowKit Go.Mine

/-- What is answered when cells are dropped. -/
def dropV (s a t : Int) (l : List (Int × Int)) : Value := if markOk s a t 20000 && spansOk l then .tuple #[.agg #[.int .i64 s, .int .i64 (a - aheadOf l a), .int .i64 (t - aheadOf l t)], .int .i64 0] else .tuple #[.agg #[.int .i64 0, .int .i64 0, .int .i64 0], .int .i64 1]

/-- The two places behind k of them. -/
def twoAt (k : Nat) (a t x y : Int) : List Value := match k with
  | 0 => [.int .i64 a, .int .i64 t]
  | 1 => [.int .i64 x, .int .i64 t]
  | _ => [.int .i64 x, .int .i64 y]

set_option maxHeartbeats 4000000 in
set_option maxRecDepth 1000000 in
theorem cdrop_any (s a t : Int) (w : World) (sa : Option Addr) (len cap : Nat) (l : List (Int × Int)) (h : IsSpans w sa len cap l) (hlen : len ≤ 1000000) :
    Calls Tryd.prog 38 #[.agg #[.int .i64 s, .int .i64 a, .int .i64 t], .slice sa len cap] w fun e w' => e = .returned (dropV s a t l) ∧ Mod none_ w w' := by
  obtain ⟨W0, hW0⟩ : ∃ W0, (w.alloc (.cells #[.int .i64 s, .int .i64 a, .int .i64 t] 66)).alloc (.cells #[.int .i64 0, .int .i64 0, .int .i64 0] 66) = W0 := ⟨_, rfl⟩
  have m0 : Mod none_ w W0 := by rw [← hW0]; exact ((Mod.refl none_ w).alloc _).alloc _
  have k0 : Blk W0 w.heap.size [.int .i64 s, .int .i64 a, .int .i64 t] 66 := by
    rw [← hW0]
    exact (Blk.new (w := w) (cs := [.int .i64 s, .int .i64 a, .int .i64 t]) (t := 66)).mod ((Mod.refl none_ _).alloc _) (fun e => e)
  have k1 : Blk W0 (w.heap.size + 1) [.int .i64 0, .int .i64 0, .int .i64 0] 66 := by
    have := Blk.new (w := w.alloc (.cells #[.int .i64 s, .int .i64 a, .int .i64 t] 66)) (cs := [.int .i64 0, .int .i64 0, .int .i64 0]) (t := 66)
    rw [World.size_alloc] at this
    rw [← hW0]
    exact this
  have M0 := Lib.hid m0
  have HW := Lib.hid h
  have H0 := Lib.hid (h.grown m0)
  have K0 := Lib.hid k0
  have K1 := Lib.hid k1
  have c0 : W0.cell? ⟨w.heap.size, 0, none⟩ = some (.int .i64 s) := by rw [k0.cell]; rfl
  have c1 : W0.cell? ⟨w.heap.size, 1, none⟩ = some (.int .i64 a) := by rw [k0.cell]; rfl
  have c2 : W0.cell? ⟨w.heap.size, 2, none⟩ = some (.int .i64 t) := by rw [k0.cell]; rfl
  obtain ⟨R, hR⟩ : ∃ R, R = dropV s a t l := ⟨_, rfl⟩
  rw [← hR]
  have HR := Lib.hid hR
  clear hR h m0 k0 k1
  go_enter Tryd.func38, Tryd.ntmps38
  go_upto_region 1 with fail
  clear hW0
  go_wp2_with fail
  refine (cmay_any s a t 20000 _).mono ?_
  rintro e w1 ⟨rfl, m1⟩
  have M1 := Lib.hid (M0.out.trans m1)
  have H1 := Lib.hid (H0.out.grown m1)
  have k0 := K0.out.mod m1 (fun e => e)
  have k1 := K1.out.mod m1 (fun e => e)
  have c0 : w1.cell? ⟨w.heap.size, 0, none⟩ = some (.int .i64 s) := by rw [k0.cell]; rfl
  have c1 : w1.cell? ⟨w.heap.size, 1, none⟩ = some (.int .i64 a) := by rw [k0.cell]; rfl
  have c2 : w1.cell? ⟨w.heap.size, 2, none⟩ = some (.int .i64 t) := by rw [k0.cell]; rfl
  have d0 : w1.cell? ⟨w.heap.size + 1, 0, none⟩ = some (.int .i64 0) := by rw [k1.cell]; rfl
  have d1 : w1.cell? ⟨w.heap.size + 1, 1, none⟩ = some (.int .i64 0) := by rw [k1.cell]; rfl
  have d2 : w1.cell? ⟨w.heap.size + 1, 2, none⟩ = some (.int .i64 0) := by rw [k1.cell]; rfl
  have h0 := k1.frozen 0
  have h1 := k1.frozen 1
  have h2 := k1.frozen 2
  cases hmk : markOk s a t 20000
  · have HE := Lib.hid (show R = .tuple #[.agg #[.int .i64 0, .int .i64 0, .int .i64 0], .int .i64 1] by rw [HR.out]; unfold dropV; rw [hmk]; rfl)
    have KF := Lib.hid (((k1.set 0 (.int .i64 0)).set 1 (.int .i64 0)).set 2 (.int .i64 0))
    have MF := Lib.hid (((M1.out.setCell ⟨w.heap.size + 1, 0, none⟩ (fun h => absurd h (by simp)) (.int .i64 0)).setCell ⟨w.heap.size + 1, 1, none⟩ (fun h => absurd h (by simp)) (.int .i64 0)).setCell ⟨w.heap.size + 1, 2, none⟩ (fun h => absurd h (by simp)) (.int .i64 0))
    clear k0 k1 m1
    go_wp2_with fail
    exact bodyPost_ret (results_mkt rfl _ _ (w.heap.size + 1) [.int .i64 0, .int .i64 0, .int .i64 0] rfl rfl (blk_range KF.out)) rfl ⟨by rw [HE.out]; rfl, MF.out⟩
  have K01 := Lib.hid k0
  have K11 := Lib.hid k1
  clear k0 k1 m1
  go_wp2_with fail
  refine (spansMay_any _ sa len cap l H1.out).mono ?_
  rintro e w2 ⟨rfl, m2⟩
  have M2 := Lib.hid (M1.out.trans m2)
  have H2 := Lib.hid (H1.out.grown m2)
  have k0 := K01.out.mod m2 (fun e => e)
  have k1 := K11.out.mod m2 (fun e => e)
  clear c0 c1 c2 d0 d1 d2 h0 h1 h2
  have c0 : w2.cell? ⟨w.heap.size, 0, none⟩ = some (.int .i64 s) := by rw [k0.cell]; rfl
  have c1 : w2.cell? ⟨w.heap.size, 1, none⟩ = some (.int .i64 a) := by rw [k0.cell]; rfl
  have c2 : w2.cell? ⟨w.heap.size, 2, none⟩ = some (.int .i64 t) := by rw [k0.cell]; rfl
  have d0 : w2.cell? ⟨w.heap.size + 1, 0, none⟩ = some (.int .i64 0) := by rw [k1.cell]; rfl
  have d1 : w2.cell? ⟨w.heap.size + 1, 1, none⟩ = some (.int .i64 0) := by rw [k1.cell]; rfl
  have d2 : w2.cell? ⟨w.heap.size + 1, 2, none⟩ = some (.int .i64 0) := by rw [k1.cell]; rfl
  have h0 := k1.frozen 0
  have h1 := k1.frozen 1
  have h2 := k1.frozen 2
  cases hok : spansOk l
  · have HE := Lib.hid (show R = .tuple #[.agg #[.int .i64 0, .int .i64 0, .int .i64 0], .int .i64 1] by rw [HR.out]; unfold dropV; rw [hmk, hok]; rfl)
    have KF := Lib.hid (((k1.set 0 (.int .i64 0)).set 1 (.int .i64 0)).set 2 (.int .i64 0))
    have MF := Lib.hid (((M2.out.setCell ⟨w.heap.size + 1, 0, none⟩ (fun h => absurd h (by simp)) (.int .i64 0)).setCell ⟨w.heap.size + 1, 1, none⟩ (fun h => absurd h (by simp)) (.int .i64 0)).setCell ⟨w.heap.size + 1, 2, none⟩ (fun h => absurd h (by simp)) (.int .i64 0))
    clear k0 k1 m2
    go_wp2_with fail
    exact bodyPost_ret (results_mkt rfl _ _ (w.heap.size + 1) [.int .i64 0, .int .i64 0, .int .i64 0] rfl rfl (blk_range KF.out)) rfl ⟨by rw [HE.out]; rfl, MF.out⟩
  have HE := Lib.hid (show R = .tuple #[.agg #[.int .i64 s, .int .i64 (a - aheadOf l a), .int .i64 (t - aheadOf l t)], .int .i64 0] by rw [HR.out]; unfold dropV; rw [hmk, hok]; rfl)
  have hmk' : ((0 ≤ a ∧ a ≤ 20000) ∧ (0 ≤ t ∧ t ≤ 20000)) := by
    simp [markOk, inB] at hmk; omega
  have HL := Lib.hid (fun p => aheadOf_le l p (fun x hx => by have := spansFrom_ok l (-1) hok x hx; omega))
  have hN := H2.out.n
  have HOK := Lib.hid hok
  have K02 := Lib.hid k0
  have K12 := Lib.hid k1
  clear k0 k1 m2 hmk hok
  go_wp2_with fail
  refine (places_any s a t _).mono ?_
  rintro e w3 ⟨rfl, m3⟩
  go_wp2_with fail
  have hP := Lib.hid (M2.out.trans m3)
  obtain ⟨P, hPe⟩ : ∃ P, P = w3.heap.size := ⟨_, rfl⟩
  have kP : Blk (w3.alloc (.cells #[.int .i64 a, .int .i64 t] 24)) P [.int .i64 a, .int .i64 t] 24 := by rw [hPe]; exact Blk.new
  have mP := Lib.hid (m3.alloc (.cells #[.int .i64 a, .int .i64 t] 24))
  have MP := Lib.hid (M2.out.trans mP.out)
  have hPw : w.heap.size + 2 ≤ P := by have := K12.out.lt; have := m3.size; omega
  rw [← hPe]
  clear hPe m3
  generalize w3.alloc (.cells #[.int .i64 a, .int .i64 t] 24) = wP at kP mP MP ⊢
  have KP0 := Lib.hid (K02.out.mod mP.out (fun e => e))
  have KP1 := Lib.hid (K12.out.mod mP.out (fun e => e))
  clear c0 c1 c2 d0 d1 d2 h0 h1 h2
  go_loopg [19] 2 (fun g s19 wx => ∃ k : Nat, g = 2 - k ∧ s19 = .int .i64 k ∧ k ≤ 2 ∧ Mod (one P) wP wx ∧ Blk wx P (twoAt k a t (a - aheadOf l a) (t - aheadOf l t)) 24)
  case atStart => exact ⟨0, rfl, rfl, by omega, Mod.refl _ _, kP⟩
  case round =>
    obtain ⟨k, rfl, rfl, hk, mx, kx⟩ := hrel
    match k, hk, kx with
    | 0, _, kx =>
      have kx0 : Blk wr P [.int .i64 a, .int .i64 t] 24 := kx
      have q0 : wr.cell? ⟨P, 0, none⟩ = some (.int .i64 a) := by rw [kx0.cell]; rfl
      have q1 : wr.cell? ⟨P, 1, none⟩ = some (.int .i64 t) := by rw [kx0.cell]; rfl
      have r0 := kx0.frozen 0
      have r1 := kx0.frozen 1
      have KX := Lib.hid kx0
      have MX := Lib.hid mx
      have MW := Lib.hid (MP.out.transIn mx (fun b hb e => by have e' : b = P := e; omega))
      have hA := HL.out a
      clear kx kx0 mx
      go_upto_region 7 with fail
      go_region_law ((try go_simp); go_at_call 67; refine (ahead_any _ sa len cap l a (by exact HW.out.grown (Mod.drew MW.out)) hlen (by omega)).mono ?_; rintro e w4 ⟨rfl, m4⟩; rw [if_pos HOK.out]; have q2 := m4.cell (p := ⟨P, 0, none⟩) (fun e => e) q0; have q3 := m4.cell (p := ⟨P, 1, none⟩) (fun e => e) q1; have KX4 := Lib.hid (KX.out.drew.mod m4 (fun e => e)); have r2 := KX4.out.frozen 0; have r3 := KX4.out.frozen 1; have MX4 := Lib.hid ((Mod.drew MX.out).trans (m4.mono (fun _ _ e => e.elim))); clear m4)
      all_goals go_wp2_with fail
      all_goals go_roundg 1
      all_goals first
        | omega
        | exact ⟨1, rfl, by go_num, by omega, by exact (MX4.out.setCell ⟨P, 0, none⟩ (fun _ => rfl) _), by exact (KX4.out.set 0 (.int .i64 (a - aheadOf l a)))⟩
    | 1, _, kx =>
      have kx0 : Blk wr P [.int .i64 (a - aheadOf l a), .int .i64 t] 24 := kx
      have q0 : wr.cell? ⟨P, 0, none⟩ = some (.int .i64 (a - aheadOf l a)) := by rw [kx0.cell]; rfl
      have q1 : wr.cell? ⟨P, 1, none⟩ = some (.int .i64 t) := by rw [kx0.cell]; rfl
      have r0 := kx0.frozen 0
      have r1 := kx0.frozen 1
      have KX := Lib.hid kx0
      have MX := Lib.hid mx
      have MW := Lib.hid (MP.out.transIn mx (fun b hb e => by have e' : b = P := e; omega))
      have hA := HL.out t
      clear kx kx0 mx
      go_upto_region 7 with fail
      go_region_law ((try go_simp); go_at_call 67; refine (ahead_any _ sa len cap l t (by exact HW.out.grown (Mod.drew MW.out)) hlen (by omega)).mono ?_; rintro e w4 ⟨rfl, m4⟩; rw [if_pos HOK.out]; have q2 := m4.cell (p := ⟨P, 0, none⟩) (fun e => e) q0; have q3 := m4.cell (p := ⟨P, 1, none⟩) (fun e => e) q1; have KX4 := Lib.hid (KX.out.drew.mod m4 (fun e => e)); have r2 := KX4.out.frozen 0; have r3 := KX4.out.frozen 1; have MX4 := Lib.hid ((Mod.drew MX.out).trans (m4.mono (fun _ _ e => e.elim))); clear m4)
      all_goals go_wp2_with fail
      all_goals go_roundg 0
      all_goals first
        | omega
        | exact ⟨2, rfl, by go_num, by omega, by exact (MX4.out.setCell ⟨P, 1, none⟩ (fun _ => rfl) _), by exact (KX4.out.set 1 (.int .i64 (t - aheadOf l t)))⟩
    | 2, _, kx =>
      have kx0 : Blk wr P [.int .i64 (a - aheadOf l a), .int .i64 (t - aheadOf l t)] 24 := kx
      have kA := KP0.out.mod mx (fun e => by have e' : w.heap.size = P := e; omega)
      have kB := KP1.out.mod mx (fun e => by have e' : w.heap.size + 1 = P := e; omega)
      have MW := Lib.hid (MP.out.transIn mx (fun b hb e => by have e' : b = P := e; omega))
      have c0 : wr.cell? ⟨w.heap.size, 0, none⟩ = some (.int .i64 s) := by rw [kA.cell]; rfl
      have c1 : wr.cell? ⟨w.heap.size, 1, none⟩ = some (.int .i64 a) := by rw [kA.cell]; rfl
      have c2 : wr.cell? ⟨w.heap.size, 2, none⟩ = some (.int .i64 t) := by rw [kA.cell]; rfl
      have q0 : wr.cell? ⟨P, 0, none⟩ = some (.int .i64 (a - aheadOf l a)) := by rw [kx0.cell]; rfl
      have q1 : wr.cell? ⟨P, 1, none⟩ = some (.int .i64 (t - aheadOf l t)) := by rw [kx0.cell]; rfl
      have KB := Lib.hid kB
      clear kA kB kx kx0 mx kP
      go_wp2_with fail
      refine (at_any s a t (a - aheadOf l a) (t - aheadOf l t) _).mono ?_
      rintro e w5 ⟨rfl, m5⟩
      have k1 := KB.out.mod m5 (fun e => e)
      have M5 := Lib.hid (MW.out.trans m5)
      have d0 : w5.cell? ⟨w.heap.size + 1, 0, none⟩ = some (.int .i64 0) := by rw [k1.cell]; rfl
      have d1 : w5.cell? ⟨w.heap.size + 1, 1, none⟩ = some (.int .i64 0) := by rw [k1.cell]; rfl
      have d2 : w5.cell? ⟨w.heap.size + 1, 2, none⟩ = some (.int .i64 0) := by rw [k1.cell]; rfl
      have h0 := k1.frozen 0
      have h1 := k1.frozen 1
      have h2 := k1.frozen 2
      have KF := Lib.hid (((k1.set 0 (.int .i64 s)).set 1 (.int .i64 (a - aheadOf l a))).set 2 (.int .i64 (t - aheadOf l t)))
      have MF := Lib.hid (((M5.out.setCell ⟨w.heap.size + 1, 0, none⟩ (fun h => absurd h (by simp)) (.int .i64 s)).setCell ⟨w.heap.size + 1, 1, none⟩ (fun h => absurd h (by simp)) (.int .i64 (a - aheadOf l a))).setCell ⟨w.heap.size + 1, 2, none⟩ (fun h => absurd h (by simp)) (.int .i64 (t - aheadOf l t)))
      clear k1 m5
      go_wp2_with fail
      exact bodyPost_ret (results_mkt rfl _ _ (w.heap.size + 1) [.int .i64 s, .int .i64 (a - aheadOf l a), .int .i64 (t - aheadOf l t)] rfl rfl (blk_range KF.out)) rfl ⟨by rw [HE.out]; rfl, MF.out⟩

end Go.Proofs.YtlbkalbelefhmaaDoor

namespace Go.Proofs.YtlbkalbelefhmaaDoor
open Go.RowKit Go.Mine

def seenBad (l : List CellV) (i : Int) : Bool := decide (i < 0) || decide ((l.length : Int) < i)
def seenM (l : List CellV) (i : Int) : Int := if seenBad l i then 0 else seenN l i.toNat
theorem seenV_bad {l : List CellV} {i : Int} (h : seenBad l i = true) : seenV l i = .tuple #[.int .i64 0, .int .i64 3] := by
  unfold seenV seenBad at *; rw [if_pos (by simpa using h)]
theorem seenV_ok {l : List CellV} {i : Int} (h : seenBad l i = false) : seenV l i = .tuple #[.int .i64 (seenM l i), .int .i64 0] := by
  have h1 : ¬ (i < 0 ∨ (l.length : Int) < i) := by unfold seenBad at h; simp at h; omega
  unfold seenV seenM
  rw [if_neg h1, h]
  simp

/-- What asks answers, asked of Seen. -/
def asksS (l : List CellV) (i j : Int) : Value := if seenBad l i || seenBad l j then .tuple #[.agg #[.int .i64 0, .int .i64 0], .int .i64 3] else .tuple #[.agg #[.int .i64 (seenM l i), .int .i64 (seenM l j)], .int .i64 0]

set_option maxHeartbeats 4000000 in
set_option maxRecDepth 1000000 in
theorem asksS_any (w : World) (B D : Nat) (l : List CellV) (i j : Int) (h : DocIs w B D l) (hlen : l.length ≤ 1099511627776) :
    Calls Tryd.prog 61 #[.pointer (some ⟨D, 0, none⟩), .func (.func 25) #[] #[], .agg #[.int .i64 i, .int .i64 j]] w fun e w' => e = .returned (asksS l i j) ∧ Mod none_ w w' := by
  obtain ⟨W0, hW0⟩ : ∃ W0, ((w.alloc (.cells #[.int .i64 i, .int .i64 j] 24)).alloc (.cells #[.int .i64 0, .int .i64 0] 24)).alloc (.cells #[.int .i64 0, .int .i64 0] 24) = W0 := ⟨_, rfl⟩
  have m0 : Mod none_ w W0 := by rw [← hW0]; exact (((Mod.refl none_ w).alloc _).alloc _).alloc _
  have k0 : Blk W0 w.heap.size [.int .i64 i, .int .i64 j] 24 := by
    rw [← hW0]
    exact ((Blk.new (w := w) (cs := [.int .i64 i, .int .i64 j]) (t := 24)).mod ((Mod.refl none_ _).alloc _) (fun e => e)).mod ((Mod.refl none_ _).alloc _) (fun e => e)
  have k1 : Blk W0 (w.heap.size + 1) [.int .i64 0, .int .i64 0] 24 := by
    have := Blk.new (w := w.alloc (.cells #[.int .i64 i, .int .i64 j] 24)) (cs := [.int .i64 0, .int .i64 0]) (t := 24)
    rw [World.size_alloc] at this
    rw [← hW0]
    exact this.mod ((Mod.refl none_ _).alloc _) (fun e => e)
  have k2 : Blk W0 (w.heap.size + 1 + 1) [.int .i64 0, .int .i64 0] 24 := by
    have := Blk.new (w := (w.alloc (.cells #[.int .i64 i, .int .i64 j] 24)).alloc (.cells #[.int .i64 0, .int .i64 0] 24)) (cs := [.int .i64 0, .int .i64 0]) (t := 24)
    rw [World.size_alloc, World.size_alloc] at this
    rw [← hW0]
    exact this
  obtain ⟨X, hX⟩ : ∃ X, X = w.heap.size := ⟨_, rfl⟩
  rw [← hX] at k0 k1 k2
  have M0 := Lib.hid m0
  have K0 := Lib.hid k0
  have K1 := Lib.hid k1
  have K2 := Lib.hid k2
  have HD := Lib.hid h
  obtain ⟨R, hR⟩ : ∃ R, R = asksS l i j := ⟨_, rfl⟩
  rw [← hR]
  have HR := Lib.hid hR
  clear hR h m0 k0 k1 k2
  go_enter Tryd.func61, Tryd.ntmps61
  go_upto_region 2 with fail
  clear hW0
  rw [← hX]
  have HX := Lib.hid hX
  clear hX
  go_wp2_with fail
  go_loopg [12] 2 (fun g s12 wx => ∃ k : Nat, g = 2 - k ∧ s12 = .int .i64 k ∧ k ≤ 2 ∧ Mod (one (X + 1 + 1)) W0 wx ∧ Blk wx (X + 1 + 1) (twoAt k 0 0 (seenM l i) (seenM l j)) 24 ∧ RowKit.Hid ((1 ≤ k → seenBad l i = false) ∧ (2 ≤ k → seenBad l j = false)))
  case atStart => exact ⟨0, rfl, rfl, by omega, Mod.refl _ _, K2.out, Lib.hid ⟨fun h => absurd h (by omega), fun h => absurd h (by omega)⟩⟩
  case round =>
    obtain ⟨k, rfl, rfl, hk, mx, kx, hst⟩ := hrel
    match k, hk, kx, hst with
    | 0, _, kx, hst =>
      have kx0 : Blk wr (X + 1 + 1) [.int .i64 0, .int .i64 0] 24 := kx
      have ka := K0.out.mod mx (fun e => by have e' : X = X + 1 + 1 := e; omega)
      have kb := K1.out.mod mx (fun e => by have e' : X + 1 = X + 1 + 1 := e; omega)
      have c0 : wr.cell? ⟨X, 0, none⟩ = some (.int .i64 i) := by rw [ka.cell]; rfl
      have c1 : wr.cell? ⟨X, 1, none⟩ = some (.int .i64 j) := by rw [ka.cell]; rfl
      have KX := Lib.hid kx0
      have KB := Lib.hid kb
      have MX := Lib.hid mx
      have MW := Lib.hid (M0.out.transIn mx (fun b hb e => by have e' : b = X + 1 + 1 := e; have := HX.out; omega))
      have HG := seen_any wr B D l i (HD.out.grown MW.out) hlen
      cases hb : seenBad l i
      · rw [seenV_ok hb] at HG
        have HG := Lib.hid HG
        have HST := Lib.hid (show (1 ≤ 1 → seenBad l i = false) ∧ (2 ≤ 1 → seenBad l j = false) from ⟨fun _ => hb, fun hh => absurd hh (by omega)⟩)
        clear kx kx0 mx ka kb hst hb
        go_wp2_with fail
        refine HG.out.mono ?_
        rintro e w4 ⟨rfl, m4⟩
        have k4 := KX.out.mod m4 (fun e => e)
        have q0 := k4.cell 0
        have q1 := k4.cell 1
        simp only [List.getElem?_cons_zero, List.getElem?_cons_succ] at q0 q1
        have r0 := k4.frozen 0
        have r1 := k4.frozen 1
        have M4 := Lib.hid (MX.out.trans (m4.mono (T := one (X + 1 + 1)) (fun _ _ e => e.elim)))
        have K4 := Lib.hid k4
        clear m4 k4
        go_wp2_with fail
        go_roundg 1
        all_goals first
          | omega
          | exact ⟨1, rfl, by go_num, by omega, M4.out.setCell ⟨X + 1 + 1, 0, none⟩ (fun _ => rfl) _, K4.out.set 0 (.int .i64 (seenM l i)), HST⟩
      · rw [seenV_bad hb] at HG
        have HG := Lib.hid HG
        have HE := Lib.hid (show R = .tuple #[.agg #[.int .i64 0, .int .i64 0], .int .i64 3] by rw [HR.out]; unfold asksS; rw [hb]; simp)
        clear kx kx0 mx ka kb hst hb
        go_wp2_with fail
        refine HG.out.mono ?_
        rintro e w4 ⟨rfl, m4⟩
        have k4 := KB.out.mod m4 (fun e => e)
        have q0 := k4.cell 0
        have q1 := k4.cell 1
        simp only [List.getElem?_cons_zero, List.getElem?_cons_succ] at q0 q1
        have r0 := k4.frozen 0
        have r1 := k4.frozen 1
        have KF := Lib.hid ((k4.set 0 (.int .i64 0)).set 1 (.int .i64 0))
        have MF := Lib.hid ((((MW.out.trans m4).setCell ⟨X + 1, 0, none⟩ (fun h => absurd h (by have := HX.out; simp; omega)) (.int .i64 0))).setCell ⟨X + 1, 1, none⟩ (fun h => absurd h (by have := HX.out; simp; omega)) (.int .i64 0))
        clear m4 k4
        go_wp2_with fail
        exact bodyPost_ret (results_prt rfl _ _ (X + 1) [.int .i64 0, .int .i64 0] rfl rfl (blk_range KF.out)) rfl ⟨by rw [HE.out]; rfl, MF.out⟩
    | 1, _, kx, hst =>
      have kx0 : Blk wr (X + 1 + 1) [.int .i64 (seenM l i), .int .i64 0] 24 := kx
      have ka := K0.out.mod mx (fun e => by have e' : X = X + 1 + 1 := e; omega)
      have kb := K1.out.mod mx (fun e => by have e' : X + 1 = X + 1 + 1 := e; omega)
      have c0 : wr.cell? ⟨X, 0, none⟩ = some (.int .i64 i) := by rw [ka.cell]; rfl
      have c1 : wr.cell? ⟨X, 1, none⟩ = some (.int .i64 j) := by rw [ka.cell]; rfl
      have KX := Lib.hid kx0
      have KB := Lib.hid kb
      have MX := Lib.hid mx
      have MW := Lib.hid (M0.out.transIn mx (fun b hb e => by have e' : b = X + 1 + 1 := e; have := HX.out; omega))
      have HG := seen_any wr B D l j (HD.out.grown MW.out) hlen
      cases hb : seenBad l j
      · rw [seenV_ok hb] at HG
        have HG := Lib.hid HG
        have HST := Lib.hid (show (1 ≤ 2 → seenBad l i = false) ∧ (2 ≤ 2 → seenBad l j = false) from ⟨fun _ => hst.out.1 (by omega), fun hh => hb⟩)
        clear kx kx0 mx ka kb hst hb
        go_wp2_with fail
        refine HG.out.mono ?_
        rintro e w4 ⟨rfl, m4⟩
        have k4 := KX.out.mod m4 (fun e => e)
        have q0 := k4.cell 0
        have q1 := k4.cell 1
        simp only [List.getElem?_cons_zero, List.getElem?_cons_succ] at q0 q1
        have r0 := k4.frozen 0
        have r1 := k4.frozen 1
        have M4 := Lib.hid (MX.out.trans (m4.mono (T := one (X + 1 + 1)) (fun _ _ e => e.elim)))
        have K4 := Lib.hid k4
        clear m4 k4
        go_wp2_with fail
        go_roundg 0
        all_goals first
          | omega
          | exact ⟨2, rfl, by go_num, by omega, M4.out.setCell ⟨X + 1 + 1, 1, none⟩ (fun _ => rfl) _, K4.out.set 1 (.int .i64 (seenM l j)), HST⟩
      · rw [seenV_bad hb] at HG
        have HG := Lib.hid HG
        have HE := Lib.hid (show R = .tuple #[.agg #[.int .i64 0, .int .i64 0], .int .i64 3] by rw [HR.out]; unfold asksS; rw [hb]; simp)
        clear kx kx0 mx ka kb hst hb
        go_wp2_with fail
        refine HG.out.mono ?_
        rintro e w4 ⟨rfl, m4⟩
        have k4 := KB.out.mod m4 (fun e => e)
        have q0 := k4.cell 0
        have q1 := k4.cell 1
        simp only [List.getElem?_cons_zero, List.getElem?_cons_succ] at q0 q1
        have r0 := k4.frozen 0
        have r1 := k4.frozen 1
        have KF := Lib.hid ((k4.set 0 (.int .i64 0)).set 1 (.int .i64 0))
        have MF := Lib.hid ((((MW.out.trans m4).setCell ⟨X + 1, 0, none⟩ (fun h => absurd h (by have := HX.out; simp; omega)) (.int .i64 0))).setCell ⟨X + 1, 1, none⟩ (fun h => absurd h (by have := HX.out; simp; omega)) (.int .i64 0))
        clear m4 k4
        go_wp2_with fail
        exact bodyPost_ret (results_prt rfl _ _ (X + 1) [.int .i64 0, .int .i64 0] rfl rfl (blk_range KF.out)) rfl ⟨by rw [HE.out]; rfl, MF.out⟩
    | 2, _, kx, hst =>
      have kx0 : Blk wr (X + 1 + 1) [.int .i64 (seenM l i), .int .i64 (seenM l j)] 24 := kx
      have kb := K1.out.mod mx (fun e => by have e' : X + 1 = X + 1 + 1 := e; omega)
      have MW := Lib.hid (M0.out.transIn mx (fun b hb e => by have e' : b = X + 1 + 1 := e; have := HX.out; omega))
      have HE := Lib.hid (show R = .tuple #[.agg #[.int .i64 (seenM l i), .int .i64 (seenM l j)], .int .i64 0] by
        rw [HR.out]; unfold asksS; rw [hst.out.1 (by omega), hst.out.2 (by omega)]; rfl)
      have q0 := kx0.cell 0
      have q1 := kx0.cell 1
      have p0 := kb.cell 0
      have p1 := kb.cell 1
      simp only [List.getElem?_cons_zero, List.getElem?_cons_succ] at q0 q1 p0 p1
      have r0 := kb.frozen 0
      have r1 := kb.frozen 1
      have KF := Lib.hid ((kb.set 0 (.int .i64 (seenM l i))).set 1 (.int .i64 (seenM l j)))
      have MF := Lib.hid ((((MW.out).setCell ⟨X + 1, 0, none⟩ (fun h => absurd h (by have := HX.out; simp; omega)) (.int .i64 (seenM l i)))).setCell ⟨X + 1, 1, none⟩ (fun h => absurd h (by have := HX.out; simp; omega)) (.int .i64 (seenM l j)))
      clear kx kx0 mx kb hst
      go_wp2_with fail
      exact bodyPost_ret (results_prt rfl _ _ (X + 1) [.int .i64 (seenM l i), .int .i64 (seenM l j)] rfl rfl (blk_range KF.out)) rfl ⟨by rw [HE.out]; rfl, MF.out⟩


/-- What Shown answers. -/
def shownV (l : List CellV) (s a t : Int) : Value := if markOk s a t l.length then .tuple #[.int .i64 (seenM l a), .int .i64 (seenM l t), .int .i64 0] else .tuple #[.int .i64 0, .int .i64 0, .int .i64 1]

set_option maxHeartbeats 4000000 in
set_option maxRecDepth 1000000 in
theorem shown_any (w : World) (B D : Nat) (l : List CellV) (s a t : Int) (h : DocIs w B D l) (hlen : l.length ≤ 1099511627776) :
    Calls Tryd.prog 36 #[.pointer (some ⟨D, 0, none⟩), .agg #[.int .i64 s, .int .i64 a, .int .i64 t]] w fun e w' => e = .returned (shownV l s a t) ∧ Mod none_ w w' := by
  obtain ⟨W0, hW0⟩ : ∃ W0, w.alloc (.cells #[.int .i64 s, .int .i64 a, .int .i64 t] 66) = W0 := ⟨_, rfl⟩
  have m0 : Mod none_ w W0 := by rw [← hW0]; exact (Mod.refl none_ w).alloc _
  have k0 : Blk W0 w.heap.size [.int .i64 s, .int .i64 a, .int .i64 t] 66 := by
    rw [← hW0]
    exact Blk.new (w := w) (cs := [.int .i64 s, .int .i64 a, .int .i64 t]) (t := 66)
  have c0 := k0.cell 0
  have c1 := k0.cell 1
  have c2 := k0.cell 2
  simp only [List.getElem?_cons_zero, List.getElem?_cons_succ] at c0 c1 c2
  have M0 := Lib.hid m0
  have K0 := Lib.hid k0
  have hD := h.grown m0
  have HD := Lib.hid hD
  have HM := Lib.hid (cmay_any s a t l.length)
  obtain ⟨R, hR⟩ : ∃ R, R = shownV l s a t := ⟨_, rfl⟩
  rw [← hR]
  have HR := Lib.hid hR
  have hmk : markOk s a t l.length = true → seenBad l a = false ∧ seenBad l t = false := fun hm => by
    simp [markOk, inB] at hm
    unfold seenBad
    constructor <;> simp <;> omega
  generalize hmo : markOk s a t l.length = mo at HM hmk
  have HMO := Lib.hid hmo
  clear hR h m0 k0 hD hmo
  have HMK := Lib.hid hmk
  clear hmk
  have hsz := HD.out
  go_enter Tryd.func36, Tryd.ntmps36
  go_upto_region 1 with fail
  clear hW0
  go_region_held3 (fun w' => Mod none_ W0 w' ∧ w'.cell? ⟨w.heap.size, 0, none⟩ = some (.int .i64 s) ∧ w'.cell? ⟨w.heap.size, 1, none⟩ = some (.int .i64 a) ∧ w'.cell? ⟨w.heap.size, 2, none⟩ = some (.int .i64 t))
    (first
      | exact ⟨Mod.drew (Mod.refl none_ W0), c0, c1, c2⟩
      | assumption
      | (obtain ⟨q, q0, q1, q2⟩ := ‹Mod none_ W0 _ ∧ _›; exact ⟨q.trans m1, m1.cell (fun e => e) q0, m1.cell (fun e => e) q1, m1.cell (fun e => e) q2⟩))
    (first
      | (go_at_call 18; refine (size_any _ B D l (hsz.grown (And.left (by assumption))) hlen).mono ?_; rintro e w1 ⟨rfl, m1⟩)
      | (go_at_call 63; refine (HM.out _).mono ?_; rintro e w1 ⟨rfl, m1⟩))
  rename_i hHeld
  have M1 := Lib.hid (M0.out.trans (And.left hHeld))
  have k1 := K0.out.mod (And.left hHeld) (fun e => e)
  have D1 := Lib.hid (HD.out.grown (And.left hHeld))
  clear hHeld c0 c1 c2 hsz m1
  cases mo
  · have HE := Lib.hid (show R = .tuple #[.int .i64 0, .int .i64 0, .int .i64 1] by rw [HR.out]; unfold shownV; rw [HMO.out]; rfl)
    clear k1
    go_wp2_with fail
    exact bodyPost_ret (results_tmp3 rfl _ _ _) rfl ⟨by rw [HE.out]; rfl, M1.out⟩
  · obtain ⟨hb1, hb2⟩ := HMK.out rfl
    have HE := Lib.hid (show R = .tuple #[.int .i64 (seenM l a), .int .i64 (seenM l t), .int .i64 0] by rw [HR.out]; unfold shownV; rw [HMO.out]; rfl)
    have hav : asksS l a t = .tuple #[.agg #[.int .i64 (seenM l a), .int .i64 (seenM l t)], .int .i64 0] := by unfold asksS; rw [hb1, hb2]; rfl
    have c0 := k1.cell 0
    have c1 := k1.cell 1
    have c2 := k1.cell 2
    simp only [List.getElem?_cons_zero, List.getElem?_cons_succ] at c0 c1 c2
    generalize seenM l a = xa at hav HE
    generalize seenM l t = xt at hav HE
    have HAV := Lib.hid hav
    clear k1 hb1 hb2 hav
    go_wp2_with fail
    refine (places_any s a t _).mono ?_
    rintro e w2 ⟨rfl, m2⟩
    have M2 := Lib.hid (M1.out.trans m2)
    have HA := asksS_any w2 B D l a t (D1.out.grown m2) hlen
    rw [HAV.out] at HA
    have HA := Lib.hid HA
    clear m2 c0 c1 c2
    go_wp2_with fail
    refine HA.out.mono ?_
    rintro e w3 ⟨rfl, m3⟩
    have M3 := Lib.hid ((M2.out.trans m3).alloc (.cells #[.int .i64 xa, .int .i64 xt] 24))
    have kA := Blk.new (w := w3) (cs := [.int .i64 xa, .int .i64 xt]) (t := 24)
    clear m3
    go_upto_region 4 with fail
    generalize w3.alloc (.cells #[.int .i64 xa, .int .i64 xt] 24) = wA at kA M3 ⊢
    have c0 := kA.cell 0
    have c1 := kA.cell 1
    simp only [List.getElem?_cons_zero, List.getElem?_cons_succ] at c0 c1
    clear kA
    go_quiet (fail)
    have M4 := Lib.hid (M3.out.drewN nq)
    generalize wA.drewN nq = wB at M4 ⊢
    go_wp2_with fail
    exact bodyPost_ret (results_tmp3 rfl _ _ _) rfl ⟨by rw [HE.out]; rfl, M4.out⟩
end Go.Proofs.YtlbkalbelefhmaaDoor

namespace Go.Proofs.YtlbkalbelefhmaaDoor
open Go.RowKit Go.Mine

/-- Where a place is behind an operation. -/
def movP (o : OpV) (p : Int) (stays : Bool) : Int := if o.kind = 1 then pointOf p o.at_ (addsOf o) stays else p

set_option maxHeartbeats 4000000 in
set_option maxRecDepth 1000000 in
theorem ipointDel_any (o : OpV) (p size : Int) (stays : Bool) (w : World) (l : List (Int × Int)) (h : o.ok w l) (h1 : inB size 0 20000 = true) (h4 : opMay o l size = true) (hk : ¬ o.kind = 1) (hp : 0 ≤ p ∧ p ≤ size) :
    Calls Tryd.prog 65 #[.int .i64 p, o.v, .int .i64 size, .bool stays] w fun e w' => e = .returned (.tuple #[.int .i64 p, .int .i64 0]) ∧ Mod none_ w w' := by
  obtain ⟨W0, hW0⟩ : ∃ W0, w.alloc (.cells o.cs.toArray 36) = W0 := ⟨_, rfl⟩
  obtain ⟨m0, kB⟩ := opBox1 hW0
  have HM := Lib.hid (may_any o size W0 l (h.grown m0) h1)
  rw [h4] at HM
  have M0 := Lib.hid m0
  have c0 : W0.cell? ⟨w.heap.size, 0, none⟩ = some (.int .i64 o.site) := by rw [kB.cell]; rfl
  have c1 : W0.cell? ⟨w.heap.size, 1, none⟩ = some (.int .i64 o.seq) := by rw [kB.cell]; rfl
  have c2 : W0.cell? ⟨w.heap.size, 2, none⟩ = some (.int .i64 o.num) := by rw [kB.cell]; rfl
  have c3 : W0.cell? ⟨w.heap.size, 3, none⟩ = some (.int .i64 o.kind) := by rw [kB.cell]; rfl
  have c4 : W0.cell? ⟨w.heap.size, 4, none⟩ = some (.int .i64 o.at_) := by rw [kB.cell]; rfl
  have c5 : W0.cell? ⟨w.heap.size, 5, none⟩ = some (.string o.text) := by rw [kB.cell]; rfl
  have c6 : W0.cell? ⟨w.heap.size, 6, none⟩ = some (.slice o.sa o.slen o.scap) := by rw [kB.cell]; rfl
  have KB := Lib.hid kB
  have hk1 : decide (o.kind = 1) = false := by simpa using hk
  have hk2 : (o.kind == 1) = false := by simpa using hk
  have hpd : decide (p < 0) = false := by simp; omega
  have hpd2 : decide (size < p) = false := by simp; omega
  clear h m0 kB hk h1 h4
  go_enter Tryd.func65, Tryd.ntmps65
  go_upto_region 1 with fail
  clear hW0
  go_wp2_with fail
  refine HM.out.mono ?_
  rintro e w1 ⟨rfl, m1⟩
  have k1 := KB.out.mod m1 (fun e => e)
  have M1 := Lib.hid (M0.out.trans m1)
  have d3 : w1.cell? ⟨w.heap.size, 3, none⟩ = some (.int .i64 o.kind) := by rw [k1.cell]; rfl
  clear c0 c1 c2 c3 c4 c5 c6 m1 k1
  go_wp2_with fail
  go_ret2
  exact ⟨rfl, M1.out⟩

theorem ipointA_any (o : OpV) (p size : Int) (stays : Bool) (w : World) (l : List (Int × Int)) (h : o.ok w l) (h1 : inB size 0 20000 = true) (h4 : opMay o l size = true) (hp : 0 ≤ p ∧ p ≤ size) :
    Calls Tryd.prog 65 #[.int .i64 p, o.v, .int .i64 size, .bool stays] w fun e w' => e = .returned (.tuple #[.int .i64 (movP o p stays), .int .i64 0]) ∧ Mod none_ w w' := by
  unfold movP
  by_cases hk : o.kind = 1
  · rw [if_pos hk]
    have h4' := h4
    unfold opMay at h4'
    rw [if_pos hk] at h4'
    simp only [Bool.and_eq_true] at h4'
    exact ipoint_any o p size stays w l h hk h1 h4'.1.1 h4'.1.2 h4'.2 hp
  · rw [if_neg hk]
    exact ipointDel_any o p size stays w l h h1 h4 hk hp

set_option maxHeartbeats 4000000 in
set_option maxRecDepth 1000000 in
theorem move_any (o : OpV) (s a t size : Int) (w : World) (l : List (Int × Int)) (h : o.ok w l) (h1 : inB size 0 20000 = true) (h4 : opMay o l size = true) (hm : markOk s a t size = true) :
    Calls Tryd.prog 34 #[.agg #[.int .i64 s, .int .i64 a, .int .i64 t], o.v, .int .i64 size] w fun e w' => e = .returned (.tuple #[.agg #[.int .i64 s, .int .i64 (movP o a (o.site != s)), .int .i64 (movP o t (o.site != s))], .int .i64 0]) ∧ Mod none_ w w' := by
  obtain ⟨A, hA⟩ : ∃ A, A = movP o a (o.site != s) := ⟨_, rfl⟩
  obtain ⟨T, hT⟩ : ∃ T, T = movP o t (o.site != s) := ⟨_, rfl⟩
  rw [← hA, ← hT]
  have HA := Lib.hid hA
  have HT := Lib.hid hT
  have hab : (0 ≤ a ∧ a ≤ size) ∧ (0 ≤ t ∧ t ≤ size) := by simp [markOk, inB] at hm; omega
  obtain ⟨W0, hW0⟩ : ∃ W0, ((w.alloc (.cells #[.int .i64 s, .int .i64 a, .int .i64 t] 66)).alloc (.cells o.cs.toArray 36)).alloc (.cells #[.int .i64 0, .int .i64 0, .int .i64 0] 66) = W0 := ⟨_, rfl⟩
  have m0 : Mod none_ w W0 := by rw [← hW0]; exact (((Mod.refl none_ w).alloc _).alloc _).alloc _
  have k0 : Blk W0 w.heap.size [.int .i64 s, .int .i64 a, .int .i64 t] 66 := by
    rw [← hW0]
    exact ((Blk.new (w := w) (cs := [.int .i64 s, .int .i64 a, .int .i64 t]) (t := 66)).mod ((Mod.refl none_ _).alloc _) (fun e => e)).mod ((Mod.refl none_ _).alloc _) (fun e => e)
  have k1 : Blk W0 (w.heap.size + 1) o.cs 36 := by
    have := Blk.new (w := w.alloc (.cells #[.int .i64 s, .int .i64 a, .int .i64 t] 66)) (cs := o.cs) (t := 36)
    rw [World.size_alloc] at this
    rw [← hW0]
    exact this.mod ((Mod.refl none_ _).alloc _) (fun e => e)
  have k2 : Blk W0 (w.heap.size + 1 + 1) [.int .i64 0, .int .i64 0, .int .i64 0] 66 := by
    have := Blk.new (w := (w.alloc (.cells #[.int .i64 s, .int .i64 a, .int .i64 t] 66)).alloc (.cells o.cs.toArray 36)) (cs := [.int .i64 0, .int .i64 0, .int .i64 0]) (t := 66)
    rw [World.size_alloc, World.size_alloc] at this
    rw [← hW0]
    exact this
  obtain ⟨X, hX⟩ : ∃ X, X = w.heap.size := ⟨_, rfl⟩
  rw [← hX] at k0 k1 k2
  have HX := Lib.hid hX
  have M0 := Lib.hid m0
  have K0 := Lib.hid k0
  have K1 := Lib.hid k1
  have K2 := Lib.hid k2
  have HO := Lib.hid h
  have H0 := Lib.hid h
  have a0 := k0.cell 0
  have a1 := k0.cell 1
  have a2 := k0.cell 2
  have d0 := k1.cell 0
  have d1 := k1.cell 1
  have d2 := k1.cell 2
  have d3 := k1.cell 3
  have d4 := k1.cell 4
  have d5 := k1.cell 5
  have d6 := k1.cell 6
  simp only [OpV.cs, List.getElem?_cons_zero, List.getElem?_cons_succ] at a0 a1 a2 d0 d1 d2 d3 d4 d5 d6
  have HM := Lib.hid (cmay_any s a t size)
  rw [hm] at HM
  have HQ1 := Lib.hid h1
  have HQ4 := Lib.hid h4
  clear hA hT m0 k0 k1 k2 hm h h1 h4 HO
  go_enter Tryd.func34, Tryd.ntmps34
  go_upto_region 1 with fail
  clear hW0
  rw [← hX]
  clear hX
  go_wp2_with fail
  refine (HM.out _).mono ?_
  rintro e w1 ⟨rfl, m1⟩
  have k1 := K1.out.mod m1 (fun e => e)
  have M1 := Lib.hid (M0.out.trans m1)
  clear d0 d1 d2 d3 d4 d5 d6 a0 a1 a2
  have d0 := k1.cell 0
  have d1 := k1.cell 1
  have d2 := k1.cell 2
  have d3 := k1.cell 3
  have d4 := k1.cell 4
  have d5 := k1.cell 5
  have d6 := k1.cell 6
  simp only [OpV.cs, List.getElem?_cons_zero, List.getElem?_cons_succ] at d0 d1 d2 d3 d4 d5 d6
  have HI := Lib.hid (may_any o size w1 l (H0.out.grown M1.out) HQ1.out)
  rw [HQ4.out] at HI
  have K01 := Lib.hid (K0.out.mod m1 (fun e => e))
  have K11 := Lib.hid k1
  have K21 := Lib.hid (K2.out.mod m1 (fun e => e))
  clear m1 k1
  go_wp2_with fail
  refine HI.out.mono ?_
  rintro e w2 ⟨rfl, m2⟩
  have k0 := K01.out.mod m2 (fun e => e)
  have M2 := Lib.hid (M1.out.trans m2)
  have K12 := Lib.hid (K11.out.mod m2 (fun e => e))
  have K22 := Lib.hid (K21.out.mod m2 (fun e => e))
  have a0 := k0.cell 0
  have a1 := k0.cell 1
  have a2 := k0.cell 2
  simp only [List.getElem?_cons_zero, List.getElem?_cons_succ] at a0 a1 a2
  have K02 := Lib.hid k0
  clear d0 d1 d2 d3 d4 d5 d6 m2 k0
  go_wp2_with fail
  refine (places_any s a t _).mono ?_
  rintro e w3 ⟨rfl, m3⟩
  go_wp2_with fail
  obtain ⟨P, hPe⟩ : ∃ P, P = w3.heap.size := ⟨_, rfl⟩
  have kP : Blk (w3.alloc (.cells #[.int .i64 a, .int .i64 t] 24)) P [.int .i64 a, .int .i64 t] 24 := by rw [hPe]; exact Blk.new
  have mP := Lib.hid (m3.alloc (.cells #[.int .i64 a, .int .i64 t] 24))
  have MP := Lib.hid (M2.out.trans mP.out)
  have hPw : X + 2 < P := by have := K22.out.lt; have := m3.size; omega
  rw [← hPe]
  clear hPe m3
  generalize w3.alloc (.cells #[.int .i64 a, .int .i64 t] 24) = wP at kP mP MP ⊢
  have KP0 := Lib.hid (K02.out.mod mP.out (fun e => e))
  have KP1 := Lib.hid (K12.out.mod mP.out (fun e => e))
  have KP2 := Lib.hid (K22.out.mod mP.out (fun e => e))
  clear a0 a1 a2
  go_loopg [25] 2 (fun g s25 wx => ∃ k : Nat, g = 2 - k ∧ s25 = .int .i64 k ∧ k ≤ 2 ∧ Mod (one P) wP wx ∧ Blk wx P (twoAt k a t A T) 24)
  case atStart => exact ⟨0, rfl, rfl, by omega, Mod.refl _ _, kP⟩
  case round =>
    obtain ⟨k, rfl, rfl, hk2, mx, kx⟩ := hrel
    match k, hk2, kx with
    | 0, _, kx =>
      have kx0 : Blk wr P [.int .i64 a, .int .i64 t] 24 := kx
      have kA := KP0.out.mod mx (fun e => by have e' : X = P := e; omega)
      have kB := KP1.out.mod mx (fun e => by have e' : X + 1 = P := e; omega)
      have MW := Lib.hid (MP.out.transIn mx (fun b hb e => by have e' : b = P := e; have := HX.out; omega))
      have KX := Lib.hid kx0
      have MX := Lib.hid mx
      have q0 := kx0.cell 0
      have a0 := kA.cell 0
      have d0 := kB.cell 0
      have d1 := kB.cell 1
      have d2 := kB.cell 2
      have d3 := kB.cell 3
      have d4 := kB.cell 4
      have d5 := kB.cell 5
      have d6 := kB.cell 6
      simp only [OpV.cs, List.getElem?_cons_zero, List.getElem?_cons_succ] at q0 a0 d0 d1 d2 d3 d4 d5 d6
      have hH := H0.out.grown MW.out
      clear kx kx0 kA kB mx
      go_upto_region 7 with fail
      go_region_held3 (fun w' => Mod none_ wr w' ∧ w'.cell? ⟨P, 0, none⟩ = some (.int .i64 a) ∧ w'.cell? ⟨X, 0, none⟩ = some (.int .i64 s) ∧ w'.cell? ⟨X + 1, 0, none⟩ = some (.int .i64 o.site) ∧ w'.cell? ⟨X + 1, 1, none⟩ = some (.int .i64 o.seq) ∧ w'.cell? ⟨X + 1, 2, none⟩ = some (.int .i64 o.num) ∧ w'.cell? ⟨X + 1, 3, none⟩ = some (.int .i64 o.kind) ∧ w'.cell? ⟨X + 1, 4, none⟩ = some (.int .i64 o.at_) ∧ w'.cell? ⟨X + 1, 5, none⟩ = some (.string o.text) ∧ w'.cell? ⟨X + 1, 6, none⟩ = some (.slice o.sa o.slen o.scap))
        (first
          | exact ⟨Mod.drew (Mod.refl none_ wr), q0, a0, d0, d1, d2, d3, d4, d5, d6⟩
          | assumption
          | (obtain ⟨q, qa, qb, q0, q1, q2, q3, q4, q5, q6⟩ := ‹Mod none_ wr _ ∧ _›; exact ⟨q.trans m1, m1.cell (fun e => e) qa, m1.cell (fun e => e) qb, m1.cell (fun e => e) q0, m1.cell (fun e => e) q1, m1.cell (fun e => e) q2, m1.cell (fun e => e) q3, m1.cell (fun e => e) q4, m1.cell (fun e => e) q5, m1.cell (fun e => e) q6⟩))
        (first
          | (go_at_call 65; refine (ipointA_any o a size _ _ _ (hH.grown (And.left (by assumption))) HQ1.out HQ4.out (by omega)).mono ?_; rintro e w4 ⟨rfl, m1⟩))
      rename_i hHeld
      have M4 := And.left hHeld
      have k4 := KX.out.mod M4 (fun e => e)
      have x0 := k4.cell 0
      have x1 := k4.cell 1
      simp only [List.getElem?_cons_zero, List.getElem?_cons_succ] at x0 x1
      have r0 := k4.frozen 0
      have r1 := k4.frozen 1
      have K4 := Lib.hid k4
      have M5 := Lib.hid (MX.out.trans (M4.mono (T := one P) (fun _ _ e => e.elim)))
      clear hHeld M4 k4 m1
      rw [← HA.out]
      go_wp2_with fail
      go_roundg 1
      all_goals first
        | omega
        | exact ⟨1, rfl, by go_num, by omega, M5.out.setCell ⟨P, 0, none⟩ (fun _ => rfl) _, K4.out.set 0 (.int .i64 A)⟩
    | 1, _, kx =>
      have kx0 : Blk wr P [.int .i64 A, .int .i64 t] 24 := kx
      have kA := KP0.out.mod mx (fun e => by have e' : X = P := e; omega)
      have kB := KP1.out.mod mx (fun e => by have e' : X + 1 = P := e; omega)
      have MW := Lib.hid (MP.out.transIn mx (fun b hb e => by have e' : b = P := e; have := HX.out; omega))
      have KX := Lib.hid kx0
      have MX := Lib.hid mx
      have q0 := kx0.cell 1
      have a0 := kA.cell 0
      have d0 := kB.cell 0
      have d1 := kB.cell 1
      have d2 := kB.cell 2
      have d3 := kB.cell 3
      have d4 := kB.cell 4
      have d5 := kB.cell 5
      have d6 := kB.cell 6
      simp only [OpV.cs, List.getElem?_cons_zero, List.getElem?_cons_succ] at q0 a0 d0 d1 d2 d3 d4 d5 d6
      have hH := H0.out.grown MW.out
      clear kx kx0 kA kB mx
      go_upto_region 7 with fail
      go_region_held3 (fun w' => Mod none_ wr w' ∧ w'.cell? ⟨P, 1, none⟩ = some (.int .i64 t) ∧ w'.cell? ⟨X, 0, none⟩ = some (.int .i64 s) ∧ w'.cell? ⟨X + 1, 0, none⟩ = some (.int .i64 o.site) ∧ w'.cell? ⟨X + 1, 1, none⟩ = some (.int .i64 o.seq) ∧ w'.cell? ⟨X + 1, 2, none⟩ = some (.int .i64 o.num) ∧ w'.cell? ⟨X + 1, 3, none⟩ = some (.int .i64 o.kind) ∧ w'.cell? ⟨X + 1, 4, none⟩ = some (.int .i64 o.at_) ∧ w'.cell? ⟨X + 1, 5, none⟩ = some (.string o.text) ∧ w'.cell? ⟨X + 1, 6, none⟩ = some (.slice o.sa o.slen o.scap))
        (first
          | exact ⟨Mod.drew (Mod.refl none_ wr), q0, a0, d0, d1, d2, d3, d4, d5, d6⟩
          | assumption
          | (obtain ⟨q, qa, qb, q0, q1, q2, q3, q4, q5, q6⟩ := ‹Mod none_ wr _ ∧ _›; exact ⟨q.trans m1, m1.cell (fun e => e) qa, m1.cell (fun e => e) qb, m1.cell (fun e => e) q0, m1.cell (fun e => e) q1, m1.cell (fun e => e) q2, m1.cell (fun e => e) q3, m1.cell (fun e => e) q4, m1.cell (fun e => e) q5, m1.cell (fun e => e) q6⟩))
        (first
          | (go_at_call 65; refine (ipointA_any o t size _ _ _ (hH.grown (And.left (by assumption))) HQ1.out HQ4.out (by omega)).mono ?_; rintro e w4 ⟨rfl, m1⟩))
      rename_i hHeld
      have M4 := And.left hHeld
      have k4 := KX.out.mod M4 (fun e => e)
      have x0 := k4.cell 0
      have x1 := k4.cell 1
      simp only [List.getElem?_cons_zero, List.getElem?_cons_succ] at x0 x1
      have r0 := k4.frozen 0
      have r1 := k4.frozen 1
      have K4 := Lib.hid k4
      have M5 := Lib.hid (MX.out.trans (M4.mono (T := one P) (fun _ _ e => e.elim)))
      clear hHeld M4 k4 m1
      rw [← HT.out]
      go_wp2_with fail
      go_roundg 0
      all_goals first
        | omega
        | exact ⟨2, rfl, by go_num, by omega, M5.out.setCell ⟨P, 1, none⟩ (fun _ => rfl) _, K4.out.set 1 (.int .i64 T)⟩
    | 2, _, kx =>
      have kx0 : Blk wr P [.int .i64 A, .int .i64 T] 24 := kx
      have kA := KP0.out.mod mx (fun e => by have e' : X = P := e; omega)
      have kB := KP2.out.mod mx (fun e => by have e' : X + 1 + 1 = P := e; omega)
      have MW := Lib.hid (MP.out.transIn mx (fun b hb e => by have e' : b = P := e; have := HX.out; omega))
      have a0 := kA.cell 0
      have a1 := kA.cell 1
      have a2 := kA.cell 2
      have q0 := kx0.cell 0
      have q1 := kx0.cell 1
      simp only [List.getElem?_cons_zero, List.getElem?_cons_succ] at a0 a1 a2 q0 q1
      have KB := Lib.hid kB
      clear kA kB kx kx0 mx kP
      go_wp2_with fail
      refine (at_any s a t A T _).mono ?_
      rintro e w5 ⟨rfl, m5⟩
      have k1 := KB.out.mod m5 (fun e => e)
      have M5 := Lib.hid (MW.out.trans m5)
      have d0 := k1.cell 0
      have d1 := k1.cell 1
      have d2 := k1.cell 2
      simp only [List.getElem?_cons_zero, List.getElem?_cons_succ] at d0 d1 d2
      have r0 := k1.frozen 0
      have r1 := k1.frozen 1
      have r2 := k1.frozen 2
      have KF := Lib.hid (((k1.set 0 (.int .i64 s)).set 1 (.int .i64 A)).set 2 (.int .i64 T))
      have MF := Lib.hid (((M5.out.setCell ⟨X + 1 + 1, 0, none⟩ (fun h => absurd h (by have := HX.out; simp; omega)) (.int .i64 s)).setCell ⟨X + 1 + 1, 1, none⟩ (fun h => absurd h (by have := HX.out; simp; omega)) (.int .i64 A)).setCell ⟨X + 1 + 1, 2, none⟩ (fun h => absurd h (by have := HX.out; simp; omega)) (.int .i64 T))
      clear k1 m5
      go_wp2_with fail
      exact bodyPost_ret (results_mkt rfl _ _ (X + 1 + 1) [.int .i64 s, .int .i64 A, .int .i64 T] rfl rfl (blk_range KF.out)) rfl ⟨rfl, MF.out⟩

end Go.Proofs.YtlbkalbelefhmaaDoor

namespace Go.Proofs.YtlbkalbelefhmaaDoor
open Go.RowKit Go.Mine

def gapBad (l : List CellV) (i : Int) : Bool := decide (i < 0) || decide ((liveN l : Int) < i)
def gapN (l : List CellV) (i : Int) : Int := if gapBad l i then 0 else if i = liveN l then l.length else gapPos l i.toNat
theorem gapV_bad {l : List CellV} {i : Int} (h : gapBad l i = true) : gapV l i = .tuple #[.int .i64 0, .int .i64 3] := by
  unfold gapV gapBad at *; rw [if_pos (by simpa using h)]
theorem gapV_ok {l : List CellV} {i : Int} (h : gapBad l i = false) : gapV l i = .tuple #[.int .i64 (gapN l i), .int .i64 0] := by
  have h1 : ¬ (i < 0 ∨ (liveN l : Int) < i) := by unfold gapBad at h; simp at h; omega
  unfold gapV gapN
  rw [if_neg h1, h]
  simp only [Bool.false_eq_true, if_false]
  split <;> rfl

/-- What asks answers, asked of Gap. -/
def asksV (l : List CellV) (i j : Int) : Value := if gapBad l i || gapBad l j then .tuple #[.agg #[.int .i64 0, .int .i64 0], .int .i64 3] else .tuple #[.agg #[.int .i64 (gapN l i), .int .i64 (gapN l j)], .int .i64 0]

set_option maxHeartbeats 4000000 in
set_option maxRecDepth 1000000 in
theorem asks_any (w : World) (B D : Nat) (l : List CellV) (i j : Int) (h : DocIs w B D l) (hlen : l.length ≤ 1099511627776) :
    Calls Tryd.prog 61 #[.pointer (some ⟨D, 0, none⟩), .func (.func 14) #[] #[], .agg #[.int .i64 i, .int .i64 j]] w fun e w' => e = .returned (asksV l i j) ∧ Mod none_ w w' := by
  obtain ⟨W0, hW0⟩ : ∃ W0, ((w.alloc (.cells #[.int .i64 i, .int .i64 j] 24)).alloc (.cells #[.int .i64 0, .int .i64 0] 24)).alloc (.cells #[.int .i64 0, .int .i64 0] 24) = W0 := ⟨_, rfl⟩
  have m0 : Mod none_ w W0 := by rw [← hW0]; exact (((Mod.refl none_ w).alloc _).alloc _).alloc _
  have k0 : Blk W0 w.heap.size [.int .i64 i, .int .i64 j] 24 := by
    rw [← hW0]
    exact ((Blk.new (w := w) (cs := [.int .i64 i, .int .i64 j]) (t := 24)).mod ((Mod.refl none_ _).alloc _) (fun e => e)).mod ((Mod.refl none_ _).alloc _) (fun e => e)
  have k1 : Blk W0 (w.heap.size + 1) [.int .i64 0, .int .i64 0] 24 := by
    have := Blk.new (w := w.alloc (.cells #[.int .i64 i, .int .i64 j] 24)) (cs := [.int .i64 0, .int .i64 0]) (t := 24)
    rw [World.size_alloc] at this
    rw [← hW0]
    exact this.mod ((Mod.refl none_ _).alloc _) (fun e => e)
  have k2 : Blk W0 (w.heap.size + 1 + 1) [.int .i64 0, .int .i64 0] 24 := by
    have := Blk.new (w := (w.alloc (.cells #[.int .i64 i, .int .i64 j] 24)).alloc (.cells #[.int .i64 0, .int .i64 0] 24)) (cs := [.int .i64 0, .int .i64 0]) (t := 24)
    rw [World.size_alloc, World.size_alloc] at this
    rw [← hW0]
    exact this
  obtain ⟨X, hX⟩ : ∃ X, X = w.heap.size := ⟨_, rfl⟩
  rw [← hX] at k0 k1 k2
  have M0 := Lib.hid m0
  have K0 := Lib.hid k0
  have K1 := Lib.hid k1
  have K2 := Lib.hid k2
  have HD := Lib.hid h
  obtain ⟨R, hR⟩ : ∃ R, R = asksV l i j := ⟨_, rfl⟩
  rw [← hR]
  have HR := Lib.hid hR
  clear hR h m0 k0 k1 k2
  go_enter Tryd.func61, Tryd.ntmps61
  go_upto_region 2 with fail
  clear hW0
  rw [← hX]
  have HX := Lib.hid hX
  clear hX
  go_wp2_with fail
  go_loopg [12] 2 (fun g s12 wx => ∃ k : Nat, g = 2 - k ∧ s12 = .int .i64 k ∧ k ≤ 2 ∧ Mod (one (X + 1 + 1)) W0 wx ∧ Blk wx (X + 1 + 1) (twoAt k 0 0 (gapN l i) (gapN l j)) 24 ∧ RowKit.Hid ((1 ≤ k → gapBad l i = false) ∧ (2 ≤ k → gapBad l j = false)))
  case atStart => exact ⟨0, rfl, rfl, by omega, Mod.refl _ _, K2.out, Lib.hid ⟨fun h => absurd h (by omega), fun h => absurd h (by omega)⟩⟩
  case round =>
    obtain ⟨k, rfl, rfl, hk, mx, kx, hst⟩ := hrel
    match k, hk, kx, hst with
    | 0, _, kx, hst =>
      have kx0 : Blk wr (X + 1 + 1) [.int .i64 0, .int .i64 0] 24 := kx
      have ka := K0.out.mod mx (fun e => by have e' : X = X + 1 + 1 := e; omega)
      have kb := K1.out.mod mx (fun e => by have e' : X + 1 = X + 1 + 1 := e; omega)
      have c0 : wr.cell? ⟨X, 0, none⟩ = some (.int .i64 i) := by rw [ka.cell]; rfl
      have c1 : wr.cell? ⟨X, 1, none⟩ = some (.int .i64 j) := by rw [ka.cell]; rfl
      have KX := Lib.hid kx0
      have KB := Lib.hid kb
      have MX := Lib.hid mx
      have MW := Lib.hid (M0.out.transIn mx (fun b hb e => by have e' : b = X + 1 + 1 := e; have := HX.out; omega))
      have HG := gap_any wr B D l i (HD.out.grown MW.out) hlen
      cases hb : gapBad l i
      · rw [gapV_ok hb] at HG
        have HG := Lib.hid HG
        have HST := Lib.hid (show (1 ≤ 1 → gapBad l i = false) ∧ (2 ≤ 1 → gapBad l j = false) from ⟨fun _ => hb, fun hh => absurd hh (by omega)⟩)
        clear kx kx0 mx ka kb hst hb
        go_wp2_with fail
        refine HG.out.mono ?_
        rintro e w4 ⟨rfl, m4⟩
        have k4 := KX.out.mod m4 (fun e => e)
        have q0 := k4.cell 0
        have q1 := k4.cell 1
        simp only [List.getElem?_cons_zero, List.getElem?_cons_succ] at q0 q1
        have r0 := k4.frozen 0
        have r1 := k4.frozen 1
        have M4 := Lib.hid (MX.out.trans (m4.mono (T := one (X + 1 + 1)) (fun _ _ e => e.elim)))
        have K4 := Lib.hid k4
        clear m4 k4
        go_wp2_with fail
        go_roundg 1
        all_goals first
          | omega
          | exact ⟨1, rfl, by go_num, by omega, M4.out.setCell ⟨X + 1 + 1, 0, none⟩ (fun _ => rfl) _, K4.out.set 0 (.int .i64 (gapN l i)), HST⟩
      · rw [gapV_bad hb] at HG
        have HG := Lib.hid HG
        have HE := Lib.hid (show R = .tuple #[.agg #[.int .i64 0, .int .i64 0], .int .i64 3] by rw [HR.out]; unfold asksV; rw [hb]; simp)
        clear kx kx0 mx ka kb hst hb
        go_wp2_with fail
        refine HG.out.mono ?_
        rintro e w4 ⟨rfl, m4⟩
        have k4 := KB.out.mod m4 (fun e => e)
        have q0 := k4.cell 0
        have q1 := k4.cell 1
        simp only [List.getElem?_cons_zero, List.getElem?_cons_succ] at q0 q1
        have r0 := k4.frozen 0
        have r1 := k4.frozen 1
        have KF := Lib.hid ((k4.set 0 (.int .i64 0)).set 1 (.int .i64 0))
        have MF := Lib.hid ((((MW.out.trans m4).setCell ⟨X + 1, 0, none⟩ (fun h => absurd h (by have := HX.out; simp; omega)) (.int .i64 0))).setCell ⟨X + 1, 1, none⟩ (fun h => absurd h (by have := HX.out; simp; omega)) (.int .i64 0))
        clear m4 k4
        go_wp2_with fail
        exact bodyPost_ret (results_prt rfl _ _ (X + 1) [.int .i64 0, .int .i64 0] rfl rfl (blk_range KF.out)) rfl ⟨by rw [HE.out]; rfl, MF.out⟩
    | 1, _, kx, hst =>
      have kx0 : Blk wr (X + 1 + 1) [.int .i64 (gapN l i), .int .i64 0] 24 := kx
      have ka := K0.out.mod mx (fun e => by have e' : X = X + 1 + 1 := e; omega)
      have kb := K1.out.mod mx (fun e => by have e' : X + 1 = X + 1 + 1 := e; omega)
      have c0 : wr.cell? ⟨X, 0, none⟩ = some (.int .i64 i) := by rw [ka.cell]; rfl
      have c1 : wr.cell? ⟨X, 1, none⟩ = some (.int .i64 j) := by rw [ka.cell]; rfl
      have KX := Lib.hid kx0
      have KB := Lib.hid kb
      have MX := Lib.hid mx
      have MW := Lib.hid (M0.out.transIn mx (fun b hb e => by have e' : b = X + 1 + 1 := e; have := HX.out; omega))
      have HG := gap_any wr B D l j (HD.out.grown MW.out) hlen
      cases hb : gapBad l j
      · rw [gapV_ok hb] at HG
        have HG := Lib.hid HG
        have HST := Lib.hid (show (1 ≤ 2 → gapBad l i = false) ∧ (2 ≤ 2 → gapBad l j = false) from ⟨fun _ => hst.out.1 (by omega), fun hh => hb⟩)
        clear kx kx0 mx ka kb hst hb
        go_wp2_with fail
        refine HG.out.mono ?_
        rintro e w4 ⟨rfl, m4⟩
        have k4 := KX.out.mod m4 (fun e => e)
        have q0 := k4.cell 0
        have q1 := k4.cell 1
        simp only [List.getElem?_cons_zero, List.getElem?_cons_succ] at q0 q1
        have r0 := k4.frozen 0
        have r1 := k4.frozen 1
        have M4 := Lib.hid (MX.out.trans (m4.mono (T := one (X + 1 + 1)) (fun _ _ e => e.elim)))
        have K4 := Lib.hid k4
        clear m4 k4
        go_wp2_with fail
        go_roundg 0
        all_goals first
          | omega
          | exact ⟨2, rfl, by go_num, by omega, M4.out.setCell ⟨X + 1 + 1, 1, none⟩ (fun _ => rfl) _, K4.out.set 1 (.int .i64 (gapN l j)), HST⟩
      · rw [gapV_bad hb] at HG
        have HG := Lib.hid HG
        have HE := Lib.hid (show R = .tuple #[.agg #[.int .i64 0, .int .i64 0], .int .i64 3] by rw [HR.out]; unfold asksV; rw [hb]; simp)
        clear kx kx0 mx ka kb hst hb
        go_wp2_with fail
        refine HG.out.mono ?_
        rintro e w4 ⟨rfl, m4⟩
        have k4 := KB.out.mod m4 (fun e => e)
        have q0 := k4.cell 0
        have q1 := k4.cell 1
        simp only [List.getElem?_cons_zero, List.getElem?_cons_succ] at q0 q1
        have r0 := k4.frozen 0
        have r1 := k4.frozen 1
        have KF := Lib.hid ((k4.set 0 (.int .i64 0)).set 1 (.int .i64 0))
        have MF := Lib.hid ((((MW.out.trans m4).setCell ⟨X + 1, 0, none⟩ (fun h => absurd h (by have := HX.out; simp; omega)) (.int .i64 0))).setCell ⟨X + 1, 1, none⟩ (fun h => absurd h (by have := HX.out; simp; omega)) (.int .i64 0))
        clear m4 k4
        go_wp2_with fail
        exact bodyPost_ret (results_prt rfl _ _ (X + 1) [.int .i64 0, .int .i64 0] rfl rfl (blk_range KF.out)) rfl ⟨by rw [HE.out]; rfl, MF.out⟩
    | 2, _, kx, hst =>
      have kx0 : Blk wr (X + 1 + 1) [.int .i64 (gapN l i), .int .i64 (gapN l j)] 24 := kx
      have kb := K1.out.mod mx (fun e => by have e' : X + 1 = X + 1 + 1 := e; omega)
      have MW := Lib.hid (M0.out.transIn mx (fun b hb e => by have e' : b = X + 1 + 1 := e; have := HX.out; omega))
      have HE := Lib.hid (show R = .tuple #[.agg #[.int .i64 (gapN l i), .int .i64 (gapN l j)], .int .i64 0] by
        rw [HR.out]; unfold asksV; rw [hst.out.1 (by omega), hst.out.2 (by omega)]; rfl)
      have q0 := kx0.cell 0
      have q1 := kx0.cell 1
      have p0 := kb.cell 0
      have p1 := kb.cell 1
      simp only [List.getElem?_cons_zero, List.getElem?_cons_succ] at q0 q1 p0 p1
      have r0 := kb.frozen 0
      have r1 := kb.frozen 1
      have KF := Lib.hid ((kb.set 0 (.int .i64 (gapN l i))).set 1 (.int .i64 (gapN l j)))
      have MF := Lib.hid ((((MW.out).setCell ⟨X + 1, 0, none⟩ (fun h => absurd h (by have := HX.out; simp; omega)) (.int .i64 (gapN l i)))).setCell ⟨X + 1, 1, none⟩ (fun h => absurd h (by have := HX.out; simp; omega)) (.int .i64 (gapN l j)))
      clear kx kx0 mx kb hst
      go_wp2_with fail
      exact bodyPost_ret (results_prt rfl _ _ (X + 1) [.int .i64 (gapN l i), .int .i64 (gapN l j)] rfl rfl (blk_range KF.out)) rfl ⟨by rw [HE.out]; rfl, MF.out⟩

end Go.Proofs.YtlbkalbelefhmaaDoor

namespace Go.Proofs.YtlbkalbelefhmaaDoor
open Go.RowKit Go.Mine

/-- What Put answers. -/
def putV (l : List CellV) (s i j : Int) : Value := if inB s 1 16 then (if gapBad l i || gapBad l j then .tuple #[.agg #[.int .i64 0, .int .i64 0, .int .i64 0], .int .i64 3] else .tuple #[.agg #[.int .i64 s, .int .i64 (gapN l i), .int .i64 (gapN l j)], .int .i64 0]) else .tuple #[.agg #[.int .i64 0, .int .i64 0, .int .i64 0], .int .i64 1]

set_option maxHeartbeats 4000000 in
set_option maxRecDepth 1000000 in
theorem put_any (w : World) (B D : Nat) (l : List CellV) (s i j : Int) (h : DocIs w B D l) (hlen : l.length ≤ 1099511627776) :
    Calls Tryd.prog 32 #[.pointer (some ⟨D, 0, none⟩), .int .i64 s, .int .i64 i, .int .i64 j] w fun e w' => e = .returned (putV l s i j) ∧ Mod none_ w w' := by
  obtain ⟨W0, hW0⟩ : ∃ W0, w.alloc (.cells #[.int .i64 0, .int .i64 0, .int .i64 0] 66) = W0 := ⟨_, rfl⟩
  have m0 : Mod none_ w W0 := by rw [← hW0]; exact (Mod.refl none_ w).alloc _
  have k0 : Blk W0 w.heap.size [.int .i64 0, .int .i64 0, .int .i64 0] 66 := by
    rw [← hW0]
    exact Blk.new (w := w) (cs := [.int .i64 0, .int .i64 0, .int .i64 0]) (t := 66)
  have c0 := k0.cell 0
  have c1 := k0.cell 1
  have c2 := k0.cell 2
  simp only [List.getElem?_cons_zero, List.getElem?_cons_succ] at c0 c1 c2
  have f0 := k0.frozen 0
  have f1 := k0.frozen 1
  have f2 := k0.frozen 2
  have M0 := Lib.hid m0
  have K0 := Lib.hid k0
  have HD := Lib.hid (h.grown m0)
  obtain ⟨R, hR⟩ : ∃ R, R = putV l s i j := ⟨_, rfl⟩
  rw [← hR]
  have HR := Lib.hid hR
  clear hR h m0 k0
  go_enter Tryd.func32, Tryd.ntmps32
  go_upto_region 1 with fail
  clear hW0
  go_wp2_with fail
  refine (cwithin_any s 1 16 _).mono ?_
  rintro e w1 ⟨rfl, rfl⟩
  cases hs : inB s 1 16
  · have HE := Lib.hid (show R = .tuple #[.agg #[.int .i64 0, .int .i64 0, .int .i64 0], .int .i64 1] by rw [HR.out]; unfold putV; rw [hs]; rfl)
    have KF := Lib.hid (((K0.out.set 0 (.int .i64 0)).set 1 (.int .i64 0)).set 2 (.int .i64 0))
    have MF := Lib.hid (((M0.out.setCell ⟨w.heap.size, 0, none⟩ (fun h => absurd h (by simp)) (.int .i64 0)).setCell ⟨w.heap.size, 1, none⟩ (fun h => absurd h (by simp)) (.int .i64 0)).setCell ⟨w.heap.size, 2, none⟩ (fun h => absurd h (by simp)) (.int .i64 0))
    go_wp2_with fail
    exact bodyPost_ret (results_mkt rfl _ _ w.heap.size [.int .i64 0, .int .i64 0, .int .i64 0] rfl rfl (blk_range KF.out)) rfl ⟨by rw [HE.out]; rfl, MF.out⟩
  have HA := asks_any w1 B D l i j HD.out hlen
  clear c0 c1 c2 f0 f1 f2
  cases hb : gapBad l i || gapBad l j
  · have HE := Lib.hid (show R = .tuple #[.agg #[.int .i64 s, .int .i64 (gapN l i), .int .i64 (gapN l j)], .int .i64 0] by rw [HR.out]; unfold putV; rw [hs, hb]; rfl)
    rw [show asksV l i j = .tuple #[.agg #[.int .i64 (gapN l i), .int .i64 (gapN l j)], .int .i64 0] by unfold asksV; rw [hb]; rfl] at HA
    have HA := Lib.hid HA
    clear hs hb
    go_wp2_with fail
    refine HA.out.mono ?_
    rintro e w2 ⟨rfl, m2⟩
    have kB := Blk.new (w := w2) (cs := [.int .i64 (gapN l i), .int .i64 (gapN l j)]) (t := 24)
    have mB := (Mod.refl none_ w2).alloc (.cells #[.int .i64 (gapN l i), .int .i64 (gapN l j)] 24)
    have MB := Lib.hid ((M0.out.trans m2).trans mB)
    have K2 := Lib.hid ((K0.out.mod m2 (fun e => e)).mod mB (fun e => e))
    clear m2 mB
    go_upto_region 4 with fail
    generalize w2.alloc (.cells #[.int .i64 (gapN l i), .int .i64 (gapN l j)] 24) = w3 at kB MB K2 ⊢
    have q0 := kB.cell 0
    have q1 := kB.cell 1
    simp only [List.getElem?_cons_zero, List.getElem?_cons_succ] at q0 q1
    clear kB
    go_wp2_with fail
    refine (at_any s 0 0 (gapN l i) (gapN l j) _).mono ?_
    rintro e w4 ⟨rfl, m4⟩
    have k4 := K2.out.mod m4 (fun e => e)
    have M4 := Lib.hid (MB.out.trans m4)
    have c0 := k4.cell 0
    have c1 := k4.cell 1
    have c2 := k4.cell 2
    simp only [List.getElem?_cons_zero, List.getElem?_cons_succ] at c0 c1 c2
    have f0 := k4.frozen 0
    have f1 := k4.frozen 1
    have f2 := k4.frozen 2
    have KF := Lib.hid (((k4.set 0 (.int .i64 s)).set 1 (.int .i64 (gapN l i))).set 2 (.int .i64 (gapN l j)))
    have MF := Lib.hid (((M4.out.setCell ⟨w.heap.size, 0, none⟩ (fun h => absurd h (by simp)) (.int .i64 s)).setCell ⟨w.heap.size, 1, none⟩ (fun h => absurd h (by simp)) (.int .i64 (gapN l i))).setCell ⟨w.heap.size, 2, none⟩ (fun h => absurd h (by simp)) (.int .i64 (gapN l j)))
    clear m4 k4
    go_wp2_with fail
    exact bodyPost_ret (results_mkt rfl _ _ w.heap.size [.int .i64 s, .int .i64 (gapN l i), .int .i64 (gapN l j)] rfl rfl (blk_range KF.out)) rfl ⟨by rw [HE.out]; rfl, MF.out⟩
  · have HE := Lib.hid (show R = .tuple #[.agg #[.int .i64 0, .int .i64 0, .int .i64 0], .int .i64 3] by rw [HR.out]; unfold putV; rw [hs, hb]; rfl)
    rw [show asksV l i j = .tuple #[.agg #[.int .i64 0, .int .i64 0], .int .i64 3] by unfold asksV; rw [hb]; rfl] at HA
    have HA := Lib.hid HA
    clear hs hb
    go_wp2_with fail
    refine HA.out.mono ?_
    rintro e w2 ⟨rfl, m2⟩
    have mB := (Mod.refl none_ w2).alloc (.cells #[.int .i64 0, .int .i64 0] 24)
    have MB := Lib.hid ((M0.out.trans m2).trans mB)
    have k4 := (K0.out.mod m2 (fun e => e)).mod mB (fun e => e)
    clear m2 mB
    go_upto_region 4 with fail
    generalize w2.alloc (.cells #[.int .i64 0, .int .i64 0] 24) = w3 at MB k4 ⊢
    have c0 := k4.cell 0
    have c1 := k4.cell 1
    have c2 := k4.cell 2
    simp only [List.getElem?_cons_zero, List.getElem?_cons_succ] at c0 c1 c2
    have f0 := k4.frozen 0
    have f1 := k4.frozen 1
    have f2 := k4.frozen 2
    have KF := Lib.hid (((k4.set 0 (.int .i64 0)).set 1 (.int .i64 0)).set 2 (.int .i64 0))
    have MF := Lib.hid (((MB.out.setCell ⟨w.heap.size, 0, none⟩ (fun h => absurd h (by simp)) (.int .i64 0)).setCell ⟨w.heap.size, 1, none⟩ (fun h => absurd h (by simp)) (.int .i64 0)).setCell ⟨w.heap.size, 2, none⟩ (fun h => absurd h (by simp)) (.int .i64 0))
    clear k4
    go_wp2_with fail
    exact bodyPost_ret (results_mkt rfl _ _ w.heap.size [.int .i64 0, .int .i64 0, .int .i64 0] rfl rfl (blk_range KF.out)) rfl ⟨by rw [HE.out]; rfl, MF.out⟩

end Go.Proofs.YtlbkalbelefhmaaDoor

namespace Go.Proofs.YtlbkalbelefhmaaDoor
open Go.RowKit Go.Shelf Go.Mine Go.Maps
open Classical

/-- Cells that a document may have. -/
structure Cl (l : List CellV) : Prop where
  ids : (l.map CellV.id).Nodup
  ok : ∀ c ∈ l, c.ok
  big : l.length ≤ 20000

theorem ins_runes {o : OpV} {n : Int} (h : insOk o n = true) : ∃ rs, runesOf o.text = some rs ∧ runesD o.text = rs ∧ ulen o.text = rs.length ∧ 1 ≤ rs.length ∧ rs.length ≤ 200 ∧ (rs.length : Int) ≤ 20000 - n ∧ 0 ≤ o.at_ ∧ o.at_ ≤ n ∧ ∀ r ∈ rs, r ≤ 1114111 := by
  simp only [insOk, Bool.and_eq_true, decide_eq_true_eq, inB, textOk] at h
  obtain ⟨⟨⟨h1, h2, h3⟩, h4⟩, h5⟩ := h
  cases hr : runesOf o.text with
  | none => rw [ulen_none hr] at h3; omega
  | some rs =>
    have hu := ulen_some hr
    exact ⟨rs, rfl, by unfold runesD; rw [hr]; rfl, hu, by omega, by omega, by omega, h1.1, h1.2, runes_le _ o.text (Nat.le_refl _) rs hr⟩

theorem markS_ids (sp : List (Int × Int)) (l : List CellV) : (markS sp 0 l).map CellV.id = l.map CellV.id := by
  unfold markS
  apply List.ext_getElem?
  intro i
  rw [List.getElem?_map, List.getElem?_map, markP_get]
  cases l[i]? with
  | none => rfl
  | some c => simp only [Option.map_some]; split <;> rfl

theorem fresh_ids (o : OpV) (rs : List Nat) : ((freshC o rs).map CellV.id).Nodup := by
  unfold List.Nodup
  rw [List.pairwise_iff_getElem]
  intro i j hi hj hij e
  simp [freshC, CellV.id] at e
  omega
theorem fresh_name {o : OpV} {rs : List Nat} {c : CellV} (h : c ∈ freshC o rs) : c.site = o.site ∧ c.seq = o.seq := by
  unfold freshC at h
  rw [List.mem_mapIdx] at h
  obtain ⟨i, hi, rfl⟩ := h
  exact ⟨rfl, rfl⟩

/-- An operation that may be and is carried out: what it is. -/
theorem doE_zero {o : OpV} {sp : List (Int × Int)} {l : List CellV} (h : doE o sp l = 0) : opMay o sp l.length = true ∧ ((¬ o.kind = 1 ∧ doL o sp l = markS sp 0 l) ∨ (o.kind = 1 ∧ insOk o l.length = true ∧ o.name ∉ l.map CellV.name ∧ doL o sp l = l.take o.at_.toNat ++ freshC o (runesD o.text) ++ l.drop o.at_.toNat)) := by
  unfold doE at h
  by_cases hm : opMay o sp l.length = true
  · rw [if_pos hm] at h
    refine ⟨hm, ?_⟩
    unfold doL
    rw [if_pos hm]
    have hm' := hm
    unfold opMay at hm'
    simp only [Bool.and_eq_true] at hm'
    by_cases hk : o.kind = 2
    · rw [if_pos hk]
      exact .inl ⟨by omega, rfl⟩
    · rw [if_neg hk] at h ⊢
      by_cases hn : o.name ∈ l.map CellV.name
      · rw [if_pos hn] at h; omega
      · rw [if_neg hn]
        have h3 := hm'.2
        by_cases hk1 : o.kind = 1
        · rw [if_pos hk1] at h3
          exact .inr ⟨hk1, h3, hn, rfl⟩
        · rw [if_neg hk1, if_neg hk] at h3; cases h3
  · rw [if_neg hm] at h; omega

/-- An operation that is refused leaves the cells. -/
theorem doL_same {o : OpV} {sp : List (Int × Int)} {l : List CellV} (h : ¬ doE o sp l = 0) : doL o sp l = l := by
  unfold doE at h
  unfold doL
  by_cases hm : opMay o sp l.length = true
  · rw [if_pos hm] at h ⊢
    by_cases hk : o.kind = 2
    · rw [if_pos hk] at h; exact absurd rfl h
    · rw [if_neg hk] at h ⊢
      by_cases hn : o.name ∈ l.map CellV.name
      · rw [if_pos hn]
      · rw [if_neg hn] at h; exact absurd rfl h
  · rw [if_neg hm]

theorem Cl.doL {o : OpV} {sp : List (Int × Int)} {l : List CellV} (h : Cl l) (hs : -9223372036854775808 ≤ o.site ∧ o.site ≤ 9223372036854775807) (hq : -9223372036854775808 ≤ o.seq ∧ o.seq ≤ 9223372036854775807) : Cl (doL o sp l) := by
  by_cases he : doE o sp l = 0
  · rcases (doE_zero he).2 with ⟨_, e⟩ | ⟨_, hi, hn, e⟩
    · rw [e]
      exact ⟨by rw [markS_ids]; exact h.ids, fun c hc => markP_ok h.ok c hc, by rw [markS_len]; exact h.big⟩
    · rw [e]
      obtain ⟨rs, hr, hd, hu, h1, h2, h3, h4, h5, h6⟩ := ins_runes hi
      rw [hd]
      refine ⟨?_, ?_, ?_⟩
      · have hp : ((l.take o.at_.toNat ++ freshC o rs ++ l.drop o.at_.toNat).map CellV.id).Perm ((l ++ freshC o rs).map CellV.id) := by
          refine List.Perm.map _ ?_
          conv => rhs; rw [← List.take_append_drop o.at_.toNat l]
          rw [List.append_assoc, List.append_assoc]
          exact (List.perm_append_comm).append_left _
        rw [hp.nodup_iff, List.map_append, List.nodup_append]
        refine ⟨h.ids, fresh_ids o rs, ?_⟩
        intro a ha b hb hab
        subst hab
        obtain ⟨c, hc, rfl⟩ := List.mem_map.1 ha
        obtain ⟨d, hd', e2⟩ := List.mem_map.1 hb
        obtain ⟨e3, e4⟩ := fresh_name hd'
        simp [CellV.id] at e2
        exact hn (List.mem_map.2 ⟨c, hc, by simp [CellV.name, OpV.name, ← e2.1, ← e2.2.1, e3, e4]⟩)
      · intro c hc
        simp only [List.mem_append] at hc
        rcases hc with (hc | hc) | hc
        · exact h.ok c (List.mem_of_mem_take hc)
        · exact freshC_ok o rs hs hq h2 h6 c hc
        · exact h.ok c (List.mem_of_mem_drop hc)
      · simp only [List.length_append, List.length_take, List.length_drop, freshC_len]
        have := h.big
        omega
  · rw [doL_same he]; exact h

/-- A place right behind the cell of a name. -/
def behind (s q f : Int) (l : List CellV) (p : Int) : Prop := ∃ (i : Nat) (c : CellV), l[i]? = some c ∧ c.site = s ∧ c.seq = q ∧ c.off = f ∧ p = (i : Int) + 1
theorem behind.doL {s q f p : Int} {o : OpV} {sp : List (Int × Int)} {l : List CellV} (h : behind s q f l p) (he : doE o sp l = 0) : behind s q f (doL o sp l) (movP o p true) := by
  obtain ⟨i, c, hc, h1, h2, h3, hp⟩ := h
  have hlt := (List.getElem?_eq_some_iff.1 hc).1
  rcases (doE_zero he).2 with ⟨hk, e⟩ | ⟨hk, hi, hn, e⟩
  · rw [e]
    unfold movP
    rw [if_neg hk]
    refine ⟨i, _, by unfold markS; rw [markP_get, hc]; rfl, ?_, ?_, ?_, hp⟩
    all_goals split <;> assumption
  · rw [e]
    obtain ⟨rs, hr, hd, hu, g1, g2, g3, g4, g5, g6⟩ := ins_runes hi
    rw [hd]
    have hadd : addsOf o = rs.length := by unfold addsOf; rw [if_pos hk, hu]; omega
    unfold movP pointOf
    rw [if_pos hk, hadd]
    obtain ⟨at_, hat⟩ : ∃ n : Nat, o.at_ = n := ⟨o.at_.toNat, by omega⟩
    rw [hat] at g5 ⊢
    have hat2 : at_ ≤ l.length := by omega
    simp only [Int.toNat_natCast]
    by_cases hia : at_ ≤ i
    · rw [if_pos (.inl (by omega))]
      refine ⟨i + rs.length, c, ?_, h1, h2, h3, by rw [hp]; omega⟩
      rw [List.append_assoc, List.getElem?_append_right (by rw [List.length_take]; omega), List.length_take, Nat.min_eq_left hat2, List.getElem?_append_right (by rw [freshC_len]; omega), freshC_len, List.getElem?_drop, ← hc]
      congr 1; omega
    · rw [if_neg (by rintro (h | ⟨_, h⟩); omega; cases h)]
      refine ⟨i, c, ?_, h1, h2, h3, hp⟩
      rw [List.append_assoc, List.getElem?_append_left (by rw [List.length_take]; omega), List.getElem?_take, if_pos (by omega)]
      exact hc
theorem movP_zero {o : OpV} {sp : List (Int × Int)} {l : List CellV} (he : doE o sp l = 0) : movP o 0 true = 0 := by
  rcases (doE_zero he).2 with ⟨hk, e⟩ | ⟨hk, hi, hn, e⟩
  · unfold movP; rw [if_neg hk]
  · obtain ⟨rs, hr, hd, hu, g1, g2, g3, g4, g5, g6⟩ := ins_runes hi
    unfold movP pointOf
    rw [if_pos hk, if_neg (by rintro (h | ⟨_, h⟩); omega; cases h)]

theorem gapPos_lt_len : ∀ (l : List CellV) (i : Nat), i < liveN l → gapPos l i < l.length
  | [], i, h => by simp [liveN] at h
  | c :: r, i, h => by
    rw [liveN_cons] at h
    rw [gapPos, List.length_cons]
    cases hg : c.gone
    · rw [hg] at h
      simp only [Bool.false_eq_true, if_false] at h ⊢
      by_cases h0 : i = 0
      · rw [if_pos h0]; omega
      · rw [if_neg h0]
        have := gapPos_lt_len r (i - 1) (by omega)
        omega
    · rw [hg] at h
      simp only [if_true] at h ⊢
      have := gapPos_lt_len r i (by omega)
      omega
theorem gapN_le {l : List CellV} {i : Int} (h : gapBad l i = false) : 0 ≤ gapN l i ∧ gapN l i ≤ l.length := by
  unfold gapN
  rw [if_neg (by simp [h])]
  unfold gapBad at h
  simp at h
  split
  · omega
  · have := gapPos_lt_len l i.toNat (by omega)
    omega
end Go.Proofs.YtlbkalbelefhmaaDoor

namespace Go.Proofs.YtlbkalbelefhmaaDoor
open Go.RowKit Go.Mine
open Classical

/-- The end of the last span of a list that begins behind last. -/
def lastE : Int → List (Int × Int) → Int
  | last, [] => last
  | _, x :: r => lastE (x.1 + x.2) r
theorem spansFrom_snoc : ∀ (L : List (Int × Int)) (last : Int) (x : Int × Int), spansFrom last (L ++ [x]) = (spansFrom last L && decide (0 ≤ x.1 ∧ x.1 ≤ 20000 ∧ 1 ≤ x.2 ∧ x.2 ≤ 20000 - x.1 ∧ lastE last L < x.1))
  | [], last, x => by
    simp only [List.nil_append, spansFrom, lastE, Bool.and_true, Bool.true_and]
    congr 1
  | y :: r, last, x => by
    rw [List.cons_append, spansFrom, spansFrom_snoc r, spansFrom, lastE, Bool.and_assoc]
theorem lastE_snoc : ∀ (L : List (Int × Int)) (last : Int) (x : Int × Int), lastE last (L ++ [x]) = x.1 + x.2
  | [], _, _ => rfl
  | y :: r, _, x => by rw [List.cons_append, lastE, lastE_snoc r]
theorem hasPl_snoc (L : List (Int × Int)) (x : Int × Int) (i : Nat) : hasPl (L ++ [x]) i = (hasPl L i || decide (x.1 ≤ (i : Int) ∧ (i : Int) < x.1 + x.2)) := by
  unfold hasPl; rw [List.any_append]; simp
theorem addPl_one (p : Nat) : addPl [] p = [((p : Int), 1)] := rfl
theorem addPl_snoc (L : List (Int × Int)) (f m : Int) (p : Nat) : addPl (L ++ [(f, m)]) p = if f + m = p then L ++ [(f, m + 1)] else L ++ [(f, m)] ++ [((p : Int), 1)] := by
  unfold addPl
  simp
/-- The places that are marked may be told, and are just those. -/
theorem plsOf_ok (P : Nat → Bool) : ∀ n, n ≤ 20000 → spansOk (plsOf P n) = true ∧ ∀ i, hasPl (plsOf P n) i = (decide (i < n) && P i)
  | 0, _ => ⟨rfl, fun i => by simp [plsOf, hasPl]⟩
  | n + 1, hn => by
    obtain ⟨h1, h2⟩ := plsOf_ok P n (by omega)
    have h3 := plsOf_in P n
    rw [plsOf]
    cases hP : P n
    · refine ⟨by simpa using h1, fun i => ?_⟩
      simp only [Bool.false_eq_true, if_false]
      rw [h2]
      by_cases hi : i = n
      · subst hi; simp [hP]
      · have : (i < n) = (i < n + 1) := propext ⟨fun h => by omega, fun h => by omega⟩
        simp only [this]
    · simp only [if_true]
      have key : ∀ i, (decide (i < n + 1) && P i) = ((decide (i < n) && P i) || decide (i = n)) := by
        intro i
        by_cases hi : i = n
        · subst hi; simp [hP]
        · have : (i < n) = (i < n + 1) := propext ⟨fun h => by omega, fun h => by omega⟩
          simp only [this, hi, decide_false, Bool.or_false]
      rcases List.eq_nil_or_concat (plsOf P n) with hL | ⟨L, x, hL⟩
      · rw [hL] at h2 ⊢
        rw [addPl_one]
        refine ⟨by simp [spansOk, spansFrom]; omega, fun i => ?_⟩
        rw [key, ← h2]
        have : ((n : Int) ≤ (i : Int) ∧ (i : Int) < (n : Int) + 1) = (i = n) := propext ⟨fun h => by omega, fun h => by omega⟩
        simp only [hasPl, List.any_cons, List.any_nil, Bool.or_false, Bool.false_or, this]
      · obtain ⟨f, m⟩ := x
        rw [List.concat_eq_append] at hL
        rw [hL] at h1 h2 h3 ⊢
        have hx := h3 (f, m) (by simp)
        simp only at hx
        rw [addPl_snoc]
        unfold spansOk at h1 ⊢
        rw [spansFrom_snoc] at h1
        simp only [Bool.and_eq_true, decide_eq_true_eq] at h1
        split
        · rename_i he
          refine ⟨?_, fun i => ?_⟩
          · rw [spansFrom_snoc]
            simp only [Bool.and_eq_true, decide_eq_true_eq]
            exact ⟨h1.1, by omega⟩
          · rw [key, ← h2, hasPl_snoc, hasPl_snoc, Bool.or_assoc, ← Bool.decide_or]
            congr 1
            exact decide_eq_decide.2 ⟨fun h => by omega, fun h => by omega⟩
        · rename_i he
          refine ⟨?_, fun i => ?_⟩
          · rw [spansFrom_snoc, spansFrom_snoc, lastE_snoc]
            simp only [Bool.and_eq_true, decide_eq_true_eq]
            exact ⟨⟨h1.1, by omega⟩, by omega⟩
          · rw [key, ← h2, hasPl_snoc]
            congr 1
            exact decide_eq_decide.2 ⟨fun h => by omega, fun h => by omega⟩
theorem goneL_ok {l : List CellV} (h : l.length ≤ 20000) : spansOk (goneL l) = true := (plsOf_ok _ _ h).1
theorem goneL_has {l : List CellV} (h : l.length ≤ 20000) (i : Nat) : hasPl (goneL l) i = (l[i]?.map CellV.gone).getD false := by
  unfold goneL
  rw [(plsOf_ok _ _ h).2]
  by_cases hi : i < l.length
  · simp [hi]
  · rw [List.getElem?_eq_none (by omega)]; simp
theorem goneL_end (l : List CellV) : endS (goneL l) ≤ l.length := by
  unfold endS
  cases h : (goneL l).getLast? with
  | none => simp
  | some x =>
    have := plsOf_in _ _ x (List.mem_of_getLast? h)
    simp only
    omega
/-- The cells that live. -/
def lives (l : List CellV) : List CellV := l.filter fun c => !c.gone
theorem drop_gone (sp : List (Int × Int)) : ∀ (c : List CellV) (p : Nat), (∀ i x, c[i]? = some x → hasPl sp (p + i) = x.gone) → dropFrom sp p c = lives c ∧ hitFrom sp p c = false
  | [], _, _ => ⟨rfl, rfl⟩
  | x :: r, p, h => by
    have h0 := h 0 x rfl
    rw [Nat.add_zero] at h0
    obtain ⟨h1, h2⟩ := drop_gone sp r (p + 1) (fun i y hy => by have := h (i + 1) y (by simpa using hy); rw [← this]; congr 1; omega)
    refine ⟨?_, ?_⟩
    · rw [dropFrom, h0, h1]
      unfold lives
      rw [List.filter_cons]
      cases x.gone <;> rfl
    · rw [hitFrom, h0, h2]
      cases x.gone <;> rfl
theorem goneL_drop {l : List CellV} (h : l.length ≤ 20000) : dropE (goneL l) l = 0 ∧ dropL (goneL l) l = lives l := by
  obtain ⟨h1, h2⟩ := drop_gone (goneL l) l 0 (fun i x hx => by rw [Nat.zero_add, goneL_has h, hx]; rfl)
  have h3 := goneL_end l
  have hE : dropE (goneL l) l = 0 := by
    unfold dropE
    rw [if_pos (goneL_ok h), if_neg (by omega), h2]
    rfl
  exact ⟨hE, by unfold dropL; rw [if_pos hE, h1]⟩
theorem goneL_cnt {l : List CellV} (h : l.length ≤ 20000) : ∀ p : Nat, p ≤ l.length → cntTo (goneL l) p + seenN l p = p
  | 0, _ => by simp [cntTo, seenN, liveN]
  | p + 1, hp => by
    have ih := goneL_cnt h p (by omega)
    have hx : l[p]? = some l[p] := by simp
    rw [seenN_succ hx, cntTo, goneL_has h, hx]
    simp only [Option.map_some, Option.getD_some]
    by_cases hgn : l[p].gone = true <;> simp [hgn] <;> omega
theorem goneL_ahead {l : List CellV} (h : l.length ≤ 20000) {p : Int} (h0 : 0 ≤ p) (hp : p ≤ l.length) : p - aheadOf (goneL l) p = seenN l p.toNat := by
  obtain ⟨n, rfl⟩ : ∃ n : Nat, p = n := ⟨p.toNat, by omega⟩
  have h1 := cnt_ahead _ (goneL_ok h) n
  have h2 := goneL_cnt h n (by omega)
  rw [← h1, Int.toNat_natCast]
  omega
theorem lives_len (l : List CellV) : (lives l).length = liveN l := rfl
theorem lives_seen (l : List CellV) {q : Nat} (h : q ≤ liveN l) : seenN (lives l) q = q := by
  unfold seenN liveN
  rw [List.filter_eq_self.2 (fun c hc => ?_), List.length_take, lives_len]
  · omega
  · exact (List.mem_filter.1 (List.mem_of_mem_take hc)).2
theorem seen_gapPos : ∀ (l : List CellV) (i : Nat), i < liveN l → seenN l (gapPos l i) = i
  | [], i, h => by simp [liveN] at h
  | c :: t, i, h => by
    rw [liveN_cons] at h
    rw [gapPos]
    cases hg : c.gone
    · rw [hg] at h
      simp only [Bool.false_eq_true, if_false] at h ⊢
      by_cases h0 : i = 0
      · rw [if_pos h0, h0]; simp [seenN, liveN]
      · rw [if_neg h0, Nat.add_comm]
        unfold seenN
        rw [List.take_succ_cons, liveN_cons, hg]
        have := seen_gapPos t (i - 1) (by omega)
        unfold seenN at this
        rw [this]
        simp; omega
    · rw [hg] at h
      simp only [if_true] at h ⊢
      rw [Nat.add_comm]
      unfold seenN
      rw [List.take_succ_cons, liveN_cons, hg]
      have := seen_gapPos t i (by omega)
      unfold seenN at this
      rw [this]
      simp
theorem seen_gapN {l : List CellV} {i : Int} (h : gapBad l i = false) : (seenN l (gapN l i).toNat : Int) = i := by
  have hb := h
  simp [gapBad] at h
  unfold gapN
  rw [hb]
  simp only [Bool.false_eq_true, if_false]
  split
  · rename_i he
    rw [Int.toNat_natCast, seenN_all, he]
  · rw [Int.toNat_natCast, seen_gapPos l _ (by omega)]
    omega
/-- What is put is shown there. -/
theorem shown_put {l : List CellV} {s i j : Int} (hl : l.length ≤ 20000) (hs : inB s 1 16 = true) (hi : gapBad l i = false) (hj : gapBad l j = false) : shownV l s (gapN l i) (gapN l j) = .tuple #[.int .i64 i, .int .i64 j, .int .i64 0] := by
  have h1 := gapN_le hi
  have h2 := gapN_le hj
  have hm : markOk s (gapN l i) (gapN l j) l.length = true := by
    unfold markOk
    rw [hs]
    simp [inB]
    omega
  have b1 : seenBad l (gapN l i) = false := by unfold seenBad; simp; omega
  have b2 : seenBad l (gapN l j) = false := by unfold seenBad; simp; omega
  unfold shownV seenM
  rw [hm, b1, b2]
  simp only [if_true, Bool.false_eq_true, if_false, seen_gapN hi, seen_gapN hj]
theorem drop_put {l : List CellV} {s i j : Int} (hl : l.length ≤ 20000) (hs : inB s 1 16 = true) (hi : gapBad l i = false) (hj : gapBad l j = false) : dropV s (gapN l i) (gapN l j) (goneL l) = .tuple #[.agg #[.int .i64 s, .int .i64 i, .int .i64 j], .int .i64 0] := by
  have h1 := gapN_le hi
  have h2 := gapN_le hj
  have hm : markOk s (gapN l i) (gapN l j) 20000 = true := by
    unfold markOk
    rw [hs]
    simp [inB]
    omega
  unfold dropV
  rw [hm, goneL_ok hl, goneL_ahead hl h1.1 h1.2, goneL_ahead hl h2.1 h2.2, seen_gapN hi, seen_gapN hj]
  rfl
theorem shown_drop {l : List CellV} {s i j : Int} (hl : l.length ≤ 20000) (hs : inB s 1 16 = true) (hi : gapBad l i = false) (hj : gapBad l j = false) : shownV (lives l) s i j = .tuple #[.int .i64 i, .int .i64 j, .int .i64 0] := by
  simp [gapBad] at hi hj
  have hle := liveN_le l
  have hm : markOk s i j (lives l).length = true := by
    rw [lives_len]
    unfold markOk
    rw [hs]
    simp [inB]
    omega
  have b1 : seenBad (lives l) i = false := by unfold seenBad; rw [lives_len]; simp; omega
  have b2 : seenBad (lives l) j = false := by unfold seenBad; rw [lives_len]; simp; omega
  unfold shownV seenM
  rw [hm, b1, b2]
  simp only [if_true, Bool.false_eq_true, if_false]
  rw [lives_seen l (by omega), lives_seen l (by omega), Int.toNat_of_nonneg hi.1, Int.toNat_of_nonneg hj.1]
theorem shown_far (l : List CellV) (s : Int) : shownV l s (((l.length : Nat) : Int) + 1) 0 = .tuple #[.int .i64 0, .int .i64 0, .int .i64 1] := by
  have hm : markOk s (((l.length : Nat) : Int) + 1) 0 l.length = false := by
    unfold markOk
    simp [inB]
    omega
  unfold shownV
  rw [hm]
  rfl
end Go.Proofs.YtlbkalbelefhmaaDoor

namespace Go.Proofs.YtlbkalbelefhmaaDoor
open Go.RowKit Go.Mine
open Classical

set_option maxHeartbeats 4000000 in
set_option maxRecDepth 1000000 in
theorem put_nil (w : World) (s i j : Int) : Calls Tryd.prog 32 #[.pointer none, .int .i64 s, .int .i64 i, .int .i64 j] w fun e w' => e = .returned (.tuple #[.agg #[.int .i64 0, .int .i64 0, .int .i64 0], .int .i64 1]) ∧ Mod none_ w w' := by
  obtain ⟨W0, hW0⟩ : ∃ W0, w.alloc (.cells #[.int .i64 0, .int .i64 0, .int .i64 0] 66) = W0 := ⟨_, rfl⟩
  have m0 : Mod none_ w W0 := by rw [← hW0]; exact (Mod.refl none_ w).alloc _
  have k0 : Blk W0 w.heap.size [.int .i64 0, .int .i64 0, .int .i64 0] 66 := by
    rw [← hW0]
    exact Blk.new (w := w) (cs := [.int .i64 0, .int .i64 0, .int .i64 0]) (t := 66)
  have c0 := k0.cell 0
  have c1 := k0.cell 1
  have c2 := k0.cell 2
  simp only [List.getElem?_cons_zero, List.getElem?_cons_succ] at c0 c1 c2
  have f0 := k0.frozen 0
  have f1 := k0.frozen 1
  have f2 := k0.frozen 2
  have KF := Lib.hid (((k0.set 0 (.int .i64 0)).set 1 (.int .i64 0)).set 2 (.int .i64 0))
  have MF := Lib.hid (((m0.setCell ⟨w.heap.size, 0, none⟩ (fun h => absurd h (by simp)) (.int .i64 0)).setCell ⟨w.heap.size, 1, none⟩ (fun h => absurd h (by simp)) (.int .i64 0)).setCell ⟨w.heap.size, 2, none⟩ (fun h => absurd h (by simp)) (.int .i64 0))
  clear k0 m0
  go_enter Tryd.func32, Tryd.ntmps32
  go_upto_region 1 with fail
  clear hW0
  go_wp2_with fail
  exact bodyPost_ret (results_mkt rfl _ _ w.heap.size [.int .i64 0, .int .i64 0, .int .i64 0] rfl rfl (blk_range KF.out)) rfl ⟨rfl, MF.out⟩

set_option maxHeartbeats 4000000 in
set_option maxRecDepth 1000000 in
theorem shown_nil (w : World) (s a t : Int) : Calls Tryd.prog 36 #[.pointer none, .agg #[.int .i64 s, .int .i64 a, .int .i64 t]] w fun e w' => e = .returned (.tuple #[.int .i64 0, .int .i64 0, .int .i64 1]) ∧ Mod none_ w w' := by
  obtain ⟨W0, hW0⟩ : ∃ W0, w.alloc (.cells #[.int .i64 s, .int .i64 a, .int .i64 t] 66) = W0 := ⟨_, rfl⟩
  have m0 : Mod none_ w W0 := by rw [← hW0]; exact (Mod.refl none_ w).alloc _
  have k0 : Blk W0 w.heap.size [.int .i64 s, .int .i64 a, .int .i64 t] 66 := by
    rw [← hW0]
    exact Blk.new (w := w) (cs := [.int .i64 s, .int .i64 a, .int .i64 t]) (t := 66)
  have c0 := k0.cell 0
  have c1 := k0.cell 1
  have c2 := k0.cell 2
  simp only [List.getElem?_cons_zero, List.getElem?_cons_succ] at c0 c1 c2
  have M0 := Lib.hid m0
  clear m0 k0
  go_enter Tryd.func36, Tryd.ntmps36
  go_upto_region 1 with fail
  clear hW0
  refine wp_region_held_drew (S := fun w' => Mod none_ W0 w') (by kernel_rfl) (Mod.drew (Mod.refl none_ W0)) (fun hS => ?_)
  refine wpAnyH_take (i := 0) (v := .pointer none) rfl (by kernel_rfl) (by kernel_rfl) (by kernel_rfl) (fun _ _ _ h => h) (Or.inl ⟨by kernel_rfl, ?_⟩) hS ?_
  · rintro w' q0; go_simp
  try simp only [Act.put, List.setIfInBounds_toArray]
  refine wpAnyH_take (i := 1) (v := .bool true) rfl (by kernel_rfl) (by kernel_rfl) (by kernel_rfl) (fun _ _ _ h => h) (Or.inl ⟨by kernel_rfl, ?_⟩) hS ?_
  · rintro w' q0; go_simp
  try simp only [Act.put]
  refine wpAnyH_take (i := 2) (v := .bool true) rfl (by kernel_rfl) (by kernel_rfl) (by kernel_rfl) (fun _ _ _ h => h) (Or.inl ⟨by kernel_rfl, ?_⟩) hS ?_
  · rintro w' q0; go_simp
  try simp only [Act.put]
  refine wpAnyH_take (i := 3) (v := undef) rfl (by kernel_rfl) (by kernel_rfl) (by kernel_rfl) (fun _ _ _ h => h) (Or.inr ⟨by kernel_rfl, rfl⟩) hS ?_
  try simp only [Act.put]
  refine wpAnyH_take (i := 4) (v := undef) rfl (by kernel_rfl) (by kernel_rfl) (by kernel_rfl) (fun _ _ _ h => h) (Or.inr ⟨by kernel_rfl, rfl⟩) hS ?_
  try simp only [Act.put]
  refine wpAnyH_take (i := 5) (v := undef) rfl (by kernel_rfl) (by kernel_rfl) (by kernel_rfl) (fun _ _ _ h => h) (Or.inr ⟨by kernel_rfl, rfl⟩) hS ?_
  try simp only [Act.put]
  refine wpAnyH_take (i := 6) (v := undef) rfl (by kernel_rfl) (by kernel_rfl) (by kernel_rfl) (fun _ _ _ h => h) (Or.inr ⟨by kernel_rfl, rfl⟩) hS ?_
  try simp only [Act.put]
  refine wpAnyH_take (i := 7) (v := undef) rfl (by kernel_rfl) (by kernel_rfl) (by kernel_rfl) (fun _ _ _ h => h) (Or.inr ⟨by kernel_rfl, rfl⟩) hS ?_
  try simp only [Act.put]
  refine wpAnyH_take (i := 8) (v := .bool true) rfl (by kernel_rfl) (by kernel_rfl) (by kernel_rfl) (fun _ _ _ h => h) (Or.inl ⟨by kernel_rfl, ?_⟩) hS ?_
  · rintro w' q0; go_simp
  try simp only [Act.put]
  refine wpAnyH_done (by kernel_rfl) ?_ _
  try simp only [List.getElem_toArray, List.getElem_cons_succ, List.getElem_cons_zero]
  try simp only [List.setIfInBounds_toArray, List.set_cons_zero, List.set_cons_succ]
  have M1 := Lib.hid (M0.out.trans hS)
  clear hS c0 c1 c2
  go_wp2_with fail
  exact bodyPost_ret (results_tmp3 rfl _ _ _) rfl ⟨rfl, M1.out⟩
end Go.Proofs.YtlbkalbelefhmaaDoor

namespace Go.Proofs.YtlbkalbelefhmaaDoor
open Go.RowKit Go.Shelf Go.Mine Go.Maps
open Classical
attribute [local go_sem] Oper.semAt_some
attribute [local go_sem ↓] app_fold

/-- What Drop leaves. -/
def DropTo (w : World) (S : Nat → Prop) (D : Nat) (sp : List (Int × Int)) (l : List CellV) (e : Ending) (w' : World) : Prop :=
  e = .returned (.int .i64 (dropE sp l)) ∧ Mod S w w' ∧ DocS w' (grew S w w') D (dropL sp l)

theorem results_er {fn : Func} {p : Tmp} (h : fn.results = #[.cell p 28]) (tmps : Array Value) (w : World) (g : Nat) (n : Int) (hp : tmps.getD p undef = .pointer (some ⟨g, 0, none⟩)) (hr : w.cell? ⟨g, 0, none⟩ = some (.int .i64 n)) :
    (results fn tmps).run Tryd.prog w = .ok (.int .i64 n) w := by
  have hp' : tmps[p]?.getD undef = .pointer (some ⟨g, 0, none⟩) := by simpa using hp
  simp [results, h, hp', go_sem, hr]

set_option maxHeartbeats 16000000 in
set_option maxRecDepth 1000000 in
theorem drop_any (w : World) (S : Nat → Prop) (D : Nat) (l : List CellV) (sa : Option Addr) (slen scap : Nat) (sp : List (Int × Int)) (h : DocS w S D l) (hlen : l.length ≤ 20000) (hok : ∀ c ∈ l, c.ok) (hs : IsSpans w sa slen scap sp) (hfar : ∀ b off, sa = some ⟨b, off, none⟩ → 0 < slen → ¬ S b) :
    Calls Tryd.prog 21 #[.pointer (some ⟨D, 0, none⟩), .slice sa slen scap] w (DropTo w S D sp l) := by
  have hsle := hs.le
  have hscap := hs.big
  unfold maxLen at hscap
  obtain ⟨W0, hW0⟩ : ∃ W0, (w.alloc (.cells #[.slice sa slen scap] 34)).alloc (.cells #[.int .i64 0] 28) = W0 := ⟨_, rfl⟩
  have m0 : Mod none_ w W0 := by rw [← hW0]; exact ((Mod.refl none_ w).alloc _).alloc _
  have kX : Blk W0 w.heap.size [.slice sa slen scap] 34 := by
    rw [← hW0]
    exact (Blk.new (w := w) (cs := [.slice sa slen scap]) (t := 34)).mod ((Mod.refl none_ _).alloc _) (fun e => e)
  have kE : Blk W0 (w.heap.size + 1) [.int .i64 0] 28 := by
    have := Blk.new (w := w.alloc (.cells #[.slice sa slen scap] 34)) (cs := [.int .i64 0]) (t := 28)
    rw [World.size_alloc] at this
    rw [← hW0]
    exact this
  have hz0 : W0.heap.size = w.heap.size + 2 := by rw [← hW0]; simp
  have HM := Lib.hid (spansMay_any W0 sa slen scap sp (hs.grown m0))
  have HS := Lib.hid hs
  have HD := Lib.hid h
  have HOK := Lib.hid hok
  have HFAR := Lib.hid hfar
  have HN := Lib.hid hs.n
  have M0 := Lib.hid m0
  have KX := Lib.hid kX
  have KE := Lib.hid kE
  have HZ0 := Lib.hid hz0
  obtain ⟨E, hE⟩ : ∃ E, E = dropE sp l := ⟨_, rfl⟩
  have HE := Lib.hid hE
  have c0 : W0.cell? ⟨w.heap.size, 0, none⟩ = some (.slice sa slen scap) := kX.cell 0
  have e0 : W0.cell? ⟨w.heap.size + 1, 0, none⟩ = some (.int .i64 0) := kE.cell 0
  -- a refusal: the answer er laid in the result's cell, nothing else changed
  have REF := Lib.hid (fun (er : Int) (her : dropE sp l = er) (hne : er ≠ 0) (W' : World) (m : Mod none_ W0 W') (n : Nat → Prop) => (show DropTo w S D sp l (.returned (.int .i64 er)) (W'.setCell ⟨w.heap.size + 1, 0, none⟩ (.int .i64 er)) from by
    have mm : Mod none_ w (W'.setCell ⟨w.heap.size + 1, 0, none⟩ (.int .i64 er)) := (m0.trans m).setCell _ (fun h => absurd h (by simp)) _
    refine ⟨by rw [her], mm.mono (fun _ _ e => e.elim), ?_⟩
    unfold dropL
    rw [if_neg (by rw [her]; exact hne)]
    exact (h.grown mm).mono (fun k _ hk => .inl hk)))
  have KER := Lib.hid (fun (er : Int) (W' : World) (m : Mod none_ W0 W') => (show (W'.setCell ⟨w.heap.size + 1, 0, none⟩ (.int .i64 er)).cell? ⟨w.heap.size + 1, 0, none⟩ = some (.int .i64 er) from ((kE.mod m (fun e => e)).set 0 (.int .i64 er)).cell 0))
  clear hs h hok hfar m0 kX kE hE hz0
  refine (callsIn_wide (n := 5)).1 ?_
  refine callsIn_of_wp_marks Tryd.func21 rfl trivial ?_ rfl
  refine wpIn_wide.2 (Code.wp_mono (Q := calmPost _) calmPost.out ?_)
  simp only [Tryd.ntmps21, List.size_toArray, List.length_cons, List.length_nil, Nat.reduceAdd, Nat.reduceSub, Array.replicate_succ, Array.replicate_zero, List.push_toArray, List.append_toArray, List.nil_append, List.cons_append]
  go_upto_region 1 with fail
  clear hW0
  go_wp2_with fail
  refine HM.out.mono ?_
  rintro e W1 ⟨rfl, m1⟩
  have M1 := Lib.hid m1
  have KX1 := KX.out.mod m1 (fun e => e)
  have KE1 := KE.out.mod m1 (fun e => e)
  clear c0 e0 HM
  have c0 : W1.cell? ⟨w.heap.size, 0, none⟩ = some (.slice sa slen scap) := KX1.cell 0
  have e0 : W1.cell? ⟨w.heap.size + 1, 0, none⟩ = some (.int .i64 0) := KE1.cell 0
  have r0 := KE1.frozen 0
  cases hso : spansOk sp
  case false =>
    have R1 := Lib.hid (REF.out 1 (by unfold dropE; rw [hso]; rfl) (by decide) W1 m1 none_)
    have R2 := Lib.hid (KER.out 1 W1 m1)
    clear m1 KX1 KE1
    go_wp2_with fail
    exact ⟨_, results_er rfl _ _ _ _ rfl R2.out, R1.out⟩
  have HSO := Lib.hid hso
  clear hso m1
  go_upto_region 4 with fail
  obtain ⟨KK, hKK⟩ : ∃ KK : Int, KK = (slen : Int) - 1 := ⟨_, rfl⟩
  rw [← hKK]
  have HKK := Lib.hid hKK
  clear hKK
  go_cut [42] from 25 to 42 (fun s42 wx => s42 = .bool (decide ((l.length : Int) < endS sp)) ∧ Mod none_ W1 wx)
  case first =>
    rcases Nat.eq_zero_or_pos slen with hn0 | hn0
    · have hsp0 : sp = [] := List.eq_nil_of_length_eq_zero (by rw [HN.out]; exact hn0)
      have hen : decide ((l.length : Int) < endS sp) = false := by rw [hsp0, show endS [] = 0 from rfl]; simp
      obtain rfl : KK = -1 := by have := HKK.out; omega
      have HEN := Lib.hid hen
      clear KX1 KE1 e0 r0 hn0 hsp0 hen
      refine wp_region_held_drew (S := fun w' => Mod none_ W1 w' ∧ w'.cell? ⟨w.heap.size, 0, none⟩ = some (.slice sa slen scap)) (by kernel_rfl) ⟨Mod.drew (Mod.refl none_ W1), c0⟩ (fun hS => ?_)
      refine wpAnyH_take (i := 0) (v := .int .i64 (-1)) rfl (by kernel_rfl) (by kernel_rfl) (by kernel_rfl) (fun _ _ _ h => h) (Or.inl ⟨by kernel_rfl, ?_⟩) hS ?_
      · rintro w' ⟨_, q0⟩; go_simp
      try simp only [Act.put, List.setIfInBounds_toArray]
      refine wpAnyH_take (i := 1) (v := .bool false) rfl (by kernel_rfl) (by kernel_rfl) (by kernel_rfl) (fun _ _ _ h => h) (Or.inl ⟨by kernel_rfl, ?_⟩) hS ?_
      · rintro w' ⟨_, q0⟩; go_simp
      try simp only [Act.put]
      refine wpAnyH_take (i := 2) (v := .bool false) rfl (by kernel_rfl) (by kernel_rfl) (by kernel_rfl) (fun _ _ _ h => h) (Or.inl ⟨by kernel_rfl, ?_⟩) hS ?_
      · rintro w' ⟨_, q0⟩; go_simp
      try simp only [Act.put]
      refine wpAnyH_take (i := 3) (v := undef) rfl (by kernel_rfl) (by kernel_rfl) (by kernel_rfl) (fun _ _ _ h => h) (Or.inr ⟨by kernel_rfl, rfl⟩) hS ?_
      try simp only [Act.put]
      refine wpAnyH_take (i := 4) (v := undef) rfl (by kernel_rfl) (by kernel_rfl) (by kernel_rfl) (fun _ _ _ h => h) (Or.inr ⟨by kernel_rfl, rfl⟩) hS ?_
      try simp only [Act.put]
      refine wpAnyH_take (i := 5) (v := undef) rfl (by kernel_rfl) (by kernel_rfl) (by kernel_rfl) (fun _ _ _ h => h) (Or.inr ⟨by kernel_rfl, rfl⟩) hS ?_
      try simp only [Act.put]
      refine wpAnyH_take (i := 6) (v := undef) rfl (by kernel_rfl) (by kernel_rfl) (by kernel_rfl) (fun _ _ _ h => h) (Or.inr ⟨by kernel_rfl, rfl⟩) hS ?_
      try simp only [Act.put]
      refine wpAnyH_take (i := 7) (v := undef) rfl (by kernel_rfl) (by kernel_rfl) (by kernel_rfl) (fun _ _ _ h => h) (Or.inr ⟨by kernel_rfl, rfl⟩) hS ?_
      try simp only [Act.put]
      refine wpAnyH_take (i := 8) (v := undef) rfl (by kernel_rfl) (by kernel_rfl) (by kernel_rfl) (fun _ _ _ h => h) (Or.inr ⟨by kernel_rfl, rfl⟩) hS ?_
      try simp only [Act.put]
      refine wpAnyH_take (i := 9) (v := undef) rfl (by kernel_rfl) (by kernel_rfl) (by kernel_rfl) (fun _ _ _ h => h) (Or.inr ⟨by kernel_rfl, rfl⟩) hS ?_
      try simp only [Act.put]
      refine wpAnyH_take (i := 10) (v := undef) rfl (by kernel_rfl) (by kernel_rfl) (by kernel_rfl) (fun _ _ _ h => h) (Or.inr ⟨by kernel_rfl, rfl⟩) hS ?_
      try simp only [Act.put]
      refine wpAnyH_take (i := 11) (v := undef) rfl (by kernel_rfl) (by kernel_rfl) (by kernel_rfl) (fun _ _ _ h => h) (Or.inr ⟨by kernel_rfl, rfl⟩) hS ?_
      try simp only [Act.put]
      refine wpAnyH_take (i := 12) (v := undef) rfl (by kernel_rfl) (by kernel_rfl) (by kernel_rfl) (fun _ _ _ h => h) (Or.inr ⟨by kernel_rfl, rfl⟩) hS ?_
      try simp only [Act.put]
      refine wpAnyH_take (i := 13) (v := undef) rfl (by kernel_rfl) (by kernel_rfl) (by kernel_rfl) (fun _ _ _ h => h) (Or.inr ⟨by kernel_rfl, rfl⟩) hS ?_
      try simp only [Act.put]
      refine wpAnyH_take (i := 14) (v := undef) rfl (by kernel_rfl) (by kernel_rfl) (by kernel_rfl) (fun _ _ _ h => h) (Or.inr ⟨by kernel_rfl, rfl⟩) hS ?_
      try simp only [Act.put]
      refine wpAnyH_take (i := 15) (v := undef) rfl (by kernel_rfl) (by kernel_rfl) (by kernel_rfl) (fun _ _ _ h => h) (Or.inr ⟨by kernel_rfl, rfl⟩) hS ?_
      try simp only [Act.put]
      refine wpAnyH_take (i := 16) (v := undef) rfl (by kernel_rfl) (by kernel_rfl) (by kernel_rfl) (fun _ _ _ h => h) (Or.inr ⟨by kernel_rfl, rfl⟩) hS ?_
      try simp only [Act.put]
      refine wpAnyH_take (i := 17) (v := .bool false) rfl (by kernel_rfl) (by kernel_rfl) (by kernel_rfl) (fun _ _ _ h => h) (Or.inl ⟨by kernel_rfl, ?_⟩) hS ?_
      · rintro w' ⟨_, q0⟩; go_simp
      try simp only [Act.put]
      refine wpAnyH_done (by kernel_rfl) ?_ _
      try simp only [List.getElem_toArray, List.getElem_cons_succ, List.getElem_cons_zero]
      try simp only [List.setIfInBounds_toArray, List.set_cons_zero, List.set_cons_succ]
      go_wp2_with fail
      go_meet
      case rel => exact ⟨by rw [HEN.out], Mod.drew (Mod.refl none_ W1)⟩
    · obtain ⟨n1, hn1⟩ : ∃ n1, slen = n1 + 1 := ⟨slen - 1, by omega⟩
      obtain ⟨x, hx⟩ : ∃ x, sp[n1]? = some x := ⟨sp[n1]'(by rw [HN.out]; omega), by simp⟩
      have hen : endS sp = x.1 + x.2 := by
        unfold endS
        rw [List.getLast?_eq_getElem?, HN.out, hn1]
        simp [hx]
      have hfit := ok_fits sp (-1) HSO.out x (List.mem_of_getElem? hx)
      obtain ⟨b, off, hsa, c1, c2⟩ := (HS.out.grown (M0.out.trans M1.out)).cells n1 x hx
      have hD1 := HD.out.grown (M0.out.trans M1.out)
      have HEN := Lib.hid hen
      obtain rfl : KK = (n1 : Int) := by have := HKK.out; omega
      have hix2 : n1 < slen := by omega
      have hwx : IntKind.i64.wrap (x.1 + x.2) = x.1 + x.2 := by rw [IntKind.wrap_i64]; omega
      have hix3 : ¬ (slen ≤ n1) := by omega
      subst hsa
      clear KX1 KE1 e0 r0 hn0 hn1 hx hen
      go_region_held3 (fun w' => Mod none_ W1 w' ∧ w'.cell? ⟨w.heap.size, 0, none⟩ = some (.slice (some ⟨b, off, none⟩) slen scap) ∧ w'.cell? ⟨b, off + n1 * 2, none⟩ = some (.int .i64 x.1) ∧ w'.cell? ⟨b, off + n1 * 2 + 1, none⟩ = some (.int .i64 x.2))
        (first
          | exact ⟨Mod.drew (Mod.refl none_ W1), c0, c1, c2⟩
          | assumption
          | (obtain ⟨q, q0, q1, q2⟩ := ‹Mod none_ W1 _ ∧ _›; exact ⟨q.trans m1, m1.cell (fun e => e) q0, m1.cell (fun e => e) q1, m1.cell (fun e => e) q2⟩))
        (first
          | (go_at_call 18; refine (size_any _ 0 D l ((hD1.grown (And.left (by assumption))).is) (by omega)).mono ?_; rintro e w2 ⟨rfl, m1⟩))
      go_wp2_with fail
      go_meet
      case rel => exact ⟨by rw [HEN.out], And.left (by assumption)⟩
  case rest =>
    obtain ⟨rfl, hm2⟩ := hcut
    have M2 := Lib.hid (M1.out.trans hm2)
    have KX2 := KX1.mod hm2 (fun e => e)
    have KE2 := KE1.mod hm2 (fun e => e)
    clear c0 e0 r0 hm2 KX1 KE1
    have c0 : wc.cell? ⟨w.heap.size, 0, none⟩ = some (.slice sa slen scap) := KX2.cell 0
    have e0 : wc.cell? ⟨w.heap.size + 1, 0, none⟩ = some (.int .i64 0) := KE2.cell 0
    have r0 := KE2.frozen 0
    cases hend : decide ((l.length : Int) < endS sp)
    case true =>
      have R1 := Lib.hid (REF.out 1 (by unfold dropE; rw [HSO.out]; simp at hend; simp [hend]) (by decide) wc M2.out none_)
      have R2 := Lib.hid (KER.out 1 wc M2.out)
      clear KX2 KE2
      go_wp2_with fail
      exact ⟨_, results_er rfl _ _ _ _ rfl R2.out, R1.out⟩
    have HEND := Lib.hid (show ¬ (l.length : Int) < endS sp by simp at hend; omega)
    clear hend
    go_wp2_with fail
    obtain ⟨v, MB, bl, hv, hnm, hl, hf, hmb, hne⟩ := HD.out.ex
    subst hl
    have mwc : Mod none_ w wc := M0.out.trans M2.out
    have hvc := hv.grown mwc
    have HV := Lib.hid hv
    have HVC := Lib.hid hvc
    have HNM := Lib.hid (hnm.mod mwc (fun e => e))
    have HF := Lib.hid hf
    have HMB := Lib.hid hmb
    have HNE := Lib.hid hne
    have MWC := Lib.hid mwc
    have KX3 := Lib.hid KX2
    have KE3 := Lib.hid KE2
    have hXlt : w.heap.size < wc.heap.size := KX2.lt
    have hElt : w.heap.size + 1 < wc.heap.size := KE2.lt
    clear hv hnm hf hmb hne mwc hvc KX2 KE2
    refine (each_any D _).mono ?_
    rintro e w2 ⟨rfl, rfl⟩
    go_wp2_with fail
    obtain ⟨WB, hWB⟩ : ∃ WB, wc.alloc (.cells #[.pointer (some ⟨D, 0, none⟩)] 27) = WB := ⟨_, rfl⟩
    have hzB : WB.heap.size = wc.heap.size + 1 := by rw [← hWB]; simp
    have hI0 : Mod none_ wc WB ∧ Blk WB wc.heap.size [.pointer (some ⟨D, 0, none⟩)] 27 ∧ hitFrom sp 0 ((cellsOf bl).take 0) = false := by
      rw [← hWB]
      exact ⟨(Mod.refl none_ wc).alloc _, Blk.new, rfl⟩
    rw [hWB]
    clear hWB c0 e0 r0
    refine wpIn_wide.1 (?_ : Code.wpIn Fence.wide 5 _ _ _ _ _)
    refine rangeFunc_upd (fun t x => (((t.setIfInBounds 45 (.int .i64 (x.p : Int))).setIfInBounds 46 (.pointer (some ⟨x.g, x.i * 5, none⟩))).setIfInBounds 6 (.int .i64 (x.p : Int))).setIfInBounds 7 (.pointer (some ⟨x.g, x.i * 5, none⟩))) rfl (by decide) (gf := 71) (lb := #[.pointer (some ⟨wc.heap.size, 0, none⟩)]) rfl trivial (enters_of Tryd.func71 (by kernel_rfl) rfl)
      CPos.enc (fun _ => rfl) (fun st W => Mod none_ wc W ∧ Blk W wc.heap.size [.pointer (some ⟨D, 0, none⟩)] 27 ∧ hitFrom sp 0 ((cellsOf bl).take st) = false) (fun c _ W => c = .ret ∧ hitFrom sp 0 (cellsOf bl) = true ∧ Mod (one (w.heap.size + 1)) wc W ∧ Blk W (w.heap.size + 1) [.int .i64 13] 28) (fun st _ => st + 1) (fun st x => x.p = st ∧ x.at_ bl) (fun st => st = (cellsOf bl).length) 0 ?hI ?hIx hI0 ?hiter ?assign ?body ?done ?stop
    case hI =>
      rintro st W W' ⟨m0, kb, hh⟩ m
      exact ⟨m0.transOwn m (by omega), kb.own m, hh⟩
    case hIx =>
      rintro c st W W' ⟨h1, h2, m0, k1⟩ m
      exact ⟨h1, h2, m0.transIn m (fun b hb e => absurd e.1 (by omega)), k1.own m⟩
    case hiter =>
      intro l' J Jx W hJI hJ hY h0
      refine (each1_any (5 - 1) D MB _ v bl (by omega) (fun st W => Mod none_ wc W ∧ Blk W wc.heap.size [.pointer (some ⟨D, 0, none⟩)] 27 ∧ hitFrom sp 0 ((cellsOf bl).take st) = false) (fun i W h => ⟨h.2.1, HVC.out.grown h.1⟩) l' J Jx W hJI hY h0).mono ?_
      rintro e W' ⟨h1, h2 | h2⟩
      · exact ⟨h1, .inl ⟨_, rfl, h2⟩⟩
      · exact ⟨h1, .inr h2⟩
    case assign =>
      intro l' x W K hK
      unfold CPos.enc
      gi_wp2
      exact hK
    case body =>
      rintro l' st x W ⟨m0, kb, hh⟩ ⟨rfl, hx⟩
      obtain ⟨c, hc, hcs⟩ := CPos.get (HVC.out.grown m0) hx
      have hlt := (List.getElem?_eq_some_iff.1 hc).1
      have htk : (cellsOf bl).take (x.p + 1) = (cellsOf bl).take x.p ++ [c] := by
        rw [List.take_succ_eq_append_getElem hlt, (List.getElem?_eq_some_iff.1 hc).2]
      have hst : hitFrom sp 0 ((cellsOf bl).take (x.p + 1)) = (!c.gone && hasPl sp x.p) := by
        rw [htk, hitFrom_append, hh, hitFrom_one, List.length_take, Nat.min_eq_left (by omega)]; simp
      have hall : hitFrom sp 0 ((cellsOf bl).take (x.p + 1)) = true → hitFrom sp 0 (cellsOf bl) = true := fun ht => by
        have : cellsOf bl = (cellsOf bl).take (x.p + 1) ++ (cellsOf bl).drop (x.p + 1) := (List.take_append_drop _ _).symm
        rw [this, hitFrom_append, ht]; rfl
      have x4 : W.cell? ⟨x.g, x.i * 5 + 4, none⟩ = some (.bool c.gone) := hcs 4 (by omega)
      have c0 : W.cell? ⟨w.heap.size, 0, none⟩ = some (.slice sa slen scap) := (KX3.out.mod m0 (fun e => e)).cell 0
      have kE := KE3.out.mod m0 (fun e => e)
      have e0 : W.cell? ⟨w.heap.size + 1, 0, none⟩ = some (.int .i64 0) := kE.cell 0
      have r0 := kE.frozen 0
      have HH := Lib.hid (has_any W sa slen scap sp x.p ((HS.out.grown MWC.out).grown m0) HSO.out)
      have ALL := Lib.hid hall
      have M0' := Lib.hid m0
      have KB' := Lib.hid kb
      have KE' := Lib.hid kE
      simp only [List.setIfInBounds_toArray, List.set_cons_zero, List.set_cons_succ]
      cases hg : c.gone
      · rw [hg] at x4 hst
        cases hp : hasPl sp x.p
        · rw [hp] at HH hst
          have HT := Lib.hid (show hitFrom sp 0 ((cellsOf bl).take (x.p + 1)) = false by rw [hst]; rfl)
          clear hI0 hx hc hcs hlt htk hall hst hh m0 kb kE
          gi_wp2_with fail
          refine ⟨trivial, ?_⟩
          refine (CallsIn.inRound l' (callsIn_wide.2 HH.out)).mono ?_
          rintro e w3 ⟨rfl, m3⟩
          have FIN := Lib.hid (show KeepsOthers W w3 ∧ Mod none_ wc w3 ∧ Blk w3 wc.heap.size [.pointer (some ⟨D, 0, none⟩)] 27 ∧ hitFrom sp 0 ((cellsOf bl).take (x.p + 1)) = false from ⟨keeps_none m3, M0'.out.trans m3, KB'.out.mod m3 (fun e => e), HT.out⟩)
          clear m3
          gi_wp2_with fail
          exact FIN.out
        · rw [hp] at HH hst
          have HT := Lib.hid (show hitFrom sp 0 (cellsOf bl) = true from hall (by rw [hst]; rfl))
          clear hI0 hx hc hcs hlt htk hall hst hh m0 kb kE
          gi_wp2_with fail
          refine ⟨trivial, ?_⟩
          refine (CallsIn.inRound l' (callsIn_wide.2 HH.out)).mono ?_
          rintro e w3 ⟨rfl, m3⟩
          have k3 := KE'.out.mod m3 (fun e => e)
          have e3 : w3.cell? ⟨w.heap.size + 1, 0, none⟩ = some (.int .i64 0) := k3.cell 0
          have r3 := k3.frozen 0
          have FIN := Lib.hid (show KeepsOthers W (w3.setCell ⟨w.heap.size + 1, 0, none⟩ (.int .i64 13)) ∧ hitFrom sp 0 (cellsOf bl) = true ∧ Mod (one (w.heap.size + 1)) wc (w3.setCell ⟨w.heap.size + 1, 0, none⟩ (.int .i64 13)) ∧ Blk (w3.setCell ⟨w.heap.size + 1, 0, none⟩ (.int .i64 13)) (w.heap.size + 1) [.int .i64 13] 28 from
            ⟨(keeps_none m3).trans (KeepsOthers.setCell _ _ _), HT.out, (((M0'.out.trans m3).mono (T := one (w.heap.size + 1)) (fun _ _ e => e.elim)).setCell ⟨w.heap.size + 1, 0, none⟩ (fun _ => rfl) _), k3.set 0 _⟩)
          clear m3 k3
          gi_wp2_with fail
          exact ⟨FIN.out.1, rfl, FIN.out.2⟩
      · rw [hg] at x4 hst
        have FIN := Lib.hid (show KeepsOthers W W ∧ Mod none_ wc W ∧ Blk W wc.heap.size [.pointer (some ⟨D, 0, none⟩)] 27 ∧ hitFrom sp 0 ((cellsOf bl).take (x.p + 1)) = false from ⟨KeepsOthers.refl _, m0, kb, by rw [hst]; rfl⟩)
        clear hI0 hx hc hcs hlt htk hall hst hh m0 kb kE
        gi_wp2_with fail
        refine ⟨trivial, ?_⟩
        gi_wp2_with fail
        exact FIN.out
    case stop =>
      rintro Dd c st W ⟨rfl, hh, m0, k1⟩ hD hlt
      have mP := loopOwn_put (B := WB.heap.size) (.deferred none) hlt hD rfl
      have R2 := Lib.hid ((k1.own mP).cell 0)
      have MR := Lib.hid (m0.transIn mP (fun b hb e => absurd e.1 (by omega)))
      have HH := Lib.hid hh
      clear m0 k1 mP hh hI0
      gi_wp2_with fail
      refine ⟨by simp, .inl ⟨_, _, rfl, run_takeDeferred hD, ?_⟩⟩
      refine ⟨_, results_er rfl _ _ _ _ rfl R2.out, ?_⟩
      have mw : Mod none_ w (W.putObj Dd (.deferred none)) := MWC.out.transIn MR.out (fun b hb e => by have e' : b = w.heap.size + 1 := e; omega)
      have hde : dropE sp (cellsOf bl) = 13 := by unfold dropE; rw [if_pos HSO.out, if_neg (by have := HEND.out; omega), if_pos HH.out]
      refine ⟨by rw [hde], mw.mono (fun _ _ e => e.elim), ?_⟩
      unfold dropL
      rw [if_neg (by rw [hde]; decide)]
      exact (HD.out.grown mw).mono (fun k _ hk => .inl hk)
    case done =>
      rintro Df st W rfl ⟨m0, kb, hh⟩ hDf hlt
      rw [List.take_length] at hh
      have hvW := HVC.out.grown m0
      have hnW := HNM.out.mod m0 (fun e => e)
      have hnf := foot_names hvW hnW
      have hspf : SpF W (fun b => foot D v bl b ∨ b = MB) sa slen scap sp := ⟨(HS.out.grown MWC.out).grown m0, fun b off e hp hb => HFAR.out b off e hp (by
        rcases hb with hb | rfl
        · exact HF.out b hb
        · exact HMB.out)⟩
      have kXW := KX3.out.mod m0 (fun e => e)
      have kEW := KE3.out.mod m0 (fun e => e)
      have notT : ∀ (b : Nat) (cs : List Value) (t : TypeId), Blk W b cs t → t ≠ 91 → t ≠ 95 → t ≠ 107 → t ≠ 63 → ¬ (foot D v bl b ∨ b = MB) := by
        rintro b cs t hb h1 h2 h3 h4 (hk | rfl)
        · obtain ⟨cs', t', hb', ht'⟩ := foot_blk hvW hk
          unfold Blk at hb hb'
          rw [hb] at hb'
          cases hb'
          rcases ht' with h | h | h | h
          · exact h1 h
          · exact h2 h
          · exact h3 h
          · exact h4 h
        · obtain ⟨mm, nn, im, _⟩ := hnW
          exact imap_blk im hb
      have nfX := notT _ _ _ kXW (by decide) (by decide) (by decide) (by decide)
      have nfE := notT _ _ _ kEW (by decide) (by decide) (by decide) (by decide)
      have nfD : ¬ (foot D v bl Df ∨ Df = MB) := by
        rintro (hk | rfl)
        · obtain ⟨cs', t', hb', _⟩ := foot_blk hvW hk
          unfold Blk at hb'
          rw [hDf] at hb'; cases hb'
        · obtain ⟨mm, nn, ⟨es, clock, hb', _⟩, _⟩ := hnW
          rw [hDf] at hb'; cases hb'
      obtain ⟨va, vc, hvf, hvc1, hvc2⟩ := hvW.form
      unfold maxLen at hvc2
      subst hvf
      have hbl : bl.length ≤ 20000 := Nat.le_trans (bl_len HNE.out) hlen
      have DI0 := Lib.hid (show DrpI W D MB (.slice va bl.length vc) bl sp 0 [] W from ⟨by simpa using hvW, rfl, rfl, by simpa using hnW, Mod.refl _ _, fun b hb => .inl (by simpa using hb)⟩)
      have cd : W.cell? ⟨D, 0, none⟩ = some (.slice va bl.length vc) := hvW.doc.cell 0
      have MW := Lib.hid (MWC.out.trans m0)
      have HVW := Lib.hid hvW
      have HNF := Lib.hid hnf
      have SPF := Lib.hid hspf
      have KXW := Lib.hid kXW
      have KEW := Lib.hid kEW
      have NFX := Lib.hid nfX
      have NFE := Lib.hid nfE
      have NFD := Lib.hid nfD
      have HDF := Lib.hid hDf
      have HH := Lib.hid hh
      have HW := Lib.hid hlt
      have hzw : w.heap.size + 1 < W.heap.size := kEW.lt
      have HZW := Lib.hid (show w.heap.size + 2 ≤ WB.heap.size from by omega)
      clear hvW hnW hnf hspf kXW kEW notT nfX nfE nfD hDf hh m0 kb hI0 hlt
      go_wp2_with fail
      go_loopg [8, 62] bl.length (fun g s8 s62 wx => ∃ (k : Nat) (bl' : List BV), g = bl.length - k ∧ s8 = .int .i64 ((cellsOf (bl.take k)).length : Int) ∧ s62 = .int .i64 k ∧ k ≤ bl.length ∧ RowKit.Hid (DrpI W D MB (.slice va bl.length vc) bl sp k bl' wx))
      case atStart => exact ⟨0, [], rfl, rfl, rfl, Nat.zero_le _, DI0⟩
      case round =>
        obtain ⟨k, bl', rfl, rfl, rfl, hk, hst⟩ := hrel
        obtain ⟨wo, rfl⟩ : ∃ wo, wo = wr := ⟨_, rfl⟩
        have KXO := Lib.hid (KXW.out.mod hst.out.m NFX.out)
        have KEO := Lib.hid (KEW.out.mod hst.out.m NFE.out)
        have HDFO := Lib.hid (hst.out.m.blk NFD.out HDF.out)
        by_cases hlk : k < bl.length
        · obtain ⟨x, hx⟩ : ∃ x, bl[k]? = some x := ⟨bl[k]'hlk, by simp⟩
          have hdx := hst.out.doc
          have hxk : (bl' ++ bl.drop k)[k]? = some x := by
            rw [List.getElem?_append_right (by rw [hst.out.len]; exact Nat.le_refl _), hst.out.len, Nat.sub_self, List.getElem?_drop]
            simpa using hx
          have hxm := List.mem_of_getElem? hxk
          have hdx' : DocV wo D (.slice va bl.length vc) MB (bl' ++ bl.drop k) := hdx
          obtain ⟨g, hva, ck⟩ := hdx'.at_ hxk
          subst hva
          have hbx := hdx.blk x hxm
          have b0 : wo.cell? ⟨x.p, 0, none⟩ = some (.int .i64 (x.c.length : Int)) := hbx.b.cell 0
          have b2 : wo.cell? ⟨x.p, 2, none⟩ = some x.v := hbx.b.cell 2
          have hs1 := cellsOf_step hx
          have hs2 := cellsOf_succ hx
          have e1 : (cellsOf bl).length = (cellsOf (bl.take k)).length + (x.c.length + (cellsOf (bl.drop (k + 1))).length) := by rw [hs1]; simp
          have e2 : (cellsOf (bl.take (k + 1))).length = (cellsOf (bl.take k)).length + x.c.length := by rw [hs2]; simp
          have hdk : bl.drop k = x :: bl.drop (k + 1) := by
            obtain ⟨hk', e⟩ := List.getElem?_eq_some_iff.1 hx
            rw [List.drop_eq_getElem_cons hk', e]
          have hnm := hst.out.nm
          have hnfo : ¬ foot D (.slice (some ⟨g, 0, none⟩) bl.length vc) (bl' ++ bl.drop k) MB := foot_names hdx (by simpa [cellsOf] using hnm)
          obtain ⟨P0, hP0⟩ : ∃ P0, P0 = (cellsOf (bl.take k)).length := ⟨_, rfl⟩
          have hJ0 : DrpJ wo MB P0 (cellsOf bl') (cellsOf (bl.drop (k + 1))) x.c sp 0 0 (.slice none 0 0) wo := DrpJ.start (by
            rw [hdk] at hnm
            simpa [cellsOf] using hnm)
          obtain ⟨m, hm⟩ : ∃ m, m = x.c.length := ⟨_, rfl⟩
          obtain ⟨ax, cx, hv, hcx, hcm, hax⟩ : ∃ ax cx, x.v = .slice ax m cx ∧ m ≤ cx ∧ cx ≤ maxLen ∧ (0 < m → ∃ gx, ax = some ⟨gx, 0, none⟩) := by
            rw [hm]
            rcases ownsRow_blk hbx.o with ⟨h1, h2, _⟩ | ⟨gx, cx, _, h1, _, _, h2, h3, _⟩
            · exact ⟨none, 0, by rw [h1, h2], by omega, Nat.zero_le _, fun h => by omega⟩
            · exact ⟨_, cx, h1, h2, h3, fun _ => ⟨gx, rfl⟩⟩
          unfold maxLen at hcm
          rw [hv] at b2
          rw [← hm] at b0 e1 e2
          rw [← hP0] at e1 e2 ⊢
          have HV1 := Lib.hid hv
          have HX := Lib.hid hx
          have HXM := Lib.hid hxm
          have HM0 := Lib.hid hm
          have HP0 := Lib.hid hP0
          have HDX := Lib.hid hdx
          have HNFO := Lib.hid hnfo
          have HBX := Lib.hid hbx
          have J0 := Lib.hid hJ0
          have E2 := Lib.hid e2
          have E1 := Lib.hid e1
          have hb1 : P0 + m ≤ 20000 := by omega
          have CM := Lib.hid (fun (c : CellV) (hc : c ∈ x.c) => (show c.ok from HOK.out c (by rw [hs1]; simp [hc])))
          have cd1 := HDX.out.doc.cell 1
          clear hdx hdx' hbx hs1 hs2 e1 e2 hdk hnm hnfo hJ0 hx hxk hxm hP0 hm hv
          go_wp2_with fail
          go_loopg [12, 76] m (fun g s12 s76 wx => ∃ (i n : Nat) (la : Option Addr) (lc : Nat), g = m - i ∧ s12 = .slice la n lc ∧ s76 = .int .i64 i ∧ i ≤ m ∧ n ≤ i ∧ RowKit.Hid (DrpJ wo MB P0 (cellsOf bl') (cellsOf (bl.drop (k + 1))) x.c sp i n (.slice la n lc) wx))
          case atStart => exact ⟨0, 0, none, 0, rfl, rfl, rfl, Nat.zero_le _, Nat.le_refl _, J0⟩
          case round =>
            obtain ⟨i, n, la, lc, rfl, rfl, rfl, hi, hni, hj⟩ := hrel
            by_cases him : i < m
            · obtain ⟨c, hc⟩ : ∃ c, x.c[i]? = some c := ⟨x.c[i]'(by rw [← HM0.out]; exact him), by simp⟩
              have hcok := CM.out c (List.mem_of_getElem? hc)
              have hdy := HDX.out.mod hj.out.m (fun b hb e => by have e' : b = MB := e; subst e'; exact HNFO.out hb)
              have hby := hdy.blk x HXM.out
              rcases ownsRow_blk hby.o with ⟨h1, h2, _⟩ | ⟨g2, cap2, more, h1, _, kg, hg1, hg2, _⟩
              · have := HM0.out; omega
              rw [HV1.out, ← HM0.out] at h1
              obtain ⟨rfl, rfl⟩ : ax = some ⟨g2, 0, none⟩ ∧ cx = cap2 := by simpa using h1
              have q0 := Blk.elem CellV.len kg i 0 c hc (by decide)
              have q1 := Blk.elem CellV.len kg i 1 c hc (by decide)
              have q2 := Blk.elem CellV.len kg i 2 c hc (by decide)
              have q3 := Blk.elem CellV.len kg i 3 c hc (by decide)
              have q4 := Blk.elem CellV.len kg i 4 c hc (by decide)
              simp only [CellV.cs, Nat.add_zero, List.getElem?_cons_zero, List.getElem?_cons_succ] at q0 q1 q2 q3 q4
              have hgl := kg.lt
              have kXr := KXO.out.mod hj.out.m (fun e => by have e' : w.heap.size = MB := e; exact NFX.out (.inr e'))
              have mA := (Mod.refl none_ wr).alloc (.cells #[.int .i64 c.site, .int .i64 c.seq, .int .i64 c.off, .int .i32 c.r, .bool c.gone] 63)
              have kA := Blk.new (w := wr) (cs := [.int .i64 c.site, .int .i64 c.seq, .int .i64 c.off, .int .i32 c.r, .bool c.gone]) (t := 63)
              have hspA := ((SPF.out.mod hst.out.m (fun _ e => e)).mod hj.out.m (fun b e => .inr e)).mod mA (fun _ e => e.elim)
              have HAS := has_any _ sa slen scap sp (P0 + i) hspA.sp HSO.out
              rw [Int.natCast_add] at HAS
              have HAS := Lib.hid HAS
              have kXA := kXr.mod mA (fun e => e)
              have JA := Lib.hid (hj.out.grown mA)
              have hdA := (hdy.grown mA).doc
              have KA := Lib.hid kA
              have KXA := Lib.hid kXA
              have HDA := Lib.hid hdA
              have HC := Lib.hid hc
              have OK := Lib.hid hcok
              have hnb : n ≤ 20000 := by omega
              clear hc hcok hdy hby h1 kg hg1 hg2 kXr mA kA hspA kXA hdA hj
              go_upto_region 20 with (fail)
              generalize wr.alloc (.cells #[.int .i64 c.site, .int .i64 c.seq, .int .i64 c.off, .int .i32 c.r, .bool c.gone] 63) = wA at HAS JA KA KXA HDA ⊢
              obtain ⟨Bx, hBx⟩ : ∃ Bx, Bx = wr.heap.size := ⟨_, rfl⟩
              rw [← hBx] at KA ⊢
              clear hBx q0 q1 q2 q3 q4 hgl
              have c0 : wA.cell? ⟨w.heap.size, 0, none⟩ = some (.slice sa slen scap) := KXA.out.cell 0
              cases hp : hasPl sp (P0 + i)
              · rw [hp] at HAS
                go_wp2_with fail
                refine HAS.out.mono ?_
                rintro e w3 ⟨rfl, m3⟩
                have k3 := KA.out.mod m3 (fun e => e)
                have d0 := k3.cell 0
                have d1 := k3.cell 1
                have d2 := k3.cell 2
                have d3 := k3.cell 3
                have d4 := k3.cell 4
                simp only [List.getElem?_cons_zero, List.getElem?_cons_succ] at d0 d1 d2 d3 d4
                obtain ⟨va', vc', w4, hrun, J4, _⟩ := DrpJ.keep (Y := w3.alloc (.cells #[.int .i64 c.site, .int .i64 c.seq, .int .i64 c.off, .int .i32 c.r, .bool c.gone] 63)) (X := w3.heap.size) (JA.out.grown m3) HC.out hp (by omega) ((Mod.refl none_ w3).alloc _) Blk.new
                have J4 := Lib.hid J4
                clear k3 m3 hp c0
                go_wp2_with fail
                go_roundg (m - (i + 1))
                all_goals first
                  | omega
                  | exact ⟨i + 1, n + 1, va', vc', rfl, rfl, by go_num, by omega, by omega, J4⟩
              · rw [hp] at HAS
                go_wp2_with fail
                refine HAS.out.mono ?_
                rintro e w3 ⟨rfl, m3⟩
                have k3 := KA.out.mod m3 (fun e => e)
                have j3 := JA.out.grown m3
                have J3 := Lib.hid j3
                have hkx : c.name ∈ (cellsOf bl' ++ dropFrom sp P0 (x.c.take i) ++ x.c.drop i ++ cellsOf (bl.drop (k + 1))).map CellV.name := by
                  rw [(drop_step (sp := sp) (P := P0) HC.out).2]
                  simp
                have NMd : Names Tryd.prog 33 w3.drew MB ((cellsOf bl' ++ dropFrom sp P0 (x.c.take i) ++ x.c.drop i ++ cellsOf (bl.drop (k + 1))).map CellV.name) := j3.nm.mod (Mod.drew (Mod.refl none_ w3)) (fun e => e)
                obtain ⟨s, w4, w5, l1, l2, l2', l3, M4, M5, hgt, mm, nn, im, imx, im1, im2⟩ := NMd.less kName Tryd.underlying88 zInt hkx (okName OK.out)
                have hqp := cnt_pos hkx
                have hql : cnt ((cellsOf bl' ++ dropFrom sp P0 (x.c.take i) ++ x.c.drop i ++ cellsOf (bl.drop (k + 1))).map CellV.name) c.name ≤ 1099511627776 := by
                  refine Nat.le_trans (cnt_le _ _) ?_
                  have h1 : (cellsOf bl').length ≤ P0 := by rw [hst.out.cs, HP0.out]; exact dropFrom_len _ _ _
                  have h2 := dropFrom_len sp (x.c.take i) P0
                  have h3 := E1.out
                  have h4 := HM0.out
                  rw [List.length_take] at h2
                  simp only [List.length_map, List.length_append, List.length_drop]
                  omega
                have KS := Lib.hid (show ∃ ks, ks = (cellsOf bl' ++ dropFrom sp P0 (x.c.take i) ++ x.c.drop i ++ cellsOf (bl.drop (k + 1))).map CellV.name from ⟨_, rfl⟩)
                obtain ⟨ks, hks⟩ := KS.out
                rw [← hks] at hkx NMd l1 l2 l2' l3 hgt imx im1 im2 hqp hql
                have GN := Lib.hid (fun (w' : World) (m' : Mod (one MB) w3 w') (hN : Names Tryd.prog 33 w' MB (ks.erase c.name)) => J3.out.gone HC.out hp m' (by rw [← hks]; exact hN))
                obtain ⟨q, hq⟩ : ∃ q, q = cnt ks c.name := ⟨_, rfl⟩
                rw [← hq] at l1 l2 l2' l3 hgt imx hqp hql
                have hwq : IntKind.i64.wrap ((q : Int) - 1) = (q : Int) - 1 := by rw [IntKind.wrap_i64]; omega
                have hd3 := HDA.out.mod m3 (fun e => e)
                have a1 : w3.cell? ⟨D, 1, none⟩ = some (.map (some MB)) := hd3.cell 1
                have d0 := k3.cell 0
                have d1 := k3.cell 1
                simp only [List.getElem?_cons_zero, List.getElem?_cons_succ] at d0 d1
                have hDM : ¬ one MB D := fun e => by have e' : D = MB := e; exact HNFO.out (by rw [← e']; exact .inl rfl)
                have hBM : ¬ one MB Bx := fun e => by
                  have e' : Bx = MB := e
                  obtain ⟨m2, n2, i2, _⟩ := NMd
                  exact imap_blk i2 (by rw [← e']; exact k3.drew)
                have k5 := k3.drew.mod M5 hBM
                have hd5 := hd3.drew.mod M5 hDM
                have a5 : w5.cell? ⟨D, 1, none⟩ = some (.map (some MB)) := hd5.cell 1
                have f0 := k5.cell 0
                have f1 := k5.cell 1
                simp only [List.getElem?_cons_zero, List.getElem?_cons_succ] at f0 f1
                have l4 : (Instr.lookup 88 (.map (some MB)) (.agg #[.int .i64 c.site, .int .i64 c.seq]) false).run Tryd.prog w5.drew = .ok (.int .i64 ((q : Int) - 1)) w5.drew := by
                  have i5 : IMap Tryd.prog 33 w5.drew MB mm nn := im
                  have h1 := i5.lookup (t := 88) kName Tryd.underlying88 (zInt _) (okName OK.out) false
                  rw [if_neg (by simp), imx] at h1
                  exact h1
                have M5' := Lib.hid (((Mod.refl (one MB) w3).drew).trans M5)
                have HGT := Lib.hid hgt
                have HQ := Lib.hid hq
                have IM := Lib.hid im
                have IM1 := Lib.hid im1
                have IM2 := Lib.hid im2
                have HKX := Lib.hid hkx
                clear k3 m3 hp c0 j3 NMd M4 M5 hgt im imx im1 im2 hkx KS hks hd3 hDM hBM k5 hd5 hq
                go_wp2_with fail
                go_cut [12, 76] from 77 to 115 (fun s12 s76 wx => s12 = .slice la n lc ∧ s76 = .int .i64 (i : Int) ∧ wx = w5)
                case first =>
                  go_region_law (fail)
                  all_goals (try go_wp2_with fail)
                  all_goals go_meet
                  all_goals exact ⟨rfl, rfl, rfl⟩
                case rest =>
                  obtain ⟨rfl, rfl, hw5⟩ := hcut
                  rw [hw5]
                  clear hw5 l1 l2 l2' l3 a1 d0 d1 hwq
                  go_wp2_with fail
                  go_cut [12, 76, 108] from 77 to 115 (fun s12 s76 s108 wx => s12 = .slice la n lc ∧ s76 = .int .i64 (i : Int) ∧ s108 = .bool ((q : Int) - 1 == 0) ∧ wx = w5.drew)
                  case first =>
                    go_region_law (fail)
                    all_goals (try go_wp2_with fail)
                    all_goals go_meet
                    all_goals exact ⟨rfl, rfl, rfl, rfl⟩
                  case rest =>
                    obtain ⟨rfl, rfl, rfl, hw6⟩ := hcut
                    rw [hw6]
                    clear hw6 l4
                    by_cases hq1 : q = 1
                    · have hqb : ((q : Int) - 1 == 0) = true := by simp; omega
                      obtain ⟨w6, hdel, M6, N6⟩ := Names.last (w := w5.drew.drew) (t := 88) (IM.out : IMap Tryd.prog 33 w5.drew.drew MB mm nn) kName Tryd.underlying88 HKX.out (by rw [← HQ.out]; exact hq1) IM1.out IM2.out
                      have J6 := Lib.hid (GN.out w6 (M5'.out.trans (((Mod.refl (one MB) w5).drew.drew).trans M6)) N6)
                      clear M6 N6 hq1
                      go_wp2_with fail
                      go_region_law (fail)
                      all_goals (try go_wp2_with fail)
                      all_goals go_roundg (m - (i + 1))
                      all_goals first
                        | omega
                        | exact ⟨i + 1, n, la, lc, rfl, rfl, by go_num, by omega, by omega, J6⟩
                    · have hqb : ((q : Int) - 1 == 0) = false := by simp; omega
                      have J6 := Lib.hid ((GN.out w5 M5'.out (HGT.out (by omega))).grown (Mod.drew (Mod.refl none_ w5)))
                      clear hq1
                      go_wp2_with fail
                      go_roundg (m - (i + 1))
                      all_goals first
                        | omega
                        | exact ⟨i + 1, n, la, lc, rfl, rfl, by go_num, by omega, by omega, J6⟩
            · obtain rfl : i = m := by omega
              have hdy := HDX.out.mod hj.out.m (fun b hb e => by have e' : b = MB := e; subst e'; exact HNFO.out hb)
              have hby := hdy.blk x HXM.out
              have hxM : MB ≠ x.p := fun e => HNFO.out (.inr (.inr ⟨x, HXM.out, .inl e⟩))
              have b0' : wr.cell? ⟨x.p, 2, none⟩ = some x.v := hby.b.cell 2
              rw [HV1.out] at b0'
              have rf2 := hby.b.frozen 2
              have kB2 := hby.b.set 2 (.slice la n lc)
              have mS : Mod (one x.p) wr (wr.setCell ⟨x.p, 2, none⟩ (.slice la n lc)) := (Mod.refl (one x.p) wr).setCell ⟨x.p, 2, none⟩ (fun _ => rfl) _
              have hj2 := hj.out
              rw [HM0.out] at hj2
              have hnlen := hj2.n
              rw [List.take_length] at hnlen
              have hrow := hj2.row
              rw [List.take_length] at hrow
              have hrS := ownsRow_mod hrow mS (fun b hb e => by
                have e' : b = x.p := e
                subst e'
                obtain ⟨cs', hc'⟩ := ownsRow_type hrow hb
                exact Blk.apart hby.b hc' (by decide) rfl)
              have hCT := count_any (wr.setCell ⟨x.p, 2, none⟩ (.slice la n lc)) x.p wo.heap.size _ _ (.slice la n lc) n (dropFrom sp P0 x.c) kB2 hrS (fun e => by
                obtain ⟨cs', hc'⟩ := ownsRow_type hrow e
                exact Blk.apart hby.b hc' (by decide) rfl) hnlen.symm (by omega)
              have HCT := Lib.hid hCT
              have MS := Lib.hid mS
              have J2 := Lib.hid hj2
              clear hdy hby kB2 mS hj2 hnlen hrow hrS hCT hj
              go_wp2_with fail
              refine HCT.out.mono ?_
              rintro e wz ⟨rfl, kz, mz⟩
              have hI := DrpI.step hst.out HX.out (by rw [← HP0.out]; exact J2.out) (MS.out.trans mz) (by rw [← HP0.out]; exact kz)
              have HI := Lib.hid hI
              clear hI kz mz
              go_wp2_with fail
              go_roundg (bl.length - (k + 1))
              all_goals first
                | omega
                | exact ⟨k + 1, _, rfl, by rw [E2.out]; simp, by go_num, by omega, HI⟩
        · obtain rfl : k = bl.length := by omega
          have hI := hst.out
          have hdx := hI.doc
          rw [List.drop_length, List.append_nil] at hdx
          have hnm := hI.nm
          rw [List.drop_length] at hnm
          have hft := hI.ft
          rw [List.drop_length, List.append_nil] at hft
          have hcs := hI.cs
          rw [List.take_length] at hcs
          have hde : dropE sp (cellsOf bl) = 0 := by unfold dropE; rw [if_pos HSO.out, if_neg (by have := HEND.out; omega), if_neg (by rw [HH.out]; decide)]
          have hdl : dropL sp (cellsOf bl) = dropFrom sp 0 (cellsOf bl) := by unfold dropL; rw [if_pos hde]
          have hT : ∀ b, foot D (.slice va bl.length vc) bl b ∨ b = MB → S b := fun b hb => by
            rcases hb with hb | rfl
            · exact HF.out b hb
            · exact HMB.out
          have hmo : Mod S w wo := (MW.out.mono (fun _ _ e => e.elim)).trans (hI.m.mono (fun b _ hb => hT b hb))
          have hnmf := foot_names hdx (by simpa [cellsOf] using hnm)
          have cdo : wo.cell? ⟨D, 0, none⟩ = some (.slice va bl.length vc) := hdx.doc.cell 0
          have fdo := hdx.doc.frozen 0
          have hft' : ∀ b, foot D (.slice va bl.length vc) bl' b → S b ∨ w.heap.size ≤ b := fun b hb => by
            rcases hft b hb with h1 | h1
            · exact .inl (HF.out b h1)
            · exact .inr (by omega)
          have elt : w.heap.size + 1 < wo.heap.size := (hI.m.blk NFE.out KEW.out |> Blk.lt)
          have kEo : Blk wo (w.heap.size + 1) [.int .i64 0] 28 := KEW.out.mod hI.m NFE.out
          have hDo : wo.heap[Df]? = some (.deferred (some [])) := hI.m.blk NFD.out HDF.out
          have Dlt := lt_of_block HDF.out
          have nE' : ¬ foot D (.slice va bl.length vc) bl' (w.heap.size + 1) := fun hb => by
            rcases hft _ hb with h1 | h1
            · exact NFE.out (.inl h1)
            · omega
          have nD' : ¬ foot D (.slice va bl.length vc) bl' Df := fun hb => by
            rcases hft _ hb with h1 | h1
            · exact NFD.out (.inl h1)
            · omega
          have hwB : w.heap.size ≤ Df := by have := HW.out; have := HZW.out; omega
          have hDC := delDoc_any wo D MB _ bl' hdx
          have HDC := Lib.hid hDC
          have NE := Lib.hid nE'
          have ND := Lib.hid nD'
          have KEO := Lib.hid kEo
          have HDO := Lib.hid hDo
          have HDX := Lib.hid hdx
          have HNMX := Lib.hid (show Names Tryd.prog 33 wo MB ((cellsOf bl').map CellV.name) from by simpa [cellsOf] using hnm)
          have HNMF := Lib.hid hnmf
          have HFT' := Lib.hid hft'
          have HCS := Lib.hid hcs
          have HDE := Lib.hid hde
          have HDL := Lib.hid hdl
          have HMO := Lib.hid hmo
          have HWB := Lib.hid hwB
          clear hI hdx hnm hft hft' hcs hde hdl hT hmo hnmf kEo hDo nE' nD' hwB hDC elt Dlt
          go_wp2_with fail
          refine HDC.out.mono ?_
          rintro e w1 ⟨a2, n2, c2, rfl, hd2, m1, hv2⟩
          have mD : Mod (fun b => foot D (.slice va bl.length vc) bl' b) wo w1 := m1.mono (fun b _ e => .inr (.inl e))
          have m2 : Mod (fun b => foot D (.slice va bl.length vc) bl' b) wo (w1.setCell ⟨D, 0, none⟩ (.slice a2 n2 c2)) := mD.setCell ⟨D, 0, none⟩ (fun _ => .inl rfl) _
          have kE2 := KEO.out.mod m2 NE.out
          have hD2 := m2.blk ND.out HDO.out
          have fd1 := (HDX.out.doc.mod m1 (fun e => by
            obtain ⟨cs', hc'⟩ := ownsRow_type HDX.out.ptrs e
            exact Blk.apart HDX.out.doc hc' (by decide) rfl)).frozen 0
          have cd1 := (HDX.out.doc.mod m1 (fun e => by
            obtain ⟨cs', hc'⟩ := ownsRow_type HDX.out.ptrs e
            exact Blk.apart HDX.out.doc hc' (by decide) rfl)).cell 0
          have mF : Mod (fun b => b = w.heap.size + 1 ∨ b = Df) (w1.setCell ⟨D, 0, none⟩ (.slice a2 n2 c2)) (((w1.setCell ⟨D, 0, none⟩ (.slice a2 n2 c2)).setCell ⟨w.heap.size + 1, 0, none⟩ (.int .i64 0)).putObj Df (.deferred none)) :=
            ((Mod.refl _ _).setCell ⟨w.heap.size + 1, 0, none⟩ (fun _ => .inl rfl) _).trans ⟨rfl, rfl, rfl, by simp, fun k _ hs => World.putObj_heap_other (fun e => hs (.inr (by first | exact e | exact e.symm)))⟩
          have hE := drop_end (S := S) HMO.out HFT'.out HMB.out HNMX.out HNMF.out hd2 (fun b hb => fullBl_foot hv2 b hb) (fullBl_cells bl') (fullBl_ne bl') m2 mF (fun b hb => by
            rcases hb with rfl | rfl
            · exact ⟨by omega, NE.out, fun e => NFE.out (.inr e)⟩
            · exact ⟨HWB.out, ND.out, fun e => NFD.out (.inr e)⟩)
          have hDb : ((w1.setCell ⟨D, 0, none⟩ (.slice a2 n2 c2)).setCell ⟨w.heap.size + 1, 0, none⟩ (.int .i64 0)).heap[Df]? = some (.deferred (some [])) := by
            have mq : Mod (one (w.heap.size + 1)) (w1.setCell ⟨D, 0, none⟩ (.slice a2 n2 c2)) ((w1.setCell ⟨D, 0, none⟩ (.slice a2 n2 c2)).setCell ⟨w.heap.size + 1, 0, none⟩ (.int .i64 0)) := (Mod.refl (one (w.heap.size + 1)) _).setCell ⟨w.heap.size + 1, 0, none⟩ (fun _ => rfl) _
            refine mq.blk (fun e => ?_) hD2
            have e' : Df = w.heap.size + 1 := e
            have hb := kE2
            unfold Blk at hb
            rw [← e', hD2] at hb
            cases hb
          have kE3 := kE2.set 0 (.int .i64 0)
          have rE : (((w1.setCell ⟨D, 0, none⟩ (.slice a2 n2 c2)).setCell ⟨w.heap.size + 1, 0, none⟩ (.int .i64 0)).putObj Df (.deferred none)).cell? ⟨w.heap.size + 1, 0, none⟩ = some (.int .i64 0) := by
            have mq : Mod (one Df) ((w1.setCell ⟨D, 0, none⟩ (.slice a2 n2 c2)).setCell ⟨w.heap.size + 1, 0, none⟩ (.int .i64 0)) (((w1.setCell ⟨D, 0, none⟩ (.slice a2 n2 c2)).setCell ⟨w.heap.size + 1, 0, none⟩ (.int .i64 0)).putObj Df (.deferred none)) := ⟨rfl, rfl, rfl, by simp, fun k _ hs => World.putObj_heap_other (fun e => hs (by first | exact e | exact e.symm))⟩
            refine (kE3.mod mq (fun e => ?_)).cell 0
            have e' : w.heap.size + 1 = Df := e
            have hb := kE3
            unfold Blk at hb
            have hDb' := hDb
            rw [← e'] at hDb'
            rw [hDb'] at hb
            cases hb
          have frE := kE2.frozen 0
          have ceE := kE2.cell 0
          have RE := Lib.hid rE
          have HDB := Lib.hid hDb
          have HEND2 := Lib.hid hE
          clear hd2 m1 hv2 mD m2 kE2 hD2 mF hE hDb kE3 rE
          go_wp2_with fail
          refine ⟨by simp, .inl ⟨_, _, rfl, run_takeDeferred HDB.out, ?_⟩⟩
          refine ⟨_, results_er rfl _ _ _ _ rfl RE.out, ?_⟩
          exact ⟨by rw [HDE.out], HEND2.out.1, by rw [HDL.out, ← HCS.out]; exact HEND2.out.2⟩
end Go.Proofs.YtlbkalbelefhmaaDoor

namespace Go.Proofs.YtlbkalbelefhmaaDoor
open Go.RowKit Go.Mine
open Classical

/-- Since w only new blocks; the document D of the cells L lies in new blocks, none of them in E. -/
structure DocF (w : World) (E : Nat → Prop) (wx : World) (D : Nat) (L : List CellV) : Prop where
  m : Mod none_ w wx
  doc : ∃ S, DocS wx S D L ∧ ∀ k, S k → w.heap.size ≤ k ∧ ¬ E k
  ex : ∀ k, E k → k < wx.heap.size
  cl : Cl L
theorem DocF.grown {w wx wy : World} {E : Nat → Prop} {D : Nat} {L : List CellV} (h : DocF w E wx D L) (m : Mod none_ wx wy) : DocF w E wy D L :=
  ⟨h.m.trans m, (by obtain ⟨S, h1, h2⟩ := h.doc; exact ⟨S, h1.grown m, h2⟩), fun k hk => Nat.lt_of_lt_of_le (h.ex k hk) m.size, h.cl⟩
theorem DocF.box {w wx wy : World} {E : Nat → Prop} {D : Nat} {L : List CellV} (h : DocF w E wx D L) (m : Mod none_ wx wy) : DocF w (fun k => E k ∨ (wx.heap.size ≤ k ∧ k < wy.heap.size)) wy D L := by
  obtain ⟨S, h1, h2⟩ := h.doc
  refine ⟨h.m.trans m, ⟨fun k => S k ∧ k < wx.heap.size, (h1.mono (T := fun k => S k ∧ k < wx.heap.size) (fun k hk hs => ⟨hs, hk⟩)).grown m, fun k hk => ⟨(h2 k hk.1).1, ?_⟩⟩, ?_, h.cl⟩
  · rintro (he | ⟨he, _⟩)
    · exact (h2 k hk.1).2 he
    · have := hk.2; omega
  · rintro k (hk | hk)
    · exact Nat.lt_of_lt_of_le (h.ex k hk) m.size
    · exact hk.2
theorem DocF.less {w wx : World} {E E' : Nat → Prop} {D : Nat} {L : List CellV} (h : DocF w E wx D L) (hE : ∀ k, E' k → E k) : DocF w E' wx D L :=
  ⟨h.m, (by obtain ⟨S, h1, h2⟩ := h.doc; exact ⟨S, h1, fun k hk => ⟨(h2 k hk).1, fun e => (h2 k hk).2 (hE k e)⟩⟩), fun k hk => h.ex k (hE k hk), h.cl⟩
theorem DocF.is {w wx : World} {E : Nat → Prop} {D : Nat} {L : List CellV} (h : DocF w E wx D L) : DocIs wx 0 D L := by
  obtain ⟨S, h1, _⟩ := h.doc
  exact h1.is
/-- A store into the blocks that are kept. -/
theorem DocF.put {w wx wy : World} {E : Nat → Prop} {D : Nat} {L : List CellV} (h : DocF w E wx D L) (m : Mod E wx wy) (hE : ∀ k, E k → w.heap.size ≤ k) : DocF w E wy D L := by
  obtain ⟨S, h1, h2⟩ := h.doc
  exact ⟨h.m.transIn m (fun b hb e => by have := hE b e; omega), ⟨S, h1.mod m (fun k hk => (h2 k hk).2), h2⟩, fun k hk => Nat.lt_of_lt_of_le (h.ex k hk) m.size, h.cl⟩
/-- A world on: the document's cells are L', all blocks that are kept stay. -/
structure DocN (w : World) (E : Nat → Prop) (wx : World) (D : Nat) (L' : List CellV) (w' : World) : Prop where
  f : DocF w E w' D L'
  bs : ∀ (b : Nat) (cs : List Value) (t : TypeId), E b → Blk wx b cs t → Blk w' b cs t
  sz : wx.heap.size ≤ w'.heap.size
theorem far_of {w : World} {S : Nat → Prop} {sa : Option Addr} {n c : Nat} {sp : List (Int × Int)} (hsp : IsSpans w sa n c sp) (hS : ∀ k, S k → w.heap.size ≤ k) : ∀ b off, sa = some ⟨b, off, none⟩ → 0 < n → ¬ S b := by
  intro b off hsa hpos hsb
  have h1 := hS b hsb
  have hl : 0 < sp.length := by rw [hsp.n]; exact hpos
  obtain ⟨b', off', e, hc, _⟩ := hsp.cells 0 sp[0] (List.getElem?_eq_getElem hl)
  rw [hsa] at e
  cases e
  have := block_lt_of_cell hc
  simp at this
  omega
theorem DocF.do_ {w wx : World} {E : Nat → Prop} {D : Nat} {L : List CellV} (h : DocF w E wx D L) (o : OpV) (sp : List (Int × Int)) (ho : o.ok w sp) (hsz : o.text.size ≤ 1099511627776) :
    Calls Tryd.prog 17 #[.pointer (some ⟨D, 0, none⟩), o.v] wx fun e w' => e = .returned (.int .i64 (doE o sp L)) ∧ DocN w E wx D (doL o sp L) w' := by
  obtain ⟨S, hd, hS⟩ := h.doc
  have ho' := ho.grown h.m
  refine (do_any wx S D L o sp hd h.cl.big h.cl.ok ho' hsz (far_of ho.sp (fun k hk => (hS k hk).1))).mono ?_
  rintro e w' ⟨rfl, m, hd'⟩
  refine ⟨rfl, ⟨h.m.transIn m (fun b hb hs => absurd (hS b hs).1 (by omega)), ⟨_, hd', ?_⟩, fun k hk => Nat.lt_of_lt_of_le (h.ex k hk) m.size, h.cl.doL ho.i1 ho.i2⟩, fun b cs t hb k => k.mod m (fun hs => (hS _ hs).2 hb), m.size⟩
  rintro k (hk | ⟨hk, _⟩)
  · exact hS k hk
  · have h1 := h.m.size
    exact ⟨by omega, fun e => by have := h.ex k e; omega⟩
theorem Cl.dropL {sp : List (Int × Int)} {l : List CellV} (h : Cl l) : Cl (dropL sp l) := by
  unfold Go.Proofs.YtlbkalbelefhmaaDoor.dropL
  split
  · have hs := dropFrom_sub sp l 0
    exact ⟨h.ids.sublist (hs.map _), fun c hc => h.ok c (hs.subset hc), Nat.le_trans hs.length_le h.big⟩
  · exact h
/-- Drop, upon such a document; the spans lie ahead of it or behind it. -/
theorem DocF.drop_ {w wx : World} {E : Nat → Prop} {D : Nat} {L : List CellV} (h : DocF w E wx D L) (sa : Option Addr) (n c : Nat) (sp : List (Int × Int)) (hs : IsSpans wx sa n c sp) (hfar : ∀ b off, sa = some ⟨b, off, none⟩ → 0 < n → b < w.heap.size ∨ E b) :
    Calls Tryd.prog 21 #[.pointer (some ⟨D, 0, none⟩), .slice sa n c] wx fun e w' => e = .returned (.int .i64 (dropE sp L)) ∧ DocN w E wx D (dropL sp L) w' := by
  obtain ⟨S, hd, hS⟩ := h.doc
  refine (drop_any wx S D L sa n c sp hd h.cl.big h.cl.ok hs (fun b off e hn hb => ?_)).mono ?_
  · have h1 := hS b hb
    rcases hfar b off e hn with h2 | h2
    · omega
    · exact h1.2 h2
  rintro e w' ⟨rfl, m, hd'⟩
  refine ⟨rfl, ⟨h.m.transIn m (fun b hb hs => absurd (hS b hs).1 (by omega)), ⟨_, hd', ?_⟩, fun k hk => Nat.lt_of_lt_of_le (h.ex k hk) m.size, h.cl.dropL⟩, fun b cs t hb k => k.mod m (fun hs => (hS _ hs).2 hb), m.size⟩
  rintro k (hk | ⟨hk, _⟩)
  · exact hS k hk
  · have h1 := h.m.size
    exact ⟨by omega, fun e => by have := h.ex k e; omega⟩
theorem Cl.new {l : List CellV} (h : newE l = 0) (hok : ∀ c ∈ l, c.ok) (hl : l.length ≤ 20000) : Cl l := by
  unfold newE at h
  by_cases h1 : l.all cellOk = true
  · rw [if_pos h1] at h
    by_cases h2 : (l.map CellV.id).Nodup
    · exact ⟨h2, hok, hl⟩
    · rw [if_neg h2] at h; omega
  · rw [if_neg h1] at h; omega

set_option maxHeartbeats 16000000 in
set_option maxRecDepth 1000000 in
theorem document_any (w : World) (ca : Option Addr) (clen ccap : Nat) (l : List CellV) (hc : IsCells w ca clen ccap l) (aa : Option Addr) (alen acap : Nat) (acts : List ActV) (ha : IsActs w aa alen acap acts) (hg : greatB clen acts = false) :
    Calls Tryd.prog 37 #[.slice ca clen ccap, .slice aa alen acap] w fun e w' => (¬ newE l = 0 ∧ e = .returned (.pointer none) ∧ Mod none_ w w') ∨ (newE l = 0 ∧ ∃ D L, e = .returned (.pointer (some ⟨D, 0, none⟩)) ∧ DocF w none_ w' D L) := by
  have hcle := hc.le
  have hcbig := hc.big
  have hale := ha.le
  have habig := ha.big
  have hcn := hc.n
  unfold maxLen at hcbig habig
  have HA := Lib.hid ha
  have HAN := Lib.hid ha.n
  have HGB := Lib.hid hg
  have hcl : clen ≤ 250 := by unfold greatB at hg; simp at hg; omega
  have hal : alen ≤ 25 := by have := HAN.out; unfold greatB at hg; simp at hg; omega
  have HN := Lib.hid (new_any w ca clen ccap l hc (by omega))
  have HC := Lib.hid hc
  have HCN := Lib.hid hcn
  clear hc ha hcn hg
  go_enter Tryd.func37, Tryd.ntmps37
  go_wp2_with fail
  refine HN.out.mono ?_
  rintro e w3 ⟨m3, hbad, hgood⟩
  have M3 := Lib.hid m3
  by_cases hne0 : ¬ newE l = 0
  · have hne := hne0
    obtain ⟨E, hE⟩ : ∃ E, E = newE l := ⟨_, rfl⟩
    rw [hbad hne, ← hE]
    have hne2 : (E == 0) = false := by rw [hE]; simpa using hne
    have HNE := Lib.hid hne
    clear hE hbad hgood m3 HN hne0 hne
    go_wp2_with fail
    go_ret
    exact .inl ⟨HNE.out, rfl, M3.out⟩
  have hne : newE l = 0 := Classical.not_not.1 hne0
  clear hne0
  obtain ⟨D, rfl, hdoc⟩ := hgood hne
  have HNE := Lib.hid hne
  have hF0 : DocF w none_ w3 D l := ⟨M3.out, ⟨_, hdoc.s, fun k hk => ⟨hk, fun e => e⟩⟩, fun k hk => hk.elim, Cl.new hne HC.out.ok (by rw [HCN.out]; omega)⟩
  have HF0 := Lib.hid hF0
  clear hdoc hne hbad hgood m3 HN hF0 HC HCN
  go_wp2_with fail
  go_loopg [7] alen (fun g s7 wx => ∃ (k : Nat) (L : List CellV), g = alen - k ∧ s7 = .int .i64 k ∧ k ≤ alen ∧ RowKit.Hid (DocF w none_ wx D L))
  case atStart => exact ⟨0, l, rfl, rfl, Nat.zero_le _, HF0⟩
  case round =>
    obtain ⟨k, L, rfl, rfl, hk, hst⟩ := hrel
    by_cases hlk : k < alen
    · obtain ⟨x, hx⟩ : ∃ x, acts[k]? = some x := ⟨acts[k]'(by rw [HAN.out]; exact hlk), by simp⟩
      have HAX := HA.out.grown hst.out.m
      obtain ⟨b, off, rfl, _, hr⟩ := HAX.acts k x hx
      have hmem := List.mem_of_getElem? hx
      have hbig : bigOp x.o = false := by
        have h := HGB.out
        unfold greatB at h
        simp only [Bool.or_eq_false_iff] at h
        have := List.any_eq_false.1 h.2 x hmem
        simpa using this
      have hsz : x.o.text.size ≤ 1000 := by unfold bigOp at hbig; simp at hbig; omega
      have hok : x.o.ok w x.sp := (HA.out.ok x hmem).1.ok (by omega)
      have OK := Lib.hid hok
      have c0 := hr 0 _ rfl
      have c1 := hr 1 _ rfl
      have c2 := hr 2 _ rfl
      have c3 := hr 3 _ rfl
      have c4 := hr 4 _ rfl
      have c5 := hr 5 _ rfl
      have c6 := hr 6 _ rfl
      rw [Nat.add_zero] at c0
      obtain ⟨o, ho⟩ : ∃ o, o = x.o := ⟨_, rfl⟩
      obtain ⟨sp, hsp⟩ : ∃ sp, sp = x.sp := ⟨_, rfl⟩
      rw [← ho] at c0 c1 c2 c3 c4 c5 c6 hsz OK
      rw [← hsp] at OK
      clear hr hx HAX hmem hbig hok ho hsp
      go_wp2_with fail
      refine (hst.out.do_ o sp OK.out (by omega)).mono ?_
      rintro e w8 ⟨rfl, hD⟩
      have DD := Lib.hid hD.f
      clear hD c0 c1 c2 c3 c4 c5 c6 hst
      go_wp2_with fail
      go_roundg (alen - (k + 1))
      all_goals first
        | omega
        | exact ⟨k + 1, doL o sp L, rfl, by go_num, by omega, DD⟩
    · obtain rfl : k = alen := by omega
      go_wp2_with fail
      go_ret
      exact .inr ⟨HNE.out, D, L, rfl, hst.out⟩
end Go.Proofs.YtlbkalbelefhmaaDoor

namespace Go.Proofs.YtlbkalbelefhmaaDoor
open Go.RowKit Go.Mine

set_option maxHeartbeats 4000000 in
set_option maxRecDepth 1000000 in
theorem move_ins (o : OpV) (s a t size : Int) (w : World) (l : List (Int × Int)) (h : o.ok w l) (hk : o.kind = 1) (h1 : inB size 0 20000 = true) (h2 : nameOk o.site o.seq = true) (h3 : inB o.num 0 1099511627776 = true) (h4 : insOk o size = true) (hm : markOk s a t size = true) :
    Calls Tryd.prog 34 #[.agg #[.int .i64 s, .int .i64 a, .int .i64 t], o.v, .int .i64 size] w fun e w' => e = .returned (.tuple #[.agg #[.int .i64 s, .int .i64 (pointOf a o.at_ (addsOf o) (o.site != s)), .int .i64 (pointOf t o.at_ (addsOf o) (o.site != s))], .int .i64 0]) ∧ Mod none_ w w' := by
  obtain ⟨A, hA⟩ : ∃ A, A = pointOf a o.at_ (addsOf o) (o.site != s) := ⟨_, rfl⟩
  obtain ⟨T, hT⟩ : ∃ T, T = pointOf t o.at_ (addsOf o) (o.site != s) := ⟨_, rfl⟩
  rw [← hA, ← hT]
  have HA := Lib.hid hA
  have HT := Lib.hid hT
  have hab : (0 ≤ a ∧ a ≤ size) ∧ (0 ≤ t ∧ t ≤ size) := by simp [markOk, inB] at hm; omega
  obtain ⟨W0, hW0⟩ : ∃ W0, ((w.alloc (.cells #[.int .i64 s, .int .i64 a, .int .i64 t] 66)).alloc (.cells o.cs.toArray 36)).alloc (.cells #[.int .i64 0, .int .i64 0, .int .i64 0] 66) = W0 := ⟨_, rfl⟩
  have m0 : Mod none_ w W0 := by rw [← hW0]; exact (((Mod.refl none_ w).alloc _).alloc _).alloc _
  have k0 : Blk W0 w.heap.size [.int .i64 s, .int .i64 a, .int .i64 t] 66 := by
    rw [← hW0]
    exact ((Blk.new (w := w) (cs := [.int .i64 s, .int .i64 a, .int .i64 t]) (t := 66)).mod ((Mod.refl none_ _).alloc _) (fun e => e)).mod ((Mod.refl none_ _).alloc _) (fun e => e)
  have k1 : Blk W0 (w.heap.size + 1) o.cs 36 := by
    have := Blk.new (w := w.alloc (.cells #[.int .i64 s, .int .i64 a, .int .i64 t] 66)) (cs := o.cs) (t := 36)
    rw [World.size_alloc] at this
    rw [← hW0]
    exact this.mod ((Mod.refl none_ _).alloc _) (fun e => e)
  have k2 : Blk W0 (w.heap.size + 1 + 1) [.int .i64 0, .int .i64 0, .int .i64 0] 66 := by
    have := Blk.new (w := (w.alloc (.cells #[.int .i64 s, .int .i64 a, .int .i64 t] 66)).alloc (.cells o.cs.toArray 36)) (cs := [.int .i64 0, .int .i64 0, .int .i64 0]) (t := 66)
    rw [World.size_alloc, World.size_alloc] at this
    rw [← hW0]
    exact this
  obtain ⟨X, hX⟩ : ∃ X, X = w.heap.size := ⟨_, rfl⟩
  rw [← hX] at k0 k1 k2
  have HX := Lib.hid hX
  have M0 := Lib.hid m0
  have K0 := Lib.hid k0
  have K1 := Lib.hid k1
  have K2 := Lib.hid k2
  have HO := Lib.hid h
  have H0 := Lib.hid h
  have a0 := k0.cell 0
  have a1 := k0.cell 1
  have a2 := k0.cell 2
  have d0 := k1.cell 0
  have d1 := k1.cell 1
  have d2 := k1.cell 2
  have d3 := k1.cell 3
  have d4 := k1.cell 4
  have d5 := k1.cell 5
  have d6 := k1.cell 6
  simp only [OpV.cs, List.getElem?_cons_zero, List.getElem?_cons_succ] at a0 a1 a2 d0 d1 d2 d3 d4 d5 d6
  have HM := Lib.hid (cmay_any s a t size)
  rw [hm] at HM
  have HK := Lib.hid hk
  have HQ1 := Lib.hid h1
  have HQ2 := Lib.hid h2
  have HQ3 := Lib.hid h3
  have HQ4 := Lib.hid h4
  clear hA hT m0 k0 k1 k2 hm hk h h1 h2 h3 h4 HO
  go_enter Tryd.func34, Tryd.ntmps34
  go_upto_region 1 with fail
  clear hW0
  rw [← hX]
  clear hX
  go_wp2_with fail
  refine (HM.out _).mono ?_
  rintro e w1 ⟨rfl, m1⟩
  have k1 := K1.out.mod m1 (fun e => e)
  have M1 := Lib.hid (M0.out.trans m1)
  clear d0 d1 d2 d3 d4 d5 d6 a0 a1 a2
  have d0 := k1.cell 0
  have d1 := k1.cell 1
  have d2 := k1.cell 2
  have d3 := k1.cell 3
  have d4 := k1.cell 4
  have d5 := k1.cell 5
  have d6 := k1.cell 6
  simp only [OpV.cs, List.getElem?_cons_zero, List.getElem?_cons_succ] at d0 d1 d2 d3 d4 d5 d6
  have HI := Lib.hid (mayIns_any o size w1 l (H0.out.grown M1.out) HK.out HQ1.out HQ2.out HQ3.out)
  rw [HQ4.out] at HI
  have K01 := Lib.hid (K0.out.mod m1 (fun e => e))
  have K11 := Lib.hid k1
  have K21 := Lib.hid (K2.out.mod m1 (fun e => e))
  clear m1 k1
  go_wp2_with fail
  refine HI.out.mono ?_
  rintro e w2 ⟨rfl, m2⟩
  have k0 := K01.out.mod m2 (fun e => e)
  have M2 := Lib.hid (M1.out.trans m2)
  have K12 := Lib.hid (K11.out.mod m2 (fun e => e))
  have K22 := Lib.hid (K21.out.mod m2 (fun e => e))
  have a0 := k0.cell 0
  have a1 := k0.cell 1
  have a2 := k0.cell 2
  simp only [List.getElem?_cons_zero, List.getElem?_cons_succ] at a0 a1 a2
  have K02 := Lib.hid k0
  clear d0 d1 d2 d3 d4 d5 d6 m2 k0
  go_wp2_with fail
  refine (places_any s a t _).mono ?_
  rintro e w3 ⟨rfl, m3⟩
  go_wp2_with fail
  obtain ⟨P, hPe⟩ : ∃ P, P = w3.heap.size := ⟨_, rfl⟩
  have kP : Blk (w3.alloc (.cells #[.int .i64 a, .int .i64 t] 24)) P [.int .i64 a, .int .i64 t] 24 := by rw [hPe]; exact Blk.new
  have mP := Lib.hid (m3.alloc (.cells #[.int .i64 a, .int .i64 t] 24))
  have MP := Lib.hid (M2.out.trans mP.out)
  have hPw : X + 2 < P := by have := K22.out.lt; have := m3.size; omega
  rw [← hPe]
  clear hPe m3
  generalize w3.alloc (.cells #[.int .i64 a, .int .i64 t] 24) = wP at kP mP MP ⊢
  have KP0 := Lib.hid (K02.out.mod mP.out (fun e => e))
  have KP1 := Lib.hid (K12.out.mod mP.out (fun e => e))
  have KP2 := Lib.hid (K22.out.mod mP.out (fun e => e))
  clear a0 a1 a2
  go_loopg [25] 2 (fun g s25 wx => ∃ k : Nat, g = 2 - k ∧ s25 = .int .i64 k ∧ k ≤ 2 ∧ Mod (one P) wP wx ∧ Blk wx P (twoAt k a t A T) 24)
  case atStart => exact ⟨0, rfl, rfl, by omega, Mod.refl _ _, kP⟩
  case round =>
    obtain ⟨k, rfl, rfl, hk2, mx, kx⟩ := hrel
    match k, hk2, kx with
    | 0, _, kx =>
      have kx0 : Blk wr P [.int .i64 a, .int .i64 t] 24 := kx
      have kA := KP0.out.mod mx (fun e => by have e' : X = P := e; omega)
      have kB := KP1.out.mod mx (fun e => by have e' : X + 1 = P := e; omega)
      have MW := Lib.hid (MP.out.transIn mx (fun b hb e => by have e' : b = P := e; have := HX.out; omega))
      have KX := Lib.hid kx0
      have MX := Lib.hid mx
      have q0 := kx0.cell 0
      have a0 := kA.cell 0
      have d0 := kB.cell 0
      have d1 := kB.cell 1
      have d2 := kB.cell 2
      have d3 := kB.cell 3
      have d4 := kB.cell 4
      have d5 := kB.cell 5
      have d6 := kB.cell 6
      simp only [OpV.cs, List.getElem?_cons_zero, List.getElem?_cons_succ] at q0 a0 d0 d1 d2 d3 d4 d5 d6
      have hH := H0.out.grown MW.out
      clear kx kx0 kA kB mx
      go_upto_region 7 with fail
      go_region_held3 (fun w' => Mod none_ wr w' ∧ w'.cell? ⟨P, 0, none⟩ = some (.int .i64 a) ∧ w'.cell? ⟨X, 0, none⟩ = some (.int .i64 s) ∧ w'.cell? ⟨X + 1, 0, none⟩ = some (.int .i64 o.site) ∧ w'.cell? ⟨X + 1, 1, none⟩ = some (.int .i64 o.seq) ∧ w'.cell? ⟨X + 1, 2, none⟩ = some (.int .i64 o.num) ∧ w'.cell? ⟨X + 1, 3, none⟩ = some (.int .i64 o.kind) ∧ w'.cell? ⟨X + 1, 4, none⟩ = some (.int .i64 o.at_) ∧ w'.cell? ⟨X + 1, 5, none⟩ = some (.string o.text) ∧ w'.cell? ⟨X + 1, 6, none⟩ = some (.slice o.sa o.slen o.scap))
        (first
          | exact ⟨Mod.drew (Mod.refl none_ wr), q0, a0, d0, d1, d2, d3, d4, d5, d6⟩
          | assumption
          | (obtain ⟨q, qa, qb, q0, q1, q2, q3, q4, q5, q6⟩ := ‹Mod none_ wr _ ∧ _›; exact ⟨q.trans m1, m1.cell (fun e => e) qa, m1.cell (fun e => e) qb, m1.cell (fun e => e) q0, m1.cell (fun e => e) q1, m1.cell (fun e => e) q2, m1.cell (fun e => e) q3, m1.cell (fun e => e) q4, m1.cell (fun e => e) q5, m1.cell (fun e => e) q6⟩))
        (first
          | (go_at_call 65; refine (ipoint_any o a size _ _ _ (hH.grown (And.left (by assumption))) HK.out HQ1.out HQ2.out HQ3.out HQ4.out (by omega)).mono ?_; rintro e w4 ⟨rfl, m1⟩))
      rename_i hHeld
      have M4 := And.left hHeld
      have k4 := KX.out.mod M4 (fun e => e)
      have x0 := k4.cell 0
      have x1 := k4.cell 1
      simp only [List.getElem?_cons_zero, List.getElem?_cons_succ] at x0 x1
      have r0 := k4.frozen 0
      have r1 := k4.frozen 1
      have K4 := Lib.hid k4
      have M5 := Lib.hid (MX.out.trans (M4.mono (T := one P) (fun _ _ e => e.elim)))
      clear hHeld M4 k4 m1
      rw [← HA.out]
      go_wp2_with fail
      go_roundg 1
      all_goals first
        | omega
        | exact ⟨1, rfl, by go_num, by omega, M5.out.setCell ⟨P, 0, none⟩ (fun _ => rfl) _, K4.out.set 0 (.int .i64 A)⟩
    | 1, _, kx =>
      have kx0 : Blk wr P [.int .i64 A, .int .i64 t] 24 := kx
      have kA := KP0.out.mod mx (fun e => by have e' : X = P := e; omega)
      have kB := KP1.out.mod mx (fun e => by have e' : X + 1 = P := e; omega)
      have MW := Lib.hid (MP.out.transIn mx (fun b hb e => by have e' : b = P := e; have := HX.out; omega))
      have KX := Lib.hid kx0
      have MX := Lib.hid mx
      have q0 := kx0.cell 1
      have a0 := kA.cell 0
      have d0 := kB.cell 0
      have d1 := kB.cell 1
      have d2 := kB.cell 2
      have d3 := kB.cell 3
      have d4 := kB.cell 4
      have d5 := kB.cell 5
      have d6 := kB.cell 6
      simp only [OpV.cs, List.getElem?_cons_zero, List.getElem?_cons_succ] at q0 a0 d0 d1 d2 d3 d4 d5 d6
      have hH := H0.out.grown MW.out
      clear kx kx0 kA kB mx
      go_upto_region 7 with fail
      go_region_held3 (fun w' => Mod none_ wr w' ∧ w'.cell? ⟨P, 1, none⟩ = some (.int .i64 t) ∧ w'.cell? ⟨X, 0, none⟩ = some (.int .i64 s) ∧ w'.cell? ⟨X + 1, 0, none⟩ = some (.int .i64 o.site) ∧ w'.cell? ⟨X + 1, 1, none⟩ = some (.int .i64 o.seq) ∧ w'.cell? ⟨X + 1, 2, none⟩ = some (.int .i64 o.num) ∧ w'.cell? ⟨X + 1, 3, none⟩ = some (.int .i64 o.kind) ∧ w'.cell? ⟨X + 1, 4, none⟩ = some (.int .i64 o.at_) ∧ w'.cell? ⟨X + 1, 5, none⟩ = some (.string o.text) ∧ w'.cell? ⟨X + 1, 6, none⟩ = some (.slice o.sa o.slen o.scap))
        (first
          | exact ⟨Mod.drew (Mod.refl none_ wr), q0, a0, d0, d1, d2, d3, d4, d5, d6⟩
          | assumption
          | (obtain ⟨q, qa, qb, q0, q1, q2, q3, q4, q5, q6⟩ := ‹Mod none_ wr _ ∧ _›; exact ⟨q.trans m1, m1.cell (fun e => e) qa, m1.cell (fun e => e) qb, m1.cell (fun e => e) q0, m1.cell (fun e => e) q1, m1.cell (fun e => e) q2, m1.cell (fun e => e) q3, m1.cell (fun e => e) q4, m1.cell (fun e => e) q5, m1.cell (fun e => e) q6⟩))
        (first
          | (go_at_call 65; refine (ipoint_any o t size _ _ _ (hH.grown (And.left (by assumption))) HK.out HQ1.out HQ2.out HQ3.out HQ4.out (by omega)).mono ?_; rintro e w4 ⟨rfl, m1⟩))
      rename_i hHeld
      have M4 := And.left hHeld
      have k4 := KX.out.mod M4 (fun e => e)
      have x0 := k4.cell 0
      have x1 := k4.cell 1
      simp only [List.getElem?_cons_zero, List.getElem?_cons_succ] at x0 x1
      have r0 := k4.frozen 0
      have r1 := k4.frozen 1
      have K4 := Lib.hid k4
      have M5 := Lib.hid (MX.out.trans (M4.mono (T := one P) (fun _ _ e => e.elim)))
      clear hHeld M4 k4 m1
      rw [← HT.out]
      go_wp2_with fail
      go_roundg 0
      all_goals first
        | omega
        | exact ⟨2, rfl, by go_num, by omega, M5.out.setCell ⟨P, 1, none⟩ (fun _ => rfl) _, K4.out.set 1 (.int .i64 T)⟩
    | 2, _, kx =>
      have kx0 : Blk wr P [.int .i64 A, .int .i64 T] 24 := kx
      have kA := KP0.out.mod mx (fun e => by have e' : X = P := e; omega)
      have kB := KP2.out.mod mx (fun e => by have e' : X + 1 + 1 = P := e; omega)
      have MW := Lib.hid (MP.out.transIn mx (fun b hb e => by have e' : b = P := e; have := HX.out; omega))
      have a0 := kA.cell 0
      have a1 := kA.cell 1
      have a2 := kA.cell 2
      have q0 := kx0.cell 0
      have q1 := kx0.cell 1
      simp only [List.getElem?_cons_zero, List.getElem?_cons_succ] at a0 a1 a2 q0 q1
      have KB := Lib.hid kB
      clear kA kB kx kx0 mx kP
      go_wp2_with fail
      refine (at_any s a t A T _).mono ?_
      rintro e w5 ⟨rfl, m5⟩
      have k1 := KB.out.mod m5 (fun e => e)
      have M5 := Lib.hid (MW.out.trans m5)
      have d0 := k1.cell 0
      have d1 := k1.cell 1
      have d2 := k1.cell 2
      simp only [List.getElem?_cons_zero, List.getElem?_cons_succ] at d0 d1 d2
      have r0 := k1.frozen 0
      have r1 := k1.frozen 1
      have r2 := k1.frozen 2
      have KF := Lib.hid (((k1.set 0 (.int .i64 s)).set 1 (.int .i64 A)).set 2 (.int .i64 T))
      have MF := Lib.hid (((M5.out.setCell ⟨X + 1 + 1, 0, none⟩ (fun h => absurd h (by have := HX.out; simp; omega)) (.int .i64 s)).setCell ⟨X + 1 + 1, 1, none⟩ (fun h => absurd h (by have := HX.out; simp; omega)) (.int .i64 A)).setCell ⟨X + 1 + 1, 2, none⟩ (fun h => absurd h (by have := HX.out; simp; omega)) (.int .i64 T))
      clear k1 m5
      go_wp2_with fail
      exact bodyPost_ret (results_mkt rfl _ _ (X + 1 + 1) [.int .i64 s, .int .i64 A, .int .i64 T] rfl rfl (blk_range KF.out)) rfl ⟨rfl, MF.out⟩

end Go.Proofs.YtlbkalbelefhmaaDoor

namespace Go.Proofs.YtlbkalbelefhmaaDoor
open Go.RowKit Go.Mine

/-- Blank cells. -/
def blanks (k : Nat) : List CellV := (List.range k).map fun i : Nat => ⟨99, 1, (i : Int), 46, false⟩
theorem blanks_succ (k : Nat) : blanks (k + 1) = blanks k ++ [⟨99, 1, (k : Int), 46, false⟩] := by
  unfold blanks; rw [List.range_succ, List.map_append]; rfl
theorem blanks_len (k : Nat) : (blanks k).length = k := by unfold blanks; simp

set_option maxHeartbeats 2000000 in
set_option maxRecDepth 1000000 in
theorem blank_any (n : Nat) (w : World) (hn : n ≤ 1000000) :
    Calls Tryd.prog 59 #[.int .i64 (n : Int)] w fun e w' => ∃ v, e = .returned v ∧ w'.ownsRow w.heap.size 63 5 v n (flat CellV.cs (blanks n)) ∧ Mod none_ w w' := by
  obtain ⟨i0, hi0, hz0, hz1, hz2⟩ := info_parts infoCell
  go_enter Tryd.func59, Tryd.ntmps59
  go_wp2_with fail
  go_loopg [3, 4] n (fun g s3 s4 wx => ∃ k : Nat, g = n - k ∧ s4 = .int .i64 k ∧ k ≤ n ∧ Mod none_ w wx ∧ wx.ownsRow w.heap.size 63 5 s3 k (flat CellV.cs (blanks k)))
  case atStart => exact ⟨0, rfl, rfl, Nat.zero_le _, Mod.refl _ _, World.ownsRow_nil _ _ _ _⟩
  case round =>
    obtain ⟨k, rfl, rfl, hk, m1, ho⟩ := hrel
    have M1 := Lib.hid m1
    have O1 := Lib.hid ho
    have hsz := m1.size
    by_cases hlk : k < n
    · have hdd : decide ((k : Int) < (n : Int)) = true := by simp; omega
      have hfl : (flat CellV.cs (blanks k)).length = k * 5 := by rw [flat_length CellV.len, blanks_len]
      clear m1 ho
      go_wp2_with (at_builtin; refine wpList_append_own _ rfl (.tmp 10) (.tmp 14) 22 rfl w.heap.size 63 i0 _ 5 32 Tryd.underlying22 hi0 hz0 hz1 hz2 rfl (by decide) _ k (flat CellV.cs (blanks k)) rfl (by exact ownsRow_mod O1.out ((Mod.refl none_ wr).alloc _) (fun _ _ e => e)) ⟨wr.heap.size, 0, none⟩ 1 1 (CellV.cs ⟨99, 1, (k : Int), 46, false⟩) rfl rfl (World.news_of_block (heap_alloc_new wr _)) (CellV.ones _) (by unfold maxLen; omega) (by omega) (by simp; omega) ?_; intro v' w1 ho hg _; have HO := Lib.hid ho; have MV := Lib.hid ((M1.out.alloc _).grown hg (fun j e hj => absurd hj (by have := (O1.out.lt j e).1; omega))); clear ho hg)
      go_roundg (n - (k + 1))
      case measure => omega
      case rel =>
        refine ⟨k + 1, rfl, by go_num, by omega, MV.out, ?_⟩
        have := HO.out
        rw [blanks_succ, flat_append]
        simpa [flat] using this
    · obtain rfl : k = n := by omega
      have hdd : decide ((k : Int) < (k : Int)) = false := by simp
      clear m1 ho
      go_wp2_with fail
      go_ret
      exact ⟨_, rfl, O1.out, M1.out⟩

end Go.Proofs.YtlbkalbelefhmaaDoor

namespace Go.Proofs.YtlbkalbelefhmaaDoor
open Go.RowKit Go.Mine
open Classical

def xy : ByteArray := ⟨#[120, 121]⟩
theorem ulen_xy : ulen xy = 2 := by
  have h0 : Lib.decodeGo xy = (120, 1) := by decide
  have h1 : tl xy 1 = ⟨#[121]⟩ := by decide
  have h2 : Lib.decodeGo ⟨#[121]⟩ = (121, 1) := by decide
  have h3 : tl ⟨#[121]⟩ 1 = ⟨#[]⟩ := by decide
  unfold ulen
  rw [runesOf_step (by decide) (by unfold bad1; rw [h0]; decide), h0]
  dsimp only
  rw [h1, runesOf_step (by decide) (by unfold bad1; rw [h2]; decide), h2]
  dsimp only
  rw [h3, runesOf_nil (by decide)]
  rfl
theorem ascii_xy : ascii xy := by unfold ascii xy; decide

/-- alive's operation, by a site. -/
def alOp (s : Int) : OpV := ⟨s, 1, 0, 1, 1, xy, none, 0, 0⟩
theorem alOp_ok (s : Int) (hs : 1 ≤ s ∧ s ≤ 16) (w : World) : (alOp s).ok w [] := by
  refine ⟨?_, ?_, ?_, ?_, ?_, .inr ascii_xy, (by decide : xy.size < 4611686018427387904), ⟨rfl, Nat.le_refl _, Nat.zero_le _, fun x hx => (by cases hx), fun i x hx => by simp at hx⟩⟩ <;> simp [alOp] <;> omega
theorem alOp_ins (s : Int) : insOk (alOp s) 3 = true := by
  have h : xy.size = 2 := by decide
  simp [insOk, alOp, textOk, ulen_xy, inB, h]
theorem alOp_adds (s : Int) : addsOf (alOp s) = 2 := by
  unfold addsOf alOp
  rw [if_pos rfl]
  dsimp only
  rw [ulen_xy]
  rfl

/-- alive's cells, k of them turned. -/
def alC (k : Nat) : List CellV := (List.range 3).map fun i : Nat => ⟨if i < k then 9 else 99, 1, (i : Int), 46, false⟩
theorem alC_ok : ∀ c ∈ alC 3, c.ok := by
  intro c hc
  simp [alC, List.range, List.range.loop] at hc
  rcases hc with rfl | rfl | rfl <;> exact ⟨by dsimp only; omega, by dsimp only; omega, by dsimp only; omega, by dsimp only; omega⟩
theorem alC_new : newE (alC 3) = 0 := by
  unfold newE
  rw [if_pos (by decide), if_pos (by simp [alC, List.range, List.range.loop, CellV.id]), if_pos (by decide)]
theorem alC_put : putV (alC 3) 1 1 1 = .tuple #[.agg #[.int .i64 1, .int .i64 1, .int .i64 1], .int .i64 0] := by
  have h1 : gapBad (alC 3) 1 = false := by decide
  have h2 : gapN (alC 3) 1 = 1 := by decide
  unfold putV
  rw [h1, h2]
  rfl
theorem alC_blanks : alC 0 = blanks 3 := by rfl

end Go.Proofs.YtlbkalbelefhmaaDoor

namespace Go.Proofs.YtlbkalbelefhmaaDoor
open Go.RowKit Go.Mine

theorem al_mv2 : pointOf 1 (alOp 2).at_ (addsOf (alOp 2)) ((alOp 2).site != 1) = 1 := by rw [alOp_adds]; rfl
theorem al_mv1 : pointOf 1 (alOp 1).at_ (addsOf (alOp 1)) ((alOp 1).site != 1) = 3 := by rw [alOp_adds]; rfl
theorem al_move (s r : Int) (hs : 1 ≤ s ∧ s ≤ 16) (hr : pointOf 1 (alOp s).at_ (addsOf (alOp s)) ((alOp s).site != 1) = r) (w : World) :
    Calls Tryd.prog 34 #[.agg #[.int .i64 1, .int .i64 1, .int .i64 1], (alOp s).v, .int .i64 3] w fun e w' => e = .returned (.tuple #[.agg #[.int .i64 1, .int .i64 r, .int .i64 r], .int .i64 0]) ∧ Mod none_ w w' := by
  have h := move_ins (alOp s) 1 1 1 3 w [] (alOp_ok s hs w) rfl (by decide) (by show nameOk s 1 = true; simp [nameOk, inB]; omega) (by show inB 0 0 1099511627776 = true; decide) (alOp_ins s) (by decide)
  rw [hr] at h
  exact h

set_option maxHeartbeats 4000000 in
set_option maxRecDepth 1000000 in
theorem alive_any (w : World) : Calls Tryd.prog 31 #[] w fun e w' => e = .returned (.bool true) ∧ Mod none_ w w' := by
  go_enter Tryd.func31, Tryd.ntmps31
  go_wp2_with fail
  refine (blank_any 3 w (by omega)).mono ?_
  rintro e w1 ⟨v, rfl, ho, m1⟩
  rcases ownsRow_blk ho with ⟨rfl, h0, _⟩ | ⟨g, cap, more, rfl, hg, kb, hnc, hcm, _⟩
  · omega
  rw [← alC_blanks] at kb
  have hcm' := hcm
  unfold maxLen at hcm'
  have KB := Lib.hid kb
  have M1 := Lib.hid m1
  have HCM := Lib.hid hcm
  clear ho kb m1 hcm
  go_wp2_with fail
  go_loopg [2] 3 (fun gg s2 wx => ∃ k : Nat, gg = 3 - k ∧ s2 = .int .i64 k ∧ k ≤ 3 ∧ Mod none_ w wx ∧ Blk wx g (flat CellV.cs (alC k) ++ more) 63)
  case atStart => exact ⟨0, rfl, rfl, by omega, M1.out, KB.out⟩
  case round =>
    obtain ⟨k, rfl, rfl, hk, mx, kx⟩ := hrel
    have MX := Lib.hid mx
    have KX := Lib.hid kx
    match k, hk, kx, KX with
    | 0, _, kx, KX =>
      have c0 : wr.cell? ⟨g, 0, none⟩ = some (.int .i64 99) := by rw [kx.cell]; rfl
      have f0 := kx.frozen 0
      clear kx mx
      go_wp2_with fail
      go_roundg 2
      all_goals first
        | omega
        | exact ⟨1, rfl, by go_num, by omega, MX.out.setCell ⟨g, 0, none⟩ (fun h => absurd h (by simp; omega)) _, KX.out.set 0 (.int .i64 9)⟩
    | 1, _, kx, KX =>
      have c0 : wr.cell? ⟨g, 5, none⟩ = some (.int .i64 99) := by rw [kx.cell]; rfl
      have f0 := kx.frozen 5
      clear kx mx
      go_wp2_with fail
      go_roundg 1
      all_goals first
        | omega
        | exact ⟨2, rfl, by go_num, by omega, MX.out.setCell ⟨g, 5, none⟩ (fun h => absurd h (by simp; omega)) _, KX.out.set 5 (.int .i64 9)⟩
    | 2, _, kx, KX =>
      have c0 : wr.cell? ⟨g, 10, none⟩ = some (.int .i64 99) := by rw [kx.cell]; rfl
      have f0 := kx.frozen 10
      clear kx mx
      go_wp2_with fail
      go_roundg 0
      all_goals first
        | omega
        | exact ⟨3, rfl, by go_num, by omega, MX.out.setCell ⟨g, 10, none⟩ (fun h => absurd h (by simp; omega)) _, KX.out.set 10 (.int .i64 9)⟩
    | 3, _, kx, KX =>
      have HN := Lib.hid (new_any wr (some ⟨g, 0, none⟩) 3 cap (alC 3) (blkCells kx rfl hnc HCM.out alC_ok) (by omega))
      clear kx mx KX
      go_wp2_with fail
      refine HN.out.mono ?_
      rintro e w3 ⟨m3, _, hd⟩
      obtain ⟨D, rfl, hdoc⟩ := hd alC_new
      have HP := put_any w3 _ D (alC 3) 1 1 1 hdoc (by decide)
      rw [alC_put] at HP
      have HP := Lib.hid HP
      have M3 := Lib.hid (MX.out.trans m3)
      clear m3 hd hdoc HN
      go_wp2_with fail
      refine HP.out.mono ?_
      rintro e w4 ⟨rfl, m4⟩
      have M4 := Lib.hid (M3.out.trans m4)
      have hz4 := m4.size
      clear m4
      go_upto_region 9 with fail
      obtain ⟨W5, hW5⟩ : ∃ W5, (w4.alloc (.cells #[.int .i64 1, .int .i64 1, .int .i64 1] 66)).alloc (.cells #[.int .i64 2, .int .i64 1, .int .i64 0, .int .i64 1, .int .i64 1, .string { data := #[120, 121] }, .slice none 0 0] 36) = W5 := ⟨_, rfl⟩
      have m5 : Mod none_ w4 W5 := by rw [← hW5]; exact ((Mod.refl none_ w4).alloc _).alloc _
      have kM : Blk W5 w4.heap.size [.int .i64 1, .int .i64 1, .int .i64 1] 66 := by
        rw [← hW5]
        exact (Blk.new (w := w4) (cs := [.int .i64 1, .int .i64 1, .int .i64 1]) (t := 66)).mod ((Mod.refl none_ _).alloc _) (fun e => e)
      have kO : Blk W5 (w4.heap.size + 1) [.int .i64 2, .int .i64 1, .int .i64 0, .int .i64 1, .int .i64 1, .string { data := #[120, 121] }, .slice none 0 0] 36 := by
        have := Blk.new (w := w4.alloc (.cells #[.int .i64 1, .int .i64 1, .int .i64 1] 66)) (cs := [.int .i64 2, .int .i64 1, .int .i64 0, .int .i64 1, .int .i64 1, .string { data := #[120, 121] }, .slice none 0 0]) (t := 36)
        rw [World.size_alloc] at this
        rw [← hW5]
        exact this
      rw [hW5]
      have M5 := Lib.hid (M4.out.trans m5)
      obtain ⟨X, hX⟩ : ∃ X, X = w4.heap.size := ⟨_, rfl⟩
      rw [← hX] at kM kO ⊢
      have hXw : w.heap.size ≤ X := by have := M4.out.size; omega
      clear hX hW5 m5 hz4
      have a0 := kM.cell 0
      have a1 := kM.cell 1
      have a2 := kM.cell 2
      have o0 := kO.cell 0
      have o1 := kO.cell 1
      have o2 := kO.cell 2
      have o3 := kO.cell 3
      have o4 := kO.cell 4
      have o5 := kO.cell 5
      have o6 := kO.cell 6
      simp only [List.getElem?_cons_zero, List.getElem?_cons_succ] at a0 a1 a2 o0 o1 o2 o3 o4 o5 o6
      have KM := Lib.hid kM
      have KO := Lib.hid kO
      clear kM kO
      go_wp2_with fail
      refine (al_move 2 1 (by omega) al_mv2 W5).mono ?_
      rintro e w6 ⟨rfl, m6⟩
      have mA := m6.alloc (.cells #[.int .i64 1, .int .i64 1, .int .i64 1] 66)
      have kA := Blk.new (w := w6) (cs := [.int .i64 1, .int .i64 1, .int .i64 1]) (t := 66)
      have hz6 := m6.size
      have hlx := KO.out.lt
      have M6 := Lib.hid (M5.out.trans mA)
      have k7 := KO.out.mod mA (fun e => e)
      have KM7 := Lib.hid (KM.out.mod mA (fun e => e))
      clear mA m6 a0 a1 a2 o0 o1 o2 o3 o4 o5 o6
      go_upto_region 10 with fail
      generalize w6.alloc (.cells #[.int .i64 1, .int .i64 1, .int .i64 1] 66) = w7 at kA k7 KM7 M6 ⊢
      obtain ⟨Y, hY⟩ : ∃ Y, Y = w6.heap.size := ⟨_, rfl⟩
      rw [← hY] at kA ⊢
      have hYX : X + 1 < Y := by omega
      clear hY hz6 hlx
      have o0 := k7.cell 0
      simp only [List.getElem?_cons_zero] at o0
      have p0 := k7.frozen 0
      have mS := (Mod.refl (one (X + 1)) w7).setCell ⟨X + 1, 0, none⟩ (fun _ => rfl) (.int .i64 1)
      have KO8 := Lib.hid (k7.set 0 (.int .i64 1))
      have KM8 := Lib.hid (KM7.out.mod mS (fun e => by have e' : X = X + 1 := e; omega))
      have KA8 := Lib.hid (kA.mod mS (fun e => by have e' : Y = X + 1 := e; omega))
      have M8 := Lib.hid (M6.out.transIn mS (fun b hb e => by have e' : b = X + 1 := e; omega))
      clear mS k7 kA
      go_upto_region 11 with fail
      generalize w7.setCell ⟨X + 1, 0, none⟩ (.int .i64 1) = w8 at KO8 KM8 KA8 M8 ⊢
      clear o0 p0
      have a0 := KM8.out.cell 0
      have a1 := KM8.out.cell 1
      have a2 := KM8.out.cell 2
      have o0 := KO8.out.cell 0
      have o1 := KO8.out.cell 1
      have o2 := KO8.out.cell 2
      have o3 := KO8.out.cell 3
      have o4 := KO8.out.cell 4
      have o5 := KO8.out.cell 5
      have o6 := KO8.out.cell 6
      simp only [List.set_cons_zero, List.getElem?_cons_zero, List.getElem?_cons_succ] at a0 a1 a2 o0 o1 o2 o3 o4 o5 o6
      go_wp2_with fail
      refine (al_move 1 3 (by omega) al_mv1 w8).mono ?_
      rintro e w9 ⟨rfl, m9⟩
      have mB := m9.alloc (.cells #[.int .i64 1, .int .i64 3, .int .i64 3] 66)
      have kB := Blk.new (w := w9) (cs := [.int .i64 1, .int .i64 3, .int .i64 3]) (t := 66)
      have M9 := Lib.hid (M8.out.trans mB)
      have kA9 := KA8.out.mod mB (fun e => e)
      clear mB m9 a0 a1 a2 o0 o1 o2 o3 o4 o5 o6
      go_upto_region 12 with fail
      generalize w9.alloc (.cells #[.int .i64 1, .int .i64 3, .int .i64 3] 66) = wB at kB kA9 M9 ⊢
      have a1 := kA9.cell 1
      have b1 := kB.cell 1
      have b2 := kB.cell 2
      simp only [List.getElem?_cons_zero, List.getElem?_cons_succ] at a1 b1 b2
      clear kA9 kB
      go_wp2_with fail
      go_ret
      exact ⟨rfl, M9.out⟩

end Go.Proofs.YtlbkalbelefhmaaDoor

namespace Go.Proofs.YtlbkalbelefhmaaDoor
open Go.RowKit Go.Mine
open Classical

/-- Spans that a function made. -/
theorem spans_owned {w : World} {B n : Nat} {va : Option Addr} {vc : Nat} {L : List (Int × Int)} (h : w.ownsRow B 82 2 (.slice va n vc) n (flat spCs L)) (hok : spansOk L = true) (hl : L.length ≤ 20000) :
    IsSpans w va n vc L ∧ ∀ b off, va = some ⟨b, off, none⟩ → 0 < n → B ≤ b := by
  have hf := ok_fits L (-1) hok
  have h1 := h.1
  rw [flat_length spCs_len] at h1
  have hn : L.length = n := by omega
  rcases ownsRow_blk h with ⟨hv, h0, _⟩ | ⟨g, cap, more, hv, hg, hb, hnc, hcm, _⟩
  · cases hv
    have hnil : L = [] := List.eq_nil_of_length_eq_zero (by omega)
    subst hnil
    exact ⟨⟨rfl, Nat.le_refl _, by unfold maxLen; omega, (fun x hx => by cases hx), (fun i x hx => by cases hx)⟩, (fun b off e => by cases e)⟩
  · cases hv
    refine ⟨⟨hn, hnc, hcm, fun x hx => ?_, fun i x hx => ?_⟩, fun b off e _ => by cases e; exact hg⟩
    · have := hf x hx
      omega
    · have hr : ∀ (j : Nat) (v : Value), (spCs x)[j]? = some v → w.cell? ⟨g, i * 2 + j, none⟩ = some v := by
        intro j v hj
        obtain ⟨hi, _⟩ := List.getElem?_eq_some_iff.1 hx
        obtain ⟨hj2, _⟩ := List.getElem?_eq_some_iff.1 hj
        have hj3 : j < 2 := hj2
        rw [hb.cell, List.getElem?_append_left (by rw [flat_length spCs_len]; omega), flat_get spCs_len L i j x hx hj3, hj]
      refine ⟨g, 0, rfl, ?_, ?_⟩
      · have := hr 0 _ rfl
        simpa using this
      · have := hr 1 _ rfl
        simpa [Nat.zero_add] using this

set_option maxHeartbeats 16000000 in
set_option maxRecDepth 1000000 in
theorem caretShown_any (w : World) (ca : Option Addr) (clen ccap : Nat) (l : List CellV) (hc : IsCells w ca clen ccap l) (aa : Option Addr) (alen acap : Nat) (acts : List ActV) (ha : IsActs w aa alen acap acts) (s i j : Int) :
    Calls Tryd.prog 8 #[.slice ca clen ccap, .slice aa alen acap, .agg #[.int .i64 s, .int .i64 i, .int .i64 j]] w fun e w' => e = .returned (.bool true) ∧ Mod none_ w w' := by
  obtain ⟨W0, hW0⟩ : ∃ W0, w.alloc (.cells #[.int .i64 s, .int .i64 i, .int .i64 j] 77) = W0 := ⟨_, rfl⟩
  obtain ⟨K, hK⟩ : ∃ K, K = w.heap.size := ⟨_, rfl⟩
  have m0 : Mod none_ w W0 := by rw [← hW0]; exact (Mod.refl none_ w).alloc _
  have k0 : Blk W0 K [.int .i64 s, .int .i64 i, .int .i64 j] 77 := by
    rw [← hW0, hK]
    exact Blk.new (w := w) (cs := [.int .i64 s, .int .i64 i, .int .i64 j]) (t := 77)
  have HC := Lib.hid hc
  have HA := Lib.hid ha
  have M0 := Lib.hid m0
  have K0 := Lib.hid k0
  clear hc ha m0 k0
  go_enter Tryd.func8, Tryd.ntmps8
  go_upto_region 1 with fail
  rw [← hK]
  clear hW0 hK
  go_wp2_with fail
  refine (alive_any W0).mono ?_
  rintro e w1 ⟨rfl, m1⟩
  have M1 := Lib.hid (M0.out.trans m1)
  have K1 := Lib.hid (K0.out.mod m1 (fun e => e))
  have HG := Lib.hid (great_acts w1 ca clen ccap HC.out.le HC.out.big aa alen acap acts (HA.out.grown M1.out))
  clear m1 M0 K0
  go_wp2_with fail
  refine HG.out.mono ?_
  rintro e w2 ⟨rfl, m2⟩
  have M2 := Lib.hid (M1.out.trans m2)
  have K2 := Lib.hid (K1.out.mod m2 (fun e => e))
  clear m2 HG M1 K1
  cases hg : greatB clen acts
  case true =>
    go_wp2_with fail
    go_ret
    exact ⟨rfl, M2.out⟩
  have HDC := Lib.hid (document_any w2 ca clen ccap l (HC.out.grown M2.out) aa alen acap acts (HA.out.grown M2.out) hg)
  clear hg
  go_wp2_with fail
  refine HDC.out.mono ?_
  rintro e w3 (⟨_, rfl, m3⟩ | ⟨_, D, L, rfl, hF⟩)
  · have M3 := Lib.hid (M2.out.trans m3)
    have k3 := K2.out.mod m3 (fun e => e)
    have c0 := k3.cell 0
    have c1 := k3.cell 1
    have c2 := k3.cell 2
    simp only [List.getElem?_cons_zero, List.getElem?_cons_succ] at c0 c1 c2
    clear k3 m3 HDC
    go_upto_region 6 with fail
    go_quiet (fail)
    have M4 := Lib.hid (M3.out.drewN nq)
    generalize w3.drewN nq = w4 at M4 ⊢
    clear c0 c1 c2
    go_wp2_with fail
    refine (put_nil w4 s i j).mono ?_
    rintro e w5 ⟨rfl, m5⟩
    have M5 := Lib.hid ((M4.out.trans m5).alloc (.cells #[.int .i64 0, .int .i64 0, .int .i64 0] 66))
    clear m5
    go_wp2_with fail
    go_ret
    exact ⟨rfl, M5.out⟩
  have k3 := K2.out.mod hF.m (fun e => e)
  have c0 := k3.cell 0
  have c1 := k3.cell 1
  have c2 := k3.cell 2
  simp only [List.getElem?_cons_zero, List.getElem?_cons_succ] at c0 c1 c2
  have F3 := Lib.hid hF
  have hLb := hF.cl.big
  clear k3 hF HDC HC HA K2
  go_upto_region 6 with fail
  go_quiet (fail)
  have F4 := Lib.hid (F3.out.grown ((Mod.refl none_ w3).drewN nq))
  generalize w3.drewN nq = w4 at F4 ⊢
  clear c0 c1 c2 F3
  go_wp2_with fail
  refine (put_any w4 0 D L s i j F4.out.is (by omega)).mono ?_
  rintro e w5 ⟨rfl, m5⟩
  have F5 := Lib.hid (F4.out.grown m5)
  clear m5
  cases hs : inB s 1 16
  case false =>
    have hpv : putV L s i j = .tuple #[.agg #[.int .i64 0, .int .i64 0, .int .i64 0], .int .i64 1] := by unfold putV; rw [hs]; rfl
    rw [hpv]
    have hs' : decide (s < 1) = true ∨ (decide (s < 1) = false ∧ decide (16 < s) = true) := by
      unfold inB at hs
      cases h : decide (s < 1) <;> simp_all
    have MF := Lib.hid (M2.out.trans (F5.out.grown ((Mod.refl none_ w5).alloc (.cells #[.int .i64 0, .int .i64 0, .int .i64 0] 66))).m)
    clear hpv hs
    rcases hs' with h1 | ⟨h1, h2⟩
    · go_wp2_with fail
      go_ret
      exact ⟨rfl, MF.out⟩
    · go_wp2_with fail
      go_ret
      exact ⟨rfl, MF.out⟩
  have HS := Lib.hid hs
  have hs1 : decide (s < 1) = false := by unfold inB at hs; simp at hs; simp; omega
  have hs2 : decide (16 < s) = false := by unfold inB at hs; simp at hs; simp; omega
  cases hgb : gapBad L i || gapBad L j
  case true =>
    have hpv : putV L s i j = .tuple #[.agg #[.int .i64 0, .int .i64 0, .int .i64 0], .int .i64 3] := by
      unfold putV; rw [hs, hgb]; rfl
    rw [hpv]
    have hgb' : decide (i < 0) = true ∨ (decide (i < 0) = false ∧ decide ((liveN L : Int) < i) = true) ∨ (decide (i < 0) = false ∧ decide ((liveN L : Int) < i) = false ∧ decide (j < 0) = true) ∨ (decide (i < 0) = false ∧ decide ((liveN L : Int) < i) = false ∧ decide (j < 0) = false ∧ decide ((liveN L : Int) < j) = true) := by
      unfold gapBad at hgb
      cases h1 : decide (i < 0) <;> cases h2 : decide ((liveN L : Int) < i) <;> cases h3 : decide (j < 0) <;> simp_all
    have F6 := Lib.hid (F5.out.grown ((Mod.refl none_ w5).alloc (.cells #[.int .i64 0, .int .i64 0, .int .i64 0] 66)))
    have HL := Lib.hid (live_any _ 0 D L F6.out.is (by omega))
    have kM := Blk.new (w := w5) (cs := [.int .i64 0, .int .i64 0, .int .i64 0]) (t := 66)
    have KM := Lib.hid kM
    clear hpv hgb hs kM
    go_upto_region 10 with fail
    generalize w5.alloc (.cells #[.int .i64 0, .int .i64 0, .int .i64 0] 66) = w6 at F6 HL KM ⊢
    go_wp2_with fail
    refine HL.out.mono ?_
    rintro e w7 ⟨rfl, m7⟩
    have MF := Lib.hid (M2.out.trans (F6.out.grown m7).m)
    have k7 := KM.out.mod m7 (fun e => e)
    have c0 := k7.cell 0
    have c1 := k7.cell 1
    have c2 := k7.cell 2
    simp only [List.getElem?_cons_zero, List.getElem?_cons_succ] at c0 c1 c2
    clear k7 m7
    rcases hgb' with h1 | ⟨h1, h2⟩ | ⟨h1, h2, h3⟩ | ⟨h1, h2, h3, h4⟩
    all_goals
      go_wp2_with fail
      go_ret
      exact ⟨rfl, MF.out⟩
  simp only [Bool.or_eq_false_iff] at hgb
  obtain ⟨hgi, hgj⟩ := hgb
  have hpv : putV L s i j = .tuple #[.agg #[.int .i64 s, .int .i64 (gapN L i), .int .i64 (gapN L j)], .int .i64 0] := by
    unfold putV; rw [hs, hgi, hgj]; rfl
  have hsp := shown_put hLb hs hgi hgj
  have hdp := drop_put hLb hs hgi hgj
  have hsd := shown_drop hLb hs hgi hgj
  obtain ⟨hgE, hgL⟩ := goneL_drop hLb
  obtain ⟨G1, hG1⟩ : ∃ G1, G1 = gapN L i := ⟨_, rfl⟩
  obtain ⟨G2, hG2⟩ : ∃ G2, G2 = gapN L j := ⟨_, rfl⟩
  rw [← hG1, ← hG2] at hpv hsp hdp
  rw [hpv]
  have i1 : decide (i < 0) = false := by simp [gapBad] at hgi; simp; omega
  have i2 : decide ((liveN L : Int) < i) = false := by simp [gapBad] at hgi; simp; omega
  have j1 : decide (j < 0) = false := by simp [gapBad] at hgj; simp; omega
  have j2 : decide ((liveN L : Int) < j) = false := by simp [gapBad] at hgj; simp; omega
  have HSP := Lib.hid hsp
  have HDP := Lib.hid hdp
  have HSD := Lib.hid hsd
  have HGE := Lib.hid hgE
  have HGL := Lib.hid hgL
  have kM := Blk.new (w := w5) (cs := [.int .i64 s, .int .i64 G1, .int .i64 G2]) (t := 66)
  have mM := (Mod.refl none_ w5).alloc (.cells #[.int .i64 s, .int .i64 G1, .int .i64 G2] 66)
  obtain ⟨KM, hKM⟩ : ∃ KM, KM = w5.heap.size := ⟨_, rfl⟩
  rw [← hKM] at kM
  have HKM := Lib.hid hKM
  have MM := Lib.hid mM
  have KMB := Lib.hid kM
  clear hpv hsp hdp hsd hgE hgL hG1 hG2 hgi hgj kM mM hs
  go_upto_region 8 with fail
  rw [← hKM]
  clear hKM
  generalize w5.alloc (.cells #[.int .i64 s, .int .i64 G1, .int .i64 G2] 66) = w6 at KMB MM ⊢
  have HL := Lib.hid (live_any w6 0 D L (F5.out.grown MM.out).is (by omega))
  go_wp2_with fail
  refine HL.out.mono ?_
  rintro e w7 ⟨rfl, m7⟩
  have M7 := Lib.hid (MM.out.trans m7)
  have K7 := Lib.hid (KMB.out.mod m7 (fun e => e))
  have c0 := K7.out.cell 0
  have c1 := K7.out.cell 1
  have c2 := K7.out.cell 2
  simp only [List.getElem?_cons_zero, List.getElem?_cons_succ] at c0 c1 c2
  have HSH := Lib.hid (shown_any w7 0 D L s G1 G2 (F5.out.grown M7.out).is (by omega))
  rw [HSP.out] at HSH
  clear m7 MM KMB HL
  go_wp2_with fail
  refine HSH.out.mono ?_
  rintro e w8 ⟨rfl, m8⟩
  have M8 := Lib.hid (M7.out.trans m8)
  have K8 := Lib.hid (K7.out.mod m8 (fun e => e))
  clear m8 HSH c0 c1 c2 M7 K7
  have c0 := K8.out.cell 0
  have c1 := K8.out.cell 1
  have c2 := K8.out.cell 2
  simp only [List.getElem?_cons_zero, List.getElem?_cons_succ] at c0 c1 c2
  have HGO : RowKit.Hid (Calls Tryd.prog 23 #[.pointer (some ⟨D, 0, none⟩)] w8 fun e w' => (∃ va n vc, e = .returned (.slice va n vc) ∧ w'.ownsRow w8.heap.size 82 2 (.slice va n vc) n (flat spCs (goneL L))) ∧ Mod none_ w8 w') := by
    obtain ⟨S, h1, _⟩ := (F5.out.grown M8.out).doc
    exact Lib.hid (gone_any w8 S D L h1 (by omega))
  go_wp2_with fail
  refine HGO.out.mono ?_
  rintro e w9 ⟨⟨va, gn, vc, rfl, ho⟩, m9⟩
  have hgl : (goneL L).length ≤ 20000 := by
    have := plsOf_len (fun i => (L[i]?.map CellV.gone).getD false) L.length
    unfold goneL
    omega
  obtain ⟨hsp, hsb⟩ := spans_owned ho (goneL_ok hLb) hgl
  have hgn : gn ≤ 20000 := by have := hsp.n; omega
  have M9 := Lib.hid (M8.out.trans m9)
  have K9 := Lib.hid (K8.out.mod m9 (fun e => e))
  have HSPN := Lib.hid hsp
  have h85 := M8.out.size
  have HSB := Lib.hid (show ∀ b off, va = some ⟨b, off, none⟩ → 0 < gn → w5.heap.size ≤ b from fun b off e h => Nat.le_trans h85 (hsb b off e h))
  have HCD := Lib.hid (cdrop_any s G1 G2 w9 va gn vc (goneL L) hsp (by omega))
  rw [HDP.out] at HCD
  clear m9 ho hsp hsb c0 c1 c2 K8 M8 HGO h85
  have c0 := K9.out.cell 0
  have c1 := K9.out.cell 1
  have c2 := K9.out.cell 2
  simp only [List.getElem?_cons_zero, List.getElem?_cons_succ] at c0 c1 c2
  go_wp2_with fail
  refine HCD.out.mono ?_
  rintro e wA ⟨rfl, mA⟩
  have kX := Blk.new (w := wA) (cs := [.int .i64 s, .int .i64 i, .int .i64 j]) (t := 66)
  have mX := mA.alloc (.cells #[.int .i64 s, .int .i64 i, .int .i64 j] 66)
  have MX := Lib.hid (M9.out.trans mX)
  have KMX := Lib.hid (K9.out.mod mX (fun e => e))
  have HSPX := Lib.hid (HSPN.out.grown mX)
  obtain ⟨KX, hKX⟩ : ∃ KX, KX = wA.heap.size := ⟨_, rfl⟩
  have hKX5 : w5.heap.size ≤ KX := by rw [hKX]; exact Nat.le_trans M9.out.size mA.size
  rw [← hKX] at kX
  have KXX := Lib.hid kX
  clear mA mX kX c0 c1 c2 K9 M9 HCD HSPN
  go_upto_region 18 with fail
  rw [← hKX]
  clear hKX
  generalize wA.alloc (.cells #[.int .i64 s, .int .i64 i, .int .i64 j] 66) = wB at KXX MX KMX HSPX ⊢
  have hKXB := KXX.out.lt
  have hKMB := KMX.out.lt
  have FB := Lib.hid ((F5.out.box MX.out))
  have HDR := FB.out.drop_ va gn vc (goneL L) HSPX.out (fun b off e hn => .inr (.inr ⟨HSB.out b off e hn, by
    have hl : 0 < (goneL L).length := by rw [HSPX.out.n]; exact hn
    obtain ⟨b', off', e', hc, _⟩ := HSPX.out.cells 0 (goneL L)[0] (List.getElem?_eq_getElem hl)
    rw [e] at e'
    cases e'
    exact block_lt_of_cell hc⟩))
  rw [HGE.out, HGL.out] at HDR
  have HDR := Lib.hid HDR
  clear hKXB hKMB
  go_wp2_with fail
  refine HDR.out.mono ?_
  rintro e wC ⟨rfl, hN⟩
  have FC := Lib.hid hN.f
  have kmC := hN.bs _ _ _ (.inr ⟨by have := HKM.out; omega, KMX.out.lt⟩) KMX.out
  have kxC := hN.bs _ _ _ (.inr ⟨hKX5, KXX.out.lt⟩) KXX.out
  have KMC := Lib.hid kmC
  have x0 := kxC.cell 0
  have x1 := kxC.cell 1
  have x2 := kxC.cell 2
  simp only [List.getElem?_cons_zero, List.getElem?_cons_succ] at x0 x1 x2
  have hlv : (lives L).length ≤ 20000 := by have := liveN_le L; rw [lives_len]; omega
  have HS2 := Lib.hid (shown_any wC 0 D (lives L) s i j FC.out.is (by omega))
  rw [HSD.out] at HS2
  clear hN kmC kxC HDR FB KMX KXX HSPX MX
  go_wp2_with fail
  refine HS2.out.mono ?_
  rintro e wD ⟨rfl, mD⟩
  have FD := Lib.hid (FC.out.grown mD)
  have kmD := KMC.out.mod mD (fun e => e)
  have c0 := kmD.cell 0
  have c1 := kmD.cell 1
  have c2 := kmD.cell 2
  simp only [List.getElem?_cons_zero, List.getElem?_cons_succ] at c0 c1 c2
  clear mD kmD x0 x1 x2 HS2
  go_wp2_with fail
  refine (shown_nil wD s G1 G2).mono ?_
  rintro e wE ⟨rfl, mE⟩
  have FE := Lib.hid (FD.out.grown mE)
  clear mE c0 c1 c2
  go_wp2_with fail
  refine (size_any wE 0 D (lives L) FE.out.is (by omega)).mono ?_
  rintro e wF ⟨rfl, mF⟩
  have FF := Lib.hid (FE.out.grown mF)
  have HS3 := Lib.hid (shown_any wF 0 D (lives L) s (((lives L).length : Nat) + 1) 0 FF.out.is (by omega))
  rw [shown_far] at HS3
  obtain ⟨N, hN⟩ : ∃ N, N = (lives L).length := ⟨_, rfl⟩
  rw [← hN] at hlv HS3 ⊢
  have hw : IntKind.i64.wrap ((N : Int) + 1) = (N : Int) + 1 := by rw [IntKind.wrap_i64]; omega
  clear mF hN
  go_wp2_with fail
  refine HS3.out.mono ?_
  rintro e wG ⟨rfl, mG⟩
  have FG := Lib.hid (M2.out.trans (FF.out.grown mG).m)
  clear mG
  go_wp2_with fail
  go_ret
  exact ⟨rfl, FG.out⟩
end Go.Proofs.YtlbkalbelefhmaaDoor

namespace Go.Proofs.YtlbkalbelefhmaaDoor
open Go.RowKit Go.Mine

/-- All of them runes. -/
abbrev vR (rs : List Int) : Prop := ∀ r ∈ rs, Lib.validRune r = true
theorem bytesOf_flat (rs : List Int) : bytesOf rs = rs.flatMap Lib.encodeRune := by
  unfold bytesOf
  rw [List.map_flatMap]
  rfl
theorem bytesOf_append (a b : List Int) : bytesOf (a ++ b) = bytesOf a ++ bytesOf b := by simp [bytesOf_flat]
theorem bytesOf_cons (r : Int) (b : List Int) : bytesOf (r :: b) = Lib.encodeRune r ++ bytesOf b := by simp [bytesOf_flat]
theorem enc_pos (r : Int) : 0 < (Lib.encodeRune r).length := by
  unfold Lib.encodeRune Lib.encodeRuneZ
  repeat' split
  all_goals simp
theorem vR_cases {r : Int} (h : Lib.validRune r = true) : ∃ n : Nat, r = n ∧ (n < 128 ∨ (128 ≤ n ∧ n < 2048) ∨ (2048 ≤ n ∧ n < 65536 ∧ (n < 55296 ∨ 57344 ≤ n)) ∨ (65536 ≤ n ∧ n ≤ 1114111)) := by
  unfold Lib.validRune at h
  simp only [decide_eq_true_eq] at h
  exact ⟨r.toNat, by omega, by omega⟩
theorem b8 (n : Nat) (h : n < 256) : (UInt8.ofNat n).toNat = n := by rw [UInt8.toNat_ofNat']; omega
theorem enc_n (n : Nat) : Lib.encodeRune (n : Int) = if n < 128 then [UInt8.ofNat n] else if n < 2048 then [UInt8.ofNat (192 + n / 64), UInt8.ofNat (128 + n % 64)] else if n < 65536 ∧ (n < 55296 ∨ 57344 ≤ n) then [UInt8.ofNat (224 + n / 4096), UInt8.ofNat (128 + n / 64 % 64), UInt8.ofNat (128 + n % 64)]
    else if 65536 ≤ n ∧ n ≤ 1114111 then [UInt8.ofNat (240 + n / 262144), UInt8.ofNat (128 + n / 4096 % 64), UInt8.ofNat (128 + n / 64 % 64), UInt8.ofNat (128 + n % 64)] else [239, 191, 189] := by
  have tb : ∀ (z : Int) (m : Nat), z = m → z.toNat.toUInt8 = UInt8.ofNat m := fun z m h => by subst h; rfl
  unfold Lib.encodeRune
  split
  · rw [Lib.encodeRuneZ_one (by omega) (by omega)]
    simp only [List.map_cons, List.map_nil]
    rw [tb _ n rfl]
  · split
    · rw [Lib.encodeRuneZ_two (by omega) (by omega)]
      simp only [List.map_cons, List.map_nil]
      rw [tb _ (192 + n / 64) (by omega), tb _ (128 + n % 64) (by omega)]
    · split
      · rw [Lib.encodeRuneZ_three (by omega)]
        simp only [List.map_cons, List.map_nil]
        rw [tb _ (224 + n / 4096) (by omega), tb _ (128 + n / 64 % 64) (by omega), tb _ (128 + n % 64) (by omega)]
      · split
        · rw [Lib.encodeRuneZ_four (by omega) (by omega)]
          simp only [List.map_cons, List.map_nil]
          rw [tb _ (240 + n / 262144) (by omega), tb _ (128 + n / 4096 % 64) (by omega), tb _ (128 + n / 64 % 64) (by omega), tb _ (128 + n % 64) (by omega)]
        · unfold Lib.encodeRuneZ
          rw [if_neg (by omega), if_neg (by omega), if_neg (by omega), if_neg (by omega)]
          rfl
theorem dN1 (n m b1 b2 b3 : Nat) (h : m < 128) : Lib.decodeN n m b1 b2 b3 = (m, 1) := by unfold Lib.decodeN; rw [if_pos h]
theorem dN2 (n m b2 b3 : Nat) (h : 128 ≤ m ∧ m < 2048) (hn : 2 ≤ n) : Lib.decodeN n (192 + m / 64) (128 + m % 64) b2 b3 = (m, 2) := by
  unfold Lib.decodeN
  rw [if_neg (by omega), if_pos (by omega), if_pos (by omega)]
  congr 1
  omega
theorem dN3 (n m b3 : Nat) (h : 2048 ≤ m ∧ m < 65536 ∧ (m < 55296 ∨ 57344 ≤ m)) (hn : 3 ≤ n) : Lib.decodeN n (224 + m / 4096) (128 + m / 64 % 64) (128 + m % 64) b3 = (m, 3) := by
  have e : (224 + m / 4096) % 16 * 4096 + (128 + m / 64 % 64) % 64 * 64 + (128 + m % 64) % 64 = m := by omega
  unfold Lib.decodeN
  rw [if_neg (by omega), if_neg (by omega), if_pos (by omega), e, if_pos (by omega)]
theorem dN4 (n m : Nat) (h : 65536 ≤ m ∧ m ≤ 1114111) (hn : 4 ≤ n) : Lib.decodeN n (240 + m / 262144) (128 + m / 4096 % 64) (128 + m / 64 % 64) (128 + m % 64) = (m, 4) := by
  have e : (240 + m / 262144) % 8 * 262144 + (128 + m / 4096 % 64) % 64 * 4096 + (128 + m / 64 % 64) % 64 * 64 + (128 + m % 64) % 64 = m := by omega
  unfold Lib.decodeN
  rw [if_neg (by omega), if_neg (by omega), if_neg (by omega), if_pos (by omega), e, if_pos (by omega)]
/-- What was encoded is decoded. -/
theorem decodeL_enc {r : Int} (h : Lib.validRune r = true) (rest : List UInt8) : Lib.decodeL (Lib.encodeRune r ++ rest) = (r.toNat, (Lib.encodeRune r).length) := by
  obtain ⟨n, rfl, hc⟩ := vR_cases h
  rw [Lib.decodeL_N, enc_n, Int.toNat_natCast]
  rcases hc with h1 | ⟨h0, h1⟩ | ⟨h0, h1, h2⟩ | ⟨h0, h1⟩
  · rw [if_pos h1]
    simp only [List.cons_append, List.nil_append, List.getD_cons_zero]
    rw [b8 n (by omega), dN1 _ _ _ _ _ h1]
    rfl
  · rw [if_neg (by omega), if_pos h1]
    simp only [List.cons_append, List.nil_append, List.getD_cons_zero, List.getD_cons_succ]
    rw [b8 (192 + n / 64) (by omega), b8 (128 + n % 64) (by omega), dN2 _ _ _ _ ⟨h0, h1⟩ (by simp only [List.length_cons]; omega)]
    rfl
  · rw [if_neg (by omega), if_neg (by omega), if_pos ⟨h1, h2⟩]
    simp only [List.cons_append, List.nil_append, List.getD_cons_zero, List.getD_cons_succ]
    rw [b8 (224 + n / 4096) (by omega), b8 (128 + n / 64 % 64) (by omega), b8 (128 + n % 64) (by omega), dN3 _ _ _ ⟨h0, h1, h2⟩ (by simp only [List.length_cons]; omega)]
    rfl
  · rw [if_neg (by omega), if_neg (by omega), if_neg (by omega), if_pos ⟨h0, h1⟩]
    simp only [List.cons_append, List.nil_append, List.getD_cons_zero, List.getD_cons_succ]
    rw [b8 (240 + n / 262144) (by omega), b8 (128 + n / 4096 % 64) (by omega), b8 (128 + n / 64 % 64) (by omega), b8 (128 + n % 64) (by omega), dN4 _ _ ⟨h0, h1⟩ (by simp only [List.length_cons]; omega)]
    rfl
/-- A text's runes. -/
theorem runesFrom_bytes (s : ByteArray) : ∀ (rs : List Int), vR rs → ∀ (bound i : Nat) (acc : Array Value), s.data.toList.drop i = bytesOf rs → rs.length ≤ bound → Conv.runesFrom s bound i acc = acc ++ (r32s rs).toArray
  | [], _, bound, i, acc, hd, _ => by
    have hi : s.size ≤ i := by
      have := List.drop_eq_nil_iff.1 (hd.trans rfl)
      rw [Lib.size_eq]; exact this
    cases bound with
    | zero => simp [Conv.runesFrom, r32s]
    | succ b =>
      unfold Conv.runesFrom
      rw [if_neg (by omega)]
      simp [r32s]
  | r :: rs, hv, bound, i, acc, hd, hb => by
    obtain ⟨b, rfl⟩ : ∃ b, bound = b + 1 := ⟨bound - 1, by simp at hb; omega⟩
    have hr := hv r (List.mem_cons_self ..)
    rw [bytesOf_cons] at hd
    have hi : i < s.size := by
      have h1 := congrArg List.length hd
      have h2 := enc_pos r
      rw [List.length_drop, List.length_append] at h1
      rw [Lib.size_eq]
      omega
    have hdec : Utf8.decode s i = (r.toNat, (Lib.encodeRune r).length) := by
      rw [← Lib.decodeL_drop s i, hd, decodeL_enc hr]
    unfold Conv.runesFrom
    rw [if_pos hi, hdec]
    simp only
    rw [runesFrom_bytes s rs (fun x hx => hv x (List.mem_cons_of_mem _ hx)) b _ _ (by rw [← List.drop_drop, hd, List.drop_left]) (by simpa using hb)]
    obtain ⟨n, rfl, _⟩ := vR_cases hr
    simp [r32s]
theorem bytesOf_len (rs : List Int) : rs.length ≤ (bytesOf rs).length := by
  induction rs with
  | nil => simp
  | cons r rs ih =>
    rw [bytesOf_cons, List.length_append, List.length_cons]
    have := enc_pos r
    omega
theorem runes_str {rs : List Int} (hv : vR rs) : Conv.runesFrom ⟨(bytesOf rs).toArray⟩ (ByteArray.size ⟨(bytesOf rs).toArray⟩) 0 #[] = (r32s rs).toArray := by
  rw [runesFrom_bytes _ rs hv _ 0 #[] (by simp) (by have := bytesOf_len rs; rw [Lib.size_eq]; simpa using this)]
  simp
theorem encode_enc {r : Int} (h : Lib.validRune r = true) : Utf8.encode r = ⟨(Lib.encodeRune r).toArray⟩ := by
  obtain ⟨n, rfl, hc⟩ := vR_cases h
  have hval : Utf8.valid (n : Int) = true := by
    unfold Utf8.valid
    simp
    omega
  rw [enc_n]
  unfold Utf8.encode
  simp only [hval, if_true, Int.toNat_natCast]
  rcases hc with h1 | ⟨h0, h1⟩ | ⟨h0, h1, h2⟩ | ⟨h0, h1⟩
  · rw [if_pos h1, if_pos h1]
  · rw [if_neg (by omega), if_pos h1, if_neg (by omega), if_pos h1]
  · rw [if_neg (by omega), if_neg (by omega), if_pos h1, if_neg (by omega), if_neg (by omega), if_pos ⟨h1, h2⟩]
  · rw [if_neg (by omega), if_neg (by omega), if_neg (by omega), if_neg (by omega), if_neg (by omega), if_neg (by omega), if_pos ⟨h0, h1⟩]
theorem runesBytes_eq : ∀ (rs : List Int) (s : ByteArray), vR rs → rs.foldl (fun r n => r ++ Utf8.encode n) s = s ++ ⟨(bytesOf rs).toArray⟩
  | [], s, _ => by
    simp only [List.foldl_nil]
    apply ByteArray.ext
    simp [bytesOf]
  | r :: rs, s, hv => by
    rw [List.foldl_cons, runesBytes_eq rs _ (fun x hx => hv x (List.mem_cons_of_mem _ hx)), encode_enc (hv r (List.mem_cons_self ..)), bytesOf_cons]
    apply ByteArray.ext
    simp
/-- The bytes of runes. -/
theorem str_runes {rs : List Int} (hv : vR rs) : runesBytes rs = ⟨(bytesOf rs).toArray⟩ := by
  unfold runesBytes
  rw [runesBytes_eq rs _ hv]
  apply ByteArray.ext
  simp
/-- A text is its runes' bytes. -/
theorem runesOf_bytes : ∀ (n : Nat) (t : ByteArray), t.size ≤ n → ∀ rs, runesOf t = some rs → t.data.toList = bytesOf (rs.map fun r : Nat => (r : Int)) ∧ vR (rs.map fun r : Nat => (r : Int))
  | 0, t, h, rs, hr => by
    rw [runesOf_nil (by omega)] at hr
    cases hr
    refine ⟨?_, fun r hr => by cases hr⟩
    have : t.data.toList.length = 0 := by rw [← Lib.size_eq]; omega
    rw [List.eq_nil_of_length_eq_zero this]; rfl
  | n + 1, t, h, rs, hr => by
    by_cases h0 : t.size = 0
    · rw [runesOf_nil h0] at hr
      cases hr
      refine ⟨?_, fun r hr => by cases hr⟩
      have : t.data.toList.length = 0 := by rw [← Lib.size_eq]; omega
      rw [List.eq_nil_of_length_eq_zero this]; rfl
    · by_cases hb : bad1 t
      · rw [runesOf_bad h0 hb] at hr; cases hr
      · rw [runesOf_step h0 hb] at hr
        obtain ⟨rest, hr1, rfl⟩ := Option.map_eq_some_iff.1 hr
        have hp := decodeGo_pos h0
        obtain ⟨i1, i2⟩ := runesOf_bytes n (tl t (Lib.decodeGo t).2) (by rw [tl_size]; omega) rest hr1
        have hg : Lib.decodeGo t = Lib.decodeL t.data.toList := by
          have := Lib.decodeL_drop t 0
          rw [List.drop_zero] at this
          rw [this]
          unfold Lib.decodeGo
          rw [if_neg h0]
        have hne : t.data.toList ≠ [] := fun e => h0 (by rw [Lib.size_eq, e]; rfl)
        have hw1 : ¬ ((Lib.decodeL t.data.toList).1 = 65533 ∧ (Lib.decodeL t.data.toList).2 = 1) := fun e => hb (by unfold bad1; rw [hg]; omega)
        have htl : (tl t (Lib.decodeGo t).2).data.toList = t.data.toList.drop (Lib.decodeGo t).2 := by
          unfold tl
          rw [Lib.extract_data, List.take_of_length_le (by rw [List.length_drop, ← Lib.size_eq]; omega)]
        have hen := Lib.encode_decode _ hne hw1
        rw [← hg] at hen
        rw [htl] at i1
        refine ⟨?_, ?_⟩
        · rw [List.map_cons, bytesOf_cons, hen, ← i1, List.take_append_drop]
        · intro r hr
          rw [List.map_cons] at hr
          rcases List.mem_cons.1 hr with rfl | hr
          · rw [hg, Lib.decodeL_N]
            rw [Lib.decodeL_N] at hw1
            have k0 := (t.data.toList.getD 0 0).toNat_lt
            unfold Lib.validRune
            rw [decide_eq_true_eq]
            rcases Lib.decodeN_shape t.data.toList.length (t.data.toList.getD 0 0).toNat (t.data.toList.getD 1 0).toNat (t.data.toList.getD 2 0).toNat (t.data.toList.getD 3 0).toNat with ⟨c, e⟩ | ⟨c1, c2, c3, cv, e⟩ | ⟨c1, c2, c3, c4, cv, cs, e⟩ | ⟨c1, c2, c3, c4, c5, cv, cw, e⟩ | e
            · rw [e]; dsimp only; omega
            · rw [e]; dsimp only; omega
            · rw [e]; dsimp only; omega
            · rw [e]; dsimp only; omega
            · rw [e] at hw1; exact absurd ⟨rfl, rfl⟩ hw1
          · exact i2 r hr
theorem runesD_bytes {t : ByteArray} {rs : List Nat} (h : runesOf t = some rs) : t = ⟨(bytesOf (rs.map fun r : Nat => (r : Int))).toArray⟩ ∧ vR (rs.map fun r : Nat => (r : Int)) := by
  obtain ⟨h1, h2⟩ := runesOf_bytes t.size t (Nat.le_refl _) rs h
  refine ⟨?_, h2⟩
  apply ByteArray.ext
  rw [← h1]
theorem bytes_app (a b : List Int) : (⟨(bytesOf a).toArray⟩ : ByteArray) ++ ⟨(bytesOf b).toArray⟩ = ⟨(bytesOf (a ++ b)).toArray⟩ := by
  apply ByteArray.ext
  simp [bytesOf_append]
end Go.Proofs.YtlbkalbelefhmaaDoor

namespace Go.Proofs.YtlbkalbelefhmaaDoor
open Go.RowKit Go.Mine
open Classical

/-- Are there not these cells? -/
def runBad (l : List CellV) (i nn : Int) : Bool := decide (i < 0) || decide ((liveN l : Int) < i) || decide (nn < 0) || decide ((liveN l : Int) - i < nn)
def runP (l : List CellV) (i nn : Int) (j : Nat) : Bool := (l[j]?.map fun c => runB c.gone (seenN l j) i nn).getD false
/-- The places of the run. -/
def runL (l : List CellV) (i nn : Int) : List (Int × Int) := plsOf (runP l i nn) l.length

set_option maxHeartbeats 8000000 in
set_option maxRecDepth 1000000 in
theorem run_any (w : World) (S : Nat → Prop) (D : Nat) (l : List CellV) (i nn : Int) (hi : -9223372036854775808 ≤ i ∧ i ≤ 9223372036854775807) (h : DocS w S D l) (hlen : l.length ≤ 20000) :
    Calls Tryd.prog 15 #[.pointer (some ⟨D, 0, none⟩), .int .i64 i, .int .i64 nn] w fun e w' => ((runBad l i nn = true ∧ e = .returned (.tuple #[.slice none 0 0, .int .i64 3])) ∨ (runBad l i nn = false ∧ ∃ va n vc, e = .returned (.tuple #[.slice va n vc, .int .i64 0]) ∧ w'.ownsRow w.heap.size 82 2 (.slice va n vc) n (flat spCs (runL l i nn)))) ∧ Mod none_ w w' := by
  obtain ⟨W0, hW0⟩ : ∃ W0, (w.alloc (.cells #[.int .i64 i] 3)).alloc (.cells #[.int .i64 nn] 3) = W0 := ⟨_, rfl⟩
  have m0 : Mod none_ w W0 := by rw [← hW0]; exact ((Mod.refl none_ w).alloc _).alloc _
  have kI : Blk W0 w.heap.size [.int .i64 i] 3 := by
    rw [← hW0]
    exact (Blk.new (w := w) (cs := [.int .i64 i]) (t := 3)).mod ((Mod.refl none_ _).alloc _) (fun e => e)
  have kN : Blk W0 (w.heap.size + 1) [.int .i64 nn] 3 := by
    have := Blk.new (w := w.alloc (.cells #[.int .i64 i] 3)) (cs := [.int .i64 nn]) (t := 3)
    rw [World.size_alloc] at this
    rw [← hW0]
    exact this
  have HS := Lib.hid h
  have M0 := Lib.hid m0
  have KI := Lib.hid kI
  have KN := Lib.hid kN
  have HL := Lib.hid (live_any W0 0 D l (h.grown m0).is (by omega))
  have hlv := liveN_le l
  clear h m0 kI kN
  go_enter Tryd.func15, Tryd.ntmps15
  go_upto_region 3 with fail
  clear hW0
  go_wp2_with fail
  refine HL.out.mono ?_
  rintro e w1 ⟨rfl, m1⟩
  have M1 := Lib.hid (M0.out.trans m1)
  have ki := KI.out.mod m1 (fun e => e)
  have kn := KN.out.mod m1 (fun e => e)
  have c0 : w1.cell? ⟨w.heap.size, 0, none⟩ = some (.int .i64 i) := ki.cell 0
  have c1 : w1.cell? ⟨w.heap.size + 1, 0, none⟩ = some (.int .i64 nn) := kn.cell 0
  have KI1 := Lib.hid ki
  have KN1 := Lib.hid kn
  clear ki kn m1 HL KI KN M0
  cases hb : runBad l i nn
  case true =>
    have hb' : decide (i < 0) = true ∨ (decide (i < 0) = false ∧ decide ((liveN l : Int) < i) = true) ∨ (decide (i < 0) = false ∧ decide ((liveN l : Int) < i) = false ∧ decide (nn < 0) = true) ∨ (decide (i < 0) = false ∧ decide ((liveN l : Int) < i) = false ∧ decide (nn < 0) = false ∧ decide ((liveN l : Int) - i < nn) = true) := by
      unfold runBad at hb
      cases h1 : decide (i < 0) <;> cases h2 : decide ((liveN l : Int) < i) <;> cases h3 : decide (nn < 0) <;> simp_all
    have HB := Lib.hid hb
    clear hb
    rcases hb' with h1 | ⟨h1, h2⟩ | ⟨h1, h2, h3⟩ | ⟨h1, h2, h3, h4⟩
    · go_wp2_with fail
      go_ret2
      exact ⟨.inl ⟨HB.out, rfl⟩, M1.out⟩
    · go_wp2_with fail
      go_ret2
      exact ⟨.inl ⟨HB.out, rfl⟩, M1.out⟩
    · go_wp2_with fail
      go_ret2
      exact ⟨.inl ⟨HB.out, rfl⟩, M1.out⟩
    · have hw : IntKind.i64.wrap ((liveN l : Int) - i) = (liveN l : Int) - i := by simp at h1 h2; rw [IntKind.wrap_i64]; omega
      go_wp2_with fail
      go_ret2
      exact ⟨.inl ⟨HB.out, rfl⟩, M1.out⟩
  have hb2 := hb
  unfold runBad at hb2
  simp only [Bool.or_eq_false_iff] at hb2
  obtain ⟨⟨⟨h1, h2⟩, h3⟩, h4⟩ := hb2
  have hi0 : 0 ≤ i ∧ i ≤ 20000 := by simp at h1 h2; omega
  have hn0 : 0 ≤ nn ∧ nn ≤ 20000 := by simp at h1 h2 h3 h4; omega
  have hw : IntKind.i64.wrap ((liveN l : Int) - i) = (liveN l : Int) - i := by rw [IntKind.wrap_i64]; omega
  have m2 : Mod none_ w1 (w1.alloc (.cells #[.int .i64 (-1)] 3)) := (Mod.refl none_ w1).alloc _
  have kC := Blk.new (w := w1) (cs := [.int .i64 (-1)]) (t := 3)
  have M2 := Lib.hid (M1.out.trans m2)
  have ki2 := KI1.out.mod m2 (fun e => e)
  have kn2 := KN1.out.mod m2 (fun e => e)
  have hsz := M1.out.size
  have hKC := Lib.hid kC
  have KI2 := Lib.hid ki2
  have KN2 := Lib.hid kn2
  have hli : w.heap.size < w1.heap.size := KI1.out.lt
  have hln : w.heap.size + 1 < w1.heap.size := KN1.out.lt
  clear m2 kC ki2 kn2
  go_upto_region 7 with fail
  generalize w1.alloc (.cells #[.int .i64 (-1)] 3) = w2 at M2 hKC KI2 KN2 ⊢
  have HR : RowKit.Hid (Calls Tryd.prog 46 #[.pointer (some ⟨D, 0, none⟩), .func (.func 47) #[] #[.pointer (some ⟨w1.heap.size, 0, none⟩), .pointer (some ⟨w.heap.size, 0, none⟩), .pointer (some ⟨w.heap.size + 1, 0, none⟩)]] w2 fun e w' => (∃ va n vc, e = .returned (.slice va n vc) ∧ w'.ownsRow w2.heap.size 82 2 (.slice va n vc) n (flat spCs (runL l i nn))) ∧ Mod (one w1.heap.size) w2 w') := by
    obtain ⟨v, MB, bl, hv, _, hl, _⟩ := (HS.out.grown M2.out).ex
    obtain ⟨v0, MB0, bl0, hv0, _, _, hf0, _⟩ := HS.out.ex
    have hrp := runP_any w2 D MB v bl (runP l i nn) w1.heap.size w.heap.size (w.heap.size + 1) i nn hv (by rw [hl]; exact hlen) hi0 hn0 hKC.out KI2.out KN2.out (fun hk => by
        obtain ⟨cs, t, hb, ht⟩ := foot_blk hv hk
        have hk := hKC.out
        unfold Blk at hb hk
        rw [hb] at hk
        cases hk
        rcases ht with h | h | h | h
        · exact absurd h (by decide)
        · exact absurd h (by decide)
        · exact absurd h (by decide)
        · exact absurd h (by decide)) (by omega) (by omega) (fun j c hc => by
        rw [hl] at hc ⊢
        unfold runP seenN
        rw [hc]; rfl)
    rw [hl] at hrp
    exact Lib.hid hrp
  have h2s := M2.out.size
  clear h1 h2 h3 h4 c0 c1
  go_wp2_with fail
  refine HR.out.mono ?_
  rintro e w3 ⟨⟨va, n, vc, rfl, ho⟩, m3⟩
  have HO := Lib.hid (ownsRow_base ho h2s)
  have MF := Lib.hid (M2.out.transIn m3 (fun b hb e => by have e' : b = w1.heap.size := e; omega))
  clear ho m3
  go_wp2_with fail
  go_ret2
  exact ⟨.inr ⟨hb, va, n, vc, rfl, HO.out⟩, MF.out⟩

/-- What cells of a document are, all of them. -/
structure Good (l : List CellV) : Prop where
  cl : Cl l
  ok : ∀ c ∈ l, cellOk c = true
theorem Good.new {l : List CellV} (h : Good l) : newE l = 0 := by
  unfold newE
  rw [if_pos (List.all_eq_true.2 h.ok), if_pos h.cl.ids]
  have := h.cl.big
  split <;> first | rfl | omega
theorem Good.of {l : List CellV} (h : newE l = 0) (hok : ∀ c ∈ l, c.ok) (hl : l.length ≤ 20000) : Good l := by
  refine ⟨Cl.new h hok hl, ?_⟩
  unfold newE at h
  by_cases h1 : l.all cellOk = true
  · exact List.all_eq_true.1 h1
  · rw [if_neg h1] at h; omega
theorem markS_mem (sp : List (Int × Int)) (l : List CellV) (p : Nat) (c : CellV) (h : c ∈ markS sp p l) : ∃ d ∈ l, c = d ∨ c = goneC d := by
  obtain ⟨i, hi⟩ := List.getElem?_of_mem h
  unfold markS at hi
  rw [markP_get] at hi
  obtain ⟨d, hd, e⟩ := Option.map_eq_some_iff.1 hi
  refine ⟨d, List.mem_of_getElem? hd, ?_⟩
  split at e
  · exact .inr e.symm
  · exact .inl e.symm
theorem Good.doL {o : OpV} {sp : List (Int × Int)} {l : List CellV} (h : Good l) (hs : -9223372036854775808 ≤ o.site ∧ o.site ≤ 9223372036854775807) (hq : -9223372036854775808 ≤ o.seq ∧ o.seq ≤ 9223372036854775807) : Good (doL o sp l) := by
  refine ⟨h.cl.doL hs hq, ?_⟩
  by_cases he : doE o sp l = 0
  · obtain ⟨hm, ⟨_, hL⟩ | ⟨_, hins, _, hL⟩⟩ := doE_zero he
    · rw [hL]
      intro c hc
      obtain ⟨d, hd, e | e⟩ := markS_mem sp l 0 c hc
      · rw [e]; exact h.ok _ hd
      · rw [e]; exact h.ok d hd
    · rw [hL]
      obtain ⟨ns, h1, h2, h3, h4, h5, h6, h7, h8, h9⟩ := ins_runes hins
      obtain ⟨_, b2⟩ := runesD_bytes h1
      have hno : nameOk o.site o.seq = true := by
        unfold opMay at hm
        simp only [Bool.and_eq_true] at hm
        exact hm.1.1
      intro c hc
      rw [List.append_assoc] at hc
      rcases List.mem_append.1 hc with hc | hc
      · exact h.ok _ (List.mem_of_mem_take hc)
      · rcases List.mem_append.1 hc with hc | hc
        · rw [h2] at hc
          obtain ⟨i, hi, rfl⟩ := List.mem_mapIdx.1 hc
          unfold cellOk
          simp only [hno, Bool.true_and, Bool.and_eq_true, decide_eq_true_eq]
          exact ⟨⟨by omega, by omega⟩, b2 _ (List.mem_map.2 ⟨_, List.getElem_mem hi, rfl⟩)⟩
        · exact h.ok _ (List.mem_of_mem_drop hc)
  · rw [doL_same he]
    exact h.ok
theorem Good.dropL {sp : List (Int × Int)} {l : List CellV} (h : Good l) : Good (dropL sp l) := by
  refine ⟨h.cl.dropL, ?_⟩
  unfold Go.Proofs.YtlbkalbelefhmaaDoor.dropL
  split
  · exact fun c hc => h.ok c ((dropFrom_sub sp l 0).subset hc)
  · exact h.ok
/-- Cells that a function made. -/
theorem cells_owned {w : World} {B n : Nat} {va : Option Addr} {vc : Nat} {L : List CellV} (h : w.ownsRow B 63 5 (.slice va n vc) n (flat CellV.cs L)) (hok : ∀ c ∈ L, c.ok) :
    IsCells w va n vc L ∧ ∀ b off, va = some ⟨b, off, none⟩ → 0 < n → B ≤ b := by
  have h1 := h.1
  rw [flat_length (f := CellV.cs) (k := 5) (fun _ => rfl)] at h1
  have hn : L.length = n := by omega
  rcases ownsRow_blk h with ⟨hv, h0, _⟩ | ⟨g, cap, more, hv, hg, hb, hnc, hcm, _⟩
  · cases hv
    have hnil : L = [] := List.eq_nil_of_length_eq_zero (by omega)
    subst hnil
    exact ⟨⟨rfl, Nat.le_refl _, by unfold maxLen; omega, (fun x hx => by cases hx), (fun i x hx => by cases hx)⟩, (fun b off e => by cases e)⟩
  · cases hv
    exact ⟨blkCells hb hn hnc hcm hok, fun b off e _ => by cases e; exact hg⟩

set_option maxHeartbeats 4000000 in
set_option maxRecDepth 1000000 in
theorem copy_any (w : World) (S : Nat → Prop) (D : Nat) (l : List CellV) (h : DocS w S D l) (hg : Good l) :
    Calls Tryd.prog 16 #[.pointer (some ⟨D, 0, none⟩)] w fun e w' => ∃ D2, e = .returned (.pointer (some ⟨D2, 0, none⟩)) ∧ Mod none_ w w' ∧ DocS w' (fun k => w.heap.size ≤ k) D2 l := by
  have hbig := hg.cl.big
  have HC : RowKit.Hid (Calls Tryd.prog 20 #[.pointer (some ⟨D, 0, none⟩)] w fun e w' => (∃ va vc, e = .returned (.slice va l.length vc) ∧ w'.ownsRow w.heap.size 63 5 (.slice va l.length vc) l.length (flat CellV.cs l)) ∧ Mod none_ w w') := by
    obtain ⟨v, MB, bl, hv, _, hl, _⟩ := h.ex
    have := cells_any w D MB v bl hv (by rw [hl]; exact hbig)
    rw [hl] at this
    exact Lib.hid this
  have HG := Lib.hid hg
  clear h hg
  go_enter Tryd.func16, Tryd.ntmps16
  go_wp2_with fail
  refine HC.out.mono ?_
  rintro e w1 ⟨⟨va, vc, rfl, ho⟩, m1⟩
  have HN := Lib.hid (new_any w1 va l.length vc l (cells_owned ho HG.out.cl.ok).1 (by omega))
  have M1 := Lib.hid m1
  have h1s := m1.size
  clear ho m1 HC
  go_wp2_with fail
  refine HN.out.mono ?_
  rintro e w2 ⟨m2, _, hgood⟩
  obtain ⟨D2, rfl, hd⟩ := hgood HG.out.new
  have HD := Lib.hid (hd.s.mono (T := fun k => w.heap.size ≤ k) (fun k _ hk => Nat.le_trans h1s hk))
  have MF := Lib.hid (M1.out.trans m2)
  clear hgood hd m2 HN
  go_wp2_with fail
  go_ret
  exact ⟨D2, rfl, MF.out, HD.out⟩
end Go.Proofs.YtlbkalbelefhmaaDoor

namespace Go.Proofs.YtlbkalbelefhmaaDoor
open Go.RowKit Go.Mine
open Classical

structure DocP (w : World) (E : Nat → Prop) (wx : World) (D : Nat) (L : List CellV) : Prop where
  f : DocF w E wx D L
  g : Good L
theorem DocP.grown {w wx wy : World} {E : Nat → Prop} {D : Nat} {L : List CellV} (h : DocP w E wx D L) (m : Mod none_ wx wy) : DocP w E wy D L := ⟨h.f.grown m, h.g⟩
theorem DocP.box {w wx wy : World} {E : Nat → Prop} {D : Nat} {L : List CellV} (h : DocP w E wx D L) (m : Mod none_ wx wy) : DocP w (fun k => E k ∨ (wx.heap.size ≤ k ∧ k < wy.heap.size)) wy D L := ⟨h.f.box m, h.g⟩
theorem DocP.less {w wx : World} {E E' : Nat → Prop} {D : Nat} {L : List CellV} (h : DocP w E wx D L) (hE : ∀ k, E' k → E k) : DocP w E' wx D L := ⟨h.f.less hE, h.g⟩
/-- A world on: the cells are L'; nothing that is kept has changed. -/
structure DocQ (w : World) (E : Nat → Prop) (wx : World) (D : Nat) (L' : List CellV) (w' : World) : Prop where
  p : DocP w E w' D L'
  mo : Mod (fun k => ¬ E k) wx w'
theorem DocQ.pre {w wx wy w' : World} {E E' : Nat → Prop} {D : Nat} {L' : List CellV} (m : Mod none_ wx wy) (d : DocQ w E' wy D L' w') (hE : ∀ k, E k → E' k) : DocQ w E wx D L' w' :=
  ⟨d.p.less hE, (m.mono (fun _ _ e => e.elim)).trans (d.mo.mono (fun k _ h e => h (hE k e)))⟩
theorem DocQ.bs {w wx w' : World} {E : Nat → Prop} {D : Nat} {L' : List CellV} (d : DocQ w E wx D L' w') {b : Nat} {cs : List Value} {t : TypeId} (hb : E b) (k : Blk wx b cs t) : Blk w' b cs t := k.mod d.mo (fun h => h hb)
theorem DocP.do_ {w wx : World} {E : Nat → Prop} {D : Nat} {L : List CellV} (h : DocP w E wx D L) (o : OpV) (sp : List (Int × Int)) (ho : o.ok wx sp) (hsz : o.text.size ≤ 1099511627776) (hfar : ∀ b off, o.sa = some ⟨b, off, none⟩ → 0 < o.slen → b < w.heap.size ∨ E b) :
    Calls Tryd.prog 17 #[.pointer (some ⟨D, 0, none⟩), o.v] wx fun e w' => e = .returned (.int .i64 (doE o sp L)) ∧ DocQ w E wx D (doL o sp L) w' := by
  obtain ⟨S, hd, hS⟩ := h.f.doc
  refine (do_any wx S D L o sp hd h.f.cl.big h.f.cl.ok ho hsz (fun b off e hn hb => ?_)).mono ?_
  · have h1 := hS b hb
    rcases hfar b off e hn with h2 | h2
    · omega
    · exact h1.2 h2
  rintro e w' ⟨rfl, m, hd'⟩
  have hg := h.g.doL (sp := sp) ho.i1 ho.i2
  refine ⟨rfl, ⟨⟨h.f.m.transIn m (fun b hb hs => absurd (hS b hs).1 (by omega)), ⟨_, hd', ?_⟩, fun k hk => Nat.lt_of_lt_of_le (h.f.ex k hk) m.size, hg.cl⟩, hg⟩, m.mono (fun k _ hk => (hS k hk).2)⟩
  rintro k (hk | ⟨hk, _⟩)
  · exact hS k hk
  · have h1 := h.f.m.size
    exact ⟨by omega, fun e => by have := h.f.ex k e; omega⟩
theorem DocP.drop_ {w wx : World} {E : Nat → Prop} {D : Nat} {L : List CellV} (h : DocP w E wx D L) (sa : Option Addr) (n c : Nat) (sp : List (Int × Int)) (hs : IsSpans wx sa n c sp) (hfar : ∀ b off, sa = some ⟨b, off, none⟩ → 0 < n → b < w.heap.size ∨ E b) :
    Calls Tryd.prog 21 #[.pointer (some ⟨D, 0, none⟩), .slice sa n c] wx fun e w' => e = .returned (.int .i64 (dropE sp L)) ∧ DocQ w E wx D (dropL sp L) w' := by
  obtain ⟨S, hd, hS⟩ := h.f.doc
  refine (drop_any wx S D L sa n c sp hd h.f.cl.big h.f.cl.ok hs (fun b off e hn hb => ?_)).mono ?_
  · have h1 := hS b hb
    rcases hfar b off e hn with h2 | h2
    · omega
    · exact h1.2 h2
  rintro e w' ⟨rfl, m, hd'⟩
  have hg := h.g.dropL (sp := sp)
  refine ⟨rfl, ⟨⟨h.f.m.transIn m (fun b hb hs => absurd (hS b hs).1 (by omega)), ⟨_, hd', ?_⟩, fun k hk => Nat.lt_of_lt_of_le (h.f.ex k hk) m.size, hg.cl⟩, hg⟩, m.mono (fun k _ hk => (hS k hk).2)⟩
  rintro k (hk | ⟨hk, _⟩)
  · exact hS k hk
  · have h1 := h.f.m.size
    exact ⟨by omega, fun e => by have := h.f.ex k e; omega⟩
theorem DocP.doc {w wx : World} {E : Nat → Prop} {D : Nat} {L : List CellV} (h : DocP w E wx D L) : ∃ S, DocS wx S D L := by
  obtain ⟨S, h1, _⟩ := h.f.doc
  exact ⟨S, h1⟩
/-- Spans in new memory are kept by the box. -/
theorem box_far {wx wy : World} {E : Nat → Prop} {va : Option Addr} {n vc : Nat} {sp : List (Int × Int)} (hs : IsSpans wy va n vc sp) (hB : ∀ b off, va = some ⟨b, off, none⟩ → 0 < n → wx.heap.size ≤ b) {k : Nat} : ∀ b off, va = some ⟨b, off, none⟩ → 0 < n → b < k ∨ (E b ∨ (wx.heap.size ≤ b ∧ b < wy.heap.size)) := by
  intro b off e hn
  refine .inr (.inr ⟨hB b off e hn, ?_⟩)
  have hl : 0 < sp.length := by rw [hs.n]; exact hn
  obtain ⟨b', off', e', hc, _⟩ := hs.cells 0 sp[0] (List.getElem?_eq_getElem hl)
  rw [e] at e'
  cases e'
  exact block_lt_of_cell hc
/-- Gone, of such a document. -/
theorem DocP.gone {w wx : World} {E : Nat → Prop} {D : Nat} {L : List CellV} (h : DocP w E wx D L) : Calls Tryd.prog 23 #[.pointer (some ⟨D, 0, none⟩)] wx fun e w' => (∃ va n vc, e = .returned (.slice va n vc) ∧ IsSpans w' va n vc (goneL L) ∧ ∀ b off, va = some ⟨b, off, none⟩ → 0 < n → wx.heap.size ≤ b) ∧ Mod none_ wx w' := by
  obtain ⟨S, h1⟩ := h.doc
  have hb := h.f.cl.big
  refine (gone_any wx S D L h1 (by omega)).mono ?_
  rintro e w' ⟨⟨va, n, vc, rfl, ho⟩, m⟩
  have hgl : (goneL L).length ≤ 20000 := by
    have := plsOf_len (fun i => (L[i]?.map CellV.gone).getD false) L.length
    unfold goneL
    omega
  exact ⟨⟨va, n, vc, rfl, spans_owned ho (goneL_ok hb) hgl⟩, m⟩
/-- What an act answers, and what it leaves. -/
noncomputable def actE (x : ActV) (L : List CellV) : Int := if x.k % 5 = 3 then dropE x.sp L else if x.k % 5 = 4 then dropE (goneL L) L else doE x.o x.sp L
noncomputable def actL (x : ActV) (L : List CellV) : List CellV := if x.k % 5 = 3 then dropL x.sp L else if x.k % 5 = 4 then dropL (goneL L) L else doL x.o x.sp L
abbrev ActV.v (x : ActV) : Value := .agg #[.int .u8 x.k, .int .i64 x.o.site, .int .i64 x.o.seq, .int .i64 x.o.num, .int .i64 x.o.kind, .int .i64 x.o.at_, .string x.o.text, .slice x.o.sa x.o.slen x.o.scap]
abbrev ActV.cs (x : ActV) : List Value := [.int .u8 x.k, .int .i64 x.o.site, .int .i64 x.o.seq, .int .i64 x.o.num, .int .i64 x.o.kind, .int .i64 x.o.at_, .string x.o.text, .slice x.o.sa x.o.slen x.o.scap]

set_option maxHeartbeats 4000000 in
set_option maxRecDepth 1000000 in
theorem DocP.act {w wx : World} {E : Nat → Prop} {D : Nat} {L : List CellV} (h : DocP w E wx D L) (x : ActV) (hx : x.o.ok w x.sp) (hsz : x.o.text.size ≤ 1099511627776) (hk : 0 ≤ x.k ∧ x.k ≤ 255) :
    Calls Tryd.prog 12 #[.pointer (some ⟨D, 0, none⟩), x.v] wx fun e w' => e = .returned (.int .i64 (actE x L)) ∧ DocQ w E wx D (actL x L) w' := by
  obtain ⟨W0, hW0⟩ : ∃ W0, wx.alloc (.cells x.cs.toArray 38) = W0 := ⟨_, rfl⟩
  obtain ⟨X, hX⟩ : ∃ X, X = wx.heap.size := ⟨_, rfl⟩
  have m0 : Mod none_ wx W0 := by rw [← hW0]; exact (Mod.refl none_ wx).alloc _
  have k0 : Blk W0 X x.cs 38 := by rw [← hW0, hX]; exact Blk.new (w := wx) (cs := x.cs)
  have hB := h.box m0
  have HX := Lib.hid (show E X ∨ (wx.heap.size ≤ X ∧ X < W0.heap.size) from .inr ⟨by omega, k0.lt⟩)
  have d0 := k0.cell 0
  have d1 := k0.cell 1
  have d2 := k0.cell 2
  have d3 := k0.cell 3
  have d4 := k0.cell 4
  have d5 := k0.cell 5
  have d6 := k0.cell 6
  have d7 := k0.cell 7
  simp only [ActV.cs, List.getElem?_cons_zero, List.getElem?_cons_succ] at d0 d1 d2 d3 d4 d5 d6 d7
  obtain ⟨o, ho⟩ : ∃ o, o = x.o := ⟨_, rfl⟩
  obtain ⟨sp, hsp⟩ : ∃ sp, sp = x.sp := ⟨_, rfl⟩
  obtain ⟨r, hr⟩ : ∃ r, r = x.k % 5 := ⟨_, rfl⟩
  have OK := Lib.hid (show o.ok w sp by rw [ho, hsp]; exact hx)
  have HSZ := Lib.hid (show o.text.size ≤ 1099511627776 by rw [ho]; exact hsz)
  have HR := Lib.hid hr
  have HO := Lib.hid ho
  have HSP := Lib.hid hsp
  have HB := Lib.hid hB
  have M0 := Lib.hid m0
  rw [← ho] at d1 d2 d3 d4 d5 d6 d7
  clear h hx hsz m0 k0 hB hr hsp ho
  go_enter Tryd.func12, Tryd.ntmps12
  go_upto_region 1 with fail
  rw [← hX]
  clear hX hW0
  go_upto_region 2 with fail
  rw [← HR.out]
  by_cases h3 : r = 3
  · have hb3 : (r == 3) = true := by simpa using h3
    have HE := Lib.hid (show actE x L = dropE sp L by unfold actE; rw [if_pos (by rw [← HR.out]; exact h3), HSP.out])
    have HL := Lib.hid (show actL x L = dropL sp L by unfold actL; rw [if_pos (by rw [← HR.out]; exact h3), HSP.out])
    have HDR := Lib.hid (HB.out.drop_ o.sa o.slen o.scap sp ((OK.out.sp.grown HB.out.f.m)) (fun b off e hn => by
      have hl : 0 < sp.length := by rw [OK.out.sp.n]; exact hn
      obtain ⟨b', off', e', hc, _⟩ := OK.out.sp.cells 0 sp[0] (List.getElem?_eq_getElem hl)
      rw [e] at e'
      cases e'
      exact .inl (block_lt_of_cell hc)))
    clear h3
    go_wp2_with fail
    refine HDR.out.mono ?_
    rintro e w1 ⟨rfl, hQ⟩
    have HQ := Lib.hid (hQ.pre (E := E) M0.out (fun k hk => .inl hk))
    clear hQ
    go_wp2_with fail
    go_ret
    exact ⟨by rw [HE.out]; rfl, by rw [HL.out]; exact HQ.out⟩
  have hb3 : (r == 3) = false := by simpa using h3
  by_cases h4 : r = 4
  · have hb4 : (r == 4) = true := by simpa using h4
    have HE := Lib.hid (show actE x L = dropE (goneL L) L by unfold actE; rw [if_neg (by rw [← HR.out]; exact h3), if_pos (by rw [← HR.out]; exact h4)])
    have HL := Lib.hid (show actL x L = dropL (goneL L) L by unfold actL; rw [if_neg (by rw [← HR.out]; exact h3), if_pos (by rw [← HR.out]; exact h4)])
    have HG := Lib.hid HB.out.gone
    clear h3 h4
    go_wp2_with fail
    refine HG.out.mono ?_
    rintro e w1 ⟨⟨va, n, vc, rfl, hs, hsb⟩, m1⟩
    have HDR := Lib.hid ((HB.out.box m1).drop_ va n vc (goneL L) hs (box_far hs hsb))
    have M1 := Lib.hid (M0.out.trans m1)
    clear hs hsb m1 HG
    go_wp2_with fail
    refine HDR.out.mono ?_
    rintro e w2 ⟨rfl, hQ⟩
    have HQ := Lib.hid (hQ.pre (E := E) M1.out (fun k hk => .inl (.inl hk)))
    clear hQ
    go_wp2_with fail
    go_ret
    exact ⟨by rw [HE.out]; rfl, by rw [HL.out]; exact HQ.out⟩
  have hb4 : (r == 4) = false := by simpa using h4
  have HE := Lib.hid (show actE x L = doE o sp L by unfold actE; rw [if_neg (by rw [← HR.out]; exact h3), if_neg (by rw [← HR.out]; exact h4), HO.out, HSP.out])
  have HL := Lib.hid (show actL x L = doL o sp L by unfold actL; rw [if_neg (by rw [← HR.out]; exact h3), if_neg (by rw [← HR.out]; exact h4), HO.out, HSP.out])
  have HDO := Lib.hid (HB.out.do_ o sp (OK.out.grown HB.out.f.m) HSZ.out (fun b off e hn => by
    have hl : 0 < sp.length := by rw [OK.out.sp.n]; exact hn
    obtain ⟨b', off', e', hc, _⟩ := OK.out.sp.cells 0 sp[0] (List.getElem?_eq_getElem hl)
    rw [e] at e'
    cases e'
    exact .inl (block_lt_of_cell hc)))
  clear h3 h4
  go_wp2_with fail
  refine HDO.out.mono ?_
  rintro e w1 ⟨rfl, hQ⟩
  have HQ := Lib.hid (hQ.pre (E := E) M0.out (fun k hk => .inl hk))
  clear hQ
  go_wp2_with fail
  go_ret
  exact ⟨by rw [HE.out]; rfl, by rw [HL.out]; exact HQ.out⟩
end Go.Proofs.YtlbkalbelefhmaaDoor

namespace Go.Mine
open Go.RowKit Go.ChangeShapes Go.WideShapes Go.Deep

section
variable {H : Type} {enc : TypeId × Value → H} {P : Program} {w : World} {base : Nat} {spare : Nat → Bool} {held : Bool}

/-- What is known of a slice of structs that came in: nil, or a row in which each field of each element reads by its type. -/
theorem slice_of_structs {t e : TypeId} {fs : Array Field} {fuel : Nat} {cs : List Value} {x : DataW H × List MemPlace} (ht : P.underlying t = some (.slice e)) (he : P.underlying e = some (.struct fs))
    (hone : oneCellFields P fs = true) (hC : P.cellsOf e = fs.size) (h : DataW.trod enc P w base spare held fuel t cs = some x) :
    cs = [.slice none 0 0] ∨
    ∃ (a : Addr) (len cap : Nat), cs = [.slice (some a) len cap] ∧ len ≤ cap ∧ cap ≤ maxLen ∧
      ∀ i, i < len → ∀ (j : Nat) (f : Field), fs[j]? = some f → ∃ (v : Value) (y : DataW H × List MemPlace) (n : Nat), w.cell? (a.add (i * fs.size + j)) = some v ∧ DataW.trod enc P w base spare held n f.type [v] = some y := by
  rcases open_slice ht h with ⟨h0, _⟩ | ⟨a, len, cap, m, n, D, Pl, hcs, _, hl, hm, hmm, _, hi⟩
  · exact .inl h0
  refine .inr ⟨a, len, cap, hcs, hl, hm, fun i hil j f hj => ?_⟩
  have him : i < m := by rw [hmm]; split <;> omega
  obtain ⟨cells, hc, hr⟩ := hi i him
  rw [hC] at hc
  obtain ⟨_, hlen, hat⟩ := World.cells?_some hc
  obtain ⟨ys, n', _, _, _, hyl, hf⟩ := DataW.trod_struct he hr
  obtain ⟨ho, hk⟩ := hone_of hone j f hj
  have hjs : j < fs.size := (Array.getElem?_eq_some_iff.1 hj).1
  have hfj := hf j f hj
  rw [ho, hk, List.drop_eq_getElem_cons (by omega)] at hfj
  have hy : ys[j]? = some ys[j] := List.getElem?_eq_getElem (by omega)
  refine ⟨cells[j], ys[j], n', ?_, hfj.trans hy⟩
  rw [← Go.Deep.add_add, hat j hjs]
  exact List.getElem?_eq_getElem _

theorem nat_of_u8 {n : Int} (h : (Lit.int .u8 n).wf = true) : 0 ≤ n ∧ n ≤ 255 := by
  have := bounds_u8 h; omega
end
end Go.Mine

namespace Go.Proofs.YtlbkalbelefhmaaDoor
open Go.ChangeShapes Go.WideShapes Go.ChangeAt Go.RowKit Go.Mine Go.Deep

set_option maxRecDepth 100000
section
variable {H : Type} {enc : TypeId × Value → H} {w : World} {base : Nat} {sp : Nat → Bool} {held : Bool}

theorem szOp : Tryd.prog.cellsOf 36 = 7 := by kernel_rfl
theorem szKind : Tryd.prog.cellsOf 5 = 1 := by kernel_rfl
theorem szCell : Tryd.prog.cellsOf 63 = 5 := by kernel_rfl
theorem szName : Tryd.prog.cellsOf 33 = 2 := by kernel_rfl
theorem szInt : Tryd.prog.cellsOf 3 = 1 := by kernel_rfl
theorem szRune : Tryd.prog.cellsOf 21 = 1 := by kernel_rfl
theorem szBool : Tryd.prog.cellsOf 4 = 1 := by kernel_rfl
theorem szString : Tryd.prog.cellsOf 9 = 1 := by kernel_rfl
theorem szSpans : Tryd.prog.cellsOf 34 = 1 := by kernel_rfl

theorem name_of {n : Nat} {a b : Value} {y : DataW H × List MemPlace} (h : DataW.trod enc Tryd.prog w base sp held n 33 [a, b] = some y) :
    ∃ s q : Int, a = .int .i64 s ∧ b = .int .i64 q ∧ (-9223372036854775808 ≤ s ∧ s ≤ 9223372036854775807) ∧ (-9223372036854775808 ≤ q ∧ q ≤ 9223372036854775807) := by
  obtain ⟨ys, m, _, _, _, hyl, hf⟩ := DataW.trod_struct Tryd.underlying33 h
  obtain ⟨y0, y1, rfl⟩ : ∃ y0 y1, ys = [y0, y1] := by
    match ys, (show ys.length = 2 from hyl) with
    | [y0, y1], _ => exact ⟨y0, y1, rfl⟩
  have h0 := hf 0 _ rfl
  have h1 := hf 1 _ rfl
  simp only [List.getElem_toArray, List.getElem_cons_zero, List.getElem_cons_succ, szInt, List.drop_zero, List.drop_succ_cons, List.take_succ_cons, List.take_zero, List.getElem?_cons_zero, List.getElem?_cons_succ] at h0 h1
  obtain ⟨s, e0, _, w0⟩ := DataW.trod_int Tryd.underlying3 h0
  obtain ⟨q, e1, _, w1⟩ := DataW.trod_int Tryd.underlying3 h1
  simp only [List.cons.injEq, and_true] at e0 e1
  exact ⟨s, q, e0, e1, bounds_i64 w0, bounds_i64 w1⟩

theorem cell_of {n : Nat} {cells : List Value} {y : DataW H × List MemPlace} (h : DataW.trod enc Tryd.prog w base sp held n 63 cells = some y) :
    ∃ c : CellV, cells = c.cs ∧ c.ok := by
  obtain ⟨ys, m, _, _, hl, hyl, hf⟩ := DataW.trod_struct Tryd.underlying63 h
  rw [szCell] at hl
  obtain ⟨a, b, c, d, e, rfl⟩ : ∃ a b c d e, cells = [a, b, c, d, e] := by
    match cells, hl with
    | [a, b, c, d, e], _ => exact ⟨a, b, c, d, e, rfl⟩
  obtain ⟨y0, y1, y2, y3, rfl⟩ : ∃ y0 y1 y2 y3, ys = [y0, y1, y2, y3] := by
    match ys, (show ys.length = 4 from hyl) with
    | [y0, y1, y2, y3], _ => exact ⟨y0, y1, y2, y3, rfl⟩
  have h0 := hf 0 _ rfl
  have h1 := hf 1 _ rfl
  have h2 := hf 2 _ rfl
  have h3 := hf 3 _ rfl
  simp only [List.getElem_toArray, List.getElem_cons_zero, List.getElem_cons_succ, szName, szInt, szRune, szBool, List.drop_zero, List.drop_succ_cons, List.take_succ_cons, List.take_zero, List.getElem?_cons_zero, List.getElem?_cons_succ] at h0 h1 h2 h3
  obtain ⟨s, q, rfl, rfl, hs, hq⟩ := name_of h0
  obtain ⟨f, e1, _, w1⟩ := DataW.trod_int Tryd.underlying3 h1
  obtain ⟨r, e2, _, w2⟩ := DataW.trod_int Tryd.underlying21 h2
  obtain ⟨g, e3, _⟩ := DataW.trod_bool Tryd.underlying4 h3
  simp only [List.cons.injEq, and_true] at e1 e2 e3
  subst e1 e2 e3
  exact ⟨⟨s, q, f, r, g⟩, rfl, hs, hq, bounds_i64 w1, bounds_i32 w2⟩

/-- A slice of structs of k cells: what each element's cells read as. -/
theorem slice_elems {t e : TypeId} {k fuel : Nat} {cs : List Value} {x : DataW H × List MemPlace} (ht : Tryd.prog.underlying t = some (.slice e)) (hk : Tryd.prog.cellsOf e = k) (h0k : 0 < k) (h : DataW.trod enc Tryd.prog w base sp held fuel t cs = some x) :
    ∃ (a : Option Addr) (len cap : Nat), cs = [.slice a len cap] ∧ len ≤ cap ∧ cap ≤ maxLen ∧
      ∀ i, i < len → ∃ (b off : Nat) (cells : List Value) (y : DataW H × List MemPlace) (n : Nat), a = some ⟨b, off, none⟩ ∧ cells.length = k ∧ w.rangeAt b (off + i * k) cells ∧ DataW.trod enc Tryd.prog w base sp held n e cells = some y := by
  rcases DataW.trod_slice ht h with ⟨h0, _⟩ | ⟨a, len, cap, elems, rest, n, _, hcs, _, _, hl, hm, hlen, hel, _, _⟩
  · exact ⟨none, 0, 0, h0, Nat.le_refl _, Nat.zero_le _, fun i hi => absurd hi (Nat.not_lt_zero _)⟩
  · rw [hk] at hel
    refine ⟨some a, len, cap, hcs, hl, hm, fun i hi => ?_⟩
    obtain ⟨b, off, spot⟩ := a
    have hspot : spot = none := by
      have h1 := hel 0 (by omega)
      rw [List.getElem?_eq_getElem (by omega)] at h1
      obtain ⟨cells, hc, hr⟩ := Option.bind_eq_some_iff.1 h1
      obtain ⟨_, hlen, hat⟩ := World.cells?_some hc
      have := hat 0 h0k
      rw [List.getElem?_eq_getElem (by omega)] at this
      have := World.cell?_spot this
      simpa [Addr.add] using this
    subst hspot
    have h1 := hel i hi
    rw [List.getElem?_eq_getElem (by omega)] at h1
    obtain ⟨cells, hc, hr⟩ := Option.bind_eq_some_iff.1 h1
    obtain ⟨_, hlen, hat⟩ := World.cells?_some hc
    refine ⟨b, off, cells, _, n, rfl, hlen, fun j v hv => ?_, hr⟩
    have hj : j < k := by have := (List.getElem?_eq_some_iff.1 hv).1; omega
    have := hat j hj
    rw [hv] at this
    simpa only [Addr.add_lit] using this

theorem read_cells {fuel : Nat} {a : Option Addr} {len cap : Nat} {x : DataW H × List MemPlace} (h : DataW.trod enc Tryd.prog w base sp held fuel 22 [.slice a len cap] = some x) : ∃ l, IsCells w a len cap l := by
  obtain ⟨a', len', cap', hcs, hl, hm, hf⟩ := slice_elems Tryd.underlying22 szCell (by decide) h
  simp only [List.cons.injEq, Value.slice.injEq, and_true] at hcs
  obtain ⟨rfl, rfl, rfl⟩ := hcs
  have key : ∀ i, i < len → ∃ c : CellV, c.ok ∧ ∃ b off, a = some ⟨b, off, none⟩ ∧ w.rangeAt b (off + i * 5) c.cs := by
    intro i hi
    obtain ⟨b, off, cells, y, n, e, _, hr, ht⟩ := hf i hi
    obtain ⟨c, rfl, hc⟩ := cell_of ht
    exact ⟨c, hc, b, off, e, hr⟩
  obtain ⟨f, hfk⟩ := Classical.axiomOfChoice (fun i : Fin len => key i.1 i.2)
  refine ⟨List.ofFn f, by simp, hl, hm, ?_, ?_⟩
  · intro y hy
    obtain ⟨i, rfl⟩ := List.mem_ofFn.1 hy
    exact (hfk i).1
  · intro i y hy
    have hi : i < len := by have := (List.getElem?_eq_some_iff.1 hy).1; simpa using this
    have : y = f ⟨i, hi⟩ := by
      rw [List.getElem?_eq_getElem (by simpa using hi)] at hy
      simp at hy; exact hy.symm
    subst this
    exact (hfk ⟨i, hi⟩).2

theorem szSpan : Tryd.prog.cellsOf 82 = 2 := by kernel_rfl
theorem read_spans {fuel : Nat} {a : Option Addr} {len cap : Nat} {x : DataW H × List MemPlace} (h : DataW.trod enc Tryd.prog w base sp held fuel 34 [.slice a len cap] = some x) : ∃ l, IsSpans w a len cap l := by
  obtain ⟨a', len', cap', hcs, hl, hm, hf⟩ := slice_elems Tryd.underlying34 szSpan (by decide) h
  simp only [List.cons.injEq, Value.slice.injEq, and_true] at hcs
  obtain ⟨rfl, rfl, rfl⟩ := hcs
  have key : ∀ i, i < len → ∃ y : Int × Int, ((-9223372036854775808 ≤ y.1 ∧ y.1 ≤ 9223372036854775807) ∧ (-9223372036854775808 ≤ y.2 ∧ y.2 ≤ 9223372036854775807)) ∧ ∃ b off, a = some ⟨b, off, none⟩ ∧ w.cell? ⟨b, off + i * 2, none⟩ = some (.int .i64 y.1) ∧ w.cell? ⟨b, off + i * 2 + 1, none⟩ = some (.int .i64 y.2) := by
    intro i hi
    obtain ⟨b, off, cells, y, n, e, hlen, hr, ht⟩ := hf i hi
    obtain ⟨u, v, rfl⟩ : ∃ u v, cells = [u, v] := by
      match cells, hlen with
      | [u, v], _ => exact ⟨u, v, rfl⟩
    obtain ⟨ys, m, _, _, _, hyl, hg⟩ := DataW.trod_struct Tryd.underlying82 ht
    obtain ⟨y0, y1, rfl⟩ : ∃ y0 y1, ys = [y0, y1] := by
      match ys, (show ys.length = 2 from hyl) with
      | [y0, y1], _ => exact ⟨y0, y1, rfl⟩
    have h0 := hg 0 _ rfl
    have h1 := hg 1 _ rfl
    simp only [List.getElem_toArray, List.getElem_cons_zero, List.getElem_cons_succ, szInt, List.drop_zero, List.drop_succ_cons, List.take_succ_cons, List.take_zero, List.getElem?_cons_zero, List.getElem?_cons_succ] at h0 h1
    obtain ⟨s, e0, _, w0⟩ := DataW.trod_int Tryd.underlying3 h0
    obtain ⟨q, e1, _, w1⟩ := DataW.trod_int Tryd.underlying3 h1
    simp only [List.cons.injEq, and_true] at e0 e1
    subst e0 e1
    exact ⟨(s, q), ⟨bounds_i64 w0, bounds_i64 w1⟩, b, off, e, hr 0 _ rfl, hr 1 _ rfl⟩
  obtain ⟨f, hfk⟩ := Classical.axiomOfChoice (fun i : Fin len => key i.1 i.2)
  refine ⟨List.ofFn f, by simp, hl, hm, ?_, ?_⟩
  · intro y hy
    obtain ⟨i, rfl⟩ := List.mem_ofFn.1 hy
    exact (hfk i).1
  · intro i y hy
    have hi : i < len := by have := (List.getElem?_eq_some_iff.1 hy).1; simpa using this
    have : y = f ⟨i, hi⟩ := by
      rw [List.getElem?_eq_getElem (by simpa using hi)] at hy
      simp at hy; exact hy.symm
    subst this
    exact (hfk ⟨i, hi⟩).2

theorem szAct : Tryd.prog.cellsOf 38 = 8 := by kernel_rfl
theorem op_of {n : Nat} {cells : List Value} {y : DataW H × List MemPlace} (htab : tabsOk w) (h : DataW.trod enc Tryd.prog w base sp held n 36 cells = some y) :
    ∃ (o : OpV) (l : List (Int × Int)), cells = o.cs ∧ o.ok0 w l := by
  obtain ⟨ys, m, _, _, hl, hyl, hf⟩ := DataW.trod_struct Tryd.underlying36 h
  rw [szOp] at hl
  obtain ⟨c0, c1, c2, c3, c4, c5, c6, rfl⟩ : ∃ c0 c1 c2 c3 c4 c5 c6, cells = [c0, c1, c2, c3, c4, c5, c6] := by
    match cells, hl with
    | [c0, c1, c2, c3, c4, c5, c6], _ => exact ⟨c0, c1, c2, c3, c4, c5, c6, rfl⟩
  obtain ⟨y0, y1, y2, y3, y4, y5, rfl⟩ : ∃ y0 y1 y2 y3 y4 y5, ys = [y0, y1, y2, y3, y4, y5] := by
    match ys, (show ys.length = 6 from hyl) with
    | [y0, y1, y2, y3, y4, y5], _ => exact ⟨y0, y1, y2, y3, y4, y5, rfl⟩
  have h0 := hf 0 _ rfl
  have h1 := hf 1 _ rfl
  have h2 := hf 2 _ rfl
  have h3 := hf 3 _ rfl
  have h4 := hf 4 _ rfl
  have h5 := hf 5 _ rfl
  simp only [List.getElem_toArray, List.getElem_cons_zero, List.getElem_cons_succ, szName, szInt, szString, szSpans, List.drop_zero, List.drop_succ_cons, List.take_succ_cons, List.take_zero, List.getElem?_cons_zero, List.getElem?_cons_succ] at h0 h1 h2 h3 h4 h5
  obtain ⟨s, q, rfl, rfl, hs, hq⟩ := name_of h0
  obtain ⟨num, e1, _, w1⟩ := DataW.trod_int Tryd.underlying3 h1
  obtain ⟨kd, e2, _, w2⟩ := DataW.trod_int Tryd.underlying3 h2
  obtain ⟨at_, e3, _, w3⟩ := DataW.trod_int Tryd.underlying3 h3
  obtain ⟨tx, e4, _, w4⟩ := DataW.trod_string Tryd.underlying9 h4
  obtain ⟨a, len, cap, e5, _⟩ := slice_elems Tryd.underlying34 szSpan (by decide) h5
  simp only [List.cons.injEq, and_true] at e1 e2 e3 e4 e5
  subst e1 e2 e3 e4 e5
  obtain ⟨l, hsp⟩ := read_spans h5
  exact ⟨⟨s, q, num, kd, at_, tx, a, len, cap⟩, l, rfl, w4, hsp, fun hsz => { i1 := hs, i2 := hq, i3 := bounds_i64 w1, i4 := bounds_i64 w2, i5 := bounds_i64 w3, tx := .inl htab, sz := hsz, sp := hsp }⟩

theorem read_acts {fuel : Nat} {a : Option Addr} {len cap : Nat} {x : DataW H × List MemPlace} (htab : tabsOk w) (h : DataW.trod enc Tryd.prog w base sp held fuel 23 [.slice a len cap] = some x) : ∃ l, IsActs w a len cap l := by
  obtain ⟨a', len', cap', hcs, hl, hm, hf⟩ := slice_elems Tryd.underlying23 szAct (by decide) h
  simp only [List.cons.injEq, Value.slice.injEq, and_true] at hcs
  obtain ⟨rfl, rfl, rfl⟩ := hcs
  have key : ∀ i, i < len → ∃ c : ActV, (c.o.ok0 w c.sp ∧ 0 ≤ c.k ∧ c.k ≤ 255) ∧ ∃ b off, a = some ⟨b, off, none⟩ ∧ w.cell? ⟨b, off + i * 8, none⟩ = some (.int .u8 c.k) ∧ w.rangeAt b (off + i * 8 + 1) c.o.cs := by
    intro i hi
    obtain ⟨b, off, cells, y, n, e, hlen, hr, ht⟩ := hf i hi
    obtain ⟨u, r, rfl⟩ : ∃ u r, cells = u :: r := by
      match cells, hlen with
      | u :: r, _ => exact ⟨u, r, rfl⟩
    obtain ⟨ys, m, _, _, _, hyl, hg⟩ := DataW.trod_struct Tryd.underlying38 ht
    obtain ⟨y0, y1, rfl⟩ : ∃ y0 y1, ys = [y0, y1] := by
      match ys, (show ys.length = 2 from hyl) with
      | [y0, y1], _ => exact ⟨y0, y1, rfl⟩
    have h0 := hg 0 _ rfl
    have h1 := hg 1 _ rfl
    have hrl : r.length = 7 := by simpa using hlen
    simp only [List.getElem_toArray, List.getElem_cons_zero, List.getElem_cons_succ, szKind, szOp, List.drop_zero, List.drop_succ_cons, List.take_succ_cons, List.take_zero, List.getElem?_cons_zero, List.getElem?_cons_succ] at h0 h1
    rw [List.take_of_length_le (by omega)] at h1
    obtain ⟨kk, e0, _, w0⟩ := DataW.trod_int Tryd.underlying5 h0
    simp only [List.cons.injEq, and_true] at e0
    subst e0
    obtain ⟨o, l, rfl, ho⟩ := op_of htab h1
    refine ⟨⟨kk, o, l⟩, ⟨ho, nat_of_u8 w0⟩, b, off, e, hr 0 _ rfl, fun j v hv => ?_⟩
    have := hr (j + 1) v (by simpa using hv)
    rwa [← Nat.add_assoc, Nat.add_right_comm] at this
  obtain ⟨f, hfk⟩ := Classical.axiomOfChoice (fun i : Fin len => key i.1 i.2)
  refine ⟨List.ofFn f, by simp, hl, hm, ?_, ?_⟩
  · intro y hy
    obtain ⟨i, rfl⟩ := List.mem_ofFn.1 hy
    exact (hfk i).1
  · intro i y hy
    have hi : i < len := by have := (List.getElem?_eq_some_iff.1 hy).1; simpa using this
    have : y = f ⟨i, hi⟩ := by
      rw [List.getElem?_eq_getElem (by simpa using hi)] at hy
      simp at hy; exact hy.symm
    subst this
    exact (hfk ⟨i, hi⟩).2
end
end Go.Proofs.YtlbkalbelefhmaaDoor
