/-
  Layer 12 (cells): all: how many cells a document has, and live ones.
-/
import Derived.Test.YtficfoedofkhhaaCel4
import Derived.Test.YtficfoedofkhhaaCar1
namespace Go.Proofs.Ytficfoedofkhhaa
open Go.RowKit Go.Mine

theorem liveN_append (a b : List CellV) : liveN (a ++ b) = liveN a + liveN b := by
  unfold liveN; rw [List.filter_append, List.length_append]

/-- What the first k blocks hold. -/
def fstBs (bl : List (Nat × List CellV)) (k : Nat) : List CellV := (bl.take k).flatMap Prod.snd
theorem fstBs_succ {bl : List (Nat × List CellV)} {k : Nat} {x : Nat × List CellV} (hx : bl[k]? = some x) : fstBs bl (k + 1) = fstBs bl k ++ x.2 := by
  obtain ⟨hk', e⟩ := List.getElem?_eq_some_iff.1 hx
  unfold fstBs
  rw [List.take_succ_eq_append_getElem hk', e, List.flatMap_append]
  simp
theorem fstBs_all {bl : List (Nat × List CellV)} {k : Nat} (h : bl.length ≤ k) : fstBs bl k = bl.flatMap Prod.snd := by
  unfold fstBs; rw [List.take_of_length_le h]
theorem fstBs_le (bl : List (Nat × List CellV)) (k : Nat) : (fstBs bl k).length ≤ (bl.flatMap Prod.snd).length := by
  have : bl.flatMap Prod.snd = fstBs bl k ++ (bl.drop k).flatMap Prod.snd := by
    unfold fstBs; rw [← List.flatMap_append, List.take_append_drop]
  rw [this, List.length_append]; omega

/-- Block k in memory. -/
theorem DocBs.at_ {w : World} {B nb vc : Nat} {va : Option Addr} {bl : List (Nat × List CellV)} (h : DocBs w B (.slice va nb vc) bl) {k : Nat} {x : Nat × List CellV} (hx : bl[k]? = some x) :
    ∃ g, va = some ⟨g, 0, none⟩ ∧ w.cell? ⟨g, k, none⟩ = some (.pointer (some ⟨x.1, 0, none⟩)) := by
  have hk := (List.getElem?_eq_some_iff.1 hx).1
  rcases ownsRow_blk h.1 with ⟨_, h0, _⟩ | ⟨g, c', more, e, _, hb, _⟩
  · omega
  · cases e
    refine ⟨g, rfl, ?_⟩
    rw [hb.cell, List.getElem?_append_left (by simpa using hk), List.getElem?_map, hx]
    rfl
theorem DocBs.len {w : World} {B nb vc : Nat} {va : Option Addr} {bl : List (Nat × List CellV)} (h : DocBs w B (.slice va nb vc) bl) : nb = bl.length := by
  have := h.1.1
  rw [List.length_map] at this
  rcases ownsRow_blk h.1 with ⟨e, h0, _⟩ | ⟨g, c', more, e, _, hb, _⟩
  · cases e; omega
  · cases e; rfl
theorem DocBs.cap {w : World} {B nb vc : Nat} {va : Option Addr} {bl : List (Nat × List CellV)} (h : DocBs w B (.slice va nb vc) bl) : nb ≤ vc ∧ vc ≤ maxLen := by
  rcases ownsRow_blk h.1 with ⟨e, h0, _⟩ | ⟨g, c', more, e, _, hb, h1, h2, _⟩
  · cases e; exact ⟨Nat.le_refl _, Nat.zero_le _⟩
  · cases e; exact ⟨h1, h2⟩

theorem Try.taSize : (Try.prog.info? 90).map (·.size) = some 2 := by kernel_rfl
theorem results_ta1 {fn : Func} {p : Tmp} (h : fn.results = #[.cell p 90]) (tmps : Array Value) (w : World) (g : Nat) (cs : List Value) (hp : tmps.getD p undef = .pointer (some ⟨g, 0, none⟩)) (hl : cs.length = 2) (hr : w.rangeAt g 0 cs) :
    (results fn tmps).run Try.prog w = .ok (.agg cs.toArray) w := by
  have := run_loadVar_mid (P := Try.prog) w g 0 90 cs _ hr Try.underlying90 rfl (by rw [hl]; exact Try.taSize)
  have hp' : tmps[p]?.getD undef = .pointer (some ⟨g, 0, none⟩) := by simpa using hp
  simp [results, h, hp', asAddr, this, Result.andThen]

set_option maxHeartbeats 4000000 in
set_option maxRecDepth 1000000 in
theorem all_any (w : World) (B D : Nat) (l : List CellV) (h : DocIs w B D l) (hlen : l.length ≤ 1099511627776) :
    Calls Try.prog 38 #[.pointer (some ⟨D, 0, none⟩)] w fun e w' => e = .returned (.agg #[.int .i64 (l.length : Int), .int .i64 (liveN l : Int)]) ∧ Mod none_ w w' := by
  obtain ⟨⟨v, MB, bl, n, kd, hdb, hfl, _⟩, _⟩ := h
  obtain ⟨va, vc, rfl⟩ : ∃ va vc, v = .slice va bl.length vc := by
    rcases ownsRow_blk hdb.1 with ⟨rfl, h0, _⟩ | ⟨g, c', _, rfl, _⟩
    · exact ⟨none, 0, by rw [h0]⟩
    · exact ⟨_, c', rfl⟩
  obtain ⟨W0, hW0⟩ : ∃ W0, (w.alloc (.cells #[.int .i64 0, .int .i64 0] 90)).alloc (.cells #[.int .i64 0, .int .i64 0] 90) = W0 := ⟨_, rfl⟩
  have m0 : Mod none_ w W0 := by rw [← hW0]; exact ((Mod.refl none_ w).alloc _).alloc _
  have k0 : Blk W0 w.heap.size [.int .i64 0, .int .i64 0] 90 := by
    rw [← hW0]
    exact (Blk.new (w := w) (cs := [.int .i64 0, .int .i64 0]) (t := 90)).mod ((Mod.refl none_ _).alloc _) (fun e => e)
  have k1 : Blk W0 (w.heap.size + 1) [.int .i64 0, .int .i64 0] 90 := by
    have := Blk.new (w := w.alloc (.cells #[.int .i64 0, .int .i64 0] 90)) (cs := [.int .i64 0, .int .i64 0]) (t := 90)
    rw [World.size_alloc] at this
    rw [← hW0]
    exact this
  have hcap := hdb.cap
  unfold maxLen at hcap
  have hbn : bl.length ≤ 9223372036854775807 := by omega
  have cd : W0.cell? ⟨D, 0, none⟩ = some (.slice va bl.length vc) := by
    have := (kd.mod m0 (fun e => e)).cell 0
    exact this
  have M0 := Lib.hid m0
  have K0 := Lib.hid k0
  have K1 := Lib.hid k1
  have HDB := Lib.hid hdb
  have HFL := Lib.hid hfl
  clear m0 k0 k1 hdb hfl kd hcap
  go_enter Try.func38, Try.ntmps38
  go_upto_region 2 with fail
  clear hW0
  go_wp2_with fail
  go_loopg [13] bl.length (fun g s13 wx => ∃ k : Nat, g = bl.length - k ∧ s13 = .int .i64 k ∧ k ≤ bl.length ∧ Mod none_ w wx ∧ Blk wx w.heap.size [.int .i64 0, .int .i64 0] 90 ∧ Blk wx (w.heap.size + 1) [.int .i64 ((fstBs bl k).length : Int), .int .i64 (liveN (fstBs bl k) : Int)] 90)
  case atStart => exact ⟨0, rfl, rfl, Nat.zero_le _, M0.out, K0.out, K1.out⟩
  case round =>
    obtain ⟨k, rfl, rfl, hk, mx, kx0, kx1⟩ := hrel
    have MX := Lib.hid mx
    have KX0 := Lib.hid kx0
    have KX1 := Lib.hid kx1
    by_cases hlk : k < bl.length
    · obtain ⟨x, hx⟩ : ∃ x, bl[k]? = some x := ⟨bl[k]'hlk, by simp⟩
      have hdx := HDB.out.grown mx
      obtain ⟨g, rfl, c0⟩ := hdx.at_ hx
      obtain ⟨⟨vb, kb, _, _⟩, _⟩ := hdx.2 x (List.mem_of_getElem? hx)
      have hsx := fstBs_succ hx
      have hle := fstBs_le bl (k + 1)
      rw [HFL.out] at hle
      have hlv := liveN_le (fstBs bl (k + 1))
      have E1 : ((fstBs bl (k + 1)).length : Int) = (fstBs bl k).length + x.2.length := by rw [hsx, List.length_append]; simp
      have E2 : (liveN (fstBs bl (k + 1)) : Int) = liveN (fstBs bl k) + liveN x.2 := by rw [hsx, liveN_append]; simp
      obtain ⟨p, c⟩ := x
      dsimp only at c0 kb E1 E2
      have b0 : wr.cell? ⟨p, 0, none⟩ = some (.int .i64 (c.length : Int)) := by rw [kb.cell]; rfl
      have b1 : wr.cell? ⟨p, 1, none⟩ = some (.int .i64 (liveN c : Int)) := by rw [kb.cell]; rfl
      have s0 : wr.cell? ⟨w.heap.size + 1, 0, none⟩ = some (.int .i64 ((fstBs bl k).length : Int)) := by rw [kx1.cell]; rfl
      have s1 : wr.cell? ⟨w.heap.size + 1, 1, none⟩ = some (.int .i64 (liveN (fstBs bl k) : Int)) := by rw [kx1.cell]; rfl
      have f0 := kx1.frozen 0
      have f1 := kx1.frozen 1
      have hpn : p ≠ w.heap.size + 1 := fun e => by
        subst e
        exact Blk.apart kb kx1 (by decide) rfl
      have w1 : IntKind.i64.wrap (((fstBs bl k).length : Int) + c.length) = ((fstBs bl k).length : Int) + c.length := by rw [IntKind.wrap_i64]; omega
      have w2 : IntKind.i64.wrap ((liveN (fstBs bl k) : Int) + liveN c) = (liveN (fstBs bl k) : Int) + liveN c := by rw [IntKind.wrap_i64]; omega
      have E1 := Lib.hid E1
      have E2 := Lib.hid E2
      have n1 : (liveN (fstBs bl k) : Int) + liveN c ≤ 1099511627776 := by omega
      have n2 : ((fstBs bl k).length : Int) + c.length ≤ 1099511627776 := by omega
      clear hdx hx hsx hle hlv mx kx0 kx1 kb
      have M2 := Lib.hid (((((Mod.refl (one (w.heap.size + 1)) wr).drew).setCell ⟨w.heap.size + 1, 0, none⟩ (fun _ => rfl) (.int .i64 (((fstBs bl k).length : Int) + c.length))).drew).setCell ⟨w.heap.size + 1, 1, none⟩ (fun _ => rfl) (.int .i64 ((liveN (fstBs bl k) : Int) + liveN c)))
      have K2 := Lib.hid ((((KX1.out.drew).set 0 (.int .i64 (((fstBs bl k).length : Int) + c.length))).drew).set 1 (.int .i64 ((liveN (fstBs bl k) : Int) + liveN c)))
      go_wp2_with fail
      go_region_law (fail)
      all_goals go_wp2_with fail
      all_goals go_region_law (fail)
      all_goals go_wp2_with fail
      all_goals go_roundg (bl.length - (k + 1))
      all_goals first
        | omega
        | exact ⟨k + 1, rfl, by go_num, by omega, MX.out.transIn M2.out (fun b hb e => by have e' : b = w.heap.size + 1 := e; omega), KX0.out.mod M2.out (fun e => by have e' : w.heap.size = w.heap.size + 1 := e; omega), by rw [E1.out, E2.out]; exact K2.out⟩
    · obtain rfl : k = bl.length := by omega
      rw [fstBs_all (Nat.le_refl _), HFL.out] at kx1
      have s0 : wr.cell? ⟨w.heap.size + 1, 0, none⟩ = some (.int .i64 (l.length : Int)) := by rw [kx1.cell]; rfl
      have s1 : wr.cell? ⟨w.heap.size + 1, 1, none⟩ = some (.int .i64 (liveN l : Int)) := by rw [kx1.cell]; rfl
      have f0 := kx0.frozen 0
      have f1 := kx0.frozen 1
      have r0 : wr.cell? ⟨w.heap.size, 0, none⟩ = some (.int .i64 0) := by rw [kx0.cell]; rfl
      have r1 : wr.cell? ⟨w.heap.size, 1, none⟩ = some (.int .i64 0) := by rw [kx0.cell]; rfl
      have KF := Lib.hid ((kx0.set 0 (.int .i64 (l.length : Int))).set 1 (.int .i64 (liveN l : Int)))
      have MF := Lib.hid ((MX.out.setCell ⟨w.heap.size, 0, none⟩ (fun h => absurd h (by simp)) (.int .i64 (l.length : Int))).setCell ⟨w.heap.size, 1, none⟩ (fun h => absurd h (by simp)) (.int .i64 (liveN l : Int)))
      clear mx kx0 kx1 KX0 KX1
      go_wp2_with fail
      exact bodyPost_ret (results_ta1 rfl _ _ w.heap.size [.int .i64 (l.length : Int), .int .i64 (liveN l : Int)] rfl rfl (blk_range KF.out)) rfl ⟨rfl, MF.out⟩

end Go.Proofs.Ytficfoedofkhhaa
