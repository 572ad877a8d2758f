/-
  Layer 16 (caret): within, May, places, at; the document's May.
-/
import Derived.Test.YtficfoedofkhhaaOps2
namespace Go.Proofs.Ytficfoedofkhhaa
open Go.RowKit Go.Mine

theorem blk_range {w : World} {g : Nat} {cs : List Value} {t : TypeId} (h : Blk w g cs t) : w.rangeAt g 0 cs := fun j v hv => by rw [Nat.zero_add, h.cell]; exact hv
theorem blk_over {w : World} {g : Nat} {cs mc : List Value} {t : TypeId} (h : Blk w g cs t) (hl : cs.length = mc.length) : Blk (w.setCells g 0 mc) g mc t ∧ Mod (one g) w (w.setCells g 0 mc) := by
  obtain ⟨a, b⟩ := Blk.setCells mc 0 w cs h (by omega)
  rw [List.take_zero, List.nil_append, List.drop_eq_nil_of_le (by omega), List.append_nil] at a
  exact ⟨a, b⟩

theorem Try.mkSize : (Try.prog.info? 27).map (·.size) = some 3 := by kernel_rfl
theorem Try.rmSize : (Try.prog.info? 23).map (·.size) = some 3 := by kernel_rfl
theorem Try.prSize : (Try.prog.info? 50).map (·.size) = some 2 := by kernel_rfl

theorem results_mk1 {fn : Func} {p : Tmp} (h : fn.results = #[.cell p 27]) (tmps : Array Value) (w : World) (g : Nat) (cs : List Value) (hp : tmps.getD p undef = .pointer (some ⟨g, 0, none⟩)) (hl : cs.length = 3) (hr : w.rangeAt g 0 cs) :
    (results fn tmps).run Try.prog w = .ok (.agg cs.toArray) w := by
  have := run_loadVar_mid (P := Try.prog) w g 0 27 cs _ hr Try.underlying27 rfl (by rw [hl]; exact Try.mkSize)
  have hp' : tmps[p]?.getD undef = .pointer (some ⟨g, 0, none⟩) := by simpa using hp
  simp [results, h, hp', asAddr, this, Result.andThen]
theorem results_mkt {fn : Func} {p u : Tmp} (h : fn.results = #[.cell p 27, .tmp u]) (tmps : Array Value) (w : World) (g : Nat) (cs : List Value) (hp : tmps.getD p undef = .pointer (some ⟨g, 0, none⟩)) (hl : cs.length = 3) (hr : w.rangeAt g 0 cs) :
    (results fn tmps).run Try.prog w = .ok (.tuple #[.agg cs.toArray, tmps.getD u undef]) w := by
  rw [results_cell_tmp h, hp]
  have := run_loadVar_mid (P := Try.prog) w g 0 27 cs _ hr Try.underlying27 rfl (by rw [hl]; exact Try.mkSize)
  simp [asAddr, this, Result.andThen]
theorem results_rmt {fn : Func} {p u : Tmp} (h : fn.results = #[.cell p 23, .tmp u]) (tmps : Array Value) (w : World) (g : Nat) (cs : List Value) (hp : tmps.getD p undef = .pointer (some ⟨g, 0, none⟩)) (hl : cs.length = 3) (hr : w.rangeAt g 0 cs) :
    (results fn tmps).run Try.prog w = .ok (.tuple #[.agg cs.toArray, tmps.getD u undef]) w := by
  rw [results_cell_tmp h, hp]
  have := run_loadVar_mid (P := Try.prog) w g 0 23 cs _ hr Try.underlying23 rfl (by rw [hl]; exact Try.rmSize)
  simp [asAddr, this, Result.andThen]
theorem results_pr1 {fn : Func} {p : Tmp} (h : fn.results = #[.cell p 50]) (tmps : Array Value) (w : World) (g : Nat) (cs : List Value) (hp : tmps.getD p undef = .pointer (some ⟨g, 0, none⟩)) (hl : cs.length = 2) (hr : w.rangeAt g 0 cs) :
    (results fn tmps).run Try.prog w = .ok (.agg cs.toArray) w := by
  have := run_loadVar_mid (P := Try.prog) w g 0 50 cs _ hr Try.underlying50 rfl (by rw [hl]; exact Try.prSize)
  have hp' : tmps[p]?.getD undef = .pointer (some ⟨g, 0, none⟩) := by simpa using hp
  simp [results, h, hp', asAddr, this, Result.andThen]
theorem results_prt {fn : Func} {p u : Tmp} (h : fn.results = #[.cell p 50, .tmp u]) (tmps : Array Value) (w : World) (g : Nat) (cs : List Value) (hp : tmps.getD p undef = .pointer (some ⟨g, 0, none⟩)) (hl : cs.length = 2) (hr : w.rangeAt g 0 cs) :
    (results fn tmps).run Try.prog w = .ok (.tuple #[.agg cs.toArray, tmps.getD u undef]) w := by
  rw [results_cell_tmp h, hp]
  have := run_loadVar_mid (P := Try.prog) w g 0 50 cs _ hr Try.underlying50 rfl (by rw [hl]; exact Try.prSize)
  simp [asAddr, this, Result.andThen]

theorem cwithin_any (n lo hi : Int) (w : World) : Calls Try.prog 25 #[.int .i64 n, .int .i64 lo, .int .i64 hi] w fun e w' => e = .returned (.bool (inB n lo hi)) ∧ w' = w := by
  by_cases h1 : lo ≤ n
  · by_cases h2 : n ≤ hi
    · have hb : inB n lo hi = true := by simp [inB]; omega
      rw [hb]
      go_enter Try.func25, Try.ntmps25
      go_wp2
      go_ret
      exact ⟨rfl, rfl⟩
    · have hb : inB n lo hi = false := by simp [inB]; omega
      rw [hb]
      go_enter Try.func25, Try.ntmps25
      go_wp2
      go_ret
      exact ⟨rfl, rfl⟩
  · have hb : inB n lo hi = false := by simp [inB]; omega
    rw [hb]
    go_enter Try.func25, Try.ntmps25
    go_wp2
    go_ret
    exact ⟨rfl, rfl⟩

theorem places_any (s a t : Int) (w : World) : Calls Try.prog 16 #[.agg #[.int .i64 s, .int .i64 a, .int .i64 t]] w fun e w' => e = .returned (.agg #[.int .i64 a, .int .i64 t]) ∧ Mod none_ w w' := by
  have m := ((Mod.refl none_ w).alloc (.cells #[.int .i64 s, .int .i64 a, .int .i64 t] 27)).alloc (.cells #[.int .i64 a, .int .i64 t] 50)
  have k := Blk.new (w := w.alloc (.cells #[.int .i64 s, .int .i64 a, .int .i64 t] 27)) (cs := [.int .i64 a, .int .i64 t]) (t := 50)
  rw [World.size_alloc] at k
  go_enter Try.func16, Try.ntmps16
  go_wp2_with fail
  exact bodyPost_ret (results_pr1 rfl _ _ (w.heap.size + 1) [.int .i64 a, .int .i64 t] rfl rfl (blk_range k)) rfl ⟨rfl, m⟩

/-- May a mark be upon a size? -/
def markOk (s a t size : Int) : Bool := inB size 0 20000 && inB s 1 16 && inB a 0 size && inB t 0 size

end Go.Proofs.Ytficfoedofkhhaa
