/-
  Layer 8 (ops): kinds, a deletion that may be, May and Adds of any operation.
-/
import Derived.Test.YtficfoedofkhhaaOps1
namespace Go.Proofs.Ytficfoedofkhhaa
open Go.RowKit Go.Mine

abbrev tIns : TypeId := 107
theorem m_imay (w : World) : (method 245 107 (.agg #[]) "foolscap/ops.may").run Try.prog w = .ok (69, .agg #[]) w := by kernel_rfl
theorem m_dmay (w : World) : (method 245 108 (.agg #[]) "foolscap/ops.may").run Try.prog w = .ok (78, .agg #[]) w := by kernel_rfl
theorem m_nmay (w : World) : (method 245 105 (.agg #[]) "foolscap/ops.may").run Try.prog w = .ok (65, .agg #[]) w := by kernel_rfl
theorem m_iadds (w : World) : (method 245 107 (.agg #[]) "foolscap/ops.adds").run Try.prog w = .ok (67, .agg #[]) w := by kernel_rfl
theorem m_nadds (w : World) : (method 245 105 (.agg #[]) "foolscap/ops.adds").run Try.prog w = .ok (63, .agg #[]) w := by kernel_rfl
theorem m_dadds (w : World) : (method 245 108 (.agg #[]) "foolscap/ops.adds").run Try.prog w = .ok (63, .agg #[]) w := by kernel_rfl

/-- The kind's value. -/
def kindV (k : Int) : Value := if k = 1 then .iface 107 (.agg #[]) else if k = 2 then .iface 108 (.agg #[]) else .iface 105 (.agg #[])
theorem of_any (k : Int) (w : World) : Calls Try.prog 40 #[.int .i64 k] w fun e w' => e = .returned (kindV k) ∧ w' = w := by
  by_cases h1 : k = 1
  · subst h1
    go_enter Try.func40, Try.ntmps40
    go_wp2
    go_ret
    exact ⟨rfl, rfl⟩
  · by_cases h2 : k = 2
    · subst h2
      go_enter Try.func40, Try.ntmps40
      go_wp2
      go_ret
      exact ⟨rfl, rfl⟩
    · have e : kindV k = .iface 105 (.agg #[]) := by unfold kindV; rw [if_neg h1, if_neg h2]
      rw [e]
      go_enter Try.func40, Try.ntmps40
      go_wp2
      go_ret
      exact ⟨rfl, rfl⟩
theorem nmay_any (o : OpV) (size : Int) (w : World) : Calls Try.prog 65 #[.agg #[], o.v, .int .i64 size] w fun e w' => e = .returned (.bool false) ∧ Mod none_ w w' := by
  have m := ((Mod.refl none_ w).alloc (.cells #[] 105)).alloc (.cells o.cs.toArray 47)
  go_enter Try.func65, Try.ntmps65
  go_wp2
  go_ret
  exact ⟨rfl, m⟩
theorem nadds_any (o : OpV) (w : World) : Calls Try.prog 63 #[.agg #[], o.v] w fun e w' => e = .returned (.int .i64 0) ∧ Mod none_ w w' := by
  have m := ((Mod.refl none_ w).alloc (.cells #[] 105)).alloc (.cells o.cs.toArray 47)
  go_enter Try.func63, Try.ntmps63
  go_wp2
  go_ret
  exact ⟨rfl, m⟩

/-- A box with an operation in it. -/
theorem opBox {w W0 : World} {o : OpV} {z : Obj} (hW : (w.alloc z).alloc (.cells o.cs.toArray 47) = W0) : Mod none_ w W0 ∧ Blk W0 (w.heap.size + 1) o.cs 47 := by
  refine ⟨by rw [← hW]; exact ((Mod.refl none_ w).alloc _).alloc _, ?_⟩
  have := Blk.new (w := w.alloc z) (cs := o.cs) (t := 47)
  rw [World.size_alloc] at this
  rw [← hW]; exact this

theorem iadds_any (o : OpV) (w : World) (l : List (Int × Int)) (h : o.ok w l) :
    Calls Try.prog 67 #[.agg #[], o.v] w fun e w' => e = .returned (.int .i64 (max 0 (ulen o.text))) ∧ Mod none_ w w' := by
  have hsz := h.sz
  obtain ⟨W0, hW0⟩ : ∃ W0, (w.alloc (.cells #[] 107)).alloc (.cells o.cs.toArray 47) = W0 := ⟨_, rfl⟩
  obtain ⟨m0, kB⟩ := opBox hW0
  have T0 := Lib.hid (h.tx.grown m0)
  have M0 := Lib.hid m0
  have c4 : W0.cell? ⟨w.heap.size + 1, 5, none⟩ = some (.string o.text) := by rw [kB.cell]; rfl
  clear h m0 kB
  go_enter Try.func67, Try.ntmps67
  go_upto_region 1 with fail
  clear hW0
  go_wp2_with fail
  refine (len_any o.text _ T0.out hsz).mono ?_
  rintro e w3 ⟨rfl, m3⟩
  have M3 := Lib.hid (M0.out.trans m3)
  clear m3
  go_wp2_with fail
  go_ret
  exact ⟨rfl, M3.out⟩

/-- How many cells an operation adds. -/
def addsOf (o : OpV) : Int := if o.kind = 1 then max 0 (ulen o.text) else 0

end Go.Proofs.Ytficfoedofkhhaa
