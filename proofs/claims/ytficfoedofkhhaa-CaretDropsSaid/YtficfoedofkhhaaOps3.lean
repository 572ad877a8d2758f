/-
  Layer 8 (ops): May and Adds of any operation.
-/
import Derived.Test.YtficfoedofkhhaaOps2
namespace Go.Proofs.Ytficfoedofkhhaa
open Go.RowKit Go.Mine
attribute [local go_sem] m_imay m_dmay m_nmay m_iadds m_nadds m_dadds

/-- A box with an operation in it, alone. -/
theorem opBox1 {w W0 : World} {o : OpV} (hW : w.alloc (.cells o.cs.toArray 47) = W0) : Mod none_ w W0 ∧ Blk W0 w.heap.size o.cs 47 := by
  refine ⟨by rw [← hW]; exact (Mod.refl none_ w).alloc _, ?_⟩
  rw [← hW]; exact Blk.new

set_option maxHeartbeats 2000000 in
set_option maxRecDepth 1000000 in
theorem adds_any (o : OpV) (w : World) (l : List (Int × Int)) (h : o.ok w l) :
    Calls Try.prog 41 #[o.v] w fun e w' => e = .returned (.int .i64 (addsOf o)) ∧ Mod none_ w w' := by
  obtain ⟨W0, hW0⟩ : ∃ W0, w.alloc (.cells o.cs.toArray 47) = W0 := ⟨_, rfl⟩
  obtain ⟨m0, kB⟩ := opBox1 hW0
  have H0 := Lib.hid (h.grown m0)
  have M0 := Lib.hid m0
  have c0 : W0.cell? ⟨w.heap.size, 0, none⟩ = some (.int .i64 o.site) := by rw [kB.cell]; rfl
  have c1 : W0.cell? ⟨w.heap.size, 1, none⟩ = some (.int .i64 o.seq) := by rw [kB.cell]; rfl
  have c2 : W0.cell? ⟨w.heap.size, 2, none⟩ = some (.int .i64 o.num) := by rw [kB.cell]; rfl
  have c3 : W0.cell? ⟨w.heap.size, 3, none⟩ = some (.int .i64 o.kind) := by rw [kB.cell]; rfl
  have c4 : W0.cell? ⟨w.heap.size, 4, none⟩ = some (.int .i64 o.at_) := by rw [kB.cell]; rfl
  have c5 : W0.cell? ⟨w.heap.size, 5, none⟩ = some (.string o.text) := by rw [kB.cell]; rfl
  have c6 : W0.cell? ⟨w.heap.size, 6, none⟩ = some (.slice o.sa o.slen o.scap) := by rw [kB.cell]; rfl
  obtain ⟨R, hR⟩ : ∃ R, R = addsOf o := ⟨_, rfl⟩
  rw [← hR]
  have HR := Lib.hid hR
  clear h m0 kB hR
  by_cases h1 : o.kind = 1
  · have hk : kindV o.kind = .iface 107 (.agg #[]) := by unfold kindV; rw [if_pos h1]
    have HE := Lib.hid (show R = max 0 (ulen o.text) by rw [HR.out]; unfold addsOf; rw [if_pos h1])
    have HO := Lib.hid (of_any o.kind)
    rw [hk] at HO
    clear h1 hk
    go_enter Try.func41, Try.ntmps41
    go_upto_region 1 with fail
    clear hW0
    go_region_law (first
      | (go_simp; go_at_call 40; refine (HO.out _).mono ?_; rintro e w1 ⟨rfl, rfl⟩)
      | (go_simp; go_at_call 67; refine (iadds_any o _ _ (by exact H0.out.grown (Mod.refl none_ _).drew)).mono ?_; rintro e w1 ⟨rfl, m1⟩; have M1 := Lib.hid m1; clear m1))
    all_goals go_wp2_with fail
    all_goals go_ret
    all_goals exact ⟨by rw [HE.out]; rfl, (Mod.drew M0.out).trans M1.out⟩
  by_cases h2 : o.kind = 2
  · have hk : kindV o.kind = .iface 108 (.agg #[]) := by unfold kindV; rw [if_neg h1, if_pos h2]
    clear h2
    have HE := Lib.hid (show R = 0 by rw [HR.out]; unfold addsOf; rw [if_neg h1])
    have HO := Lib.hid (of_any o.kind)
    rw [hk] at HO
    clear h1 hk HR
    go_enter Try.func41, Try.ntmps41
    go_upto_region 1 with fail
    clear hW0
    go_region_law (first
      | (go_simp; go_at_call 40; refine (HO.out _).mono ?_; rintro e w1 ⟨rfl, rfl⟩)
      | (go_simp; go_at_call 63; refine (nadds_any o _).mono ?_; rintro e w1 ⟨rfl, m1⟩; have M1 := Lib.hid m1; clear m1))
    all_goals go_wp2_with fail
    all_goals go_ret
    all_goals exact ⟨by rw [HE.out]; rfl, (Mod.drew M0.out).trans M1.out⟩
  · have hk : kindV o.kind = .iface 105 (.agg #[]) := by unfold kindV; rw [if_neg h1, if_neg h2]
    clear h2
    have HE := Lib.hid (show R = 0 by rw [HR.out]; unfold addsOf; rw [if_neg h1])
    have HO := Lib.hid (of_any o.kind)
    rw [hk] at HO
    clear h1 hk HR
    go_enter Try.func41, Try.ntmps41
    go_upto_region 1 with fail
    clear hW0
    go_region_law (first
      | (go_simp; go_at_call 40; refine (HO.out _).mono ?_; rintro e w1 ⟨rfl, rfl⟩)
      | (go_simp; go_at_call 63; refine (nadds_any o _).mono ?_; rintro e w1 ⟨rfl, m1⟩; have M1 := Lib.hid m1; clear m1))
    all_goals go_wp2_with fail
    all_goals go_ret
    all_goals exact ⟨by rw [HE.out]; rfl, (Mod.drew M0.out).trans M1.out⟩

end Go.Proofs.Ytficfoedofkhhaa
