/-
  Layer 8 (ops): May of an insertion whose name, number and size may be.
-/
import Derived.Test.YtficfoedofkhhaaOps3
namespace Go.Proofs.Ytficfoedofkhhaa
open Go.RowKit Go.Mine
attribute [local go_sem] m_imay m_dmay m_nmay m_iadds m_nadds m_dadds

set_option maxHeartbeats 4000000 in
set_option maxRecDepth 1000000 in
theorem mayIns_any (o : OpV) (size : Int) (w : World) (l : List (Int × Int)) (h : o.ok w l) (hk : o.kind = 1) (h1 : inB size 0 20000 = true) (h2 : nameOk o.site o.seq = true) (h3 : inB o.num 0 1099511627776 = true) :
    Calls Try.prog 28 #[o.v, .int .i64 size] w fun e w' => e = .returned (.bool (insOk o size)) ∧ Mod none_ w w' := by
  have hs : 0 ≤ size ∧ size ≤ 20000 := by simpa [inB] using h1
  obtain ⟨W0, hW0⟩ : ∃ W0, w.alloc (.cells o.cs.toArray 47) = W0 := ⟨_, rfl⟩
  obtain ⟨m0, kB⟩ := opBox1 hW0
  have H0 := Lib.hid (h.grown m0)
  have M0 := Lib.hid m0
  have c0 : W0.cell? ⟨w.heap.size, 0, none⟩ = some (.int .i64 o.site) := by rw [kB.cell]; rfl
  have c1 : W0.cell? ⟨w.heap.size, 1, none⟩ = some (.int .i64 o.seq) := by rw [kB.cell]; rfl
  have c2 : W0.cell? ⟨w.heap.size, 2, none⟩ = some (.int .i64 o.num) := by rw [kB.cell]; rfl
  have c3 : W0.cell? ⟨w.heap.size, 3, none⟩ = some (.int .i64 o.kind) := by rw [kB.cell]; rfl
  have c4 : W0.cell? ⟨w.heap.size, 4, none⟩ = some (.int .i64 o.at_) := by rw [kB.cell]; rfl
  have c5 : W0.cell? ⟨w.heap.size, 5, none⟩ = some (.string o.text) := by rw [kB.cell]; rfl
  have c6 : W0.cell? ⟨w.heap.size, 6, none⟩ = some (.slice o.sa o.slen o.scap) := by rw [kB.cell]; rfl
  have KB := Lib.hid kB
  have hkv : kindV o.kind = .iface 107 (.agg #[]) := by unfold kindV; rw [if_pos hk]
  have HO := Lib.hid (of_any o.kind)
  rw [hkv] at HO
  have HS := Lib.hid (owithin_any size 0 20000)
  rw [h1] at HS
  have HN := Lib.hid (vname_any o.site o.seq)
  rw [h2] at HN
  have HU := Lib.hid (owithin_any o.num 0 1099511627776)
  rw [h3] at HU
  clear h m0 kB hk hkv h1 h2 h3
  go_enter Try.func28, Try.ntmps28
  go_upto_region 1 with fail
  clear hW0
  have hH := H0.out
  have hM := M0.out
  go_region_held3 (fun w' => Mod none_ W0 w' ∧ w'.cell? ⟨w.heap.size, 0, none⟩ = some (.int .i64 o.site) ∧ w'.cell? ⟨w.heap.size, 1, none⟩ = some (.int .i64 o.seq) ∧ w'.cell? ⟨w.heap.size, 2, none⟩ = some (.int .i64 o.num) ∧ w'.cell? ⟨w.heap.size, 3, none⟩ = some (.int .i64 o.kind) ∧ w'.cell? ⟨w.heap.size, 4, none⟩ = some (.int .i64 o.at_) ∧ w'.cell? ⟨w.heap.size, 5, none⟩ = some (.string o.text) ∧ w'.cell? ⟨w.heap.size, 6, none⟩ = some (.slice o.sa o.slen o.scap))
    (first
      | exact ⟨Mod.drew (Mod.refl none_ W0), c0, c1, c2, c3, c4, c5, c6⟩
      | assumption
      | (obtain ⟨q, q0, q1, q2, q3, q4, q5, q6⟩ := ‹Mod none_ W0 _ ∧ _›; exact ⟨q.trans m1, m1.cell (fun e => e) q0, m1.cell (fun e => e) q1, m1.cell (fun e => e) q2, m1.cell (fun e => e) q3, m1.cell (fun e => e) q4, m1.cell (fun e => e) q5, m1.cell (fun e => e) q6⟩))
    (first
      | (go_at_call_of 39 (Value.int IntKind.i64 size); refine (HS.out _).mono ?_; rintro e w1 ⟨rfl, rfl⟩)
      | (go_at_call_of 39 (Value.int IntKind.i64 o.num); refine (HU.out _).mono ?_; rintro e w1 ⟨rfl, rfl⟩)
      | (go_at_call 34; refine (HN.out _).mono ?_; rintro e w1 ⟨rfl, m1⟩)
      | (go_at_call 40; refine (HO.out _).mono ?_; rintro e w1 ⟨rfl, rfl⟩)
      | (go_at_call 69; refine (insMay_any o size _ _ (hH.grown (And.left (by assumption))) hs).mono ?_; rintro e w1 ⟨rfl, m1⟩))
  go_wp2_with fail
  go_ret
  exact ⟨rfl, M0.out.trans (And.left (by assumption))⟩

end Go.Proofs.Ytficfoedofkhhaa
