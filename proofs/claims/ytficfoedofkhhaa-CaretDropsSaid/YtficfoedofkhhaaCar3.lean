/-
  Layer 9 (incl) and 16 (caret): Point of an insertion; at; Drop and the document's Drop.
-/
import Derived.Test.YtficfoedofkhhaaOps5
import Derived.Test.YtficfoedofkhhaaCar2
namespace Go.Proofs.Ytficfoedofkhhaa
open Go.RowKit Go.Mine

/-- Where a place is behind n cells inserted. -/
def pointOf (p at_ n : Int) (stays : Bool) : Int := if at_ < p ∨ (p = at_ ∧ stays = false) then p + n else p

theorem point_any (at_ n p : Int) (stays : Bool) (w : World) (hb : -9223372036854775808 ≤ p + n ∧ p + n ≤ 9223372036854775807) :
    Calls Try.prog 42 #[.agg #[.int .i64 at_, .int .i64 n], .int .i64 p, .bool stays] w fun e w' => e = .returned (.int .i64 (pointOf p at_ n stays)) ∧ Mod none_ w w' := by
  have M0 := Lib.hid ((Mod.refl none_ w).alloc (.cells #[.int .i64 at_, .int .i64 n] 99))
  by_cases h1 : at_ < p
  · have hR : pointOf p at_ n stays = p + n := by unfold pointOf; rw [if_pos (.inl h1)]
    rw [hR]
    go_enter Try.func42, Try.ntmps42
    go_wp2
    go_ret
    exact ⟨rfl, M0.out⟩
  · by_cases h2 : p = at_
    · cases stays
      · have hR : pointOf p at_ n false = p + n := by unfold pointOf; rw [if_pos (.inr ⟨h2, rfl⟩)]
        rw [hR]
        subst h2
        go_enter Try.func42, Try.ntmps42
        go_wp2
        go_ret
        exact ⟨rfl, M0.out⟩
      · have hR : pointOf p at_ n true = p := by unfold pointOf; rw [if_neg]; rintro (h | ⟨_, h⟩); exact h1 h; cases h
        rw [hR]
        subst h2
        go_enter Try.func42, Try.ntmps42
        go_wp2
        go_ret
        exact ⟨rfl, M0.out⟩
    · have hR : pointOf p at_ n stays = p := by unfold pointOf; rw [if_neg]; rintro (h | ⟨h, _⟩); exact h1 h; exact h2 h
      rw [hR]
      have hb2 : (p == at_) = false := by simpa using h2
      go_enter Try.func42, Try.ntmps42
      go_wp2
      go_ret
      exact ⟨rfl, M0.out⟩

set_option maxHeartbeats 4000000 in
set_option maxRecDepth 1000000 in
theorem ipoint_any (o : OpV) (p size : Int) (stays : Bool) (w : World) (l : List (Int × Int)) (h : o.ok w l) (hk : o.kind = 1) (h1 : inB size 0 20000 = true) (h2 : nameOk o.site o.seq = true) (h3 : inB o.num 0 1099511627776 = true) (h4 : insOk o size = true) (hp : 0 ≤ p ∧ p ≤ size) :
    Calls Try.prog 29 #[.int .i64 p, o.v, .int .i64 size, .bool stays] w fun e w' => e = .returned (.tuple #[.int .i64 (pointOf p o.at_ (addsOf o) stays), .int .i64 0]) ∧ Mod none_ w w' := by
  have hs : 0 ≤ size ∧ size ≤ 20000 := by simpa [inB] using h1
  have hu : 0 ≤ addsOf o ∧ addsOf o ≤ 20000 := by
    have : ulen o.text ≤ 20000 - size := by simp [insOk] at h4; exact h4.2
    unfold addsOf; rw [if_pos hk]; omega
  obtain ⟨W0, hW0⟩ : ∃ W0, w.alloc (.cells o.cs.toArray 47) = W0 := ⟨_, rfl⟩
  obtain ⟨m0, kB⟩ := opBox1 hW0
  have HM := Lib.hid (mayIns_any o size W0 l (h.grown m0) hk h1 h2 h3)
  rw [h4] at HM
  have H0 := Lib.hid (h.grown m0)
  have M0 := Lib.hid m0
  have c0 : W0.cell? ⟨w.heap.size, 0, none⟩ = some (.int .i64 o.site) := by rw [kB.cell]; rfl
  have c1 : W0.cell? ⟨w.heap.size, 1, none⟩ = some (.int .i64 o.seq) := by rw [kB.cell]; rfl
  have c2 : W0.cell? ⟨w.heap.size, 2, none⟩ = some (.int .i64 o.num) := by rw [kB.cell]; rfl
  have c3 : W0.cell? ⟨w.heap.size, 3, none⟩ = some (.int .i64 o.kind) := by rw [kB.cell]; rfl
  have c4 : W0.cell? ⟨w.heap.size, 4, none⟩ = some (.int .i64 o.at_) := by rw [kB.cell]; rfl
  have c5 : W0.cell? ⟨w.heap.size, 5, none⟩ = some (.string o.text) := by rw [kB.cell]; rfl
  have c6 : W0.cell? ⟨w.heap.size, 6, none⟩ = some (.slice o.sa o.slen o.scap) := by rw [kB.cell]; rfl
  have KB := Lib.hid kB
  have hk1 : decide (o.kind = 1) = true := by simpa using hk
  have hk2 : (o.kind == 1) = true := by simpa using hk
  have hpd : decide (p < 0) = false := by simp; omega
  have hpd2 : decide (size < p) = false := by simp; omega
  clear h m0 kB hk h1 h2 h3 h4
  go_enter Try.func29, Try.ntmps29
  go_upto_region 1 with fail
  clear hW0
  go_wp2_with fail
  refine HM.out.mono ?_
  rintro e w1 ⟨rfl, m1⟩
  have k1 := KB.out.mod m1 (fun e => e)
  have M1 := Lib.hid (M0.out.trans m1)
  have H1 := Lib.hid (H0.out.grown m1)
  have d0 : w1.cell? ⟨w.heap.size, 0, none⟩ = some (.int .i64 o.site) := by rw [k1.cell]; rfl
  have d1 : w1.cell? ⟨w.heap.size, 1, none⟩ = some (.int .i64 o.seq) := by rw [k1.cell]; rfl
  have d2 : w1.cell? ⟨w.heap.size, 2, none⟩ = some (.int .i64 o.num) := by rw [k1.cell]; rfl
  have d3 : w1.cell? ⟨w.heap.size, 3, none⟩ = some (.int .i64 o.kind) := by rw [k1.cell]; rfl
  have d4 : w1.cell? ⟨w.heap.size, 4, none⟩ = some (.int .i64 o.at_) := by rw [k1.cell]; rfl
  have d5 : w1.cell? ⟨w.heap.size, 5, none⟩ = some (.string o.text) := by rw [k1.cell]; rfl
  have d6 : w1.cell? ⟨w.heap.size, 6, none⟩ = some (.slice o.sa o.slen o.scap) := by rw [k1.cell]; rfl
  clear c0 c1 c2 c3 c4 c5 c6 m1 k1
  go_upto_region 5 with fail
  have hH := H1.out
  go_region_held3 (fun w' => Mod none_ w1 w' ∧ w'.cell? ⟨w.heap.size, 0, none⟩ = some (.int .i64 o.site) ∧ w'.cell? ⟨w.heap.size, 1, none⟩ = some (.int .i64 o.seq) ∧ w'.cell? ⟨w.heap.size, 2, none⟩ = some (.int .i64 o.num) ∧ w'.cell? ⟨w.heap.size, 3, none⟩ = some (.int .i64 o.kind) ∧ w'.cell? ⟨w.heap.size, 4, none⟩ = some (.int .i64 o.at_) ∧ w'.cell? ⟨w.heap.size, 5, none⟩ = some (.string o.text) ∧ w'.cell? ⟨w.heap.size, 6, none⟩ = some (.slice o.sa o.slen o.scap))
    (first
      | exact ⟨Mod.drew (Mod.refl none_ w1), d0, d1, d2, d3, d4, d5, d6⟩
      | assumption
      | (obtain ⟨q, q0, q1, q2, q3, q4, q5, q6⟩ := ‹Mod none_ w1 _ ∧ _›; exact ⟨q.trans m1, m1.cell (fun e => e) q0, m1.cell (fun e => e) q1, m1.cell (fun e => e) q2, m1.cell (fun e => e) q3, m1.cell (fun e => e) q4, m1.cell (fun e => e) q5, m1.cell (fun e => e) q6⟩))
    (first
      | (go_at_call 41; refine (adds_any o _ _ (hH.grown (And.left (by assumption)))).mono ?_; rintro e w2 ⟨rfl, m1⟩)
      | (go_at_call 42; refine (point_any o.at_ (addsOf o) p stays _ (by omega)).mono ?_; rintro e w2 ⟨rfl, m1⟩))
  go_wp2_with fail
  go_ret2
  exact ⟨rfl, M1.out.trans (And.left (by assumption))⟩

end Go.Proofs.Ytficfoedofkhhaa
