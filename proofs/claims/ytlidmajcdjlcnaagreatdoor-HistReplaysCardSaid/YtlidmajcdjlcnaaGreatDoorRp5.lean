/-
  Texts on which the claim rests, one behind the other: His20 His21 His17 Act1 His22 Open Read1 His19 Read2 Range2_ Rve1 Rve2 His14 His15 His30 Rpl0 Rpl1 Sam1 His24 Rdm1 His6 His25 His26 Apt2.
-/
import Derived.Test.YtlidmajcdjlcnaaGreatDoorRp4
import Derived.WalkKit
import Derived.ProofKit
import Derived.OpenShut
import Derived.ShutString
import Derived.ChangeOld
import Derived.ChangeSame
import Derived.Deep.Slices
import Derived.Deep.Fields
import Derived.Lib.SmallJoins
import Derived.RangeFuncNested
import Derived.RangeFuncBound
import Derived.RangeFuncCalls
import Derived.RangeFuncLeaves
import Derived.Shelf.Abstract
import Derived.Shelf.RegionOpen
import Derived.OwnWalkIn
import Derived.TacticsInMore
import Derived.LoopNIn
import Derived.LoopIn

set_option linter.unusedSimpArgs false
set_option linter.unusedVariables false

namespace Go.Proofs.YtlidmajcdjlcnaaGreatDoor
open Go.RowKit Go.Shelf Go.Mine
open Classical

set_option maxHeartbeats 4000000 in
set_option maxRecDepth 1000000 in
theorem add_any (w : World) (h : HistV) (x : EntV) (B : List CellV) (V : List Int) (E : List EntV) (hh : HistIs w h B V E) (hx : x.o.ok w x.sp ∧ x.ed.ok w) (hl : h.bl ≤ 1099511627776) (hv : h.vl ≤ 1099511627776) (hbd : ∀ y ∈ E, y.o.slen ≤ 1099511627776) (hxl : x.o.slen ≤ 1099511627776) :
    Calls Tryz.prog 11 #[h.v, x.v] w (AddTo w (addE h B V E x) h B V E x) := by
  have hle := hh.e.le
  have hcap := hh.e.big
  unfold maxLen at hcap
  have hnl : numN E ≤ h.ll := by have := numN_le E; rwa [hh.e.n] at this
  have HEN := Lib.hid hh.e.n
  have HMAY := Lib.hid (show ∀ W, Mine.Mod none_ w W → Calls Tryz.prog 21 #[h.v] W fun e w' => e = .returned (.bool (histOk h B V E)) ∧ Mine.Mod none_ W w' from fun W m => hmay_any W h B V E (hh.grown m) hl)
  have HNUM := Lib.hid (show ∀ W, Mine.Mod none_ w W → Calls Tryz.prog 37 #[h.v] W fun e w' => e = .returned (.int .i64 (numN E : Int)) ∧ Mine.Mod none_ W w' from fun W m => numbered_any W h E (hh.e.grown m))
  have HAP := Lib.hid (show ∀ W, Mine.Mod none_ w W → h.ll ≤ 1000000 → Calls Tryz.prog 38 #[h.v] W (ApartTo W h B V E) from fun W m hb => apart_any W h B V E (hh.grown m) hl hv hbd hb)
  have HCP := Lib.hid (fun (W : World) (m : Mine.Mod none_ w W) => copied_any W ⟨x.o, x.sp⟩ (hx.1.grown m) hxl)
  have HH := Lib.hid hh
  have HX := Lib.hid hx
  obtain ⟨R, hR⟩ : ∃ R, R = addE h B V E x := ⟨_, rfl⟩
  rw [← hR]
  have HR := Lib.hid hR
  obtain ⟨R1, hR1⟩ : ∃ R1, R1 = histOk h B V E := ⟨_, rfl⟩
  rw [← hR1] at HMAY
  have HR1 := Lib.hid hR1
  have HXI := Lib.hid hx.1.i3
  obtain ⟨nn, hnn⟩ : ∃ nn, nn = numN E := ⟨_, rfl⟩
  rw [← hnn] at HNUM hnl
  have HNN := Lib.hid hnn
  clear hR hR1 hh hx hbd hnn
  obtain ⟨xba, xbl, xbc, xva, xvl, xvc, xfr, xnum, xla, xll, xlc⟩ := h
  dsimp only at hl hv hle hcap hnl HMAY HNUM HAP
  obtain ⟨W0, hW0⟩ : ∃ W0, ((w.alloc (.cells #[.slice xba xbl xbc, .slice xva xvl xvc, .int .i64 xfr, .int .i64 xnum, .slice xla xll xlc] 39)).alloc (.cells #[.int .i64 x.o.site, .int .i64 x.o.seq, .int .i64 x.o.num, .int .i64 x.o.kind, .int .i64 x.o.at_, .string x.o.text, .slice x.o.sa x.o.slen x.o.scap, .int .i64 x.ed.site, .int .i64 x.ed.seq, .int .i64 x.ed.ctx, .int .i64 x.ed.kind, .int .i64 x.ed.at_, .int .i64 x.ed.len, .string x.ed.text] 35)).alloc (.cells #[.slice none 0 0, .slice none 0 0, .int .i64 0, .int .i64 0, .slice none 0 0] 39) = W0 := ⟨_, rfl⟩
  have m0 : Mine.Mod none_ w W0 := by rw [← hW0]; exact (((Mine.Mod.refl none_ w).alloc _).alloc _).alloc _
  have k0 : Blk W0 (w.heap.size) [.slice xba xbl xbc, .slice xva xvl xvc, .int .i64 xfr, .int .i64 xnum, .slice xla xll xlc] 39 := by
    have hb := Blk.new (w := w) (cs := [.slice xba xbl xbc, .slice xva xvl xvc, .int .i64 xfr, .int .i64 xnum, .slice xla xll xlc]) (t := 39)
    rw [← hW0]
    exact hb.mod (((Mine.Mod.refl none_ _).alloc _).alloc _) (fun e => e)
  have k1 : Blk W0 (w.heap.size + 1) [.int .i64 x.o.site, .int .i64 x.o.seq, .int .i64 x.o.num, .int .i64 x.o.kind, .int .i64 x.o.at_, .string x.o.text, .slice x.o.sa x.o.slen x.o.scap, .int .i64 x.ed.site, .int .i64 x.ed.seq, .int .i64 x.ed.ctx, .int .i64 x.ed.kind, .int .i64 x.ed.at_, .int .i64 x.ed.len, .string x.ed.text] 35 := by
    have hb := Blk.new (w := (w.alloc (.cells #[.slice xba xbl xbc, .slice xva xvl xvc, .int .i64 xfr, .int .i64 xnum, .slice xla xll xlc] 39))) (cs := [.int .i64 x.o.site, .int .i64 x.o.seq, .int .i64 x.o.num, .int .i64 x.o.kind, .int .i64 x.o.at_, .string x.o.text, .slice x.o.sa x.o.slen x.o.scap, .int .i64 x.ed.site, .int .i64 x.ed.seq, .int .i64 x.ed.ctx, .int .i64 x.ed.kind, .int .i64 x.ed.at_, .int .i64 x.ed.len, .string x.ed.text]) (t := 35)
    simp only [World.size_alloc] at hb
    rw [← hW0]
    exact hb.mod ((Mine.Mod.refl none_ _).alloc _) (fun e => e)
  have k2 : Blk W0 (w.heap.size + 1 + 1) [.slice none 0 0, .slice none 0 0, .int .i64 0, .int .i64 0, .slice none 0 0] 39 := by
    have hb := Blk.new (w := ((w.alloc (.cells #[.slice xba xbl xbc, .slice xva xvl xvc, .int .i64 xfr, .int .i64 xnum, .slice xla xll xlc] 39)).alloc (.cells #[.int .i64 x.o.site, .int .i64 x.o.seq, .int .i64 x.o.num, .int .i64 x.o.kind, .int .i64 x.o.at_, .string x.o.text, .slice x.o.sa x.o.slen x.o.scap, .int .i64 x.ed.site, .int .i64 x.ed.seq, .int .i64 x.ed.ctx, .int .i64 x.ed.kind, .int .i64 x.ed.at_, .int .i64 x.ed.len, .string x.ed.text] 35))) (cs := [.slice none 0 0, .slice none 0 0, .int .i64 0, .int .i64 0, .slice none 0 0]) (t := 39)
    simp only [World.size_alloc] at hb
    rw [← hW0]
    exact hb.mod (Mine.Mod.refl none_ _) (fun e => e)
  have hs0 : W0.heap.size = w.heap.size + 1 + 1 + 1 := by rw [← hW0]; simp only [World.size_alloc]
  have HS0 := Lib.hid (show w.heap.size + 1 + 1 + 1 ≤ W0.heap.size by omega)
  have M0 := Lib.hid m0
  have A0 := Lib.hid k0
  have B0 := Lib.hid k1
  have C0 := Lib.hid k2
  have a0 := k0.cell 0
  have a1 := k0.cell 1
  have a2 := k0.cell 2
  have a3 := k0.cell 3
  have a4 := k0.cell 4
  simp only [List.getElem?_cons_zero, List.getElem?_cons_succ] at a0 a1 a2 a3 a4
  clear m0 k0 k1 k2 hs0
  have HM := Lib.hid (HMAY.out W0 M0.out)
  go_enter Tryz.func11, Tryz.ntmps11
  go_upto_region 1 with fail
  clear hW0
  go_wp2_with fail
  refine HM.out.mono ?_
  rintro e w1 ⟨rfl, m1⟩
  have M1 := Lib.hid (M0.out.trans m1)
  have A1 := Lib.hid (A0.out.mod m1 (fun e => e))
  have B1 := Lib.hid (B0.out.mod m1 (fun e => e))
  have C1 := Lib.hid (C0.out.mod m1 (fun e => e))
  clear m1 a0 a1 a2 a3 a4 HM
  cases R1
  · have HE := Lib.hid (show R = 1 by rw [HR.out]; unfold addE; rw [← HR1.out]; rfl)
    have d0 := C1.out.cell 0
    have d1 := C1.out.cell 1
    have d2 := C1.out.cell 2
    have d3 := C1.out.cell 3
    have d4 := C1.out.cell 4
    simp only [List.getElem?_cons_zero, List.getElem?_cons_succ] at d0 d1 d2 d3 d4
    have r0 := C1.out.frozen 0
    have r1 := C1.out.frozen 1
    have r2 := C1.out.frozen 2
    have r3 := C1.out.frozen 3
    have r4 := C1.out.frozen 4
    have KF := Lib.hid (((((C1.out.set 0 (.slice none 0 0)).set 1 (.slice none 0 0)).set 2 (.int .i64 0)).set 3 (.int .i64 0)).set 4 (.slice none 0 0))
    have mT := ((((((Mine.Mod.refl (one (w.heap.size + 1 + 1)) w1).setCell ⟨w.heap.size + 1 + 1, 0, none⟩ (fun _ => rfl) (.slice none 0 0)).setCell ⟨w.heap.size + 1 + 1, 1, none⟩ (fun _ => rfl) (.slice none 0 0)).setCell ⟨w.heap.size + 1 + 1, 2, none⟩ (fun _ => rfl) (.int .i64 0)).setCell ⟨w.heap.size + 1 + 1, 3, none⟩ (fun _ => rfl) (.int .i64 0)).setCell ⟨w.heap.size + 1 + 1, 4, none⟩ (fun _ => rfl) (.slice none 0 0))
    have MF := Lib.hid (M1.out.transIn mT (fun b hb e => by have e' : b = w.heap.size + 1 + 1 := e; omega))
    clear mT
    go_wp2_with fail
    exact bodyPost_ret (results_hht rfl _ _ (w.heap.size + 1 + 1) [.slice none 0 0, .slice none 0 0, .int .i64 0, .int .i64 0, .slice none 0 0] rfl rfl (blk_range KF.out)) rfl ⟨MF.out, fun _ => by rw [HE.out]; rfl, fun e => absurd (HE.out.symm.trans e) (by decide)⟩
  have HNS := Lib.hid (histOk_nums HR1.out.symm)
  dsimp only at HNS
  have a0 := A1.out.cell 0
  have a1 := A1.out.cell 1
  have a2 := A1.out.cell 2
  have a3 := A1.out.cell 3
  have a4 := A1.out.cell 4
  simp only [List.getElem?_cons_zero, List.getElem?_cons_succ] at a0 a1 a2 a3 a4
  by_cases hll : xll = 400
  · have HE := Lib.hid (show R = 5 by rw [HR.out]; unfold addE; rw [if_pos HR1.out.symm, if_pos hll])
    subst hll
    clear HNS
    go_upto_region 4 with fail
    clear a0 a1 a2 a3 a4
    have d0 := C1.out.cell 0
    have d1 := C1.out.cell 1
    have d2 := C1.out.cell 2
    have d3 := C1.out.cell 3
    have d4 := C1.out.cell 4
    simp only [List.getElem?_cons_zero, List.getElem?_cons_succ] at d0 d1 d2 d3 d4
    have r0 := C1.out.frozen 0
    have r1 := C1.out.frozen 1
    have r2 := C1.out.frozen 2
    have r3 := C1.out.frozen 3
    have r4 := C1.out.frozen 4
    have KF := Lib.hid (((((C1.out.set 0 (.slice none 0 0)).set 1 (.slice none 0 0)).set 2 (.int .i64 0)).set 3 (.int .i64 0)).set 4 (.slice none 0 0))
    have mT := ((((((Mine.Mod.refl (one (w.heap.size + 1 + 1)) w1).setCell ⟨w.heap.size + 1 + 1, 0, none⟩ (fun _ => rfl) (.slice none 0 0)).setCell ⟨w.heap.size + 1 + 1, 1, none⟩ (fun _ => rfl) (.slice none 0 0)).setCell ⟨w.heap.size + 1 + 1, 2, none⟩ (fun _ => rfl) (.int .i64 0)).setCell ⟨w.heap.size + 1 + 1, 3, none⟩ (fun _ => rfl) (.int .i64 0)).setCell ⟨w.heap.size + 1 + 1, 4, none⟩ (fun _ => rfl) (.slice none 0 0))
    have MF := Lib.hid (M1.out.transIn mT (fun b hb e => by have e' : b = w.heap.size + 1 + 1 := e; omega))
    clear mT
    go_wp2_with fail
    exact bodyPost_ret (results_hht rfl _ _ (w.heap.size + 1 + 1) [.slice none 0 0, .slice none 0 0, .int .i64 0, .int .i64 0, .slice none 0 0] rfl rfl (blk_range KF.out)) rfl ⟨MF.out, fun _ => by rw [HE.out]; rfl, fun e => absurd (HE.out.symm.trans e) (by decide)⟩
  have q4 : ((xll : Int) == 400) = false := by simp; omega
  have HLL := Lib.hid hll
  go_upto_region 5 with fail
  clear q4 hll a0 a1 a2 a3 a4
  obtain ⟨bb, hbb⟩ : ∃ bb, bb = (decide (x.o.num ≠ 0) && decide ((nn : Int) < (xll : Int))) := ⟨_, rfl⟩
  have HBB := Lib.hid hbb
  clear hbb
  go_cut [27] from 16 to 27 (fun s27 wx => s27 = .bool bb ∧ Mine.Mod none_ w1 wx)
  case first =>
    have f0 : w1.cell? ⟨w.heap.size, 0, none⟩ = some (.slice xba xbl xbc) := by rw [A1.out.cell]; rfl
    have f1 : w1.cell? ⟨w.heap.size, 1, none⟩ = some (.slice xva xvl xvc) := by rw [A1.out.cell]; rfl
    have f2 : w1.cell? ⟨w.heap.size, 2, none⟩ = some (.int .i64 xfr) := by rw [A1.out.cell]; rfl
    have f3 : w1.cell? ⟨w.heap.size, 3, none⟩ = some (.int .i64 xnum) := by rw [A1.out.cell]; rfl
    have f4 : w1.cell? ⟨w.heap.size, 4, none⟩ = some (.slice xla xll xlc) := by rw [A1.out.cell]; rfl
    have g2 : w1.cell? ⟨w.heap.size + 1, 2, none⟩ = some (.int .i64 x.o.num) := by rw [B1.out.cell]; rfl
    by_cases hz : x.o.num = 0
    · have hb0 : bb = false := by rw [HBB.out]; simp [hz]
      subst hb0
      have hzb : (x.o.num != 0) = false := by simp [hz]
      refine wp_region_held_drew (S := fun w' => w'.cell? ⟨w.heap.size, 0, none⟩ = some (.slice xba xbl xbc) ∧ w'.cell? ⟨w.heap.size, 1, none⟩ = some (.slice xva xvl xvc) ∧ w'.cell? ⟨w.heap.size, 2, none⟩ = some (.int .i64 xfr) ∧ w'.cell? ⟨w.heap.size, 3, none⟩ = some (.int .i64 xnum) ∧ w'.cell? ⟨w.heap.size, 4, none⟩ = some (.slice xla xll xlc) ∧ w'.cell? ⟨w.heap.size + 1, 2, none⟩ = some (.int .i64 x.o.num)) (by kernel_rfl) ⟨f0, f1, f2, f3, f4, g2⟩ (fun hS => ?_)
      clear f0 f1 f2 f3 f4 g2 hz
      refine wpAnyH_take (i := 0) (v := .pointer (some ⟨w.heap.size + 1, 0, none⟩)) rfl (by kernel_rfl) (by kernel_rfl) (by kernel_rfl) (fun _ _ _ h => h) (Or.inl ⟨by kernel_rfl, ?_⟩) hS ?_
      · rintro w' ⟨q0, q1, q2, q3, q4, q5⟩; go_simp
      try simp only [Act.put, List.setIfInBounds_toArray, List.set_cons_zero, List.set_cons_succ]
      refine wpAnyH_take (i := 1) (v := .pointer (some ⟨w.heap.size + 1, 2, none⟩)) rfl (by kernel_rfl) (by kernel_rfl) (by kernel_rfl) (fun _ _ _ h => h) (Or.inl ⟨by kernel_rfl, ?_⟩) hS ?_
      · rintro w' ⟨q0, q1, q2, q3, q4, q5⟩; go_simp
      try simp only [Act.put, List.setIfInBounds_toArray, List.set_cons_zero, List.set_cons_succ]
      refine wpAnyH_take (i := 2) (v := .int .i64 x.o.num) rfl (by kernel_rfl) (by kernel_rfl) (by kernel_rfl) (fun _ _ _ h => h) (Or.inl ⟨by kernel_rfl, ?_⟩) hS ?_
      · rintro w' ⟨q0, q1, q2, q3, q4, q5⟩; go_simp
      try simp only [Act.put, List.setIfInBounds_toArray, List.set_cons_zero, List.set_cons_succ]
      refine wpAnyH_take (i := 3) (v := .bool false) rfl (by kernel_rfl) (by kernel_rfl) (by kernel_rfl) (fun _ _ _ h => h) (Or.inl ⟨by kernel_rfl, ?_⟩) hS ?_
      · rintro w' ⟨q0, q1, q2, q3, q4, q5⟩; go_simp
      try simp only [Act.put, List.setIfInBounds_toArray, List.set_cons_zero, List.set_cons_succ]
      refine wpAnyH_take (i := 4) (v := .bool false) rfl (by kernel_rfl) (by kernel_rfl) (by kernel_rfl) (fun _ _ _ h => h) (Or.inl ⟨by kernel_rfl, ?_⟩) hS ?_
      · rintro w' ⟨q0, q1, q2, q3, q4, q5⟩; go_simp
      try simp only [Act.put, List.setIfInBounds_toArray, List.set_cons_zero, List.set_cons_succ]
      refine wpAnyH_take (i := 5) (v := undef) rfl (by kernel_rfl) (by kernel_rfl) (by kernel_rfl) (fun _ _ _ h => h) (Or.inr ⟨by kernel_rfl, rfl⟩) hS ?_
      try simp only [Act.put, List.setIfInBounds_toArray, List.set_cons_zero, List.set_cons_succ]
      refine wpAnyH_take (i := 6) (v := undef) rfl (by kernel_rfl) (by kernel_rfl) (by kernel_rfl) (fun _ _ _ h => h) (Or.inr ⟨by kernel_rfl, rfl⟩) hS ?_
      try simp only [Act.put, List.setIfInBounds_toArray, List.set_cons_zero, List.set_cons_succ]
      refine wpAnyH_take (i := 7) (v := undef) rfl (by kernel_rfl) (by kernel_rfl) (by kernel_rfl) (fun _ _ _ h => h) (Or.inr ⟨by kernel_rfl, rfl⟩) hS ?_
      try simp only [Act.put, List.setIfInBounds_toArray, List.set_cons_zero, List.set_cons_succ]
      refine wpAnyH_take (i := 8) (v := undef) rfl (by kernel_rfl) (by kernel_rfl) (by kernel_rfl) (fun _ _ _ h => h) (Or.inr ⟨by kernel_rfl, rfl⟩) hS ?_
      try simp only [Act.put, List.setIfInBounds_toArray, List.set_cons_zero, List.set_cons_succ]
      refine wpAnyH_take (i := 9) (v := undef) rfl (by kernel_rfl) (by kernel_rfl) (by kernel_rfl) (fun _ _ _ h => h) (Or.inr ⟨by kernel_rfl, rfl⟩) hS ?_
      try simp only [Act.put, List.setIfInBounds_toArray, List.set_cons_zero, List.set_cons_succ]
      refine wpAnyH_take (i := 10) (v := undef) rfl (by kernel_rfl) (by kernel_rfl) (by kernel_rfl) (fun _ _ _ h => h) (Or.inr ⟨by kernel_rfl, rfl⟩) hS ?_
      try simp only [Act.put, List.setIfInBounds_toArray, List.set_cons_zero, List.set_cons_succ]
      refine wpAnyH_take (i := 11) (v := .bool false) rfl (by kernel_rfl) (by kernel_rfl) (by kernel_rfl) (fun _ _ _ h => h) (Or.inl ⟨by kernel_rfl, ?_⟩) hS ?_
      · rintro w' ⟨q0, q1, q2, q3, q4, q5⟩; go_simp
      try simp only [Act.put, List.setIfInBounds_toArray, List.set_cons_zero, List.set_cons_succ]
      refine wpAnyH_done (by kernel_rfl) ?_ _
      try simp only [List.getElem_toArray, List.getElem_cons_succ, List.getElem_cons_zero]
      try simp only [Act.put, List.setIfInBounds_toArray, List.set_cons_zero, List.set_cons_succ]
      go_wp2_with fail
      go_meet
      exact ⟨rfl, Mine.Mod.drew (Mine.Mod.refl none_ w1)⟩
    · have hb0 : bb = decide ((nn : Int) < (xll : Int)) := by rw [HBB.out]; simp [hz]
      subst hb0
      have hzb : (x.o.num != 0) = true := by simp [hz]
      refine wp_region_held_drew (S := fun w' => w'.cell? ⟨w.heap.size, 0, none⟩ = some (.slice xba xbl xbc) ∧ w'.cell? ⟨w.heap.size, 1, none⟩ = some (.slice xva xvl xvc) ∧ w'.cell? ⟨w.heap.size, 2, none⟩ = some (.int .i64 xfr) ∧ w'.cell? ⟨w.heap.size, 3, none⟩ = some (.int .i64 xnum) ∧ w'.cell? ⟨w.heap.size, 4, none⟩ = some (.slice xla xll xlc) ∧ w'.cell? ⟨w.heap.size + 1, 2, none⟩ = some (.int .i64 x.o.num)) (by kernel_rfl) ⟨f0, f1, f2, f3, f4, g2⟩ (fun hS => ?_)
      clear f0 f1 f2 f3 f4 g2 hz
      refine wpAnyH_take (i := 0) (v := .pointer (some ⟨w.heap.size + 1, 0, none⟩)) rfl (by kernel_rfl) (by kernel_rfl) (by kernel_rfl) (fun _ _ _ h => h) (Or.inl ⟨by kernel_rfl, ?_⟩) hS ?_
      · rintro w' ⟨q0, q1, q2, q3, q4, q5⟩; go_simp
      try simp only [Act.put, List.setIfInBounds_toArray, List.set_cons_zero, List.set_cons_succ]
      refine wpAnyH_take (i := 1) (v := .pointer (some ⟨w.heap.size + 1, 2, none⟩)) rfl (by kernel_rfl) (by kernel_rfl) (by kernel_rfl) (fun _ _ _ h => h) (Or.inl ⟨by kernel_rfl, ?_⟩) hS ?_
      · rintro w' ⟨q0, q1, q2, q3, q4, q5⟩; go_simp
      try simp only [Act.put, List.setIfInBounds_toArray, List.set_cons_zero, List.set_cons_succ]
      refine wpAnyH_take (i := 2) (v := .int .i64 x.o.num) rfl (by kernel_rfl) (by kernel_rfl) (by kernel_rfl) (fun _ _ _ h => h) (Or.inl ⟨by kernel_rfl, ?_⟩) hS ?_
      · rintro w' ⟨q0, q1, q2, q3, q4, q5⟩; go_simp
      try simp only [Act.put, List.setIfInBounds_toArray, List.set_cons_zero, List.set_cons_succ]
      refine wpAnyH_take (i := 3) (v := .bool true) rfl (by kernel_rfl) (by kernel_rfl) (by kernel_rfl) (fun _ _ _ h => h) (Or.inl ⟨by kernel_rfl, ?_⟩) hS ?_
      · rintro w' ⟨q0, q1, q2, q3, q4, q5⟩; go_simp
      try simp only [Act.put, List.setIfInBounds_toArray, List.set_cons_zero, List.set_cons_succ]
      refine wpAnyH_take (i := 4) (v := .bool true) rfl (by kernel_rfl) (by kernel_rfl) (by kernel_rfl) (fun _ _ _ h => h) (Or.inl ⟨by kernel_rfl, ?_⟩) hS ?_
      · rintro w' ⟨q0, q1, q2, q3, q4, q5⟩; go_simp
      try simp only [Act.put, List.setIfInBounds_toArray, List.set_cons_zero, List.set_cons_succ]
      refine wpAnyH_take (i := 5) (v := .agg #[.slice xba xbl xbc, .slice xva xvl xvc, .int .i64 xfr, .int .i64 xnum, .slice xla xll xlc]) rfl (by kernel_rfl) (by kernel_rfl) (by kernel_rfl) (fun _ _ _ h => h) (Or.inl ⟨by kernel_rfl, ?_⟩) hS ?_
      · rintro w' ⟨q0, q1, q2, q3, q4, q5⟩; go_simp
      try simp only [Act.put, List.setIfInBounds_toArray, List.set_cons_zero, List.set_cons_succ]
      refine wpAnyH_take (i := 7) (v := .pointer (some ⟨w.heap.size, 4, none⟩)) rfl (by kernel_rfl) (by kernel_rfl) (by kernel_rfl) (fun _ _ _ h => h) (Or.inl ⟨by kernel_rfl, ?_⟩) hS ?_
      · rintro w' ⟨q0, q1, q2, q3, q4, q5⟩; go_simp
      try simp only [Act.put, List.setIfInBounds_toArray, List.set_cons_zero, List.set_cons_succ]
      refine wpAnyH_take (i := 8) (v := .slice xla xll xlc) rfl (by kernel_rfl) (by kernel_rfl) (by kernel_rfl) (fun _ _ _ h => h) (Or.inl ⟨by kernel_rfl, ?_⟩) hS ?_
      · rintro w' ⟨q0, q1, q2, q3, q4, q5⟩; go_simp
      try simp only [Act.put, List.setIfInBounds_toArray, List.set_cons_zero, List.set_cons_succ]
      refine wpAnyH_take (i := 9) (v := .int .i64 (xll : Int)) rfl (by kernel_rfl) (by kernel_rfl) (by kernel_rfl) (fun _ _ _ h => h) (Or.inl ⟨by kernel_rfl, ?_⟩) hS ?_
      · rintro w' ⟨q0, q1, q2, q3, q4, q5⟩; go_simp
      try simp only [Act.put, List.setIfInBounds_toArray, List.set_cons_zero, List.set_cons_succ]
      refine wpAnyH_ready (rs := [6]) (by kernel_rfl) (by simp) (AllReadyH.cons rfl (fun K hK => ?_) <| AllReadyH.nil)
      rw [if_pos (by kernel_rfl)]
      go_simp
      refine (HNUM.out _ (M1.out.trans (Mine.Mod.drew (Mine.Mod.refl none_ w1)))).mono ?_
      rintro e w2 ⟨rfl, m2⟩
      have A2 := Lib.hid ((A1.out.mod (Mine.Mod.drew (Mine.Mod.refl none_ w1)) (fun e => e)).mod m2 (fun e => e))
      have B2 := Lib.hid ((B1.out.mod (Mine.Mod.drew (Mine.Mod.refl none_ w1)) (fun e => e)).mod m2 (fun e => e))
      have M2 := Lib.hid ((Mine.Mod.drew (Mine.Mod.refl none_ w1)).trans m2)
      refine hK.out _ _ ⟨by rw [A2.out.cell]; rfl, by rw [A2.out.cell]; rfl, by rw [A2.out.cell]; rfl, by rw [A2.out.cell]; rfl, by rw [A2.out.cell]; rfl, by rw [B2.out.cell]; rfl⟩ (fun hS => ?_)
      clear hK K
      try simp only [Act.put, List.setIfInBounds_toArray, List.set_cons_zero, List.set_cons_succ]
      refine wpAnyH_take (i := 10) (v := .bool (decide ((nn : Int) < (xll : Int)))) rfl (by kernel_rfl) (by kernel_rfl) (by kernel_rfl) (fun _ _ _ h => h) (Or.inl ⟨by kernel_rfl, ?_⟩) hS ?_
      · rintro w' ⟨q0, q1, q2, q3, q4, q5⟩; go_simp
      try simp only [Act.put, List.setIfInBounds_toArray, List.set_cons_zero, List.set_cons_succ]
      refine wpAnyH_take (i := 11) (v := .bool (decide ((nn : Int) < (xll : Int)))) rfl (by kernel_rfl) (by kernel_rfl) (by kernel_rfl) (fun _ _ _ h => h) (Or.inl ⟨by kernel_rfl, ?_⟩) hS ?_
      · rintro w' ⟨q0, q1, q2, q3, q4, q5⟩; go_simp
      try simp only [Act.put, List.setIfInBounds_toArray, List.set_cons_zero, List.set_cons_succ]
      refine wpAnyH_done (by kernel_rfl) ?_ _
      try simp only [List.getElem_toArray, List.getElem_cons_succ, List.getElem_cons_zero]
      try simp only [Act.put, List.setIfInBounds_toArray, List.set_cons_zero, List.set_cons_succ]
      go_wp2_with fail
      go_meet
      exact ⟨rfl, M2.out⟩
  case rest =>
  obtain ⟨rfl, m2⟩ := hcut
  have M2 := Lib.hid (M1.out.trans m2)
  have A2 := Lib.hid (A1.out.mod m2 (fun e => e))
  have B2 := Lib.hid (B1.out.mod m2 (fun e => e))
  have C2 := Lib.hid (C1.out.mod m2 (fun e => e))
  clear m2
  cases bb
  case true =>
    have HE := Lib.hid (show R = 13 by
      have hb := HBB.out.symm
      simp only [Bool.and_eq_true, decide_eq_true_eq] at hb
      rw [HR.out]; unfold addE; rw [if_pos HR1.out.symm, if_neg HLL.out, if_pos ⟨hb.1, by rw [← HNN.out]; show nn < xll; omega⟩])
    have d0 := C2.out.cell 0
    have d1 := C2.out.cell 1
    have d2 := C2.out.cell 2
    have d3 := C2.out.cell 3
    have d4 := C2.out.cell 4
    simp only [List.getElem?_cons_zero, List.getElem?_cons_succ] at d0 d1 d2 d3 d4
    have r0 := C2.out.frozen 0
    have r1 := C2.out.frozen 1
    have r2 := C2.out.frozen 2
    have r3 := C2.out.frozen 3
    have r4 := C2.out.frozen 4
    have KF := Lib.hid (((((C2.out.set 0 (.slice none 0 0)).set 1 (.slice none 0 0)).set 2 (.int .i64 0)).set 3 (.int .i64 0)).set 4 (.slice none 0 0))
    have mT := ((((((Mine.Mod.refl (one (w.heap.size + 1 + 1)) wc).setCell ⟨w.heap.size + 1 + 1, 0, none⟩ (fun _ => rfl) (.slice none 0 0)).setCell ⟨w.heap.size + 1 + 1, 1, none⟩ (fun _ => rfl) (.slice none 0 0)).setCell ⟨w.heap.size + 1 + 1, 2, none⟩ (fun _ => rfl) (.int .i64 0)).setCell ⟨w.heap.size + 1 + 1, 3, none⟩ (fun _ => rfl) (.int .i64 0)).setCell ⟨w.heap.size + 1 + 1, 4, none⟩ (fun _ => rfl) (.slice none 0 0))
    have MF := Lib.hid (M2.out.transIn mT (fun b hb e => by have e' : b = w.heap.size + 1 + 1 := e; omega))
    clear mT
    go_wp2_with fail
    exact bodyPost_ret (results_hht rfl _ _ (w.heap.size + 1 + 1) [.slice none 0 0, .slice none 0 0, .int .i64 0, .int .i64 0, .slice none 0 0] rfl rfl (blk_range KF.out)) rfl ⟨MF.out, fun _ => by rw [HE.out]; rfl, fun e => absurd (HE.out.symm.trans e) (by decide)⟩
  have H13 := Lib.hid (show ¬ (x.o.num ≠ 0 ∧ numN E < xll) by
    have hb := HBB.out.symm
    rw [HNN.out] at hb
    intro hc
    simp only [Bool.and_eq_false_iff, decide_eq_false_iff_not] at hb
    rcases hb with hb | hb
    · exact hb hc.1
    · omega)
  clear HBB HNUM
  obtain ⟨w2, rfl⟩ : ∃ w2, w2 = wc := ⟨_, rfl⟩
  obtain ⟨cc, hcc⟩ : ∃ cc, cc = (decide (x.o.num ≠ 0) && decide (x.o.num ≠ xnum + 1)) := ⟨_, rfl⟩
  have HCC := Lib.hid hcc
  have hwr : IntKind.i64.wrap (xnum + 1) = xnum + 1 := by rw [IntKind.wrap_i64]; have := HNS.out; omega
  have b2 := B2.out.cell 2
  have a3 := A2.out.cell 3
  simp only [List.getElem?_cons_zero, List.getElem?_cons_succ] at b2 a3
  clear hcc
  go_upto_region 7 with fail
  go_cut [41] from 29 to 41 (fun s41 wx => s41 = .bool cc ∧ wx = w2)
  case first =>
    by_cases hz : x.o.num = 0
    · have hc0 : cc = false := by rw [HCC.out]; simp [hz]
      subst hc0
      have hzb : (x.o.num != 0) = false := by simp [hz]
      clear hz
      go_wp2_with fail
      go_meet
      exact ⟨rfl, rfl⟩
    · have hc0 : cc = (x.o.num != xnum + 1) := by rw [HCC.out, Bool.eq_iff_iff]; simp [hz]
      have hzb : (x.o.num != 0) = true := by simp [hz]
      have HC0 := Lib.hid hc0
      clear hz hc0
      go_wp2_with fail
      go_meet
      exact ⟨by rw [HC0.out], rfl⟩
  case rest =>
  obtain ⟨rfl, hw2⟩ := hcut
  rw [hw2]
  clear hw2 b2 a3 hwr
  cases cc
  case true =>
    have HE := Lib.hid (show R = 17 by
      have hb := HCC.out.symm
      simp only [Bool.and_eq_true, decide_eq_true_eq] at hb
      rw [HR.out]; unfold addE; rw [if_pos HR1.out.symm, if_neg HLL.out, if_neg H13.out, if_pos hb])
    have d0 := C2.out.cell 0
    have d1 := C2.out.cell 1
    have d2 := C2.out.cell 2
    have d3 := C2.out.cell 3
    have d4 := C2.out.cell 4
    simp only [List.getElem?_cons_zero, List.getElem?_cons_succ] at d0 d1 d2 d3 d4
    have r0 := C2.out.frozen 0
    have r1 := C2.out.frozen 1
    have r2 := C2.out.frozen 2
    have r3 := C2.out.frozen 3
    have r4 := C2.out.frozen 4
    have KF := Lib.hid (((((C2.out.set 0 (.slice none 0 0)).set 1 (.slice none 0 0)).set 2 (.int .i64 0)).set 3 (.int .i64 0)).set 4 (.slice none 0 0))
    have mT := ((((((Mine.Mod.refl (one (w.heap.size + 1 + 1)) w2).setCell ⟨w.heap.size + 1 + 1, 0, none⟩ (fun _ => rfl) (.slice none 0 0)).setCell ⟨w.heap.size + 1 + 1, 1, none⟩ (fun _ => rfl) (.slice none 0 0)).setCell ⟨w.heap.size + 1 + 1, 2, none⟩ (fun _ => rfl) (.int .i64 0)).setCell ⟨w.heap.size + 1 + 1, 3, none⟩ (fun _ => rfl) (.int .i64 0)).setCell ⟨w.heap.size + 1 + 1, 4, none⟩ (fun _ => rfl) (.slice none 0 0))
    have MF := Lib.hid (M2.out.transIn mT (fun b hb e => by have e' : b = w.heap.size + 1 + 1 := e; omega))
    clear mT
    go_wp2_with fail
    exact bodyPost_ret (results_hht rfl _ _ (w.heap.size + 1 + 1) [.slice none 0 0, .slice none 0 0, .int .i64 0, .int .i64 0, .slice none 0 0] rfl rfl (blk_range KF.out)) rfl ⟨MF.out, fun _ => by rw [HE.out]; rfl, fun e => absurd (HE.out.symm.trans e) (by decide)⟩
  have H17 := Lib.hid (show ¬ (x.o.num ≠ 0 ∧ x.o.num ≠ xnum + 1) by
    have hb := HCC.out.symm
    intro hc
    simp only [Bool.and_eq_false_iff, decide_eq_false_iff_not] at hb
    rcases hb with hb | hb
    · exact hb hc.1
    · exact hb hc.2)
  have HRE := Lib.hid (show R = if histOk (HistV.plus ⟨xba, xbl, xbc, xva, xvl, xvc, xfr, xnum, xla, xll, xlc⟩ (numP ⟨xba, xbl, xbc, xva, xvl, xvc, xfr, xnum, xla, xll, xlc⟩ x)) B V (E ++ [x]) = true then 0 else 1 by
    rw [HR.out]; unfold addE; rw [if_pos HR1.out.symm, if_neg HLL.out, if_neg H13.out, if_neg H17.out])
  have HMX := Lib.hid (show max xnum x.o.num = numP ⟨xba, xbl, xbc, xva, xvl, xvc, xfr, xnum, xla, xll, xlc⟩ x by
    have hn := HNS.out
    have h17 := H17.out
    unfold numP
    by_cases hz : x.o.num = 0
    · rw [if_pos hz, hz]; show max xnum 0 = xnum; omega
    · rw [if_neg hz]
      have : x.o.num = xnum + 1 := by
        rcases Classical.em (x.o.num = xnum + 1) with h | h
        · exact h
        · exact absurd ⟨hz, h⟩ h17
      omega)
  have HWL := Lib.hid (show w.heap.size ≤ w2.heap.size from M2.out.size)
  have HW2 := Lib.hid (show w.heap.size + 1 + 1 + 1 ≤ w2.heap.size from Nat.lt_of_lt_of_le (by omega) (show w.heap.size + 1 + 1 + 1 ≤ w2.heap.size from C2.out.lt))
  have HAC := Lib.hid (HAP.out w2 M2.out (by have := HNS.out; omega))
  have a0 := A2.out.cell 0
  have a1 := A2.out.cell 1
  have a2 := A2.out.cell 2
  have a3 := A2.out.cell 3
  have a4 := A2.out.cell 4
  simp only [List.getElem?_cons_zero, List.getElem?_cons_succ] at a0 a1 a2 a3 a4
  clear HAP HCC HLL H13 H17
  go_wp2_with fail
  refine HAC.out.mono ?_
  rintro e w3 ⟨⟨ba', bl', bc', va', vl', vc', fr', num', la', ll', lc'⟩, E', rfl, h1, h2, h3, h4, h5, hlk, hmd, m3⟩
  dsimp only at h1 h2 h3 h4 h5
  have g1 := h1.symm
  have g2 := h2.symm
  have g3 := h3.symm
  have g4 := h4.symm
  have g5 := h5.symm
  clear h1 h2 h3 h4 h5
  subst g1 g2 g3 g4 g5
  have HLK := Lib.hid hlk
  have mA : Mine.Mod none_ w3 (w3.alloc (.cells #[.slice ba' xbl bc', .slice va' xvl vc', .int .i64 xfr, .int .i64 xnum, .slice la' xll lc'] 39)) := (Mine.Mod.refl none_ w3).alloc _
  have D4 := Lib.hid (Blk.new (w := w3) (cs := [.slice ba' xbl bc', .slice va' xvl vc', .int .i64 xfr, .int .i64 xnum, .slice la' xll lc']) (t := 39))
  have M4 := Lib.hid (M2.out.trans (m3.trans mA))
  have B4 := Lib.hid (B2.out.mod (m3.trans mA) (fun e => e))
  have C4 := Lib.hid (C2.out.mod (m3.trans mA) (fun e => e))
  have MD4 := Lib.hid (hmd.grown mA)
  have HW4 := Lib.hid (show w2.heap.size ≤ _ from (m3.trans mA).size)
  have HK6 := Lib.hid (show w.heap.size + 1 + 1 + 1 ≤ w3.heap.size from Nat.le_trans HW2.out m3.size)
  clear hlk hmd m3 mA HAC a0 a1 a2 a3 a4
  go_upto_region 10 with fail
  obtain ⟨K6, hK6e⟩ : ∃ K6, K6 = w3.heap.size := ⟨_, rfl⟩
  rw [← hK6e] at D4 HK6 ⊢
  clear hK6e
  generalize w3.alloc (.cells #[.slice ba' xbl bc', .slice va' xvl vc', .int .i64 xfr, .int .i64 xnum, .slice la' xll lc'] 39) = w4 at D4 M4 B4 C4 MD4 HW4 ⊢
  go_cut [] from 45 to 55 (fun wx => RowKit.Hid (AdMid w K6 ⟨xba, xbl, xbc, xva, xvl, xvc, xfr, xnum, xla, xll, xlc⟩ B V E x wx))
  case first =>
    have f0 : w4.cell? ⟨w.heap.size + 1, 0, none⟩ = some (.int .i64 x.o.site) := by rw [B4.out.cell]; rfl
    have f1 : w4.cell? ⟨w.heap.size + 1, 1, none⟩ = some (.int .i64 x.o.seq) := by rw [B4.out.cell]; rfl
    have f2 : w4.cell? ⟨w.heap.size + 1, 2, none⟩ = some (.int .i64 x.o.num) := by rw [B4.out.cell]; rfl
    have f3 : w4.cell? ⟨w.heap.size + 1, 3, none⟩ = some (.int .i64 x.o.kind) := by rw [B4.out.cell]; rfl
    have f4 : w4.cell? ⟨w.heap.size + 1, 4, none⟩ = some (.int .i64 x.o.at_) := by rw [B4.out.cell]; rfl
    have f5 : w4.cell? ⟨w.heap.size + 1, 5, none⟩ = some (.string x.o.text) := by rw [B4.out.cell]; rfl
    have f6 : w4.cell? ⟨w.heap.size + 1, 6, none⟩ = some (.slice x.o.sa x.o.slen x.o.scap) := by rw [B4.out.cell]; rfl
    have f7 : w4.cell? ⟨w.heap.size + 1, 7, none⟩ = some (.int .i64 x.ed.site) := by rw [B4.out.cell]; rfl
    have f8 : w4.cell? ⟨w.heap.size + 1, 8, none⟩ = some (.int .i64 x.ed.seq) := by rw [B4.out.cell]; rfl
    have f9 : w4.cell? ⟨w.heap.size + 1, 9, none⟩ = some (.int .i64 x.ed.ctx) := by rw [B4.out.cell]; rfl
    have f10 : w4.cell? ⟨w.heap.size + 1, 10, none⟩ = some (.int .i64 x.ed.kind) := by rw [B4.out.cell]; rfl
    have f11 : w4.cell? ⟨w.heap.size + 1, 11, none⟩ = some (.int .i64 x.ed.at_) := by rw [B4.out.cell]; rfl
    have f12 : w4.cell? ⟨w.heap.size + 1, 12, none⟩ = some (.int .i64 x.ed.len) := by rw [B4.out.cell]; rfl
    have f13 : w4.cell? ⟨w.heap.size + 1, 13, none⟩ = some (.string x.ed.text) := by rw [B4.out.cell]; rfl
    refine wp_region_held_drew (S := fun w' => w'.cell? ⟨w.heap.size + 1, 0, none⟩ = some (.int .i64 x.o.site) ∧ w'.cell? ⟨w.heap.size + 1, 1, none⟩ = some (.int .i64 x.o.seq) ∧ w'.cell? ⟨w.heap.size + 1, 2, none⟩ = some (.int .i64 x.o.num) ∧ w'.cell? ⟨w.heap.size + 1, 3, none⟩ = some (.int .i64 x.o.kind) ∧ w'.cell? ⟨w.heap.size + 1, 4, none⟩ = some (.int .i64 x.o.at_) ∧ w'.cell? ⟨w.heap.size + 1, 5, none⟩ = some (.string x.o.text) ∧ w'.cell? ⟨w.heap.size + 1, 6, none⟩ = some (.slice x.o.sa x.o.slen x.o.scap) ∧ w'.cell? ⟨w.heap.size + 1, 7, none⟩ = some (.int .i64 x.ed.site) ∧ w'.cell? ⟨w.heap.size + 1, 8, none⟩ = some (.int .i64 x.ed.seq) ∧ w'.cell? ⟨w.heap.size + 1, 9, none⟩ = some (.int .i64 x.ed.ctx) ∧ w'.cell? ⟨w.heap.size + 1, 10, none⟩ = some (.int .i64 x.ed.kind) ∧ w'.cell? ⟨w.heap.size + 1, 11, none⟩ = some (.int .i64 x.ed.at_) ∧ w'.cell? ⟨w.heap.size + 1, 12, none⟩ = some (.int .i64 x.ed.len) ∧ w'.cell? ⟨w.heap.size + 1, 13, none⟩ = some (.string x.ed.text)) (by kernel_rfl) ⟨f0, f1, f2, f3, f4, f5, f6, f7, f8, f9, f10, f11, f12, f13⟩ (fun hS => ?_)
    clear f0 f1 f2 f3 f4 f5 f6 f7 f8 f9 f10 f11 f12 f13
    refine wpAnyH_take (i := 0) (v := .pointer (some ⟨K6, 4, none⟩)) rfl (by kernel_rfl) (by kernel_rfl) (by kernel_rfl) (fun _ _ _ h => h) (Or.inl ⟨by kernel_rfl, ?_⟩) hS ?_
    · rintro w' ⟨q0, q1, q2, q3, q4, q5, q6, q7, q8, q9, q10, q11, q12, q13⟩; go_simp
    try simp only [Act.put, List.setIfInBounds_toArray, List.set_cons_zero, List.set_cons_succ]
    refine wpAnyH_take (i := 2) (v := .pointer (some ⟨w.heap.size + 1, 0, none⟩)) rfl (by kernel_rfl) (by kernel_rfl) (by kernel_rfl) (fun _ _ _ h => h) (Or.inl ⟨by kernel_rfl, ?_⟩) hS ?_
    · rintro w' ⟨q0, q1, q2, q3, q4, q5, q6, q7, q8, q9, q10, q11, q12, q13⟩; go_simp
    try simp only [Act.put, List.setIfInBounds_toArray, List.set_cons_zero, List.set_cons_succ]
    refine wpAnyH_take (i := 3) (v := .agg #[.int .i64 x.o.site, .int .i64 x.o.seq, .int .i64 x.o.num, .int .i64 x.o.kind, .int .i64 x.o.at_, .string x.o.text, .slice x.o.sa x.o.slen x.o.scap]) rfl (by kernel_rfl) (by kernel_rfl) (by kernel_rfl) (fun _ _ _ h => h) (Or.inl ⟨by kernel_rfl, ?_⟩) hS ?_
    · rintro w' ⟨q0, q1, q2, q3, q4, q5, q6, q7, q8, q9, q10, q11, q12, q13⟩; go_simp
    try simp only [Act.put, List.setIfInBounds_toArray, List.set_cons_zero, List.set_cons_succ]
    refine wpAnyH_take (i := 5) (v := .pointer (some ⟨w.heap.size + 1, 7, none⟩)) rfl (by kernel_rfl) (by kernel_rfl) (by kernel_rfl) (fun _ _ _ h => h) (Or.inl ⟨by kernel_rfl, ?_⟩) hS ?_
    · rintro w' ⟨q0, q1, q2, q3, q4, q5, q6, q7, q8, q9, q10, q11, q12, q13⟩; go_simp
    try simp only [Act.put, List.setIfInBounds_toArray, List.set_cons_zero, List.set_cons_succ]
    refine wpAnyH_take (i := 6) (v := .agg #[.int .i64 x.ed.site, .int .i64 x.ed.seq, .int .i64 x.ed.ctx, .int .i64 x.ed.kind, .int .i64 x.ed.at_, .int .i64 x.ed.len, .string x.ed.text]) rfl (by kernel_rfl) (by kernel_rfl) (by kernel_rfl) (fun _ _ _ h => h) (Or.inl ⟨by kernel_rfl, ?_⟩) hS ?_
    · rintro w' ⟨q0, q1, q2, q3, q4, q5, q6, q7, q8, q9, q10, q11, q12, q13⟩; go_simp
    try simp only [Act.put, List.setIfInBounds_toArray, List.set_cons_zero, List.set_cons_succ]
    refine wpAnyH_ready (rs := [1, 4]) (by kernel_rfl) (by simp) (AllReadyH.cons rfl (fun J hJ => ?_) <| AllReadyH.cons rfl (fun J hJ => ?_) <| AllReadyH.nil)
    · have b0 := D4.out.cell 4
      simp only [List.getElem?_cons_zero, List.getElem?_cons_succ] at b0
      go_simp
      refine hJ.out _ _ ⟨by rw [B4.out.drew.cell]; rfl, by rw [B4.out.drew.cell]; rfl, by rw [B4.out.drew.cell]; rfl, by rw [B4.out.drew.cell]; rfl, by rw [B4.out.drew.cell]; rfl, by rw [B4.out.drew.cell]; rfl, by rw [B4.out.drew.cell]; rfl, by rw [B4.out.drew.cell]; rfl, by rw [B4.out.drew.cell]; rfl, by rw [B4.out.drew.cell]; rfl, by rw [B4.out.drew.cell]; rfl, by rw [B4.out.drew.cell]; rfl, by rw [B4.out.drew.cell]; rfl, by rw [B4.out.drew.cell]; rfl⟩ (fun hS => ?_)
      clear hJ J b0
      try simp only [Act.put, List.setIfInBounds_toArray, List.set_cons_zero, List.set_cons_succ]
      refine wpAnyH_ready (rs := [4]) (by kernel_rfl) (by simp) (AllReadyH.cons rfl (fun J hJ => ?_) <| AllReadyH.nil)
      go_simp
      refine (HCP.out _ M4.out.drew).mono ?_
      rintro e w5 ⟨va2, vc2, rfl, ho, m5⟩
      have m45 := (Mine.Mod.drew (Mine.Mod.refl none_ w4)).trans m5
      have M5 := Lib.hid (M4.out.trans m45)
      have B5 := Lib.hid (B4.out.mod m45 (fun e => e))
      have C5 := Lib.hid (C4.out.mod m45 (fun e => e))
      have D5 := Lib.hid (D4.out.mod m45 (fun e => e))
      have MD5 := Lib.hid (MD4.out.grown m45)
      have HO5 := Lib.hid (show ownSp w5 w2.heap.size (x.at va2 vc2) from ownsRow_base ho (show w2.heap.size ≤ w4.drew.heap.size from HW4.out))
      have HW5 := Lib.hid (Nat.le_trans HW4.out m45.size)
      refine hJ.out _ _ ⟨by rw [B5.out.cell]; rfl, by rw [B5.out.cell]; rfl, by rw [B5.out.cell]; rfl, by rw [B5.out.cell]; rfl, by rw [B5.out.cell]; rfl, by rw [B5.out.cell]; rfl, by rw [B5.out.cell]; rfl, by rw [B5.out.cell]; rfl, by rw [B5.out.cell]; rfl, by rw [B5.out.cell]; rfl, by rw [B5.out.cell]; rfl, by rw [B5.out.cell]; rfl, by rw [B5.out.cell]; rfl, by rw [B5.out.cell]; rfl⟩ (fun hS => ?_)
      clear hJ J ho m5 m45
      try simp only [Act.put, List.setIfInBounds_toArray, List.set_cons_zero, List.set_cons_succ]
      refine wpAnyH_take (i := 7) (v := .agg #[.int .i64 x.o.site, .int .i64 x.o.seq, .int .i64 x.o.num, .int .i64 x.o.kind, .int .i64 x.o.at_, .string x.o.text, .slice va2 x.o.slen vc2, .int .i64 x.ed.site, .int .i64 x.ed.seq, .int .i64 x.ed.ctx, .int .i64 x.ed.kind, .int .i64 x.ed.at_, .int .i64 x.ed.len, .string x.ed.text]) rfl (by kernel_rfl) (by kernel_rfl) (by kernel_rfl) (fun _ _ _ h => h) (Or.inl ⟨by kernel_rfl, ?_⟩) hS ?_
      · rintro w' ⟨q0, q1, q2, q3, q4, q5, q6, q7, q8, q9, q10, q11, q12, q13⟩; go_simp
      try simp only [Act.put, List.setIfInBounds_toArray, List.set_cons_zero, List.set_cons_succ]
      have mX : Mine.Mod none_ w5 (w5.alloc (.cells (x.at va2 vc2).cs.toArray 35)) := (Mine.Mod.refl none_ w5).alloc _
      have kX := Blk.new (w := w5) (cs := (x.at va2 vc2).cs) (t := 35)
      obtain ⟨va3, vc3, w6, hrun, md6, m6⟩ := (MD5.out.grown mX).add (ownsRow_mod HO5.out mX (fun _ _ e => e)) kX (by show xll ≤ 1000000; have := HNS.out; omega) (Nat.le_trans HW5.out mX.size)
      dsimp only [EntV.cs] at hrun mX
      have HRUN := Lib.hid hrun
      have BX := Lib.hid (B5.out.mod mX (fun e => e))
      have DX := Lib.hid (D5.out.mod mX (fun e => e))
      have lb : ∀ j, (Value.slice la' xll lc').ownBlock = some j → w.heap.size + 1 + 1 + 1 ≤ j := fun j hj => by have := ((MD5.out.grown mX).e.lt j hj).1; have := HW2.out; omega
      have B6 := Lib.hid (BX.out.mod m6 (fun e => by have := lb _ e; omega))
      have C6 := Lib.hid ((C5.out.mod mX (fun e => e)).mod m6 (fun e => by have := lb _ e; omega))
      have D6 := Lib.hid ((D5.out.mod mX (fun e => e)).mod m6 (own_other (MD5.out.grown mX).e (D5.out.mod mX (fun e => e)) (by decide)))
      have M6 := Lib.hid ((M5.out.trans mX).transIn m6 (fun b hb e => by have := lb _ e; omega))
      have MD6 := Lib.hid md6
      clear hrun mX kX md6 m6 lb
      refine wpAnyH_ready (rs := [8]) (by kernel_rfl) (by simp) (AllReadyH.cons rfl (fun J hJ => ?_) <| AllReadyH.nil)
      go_simp
      refine hJ.out _ _ ⟨by rw [BX.out.cell]; rfl, by rw [BX.out.cell]; rfl, by rw [BX.out.cell]; rfl, by rw [BX.out.cell]; rfl, by rw [BX.out.cell]; rfl, by rw [BX.out.cell]; rfl, by rw [BX.out.cell]; rfl, by rw [BX.out.cell]; rfl, by rw [BX.out.cell]; rfl, by rw [BX.out.cell]; rfl, by rw [BX.out.cell]; rfl, by rw [BX.out.cell]; rfl, by rw [BX.out.cell]; rfl, by rw [BX.out.cell]; rfl⟩ (fun hS => ?_)
      clear hJ J
      try simp only [Act.put, List.setIfInBounds_toArray, List.set_cons_zero, List.set_cons_succ]
      refine wpAnyH_ready (rs := [9]) (by kernel_rfl) (by simp) (AllReadyH.cons rfl (fun J hJ => ?_) <| AllReadyH.nil)
      refine step_append_runI rfl (.tmp 46) (.tmp 53) 24 rfl _ _ _ rfl rfl HRUN.out ?_
      refine hJ.out _ _ ⟨by rw [B6.out.cell]; rfl, by rw [B6.out.cell]; rfl, by rw [B6.out.cell]; rfl, by rw [B6.out.cell]; rfl, by rw [B6.out.cell]; rfl, by rw [B6.out.cell]; rfl, by rw [B6.out.cell]; rfl, by rw [B6.out.cell]; rfl, by rw [B6.out.cell]; rfl, by rw [B6.out.cell]; rfl, by rw [B6.out.cell]; rfl, by rw [B6.out.cell]; rfl, by rw [B6.out.cell]; rfl, by rw [B6.out.cell]; rfl⟩ (fun hS => ?_)
      clear hJ J
      try simp only [Act.put, List.setIfInBounds_toArray, List.set_cons_zero, List.set_cons_succ]
      refine wpAnyH_take (i := 10) (v := .pointer (some ⟨K6, 4, none⟩)) rfl (by kernel_rfl) (by kernel_rfl) (by kernel_rfl) (fun _ _ _ h => h) (Or.inl ⟨by kernel_rfl, ?_⟩) hS ?_
      · rintro w' ⟨q0, q1, q2, q3, q4, q5, q6, q7, q8, q9, q10, q11, q12, q13⟩; go_simp
      try simp only [Act.put, List.setIfInBounds_toArray, List.set_cons_zero, List.set_cons_succ]
      have b0 := D6.out.cell 4
      simp only [List.getElem?_cons_zero, List.getElem?_cons_succ] at b0
      have f0 := D6.out.frozen 4
      have mS := (Mine.Mod.refl (one K6) w6).setCell ⟨K6, 4, none⟩ (fun _ => rfl) (.slice va3 (xll + 1) vc3)
      have hK6 := HK6.out
      have B7 := Lib.hid (B6.out.mod mS (fun e => by have e' : w.heap.size + 1 = K6 := e; omega))
      have HF := Lib.hid (show AdMid w K6 ⟨xba, xbl, xbc, xva, xvl, xvc, xfr, xnum, xla, xll, xlc⟩ B V E x _ from ⟨ba', bc', va', vc', va3, vc3, E' ++ [x.at va2 vc2], D6.out.set 4 (.slice va3 (xll + 1) vc3), HLK.out.snoc x va2 vc2, (MD6.out.mod mS (fun j e => by have e' : j = K6 := e; subst e'; exact ⟨_, Or.inl D6.out⟩)).low HWL.out, M6.out.transIn mS (fun b hb e => by have e' : b = K6 := e; omega), B7.out, C6.out.mod mS (fun e => by have e' : w.heap.size + 1 + 1 = K6 := e; omega)⟩)
      clear mS
      refine wpAnyH_ready (rs := [11]) (by kernel_rfl) (by simp) (AllReadyH.cons rfl (fun J hJ => ?_) <| AllReadyH.nil)
      go_simp
      refine hJ.out _ _ ⟨by rw [B7.out.cell]; rfl, by rw [B7.out.cell]; rfl, by rw [B7.out.cell]; rfl, by rw [B7.out.cell]; rfl, by rw [B7.out.cell]; rfl, by rw [B7.out.cell]; rfl, by rw [B7.out.cell]; rfl, by rw [B7.out.cell]; rfl, by rw [B7.out.cell]; rfl, by rw [B7.out.cell]; rfl, by rw [B7.out.cell]; rfl, by rw [B7.out.cell]; rfl, by rw [B7.out.cell]; rfl, by rw [B7.out.cell]; rfl⟩ (fun hS => ?_)
      clear hJ J
      try simp only [Act.put, List.setIfInBounds_toArray, List.set_cons_zero, List.set_cons_succ]
      refine wpAnyH_done (by kernel_rfl) ?_ _
      try simp only [List.getElem_toArray, List.getElem_cons_succ, List.getElem_cons_zero]
      try simp only [Act.put, List.setIfInBounds_toArray, List.set_cons_zero, List.set_cons_succ]
      clear b0 f0
      go_wp2_with fail
      go_meet
      exact HF
    · go_simp
      refine (HCP.out _ M4.out.drew).mono ?_
      rintro e w5 ⟨va2, vc2, rfl, ho, m5⟩
      have m45 := (Mine.Mod.drew (Mine.Mod.refl none_ w4)).trans m5
      have M5 := Lib.hid (M4.out.trans m45)
      have B5 := Lib.hid (B4.out.mod m45 (fun e => e))
      have C5 := Lib.hid (C4.out.mod m45 (fun e => e))
      have D5 := Lib.hid (D4.out.mod m45 (fun e => e))
      have MD5 := Lib.hid (MD4.out.grown m45)
      have HO5 := Lib.hid (show ownSp w5 w2.heap.size (x.at va2 vc2) from ownsRow_base ho (show w2.heap.size ≤ w4.drew.heap.size from HW4.out))
      have HW5 := Lib.hid (Nat.le_trans HW4.out m45.size)
      refine hJ.out _ _ ⟨by rw [B5.out.cell]; rfl, by rw [B5.out.cell]; rfl, by rw [B5.out.cell]; rfl, by rw [B5.out.cell]; rfl, by rw [B5.out.cell]; rfl, by rw [B5.out.cell]; rfl, by rw [B5.out.cell]; rfl, by rw [B5.out.cell]; rfl, by rw [B5.out.cell]; rfl, by rw [B5.out.cell]; rfl, by rw [B5.out.cell]; rfl, by rw [B5.out.cell]; rfl, by rw [B5.out.cell]; rfl, by rw [B5.out.cell]; rfl⟩ (fun hS => ?_)
      clear hJ J ho m5 m45
      try simp only [Act.put, List.setIfInBounds_toArray, List.set_cons_zero, List.set_cons_succ]
      refine wpAnyH_take (i := 7) (v := .agg #[.int .i64 x.o.site, .int .i64 x.o.seq, .int .i64 x.o.num, .int .i64 x.o.kind, .int .i64 x.o.at_, .string x.o.text, .slice va2 x.o.slen vc2, .int .i64 x.ed.site, .int .i64 x.ed.seq, .int .i64 x.ed.ctx, .int .i64 x.ed.kind, .int .i64 x.ed.at_, .int .i64 x.ed.len, .string x.ed.text]) rfl (by kernel_rfl) (by kernel_rfl) (by kernel_rfl) (fun _ _ _ h => h) (Or.inl ⟨by kernel_rfl, ?_⟩) hS ?_
      · rintro w' ⟨q0, q1, q2, q3, q4, q5, q6, q7, q8, q9, q10, q11, q12, q13⟩; go_simp
      try simp only [Act.put, List.setIfInBounds_toArray, List.set_cons_zero, List.set_cons_succ]
      have mX : Mine.Mod none_ w5 (w5.alloc (.cells (x.at va2 vc2).cs.toArray 35)) := (Mine.Mod.refl none_ w5).alloc _
      have kX := Blk.new (w := w5) (cs := (x.at va2 vc2).cs) (t := 35)
      obtain ⟨va3, vc3, w6, hrun, md6, m6⟩ := (MD5.out.grown mX).add (ownsRow_mod HO5.out mX (fun _ _ e => e)) kX (by show xll ≤ 1000000; have := HNS.out; omega) (Nat.le_trans HW5.out mX.size)
      dsimp only [EntV.cs] at hrun mX
      have HRUN := Lib.hid hrun
      have BX := Lib.hid (B5.out.mod mX (fun e => e))
      have DX := Lib.hid (D5.out.mod mX (fun e => e))
      have lb : ∀ j, (Value.slice la' xll lc').ownBlock = some j → w.heap.size + 1 + 1 + 1 ≤ j := fun j hj => by have := ((MD5.out.grown mX).e.lt j hj).1; have := HW2.out; omega
      have B6 := Lib.hid (BX.out.mod m6 (fun e => by have := lb _ e; omega))
      have C6 := Lib.hid ((C5.out.mod mX (fun e => e)).mod m6 (fun e => by have := lb _ e; omega))
      have D6 := Lib.hid ((D5.out.mod mX (fun e => e)).mod m6 (own_other (MD5.out.grown mX).e (D5.out.mod mX (fun e => e)) (by decide)))
      have M6 := Lib.hid ((M5.out.trans mX).transIn m6 (fun b hb e => by have := lb _ e; omega))
      have MD6 := Lib.hid md6
      clear hrun mX kX md6 m6 lb
      refine wpAnyH_ready (rs := [1, 8]) (by kernel_rfl) (by simp) (AllReadyH.cons rfl (fun J hJ => ?_) <| AllReadyH.cons rfl (fun J hJ => ?_) <| AllReadyH.nil)
      · have b0 := D5.out.cell 4
        simp only [List.getElem?_cons_zero, List.getElem?_cons_succ] at b0
        go_simp
        refine hJ.out _ _ ⟨by rw [B5.out.cell]; rfl, by rw [B5.out.cell]; rfl, by rw [B5.out.cell]; rfl, by rw [B5.out.cell]; rfl, by rw [B5.out.cell]; rfl, by rw [B5.out.cell]; rfl, by rw [B5.out.cell]; rfl, by rw [B5.out.cell]; rfl, by rw [B5.out.cell]; rfl, by rw [B5.out.cell]; rfl, by rw [B5.out.cell]; rfl, by rw [B5.out.cell]; rfl, by rw [B5.out.cell]; rfl, by rw [B5.out.cell]; rfl⟩ (fun hS => ?_)
        clear hJ J b0
        try simp only [Act.put, List.setIfInBounds_toArray, List.set_cons_zero, List.set_cons_succ]
        refine wpAnyH_ready (rs := [8]) (by kernel_rfl) (by simp) (AllReadyH.cons rfl (fun J hJ => ?_) <| AllReadyH.nil)
        go_simp
        refine hJ.out _ _ ⟨by rw [BX.out.cell]; rfl, by rw [BX.out.cell]; rfl, by rw [BX.out.cell]; rfl, by rw [BX.out.cell]; rfl, by rw [BX.out.cell]; rfl, by rw [BX.out.cell]; rfl, by rw [BX.out.cell]; rfl, by rw [BX.out.cell]; rfl, by rw [BX.out.cell]; rfl, by rw [BX.out.cell]; rfl, by rw [BX.out.cell]; rfl, by rw [BX.out.cell]; rfl, by rw [BX.out.cell]; rfl, by rw [BX.out.cell]; rfl⟩ (fun hS => ?_)
        clear hJ J
        try simp only [Act.put, List.setIfInBounds_toArray, List.set_cons_zero, List.set_cons_succ]
        refine wpAnyH_ready (rs := [9]) (by kernel_rfl) (by simp) (AllReadyH.cons rfl (fun J hJ => ?_) <| AllReadyH.nil)
        refine step_append_runI rfl (.tmp 46) (.tmp 53) 24 rfl _ _ _ rfl rfl HRUN.out ?_
        refine hJ.out _ _ ⟨by rw [B6.out.cell]; rfl, by rw [B6.out.cell]; rfl, by rw [B6.out.cell]; rfl, by rw [B6.out.cell]; rfl, by rw [B6.out.cell]; rfl, by rw [B6.out.cell]; rfl, by rw [B6.out.cell]; rfl, by rw [B6.out.cell]; rfl, by rw [B6.out.cell]; rfl, by rw [B6.out.cell]; rfl, by rw [B6.out.cell]; rfl, by rw [B6.out.cell]; rfl, by rw [B6.out.cell]; rfl, by rw [B6.out.cell]; rfl⟩ (fun hS => ?_)
        clear hJ J
        try simp only [Act.put, List.setIfInBounds_toArray, List.set_cons_zero, List.set_cons_succ]
        refine wpAnyH_take (i := 10) (v := .pointer (some ⟨K6, 4, none⟩)) rfl (by kernel_rfl) (by kernel_rfl) (by kernel_rfl) (fun _ _ _ h => h) (Or.inl ⟨by kernel_rfl, ?_⟩) hS ?_
        · rintro w' ⟨q0, q1, q2, q3, q4, q5, q6, q7, q8, q9, q10, q11, q12, q13⟩; go_simp
        try simp only [Act.put, List.setIfInBounds_toArray, List.set_cons_zero, List.set_cons_succ]
        have b0 := D6.out.cell 4
        simp only [List.getElem?_cons_zero, List.getElem?_cons_succ] at b0
        have f0 := D6.out.frozen 4
        have mS := (Mine.Mod.refl (one K6) w6).setCell ⟨K6, 4, none⟩ (fun _ => rfl) (.slice va3 (xll + 1) vc3)
        have hK6 := HK6.out
        have B7 := Lib.hid (B6.out.mod mS (fun e => by have e' : w.heap.size + 1 = K6 := e; omega))
        have HF := Lib.hid (show AdMid w K6 ⟨xba, xbl, xbc, xva, xvl, xvc, xfr, xnum, xla, xll, xlc⟩ B V E x _ from ⟨ba', bc', va', vc', va3, vc3, E' ++ [x.at va2 vc2], D6.out.set 4 (.slice va3 (xll + 1) vc3), HLK.out.snoc x va2 vc2, (MD6.out.mod mS (fun j e => by have e' : j = K6 := e; subst e'; exact ⟨_, Or.inl D6.out⟩)).low HWL.out, M6.out.transIn mS (fun b hb e => by have e' : b = K6 := e; omega), B7.out, C6.out.mod mS (fun e => by have e' : w.heap.size + 1 + 1 = K6 := e; omega)⟩)
        clear mS
        refine wpAnyH_ready (rs := [11]) (by kernel_rfl) (by simp) (AllReadyH.cons rfl (fun J hJ => ?_) <| AllReadyH.nil)
        go_simp
        refine hJ.out _ _ ⟨by rw [B7.out.cell]; rfl, by rw [B7.out.cell]; rfl, by rw [B7.out.cell]; rfl, by rw [B7.out.cell]; rfl, by rw [B7.out.cell]; rfl, by rw [B7.out.cell]; rfl, by rw [B7.out.cell]; rfl, by rw [B7.out.cell]; rfl, by rw [B7.out.cell]; rfl, by rw [B7.out.cell]; rfl, by rw [B7.out.cell]; rfl, by rw [B7.out.cell]; rfl, by rw [B7.out.cell]; rfl, by rw [B7.out.cell]; rfl⟩ (fun hS => ?_)
        clear hJ J
        try simp only [Act.put, List.setIfInBounds_toArray, List.set_cons_zero, List.set_cons_succ]
        refine wpAnyH_done (by kernel_rfl) ?_ _
        try simp only [List.getElem_toArray, List.getElem_cons_succ, List.getElem_cons_zero]
        try simp only [Act.put, List.setIfInBounds_toArray, List.set_cons_zero, List.set_cons_succ]
        clear b0 f0
        go_wp2_with fail
        go_meet
        exact HF
      · go_simp
        refine hJ.out _ _ ⟨by rw [BX.out.cell]; rfl, by rw [BX.out.cell]; rfl, by rw [BX.out.cell]; rfl, by rw [BX.out.cell]; rfl, by rw [BX.out.cell]; rfl, by rw [BX.out.cell]; rfl, by rw [BX.out.cell]; rfl, by rw [BX.out.cell]; rfl, by rw [BX.out.cell]; rfl, by rw [BX.out.cell]; rfl, by rw [BX.out.cell]; rfl, by rw [BX.out.cell]; rfl, by rw [BX.out.cell]; rfl, by rw [BX.out.cell]; rfl⟩ (fun hS => ?_)
        clear hJ J
        try simp only [Act.put, List.setIfInBounds_toArray, List.set_cons_zero, List.set_cons_succ]
        refine wpAnyH_ready (rs := [1]) (by kernel_rfl) (by simp) (AllReadyH.cons rfl (fun J hJ => ?_) <| AllReadyH.nil)
        have b0 := DX.out.cell 4
        simp only [List.getElem?_cons_zero, List.getElem?_cons_succ] at b0
        go_simp
        refine hJ.out _ _ ⟨by rw [BX.out.cell]; rfl, by rw [BX.out.cell]; rfl, by rw [BX.out.cell]; rfl, by rw [BX.out.cell]; rfl, by rw [BX.out.cell]; rfl, by rw [BX.out.cell]; rfl, by rw [BX.out.cell]; rfl, by rw [BX.out.cell]; rfl, by rw [BX.out.cell]; rfl, by rw [BX.out.cell]; rfl, by rw [BX.out.cell]; rfl, by rw [BX.out.cell]; rfl, by rw [BX.out.cell]; rfl, by rw [BX.out.cell]; rfl⟩ (fun hS => ?_)
        clear hJ J b0
        try simp only [Act.put, List.setIfInBounds_toArray, List.set_cons_zero, List.set_cons_succ]
        refine wpAnyH_ready (rs := [9]) (by kernel_rfl) (by simp) (AllReadyH.cons rfl (fun J hJ => ?_) <| AllReadyH.nil)
        refine step_append_runI rfl (.tmp 46) (.tmp 53) 24 rfl _ _ _ rfl rfl HRUN.out ?_
        refine hJ.out _ _ ⟨by rw [B6.out.cell]; rfl, by rw [B6.out.cell]; rfl, by rw [B6.out.cell]; rfl, by rw [B6.out.cell]; rfl, by rw [B6.out.cell]; rfl, by rw [B6.out.cell]; rfl, by rw [B6.out.cell]; rfl, by rw [B6.out.cell]; rfl, by rw [B6.out.cell]; rfl, by rw [B6.out.cell]; rfl, by rw [B6.out.cell]; rfl, by rw [B6.out.cell]; rfl, by rw [B6.out.cell]; rfl, by rw [B6.out.cell]; rfl⟩ (fun hS => ?_)
        clear hJ J
        try simp only [Act.put, List.setIfInBounds_toArray, List.set_cons_zero, List.set_cons_succ]
        refine wpAnyH_take (i := 10) (v := .pointer (some ⟨K6, 4, none⟩)) rfl (by kernel_rfl) (by kernel_rfl) (by kernel_rfl) (fun _ _ _ h => h) (Or.inl ⟨by kernel_rfl, ?_⟩) hS ?_
        · rintro w' ⟨q0, q1, q2, q3, q4, q5, q6, q7, q8, q9, q10, q11, q12, q13⟩; go_simp
        try simp only [Act.put, List.setIfInBounds_toArray, List.set_cons_zero, List.set_cons_succ]
        have b0 := D6.out.cell 4
        simp only [List.getElem?_cons_zero, List.getElem?_cons_succ] at b0
        have f0 := D6.out.frozen 4
        have mS := (Mine.Mod.refl (one K6) w6).setCell ⟨K6, 4, none⟩ (fun _ => rfl) (.slice va3 (xll + 1) vc3)
        have hK6 := HK6.out
        have B7 := Lib.hid (B6.out.mod mS (fun e => by have e' : w.heap.size + 1 = K6 := e; omega))
        have HF := Lib.hid (show AdMid w K6 ⟨xba, xbl, xbc, xva, xvl, xvc, xfr, xnum, xla, xll, xlc⟩ B V E x _ from ⟨ba', bc', va', vc', va3, vc3, E' ++ [x.at va2 vc2], D6.out.set 4 (.slice va3 (xll + 1) vc3), HLK.out.snoc x va2 vc2, (MD6.out.mod mS (fun j e => by have e' : j = K6 := e; subst e'; exact ⟨_, Or.inl D6.out⟩)).low HWL.out, M6.out.transIn mS (fun b hb e => by have e' : b = K6 := e; omega), B7.out, C6.out.mod mS (fun e => by have e' : w.heap.size + 1 + 1 = K6 := e; omega)⟩)
        clear mS
        refine wpAnyH_ready (rs := [11]) (by kernel_rfl) (by simp) (AllReadyH.cons rfl (fun J hJ => ?_) <| AllReadyH.nil)
        go_simp
        refine hJ.out _ _ ⟨by rw [B7.out.cell]; rfl, by rw [B7.out.cell]; rfl, by rw [B7.out.cell]; rfl, by rw [B7.out.cell]; rfl, by rw [B7.out.cell]; rfl, by rw [B7.out.cell]; rfl, by rw [B7.out.cell]; rfl, by rw [B7.out.cell]; rfl, by rw [B7.out.cell]; rfl, by rw [B7.out.cell]; rfl, by rw [B7.out.cell]; rfl, by rw [B7.out.cell]; rfl, by rw [B7.out.cell]; rfl, by rw [B7.out.cell]; rfl⟩ (fun hS => ?_)
        clear hJ J
        try simp only [Act.put, List.setIfInBounds_toArray, List.set_cons_zero, List.set_cons_succ]
        refine wpAnyH_done (by kernel_rfl) ?_ _
        try simp only [List.getElem_toArray, List.getElem_cons_succ, List.getElem_cons_zero]
        try simp only [Act.put, List.setIfInBounds_toArray, List.set_cons_zero, List.set_cons_succ]
        clear b0 f0
        go_wp2_with fail
        go_meet
        exact HF
  case rest =>
  obtain ⟨ba, bc, va, vc, la, lc, E2, dD, hlk, hmd, mm, bB, cC⟩ := hcut.out
  dsimp only at dD hmd
  have hK6 := HK6.out
  have b2 := bB.cell 2
  have d3 := dD.cell 3
  simp only [List.getElem?_cons_zero, List.getElem?_cons_succ] at b2 d3
  have f3 := dD.frozen 3
  have mS := (Mine.Mod.refl (one K6) wc).setCell ⟨K6, 3, none⟩ (fun _ => rfl) (.int .i64 (max xnum x.o.num))
  have D8 := Lib.hid (dD.set 3 (.int .i64 (max xnum x.o.num)))
  have C8 := Lib.hid (cC.mod mS (fun e => by have e' : w.heap.size + 1 + 1 = K6 := e; omega))
  have M8 := Lib.hid (mm.transIn mS (fun b hb e => by have e' : b = K6 := e; omega))
  have MD8 := Lib.hid ((hmd.mod mS (fun j e => by have e' : j = K6 := e; subst e'; exact ⟨_, Or.inl dD⟩)).num (max xnum x.o.num))
  obtain ⟨w8, hw8⟩ : ∃ w8, wc.setCell ⟨K6, 3, none⟩ (.int .i64 (max xnum x.o.num)) = w8 := ⟨_, rfl⟩
  rw [hw8] at D8 C8 M8 MD8
  dsimp only [List.set_cons_zero, List.set_cons_succ] at D8 MD8
  have HLK2 := Lib.hid hlk
  clear hcut dD hmd mm bB cC mS hlk
  go_upto_region 12 with fail
  clear hw8 b2 d3 f3
  have HM2 := Lib.hid (hmay_any w8 ⟨ba, xbl, bc, va, xvl, vc, xfr, max xnum x.o.num, la, xll + 1, lc⟩ B V E2 (MD8.out.is2 HH.out.b.ok HH.out.v.ok (fun y hy => by
    rcases List.mem_append.1 hy with hy | hy
    · exact HH.out.e.ok y hy
    · rw [List.mem_singleton] at hy; subst hy; exact HX.out) M8.out HLK2.out (by have := HNS.out; dsimp only; omega) (by have := HNS.out; have := HXI.out; dsimp only; omega)) hl)
  have hsame := like_may (h := HistV.plus ⟨xba, xbl, xbc, xva, xvl, xvc, xfr, xnum, xla, xll, xlc⟩ (numP ⟨xba, xbl, xbc, xva, xvl, xvc, xfr, xnum, xla, xll, xlc⟩ x)) (h' := ⟨ba, xbl, bc, va, xvl, vc, xfr, max xnum x.o.num, la, xll + 1, lc⟩) (B := B) (V := V) rfl rfl rfl HMX.out HLK2.out
  rw [hsame] at HM2
  clear hsame
  obtain ⟨RB, hRB⟩ : ∃ RB, RB = histOk (HistV.plus ⟨xba, xbl, xbc, xva, xvl, xvc, xfr, xnum, xla, xll, xlc⟩ (numP ⟨xba, xbl, xbc, xva, xvl, xvc, xfr, xnum, xla, xll, xlc⟩ x)) B V (E ++ [x]) := ⟨_, rfl⟩
  rw [← hRB] at HM2 HRE
  clear hRB
  have d0 := D8.out.cell 0
  have d1 := D8.out.cell 1
  have d2 := D8.out.cell 2
  have d3 := D8.out.cell 3
  have d4 := D8.out.cell 4
  simp only [List.getElem?_cons_zero, List.getElem?_cons_succ] at d0 d1 d2 d3 d4
  go_wp2_with fail
  refine HM2.out.mono ?_
  rintro e w9 ⟨rfl, m9⟩
  have M9 := Lib.hid (M8.out.trans m9)
  have C9 := Lib.hid (C8.out.mod m9 (fun e => e))
  have D9 := Lib.hid (D8.out.mod m9 (fun e => e))
  have MD9 := Lib.hid (MD8.out.grown m9)
  clear m9 HM2 d0 d1 d2 d3 d4
  cases RB
  · have HE := Lib.hid (show R = 1 from HRE.out)
    have d0 := C9.out.cell 0
    have d1 := C9.out.cell 1
    have d2 := C9.out.cell 2
    have d3 := C9.out.cell 3
    have d4 := C9.out.cell 4
    simp only [List.getElem?_cons_zero, List.getElem?_cons_succ] at d0 d1 d2 d3 d4
    have r0 := C9.out.frozen 0
    have r1 := C9.out.frozen 1
    have r2 := C9.out.frozen 2
    have r3 := C9.out.frozen 3
    have r4 := C9.out.frozen 4
    have KF := Lib.hid (((((C9.out.set 0 (.slice none 0 0)).set 1 (.slice none 0 0)).set 2 (.int .i64 0)).set 3 (.int .i64 0)).set 4 (.slice none 0 0))
    have mT := ((((((Mine.Mod.refl (one (w.heap.size + 1 + 1)) w9).setCell ⟨w.heap.size + 1 + 1, 0, none⟩ (fun _ => rfl) (.slice none 0 0)).setCell ⟨w.heap.size + 1 + 1, 1, none⟩ (fun _ => rfl) (.slice none 0 0)).setCell ⟨w.heap.size + 1 + 1, 2, none⟩ (fun _ => rfl) (.int .i64 0)).setCell ⟨w.heap.size + 1 + 1, 3, none⟩ (fun _ => rfl) (.int .i64 0)).setCell ⟨w.heap.size + 1 + 1, 4, none⟩ (fun _ => rfl) (.slice none 0 0))
    have MF := Lib.hid (M9.out.transIn mT (fun b hb e => by have e' : b = w.heap.size + 1 + 1 := e; omega))
    clear mT
    go_wp2_with fail
    exact bodyPost_ret (results_hht rfl _ _ (w.heap.size + 1 + 1) [.slice none 0 0, .slice none 0 0, .int .i64 0, .int .i64 0, .slice none 0 0] rfl rfl (blk_range KF.out)) rfl ⟨MF.out, fun _ => by rw [HE.out]; rfl, fun e => absurd (HE.out.symm.trans e) (by decide)⟩
  have HE := Lib.hid (show R = 0 from HRE.out)
  have d0 := D9.out.cell 0
  have d1 := D9.out.cell 1
  have d2 := D9.out.cell 2
  have d3 := D9.out.cell 3
  have d4 := D9.out.cell 4
  have c0 := C9.out.cell 0
  have c1 := C9.out.cell 1
  have c2 := C9.out.cell 2
  have c3 := C9.out.cell 3
  have c4 := C9.out.cell 4
  simp only [List.getElem?_cons_zero, List.getElem?_cons_succ] at d0 d1 d2 d3 d4 c0 c1 c2 c3 c4
  have r0 := C9.out.frozen 0
  have r1 := C9.out.frozen 1
  have r2 := C9.out.frozen 2
  have r3 := C9.out.frozen 3
  have r4 := C9.out.frozen 4
  have KF := Lib.hid (((((C9.out.set 0 (.slice ba xbl bc)).set 1 (.slice va xvl vc)).set 2 (.int .i64 xfr)).set 3 (.int .i64 (max xnum x.o.num))).set 4 (.slice la (xll + 1) lc))
  have mT := ((((((Mine.Mod.refl (one (w.heap.size + 1 + 1)) w9).setCell ⟨w.heap.size + 1 + 1, 0, none⟩ (fun _ => rfl) (.slice ba xbl bc)).setCell ⟨w.heap.size + 1 + 1, 1, none⟩ (fun _ => rfl) (.slice va xvl vc)).setCell ⟨w.heap.size + 1 + 1, 2, none⟩ (fun _ => rfl) (.int .i64 xfr)).setCell ⟨w.heap.size + 1 + 1, 3, none⟩ (fun _ => rfl) (.int .i64 (max xnum x.o.num))).setCell ⟨w.heap.size + 1 + 1, 4, none⟩ (fun _ => rfl) (.slice la (xll + 1) lc))
  have MF := Lib.hid (M9.out.transIn mT (fun b hb e => by have e' : b = w.heap.size + 1 + 1 := e; omega))
  have MDF := Lib.hid (MD9.out.mod mT (fun j e => by have e' : j = w.heap.size + 1 + 1 := e; subst e'; exact ⟨_, Or.inl C9.out⟩))
  clear mT
  go_wp2_with fail
  exact bodyPost_ret (results_hht rfl _ _ (w.heap.size + 1 + 1) [.slice ba xbl bc, .slice va xvl vc, .int .i64 xfr, .int .i64 (max xnum x.o.num), .slice la (xll + 1) lc] rfl rfl (blk_range KF.out)) rfl ⟨MF.out, fun e => absurd HE.out e, fun _ => ⟨⟨ba, xbl, bc, va, xvl, vc, xfr, max xnum x.o.num, la, xll + 1, lc⟩, E2, rfl, rfl, rfl, rfl, rfl, HMX.out, HLK2.out, MDF.out⟩⟩

end Go.Proofs.YtlidmajcdjlcnaaGreatDoor

namespace Go.Proofs.YtlidmajcdjlcnaaGreatDoor
open Go.RowKit Go.Shelf Go.Mine
open Classical

/-- Pass's answer: OK (0) or the error. -/
noncomputable def passE (h : HistV) (B : List CellV) (V : List Int) (E : List EntV) : Int := if histOk h B V E = true then (if h.num = 1099511627776 then 7 else 0) else 1
/-- What Pass leaves. -/
def PassTo (w : World) (R : Int) (h : HistV) (B : List CellV) (V : List Int) (E : List EntV) (e : Ending) (w' : World) : Prop :=
  Mine.Mod none_ w w' ∧ (R ≠ 0 → e = .returned (.tuple #[zeroH, .int .i64 R])) ∧ (R = 0 → ∃ (h' : HistV) (E' : List EntV), e = .returned (.tuple #[h'.v, .int .i64 0]) ∧ h'.bl = h.bl ∧ h'.vl = h.vl ∧ h'.ll = h.ll ∧ h'.from_ = h.from_ ∧ h'.num = h.num + 1 ∧ likeE E E' ∧ Made w.heap.size w' h' B V E')
theorem ownsRow_take {w : World} {B e size n k c : Nat} {a : Option Addr} {xs : List Value} (h : w.ownsRow B e size (.slice a n c) n xs) (hk : k ≤ n) : w.ownsRow B e size (.slice a k c) k (xs.take (k * size)) := by
  rcases ownsRow_blk h with ⟨h1, h2, h3⟩ | ⟨g, cap, more, h1, hg, hb, hc, hm, hl⟩
  · cases h1
    obtain rfl : k = 0 := by omega
    subst h3
    exact ⟨by simp, .inl ⟨rfl, rfl⟩⟩
  · cases h1
    have hx := h.1
    have hle : k * size ≤ xs.length := by rw [hx]; exact Nat.mul_le_mul_right _ hk
    refine blk_ownsRow (more := xs.drop (k * size) ++ more) hg ?_ (by rw [List.length_take]; omega) (Nat.le_trans hk hc) hm ?_
    · rw [← List.append_assoc, List.take_append_drop]; exact hb
    · rw [List.length_append, ← Nat.add_assoc, ← List.length_append, List.take_append_drop]; exact hl
theorem flat_take {α : Type} {f : α → List Value} {k : Nat} (hk : ∀ x, (f x).length = k) : ∀ (l : List α) (n : Nat), (flat f l).take (n * k) = flat f (l.take n)
  | [], n => by simp [flat]
  | x :: r, 0 => by simp [flat]
  | x :: r, n + 1 => by
    have ih := flat_take hk r n
    unfold flat at ih ⊢
    rw [List.flatMap_cons, List.take_succ_cons, List.flatMap_cons, ← ih, Nat.succ_mul, Nat.add_comm, List.take_append, hk, Nat.add_sub_cancel_left, List.take_of_length_le (by rw [hk]; omega)]
theorem Made.take {B0 : Nat} {w : World} {h : HistV} {B : List CellV} {V : List Int} {E : List EntV} (k : Made B0 w h B V E) (n : Nat) (hn : n ≤ h.ll) : Made B0 w ⟨h.ba, h.bl, h.bc, h.va, h.vl, h.vc, h.from_, h.num, h.la, n, h.lc⟩ B V (E.take n) :=
  ⟨k.b, k.v, by have := ownsRow_take k.e hn; rw [flat_take EntV.len] at this; exact this, fun x hx => k.s x (List.mem_of_mem_take hx)⟩
set_option maxHeartbeats 4000000 in
set_option maxRecDepth 1000000 in
theorem pass_any (w : World) (h : HistV) (B : List CellV) (V : List Int) (E : List EntV) (hh : HistIs w h B V E) (hl : h.bl ≤ 1099511627776) (hv : h.vl ≤ 1099511627776) (hbd : ∀ y ∈ E, y.o.slen ≤ 1099511627776) :
    Calls Tryz.prog 17 #[h.v] w (PassTo w (passE h B V E) h B V E) := by
  have hle := hh.e.le
  have hcap := hh.e.big
  unfold maxLen at hcap
  have HMAY := Lib.hid (show ∀ W, Mine.Mod none_ w W → Calls Tryz.prog 21 #[h.v] W fun e w' => e = .returned (.bool (histOk h B V E)) ∧ Mine.Mod none_ W w' from fun W m => hmay_any W h B V E (hh.grown m) hl)
  have HAP := Lib.hid (show ∀ W, Mine.Mod none_ w W → h.ll ≤ 1000000 → Calls Tryz.prog 38 #[h.v] W (ApartTo W h B V E) from fun W m hb => apart_any W h B V E (hh.grown m) hl hv hbd hb)
  have HH := Lib.hid hh
  obtain ⟨R, hR⟩ : ∃ R, R = passE h B V E := ⟨_, rfl⟩
  rw [← hR]
  have HR := Lib.hid hR
  obtain ⟨R1, hR1⟩ : ∃ R1, R1 = histOk h B V E := ⟨_, rfl⟩
  rw [← hR1] at HMAY
  have HR1 := Lib.hid hR1
  clear hR hR1 hh hbd
  obtain ⟨xba, xbl, xbc, xva, xvl, xvc, xfr, xnum, xla, xll, xlc⟩ := h
  dsimp only at hl hv hle hcap HMAY HAP
  obtain ⟨W0, hW0⟩ : ∃ W0, (w.alloc (.cells #[.slice xba xbl xbc, .slice xva xvl xvc, .int .i64 xfr, .int .i64 xnum, .slice xla xll xlc] 39)).alloc (.cells #[.slice none 0 0, .slice none 0 0, .int .i64 0, .int .i64 0, .slice none 0 0] 39) = W0 := ⟨_, rfl⟩
  have m0 : Mine.Mod none_ w W0 := by rw [← hW0]; exact ((Mine.Mod.refl none_ w).alloc _).alloc _
  have k0 : Blk W0 (w.heap.size) [.slice xba xbl xbc, .slice xva xvl xvc, .int .i64 xfr, .int .i64 xnum, .slice xla xll xlc] 39 := by
    have hb := Blk.new (w := w) (cs := [.slice xba xbl xbc, .slice xva xvl xvc, .int .i64 xfr, .int .i64 xnum, .slice xla xll xlc]) (t := 39)
    rw [← hW0]
    exact hb.mod ((Mine.Mod.refl none_ _).alloc _) (fun e => e)
  have k1 : Blk W0 (w.heap.size + 1) [.slice none 0 0, .slice none 0 0, .int .i64 0, .int .i64 0, .slice none 0 0] 39 := by
    have hb := Blk.new (w := (w.alloc (.cells #[.slice xba xbl xbc, .slice xva xvl xvc, .int .i64 xfr, .int .i64 xnum, .slice xla xll xlc] 39))) (cs := [.slice none 0 0, .slice none 0 0, .int .i64 0, .int .i64 0, .slice none 0 0]) (t := 39)
    simp only [World.size_alloc] at hb
    rw [← hW0]
    exact hb.mod (Mine.Mod.refl none_ _) (fun e => e)
  have hs0 : W0.heap.size = w.heap.size + 1 + 1 := by rw [← hW0]; simp only [World.size_alloc]
  have M0 := Lib.hid m0
  have A0 := Lib.hid k0
  have C0 := Lib.hid k1
  have a0 := k0.cell 0
  have a1 := k0.cell 1
  have a2 := k0.cell 2
  have a3 := k0.cell 3
  have a4 := k0.cell 4
  simp only [List.getElem?_cons_zero, List.getElem?_cons_succ] at a0 a1 a2 a3 a4
  clear m0 k0 k1 hs0
  have HM := Lib.hid (HMAY.out W0 M0.out)
  go_enter Tryz.func17, Tryz.ntmps17
  go_upto_region 1 with fail
  clear hW0
  go_wp2_with fail
  refine HM.out.mono ?_
  rintro e w1 ⟨rfl, m1⟩
  have M1 := Lib.hid (M0.out.trans m1)
  have A1 := Lib.hid (A0.out.mod m1 (fun e => e))
  have C1 := Lib.hid (C0.out.mod m1 (fun e => e))
  clear m1 a0 a1 a2 a3 a4 HM
  cases R1
  · have HE := Lib.hid (show R = 1 by rw [HR.out]; unfold passE; rw [← HR1.out]; rfl)
    have d0 := C1.out.cell 0
    have d1 := C1.out.cell 1
    have d2 := C1.out.cell 2
    have d3 := C1.out.cell 3
    have d4 := C1.out.cell 4
    simp only [List.getElem?_cons_zero, List.getElem?_cons_succ] at d0 d1 d2 d3 d4
    have r0 := C1.out.frozen 0
    have r1 := C1.out.frozen 1
    have r2 := C1.out.frozen 2
    have r3 := C1.out.frozen 3
    have r4 := C1.out.frozen 4
    have KF := Lib.hid (((((C1.out.set 0 (.slice none 0 0)).set 1 (.slice none 0 0)).set 2 (.int .i64 0)).set 3 (.int .i64 0)).set 4 (.slice none 0 0))
    have mT := ((((((Mine.Mod.refl (one (w.heap.size + 1)) w1).setCell ⟨w.heap.size + 1, 0, none⟩ (fun _ => rfl) (.slice none 0 0)).setCell ⟨w.heap.size + 1, 1, none⟩ (fun _ => rfl) (.slice none 0 0)).setCell ⟨w.heap.size + 1, 2, none⟩ (fun _ => rfl) (.int .i64 0)).setCell ⟨w.heap.size + 1, 3, none⟩ (fun _ => rfl) (.int .i64 0)).setCell ⟨w.heap.size + 1, 4, none⟩ (fun _ => rfl) (.slice none 0 0))
    have MF := Lib.hid (M1.out.transIn mT (fun b hb e => by have e' : b = w.heap.size + 1 := e; omega))
    clear mT
    go_wp2_with fail
    exact bodyPost_ret (results_hht rfl _ _ (w.heap.size + 1) [.slice none 0 0, .slice none 0 0, .int .i64 0, .int .i64 0, .slice none 0 0] rfl rfl (blk_range KF.out)) rfl ⟨MF.out, fun _ => by rw [HE.out]; rfl, fun e => absurd (HE.out.symm.trans e) (by decide)⟩
  have HNS := Lib.hid (histOk_nums HR1.out.symm)
  dsimp only at HNS
  have a0 := A1.out.cell 0
  have a1 := A1.out.cell 1
  have a2 := A1.out.cell 2
  have a3 := A1.out.cell 3
  have a4 := A1.out.cell 4
  simp only [List.getElem?_cons_zero, List.getElem?_cons_succ] at a0 a1 a2 a3 a4
  by_cases hn : xnum = 1099511627776
  · have HE := Lib.hid (show R = 7 by rw [HR.out]; unfold passE; rw [if_pos HR1.out.symm, if_pos hn])
    subst hn
    clear HNS
    go_upto_region 4 with fail
    clear a0 a1 a2 a3 a4
    have d0 := C1.out.cell 0
    have d1 := C1.out.cell 1
    have d2 := C1.out.cell 2
    have d3 := C1.out.cell 3
    have d4 := C1.out.cell 4
    simp only [List.getElem?_cons_zero, List.getElem?_cons_succ] at d0 d1 d2 d3 d4
    have r0 := C1.out.frozen 0
    have r1 := C1.out.frozen 1
    have r2 := C1.out.frozen 2
    have r3 := C1.out.frozen 3
    have r4 := C1.out.frozen 4
    have KF := Lib.hid (((((C1.out.set 0 (.slice none 0 0)).set 1 (.slice none 0 0)).set 2 (.int .i64 0)).set 3 (.int .i64 0)).set 4 (.slice none 0 0))
    have mT := ((((((Mine.Mod.refl (one (w.heap.size + 1)) w1).setCell ⟨w.heap.size + 1, 0, none⟩ (fun _ => rfl) (.slice none 0 0)).setCell ⟨w.heap.size + 1, 1, none⟩ (fun _ => rfl) (.slice none 0 0)).setCell ⟨w.heap.size + 1, 2, none⟩ (fun _ => rfl) (.int .i64 0)).setCell ⟨w.heap.size + 1, 3, none⟩ (fun _ => rfl) (.int .i64 0)).setCell ⟨w.heap.size + 1, 4, none⟩ (fun _ => rfl) (.slice none 0 0))
    have MF := Lib.hid (M1.out.transIn mT (fun b hb e => by have e' : b = w.heap.size + 1 := e; omega))
    clear mT
    go_wp2_with fail
    exact bodyPost_ret (results_hht rfl _ _ (w.heap.size + 1) [.slice none 0 0, .slice none 0 0, .int .i64 0, .int .i64 0, .slice none 0 0] rfl rfl (blk_range KF.out)) rfl ⟨MF.out, fun _ => by rw [HE.out]; rfl, fun e => absurd (HE.out.symm.trans e) (by decide)⟩
  have HE := Lib.hid (show R = 0 by rw [HR.out]; unfold passE; rw [if_pos HR1.out.symm, if_neg hn])
  have q4 : (xnum == 1099511627776) = false := by simpa using hn
  have HAC := Lib.hid (HAP.out w1 M1.out (by have := HNS.out; omega))
  clear hn HAP
  go_wp2_with fail
  refine HAC.out.mono ?_
  rintro e w3 ⟨⟨ba', bl', bc', va', vl', vc', fr', num', la', ll', lc'⟩, E', rfl, h1, h2, h3, h4, h5, hlk, hmd, m3⟩
  dsimp only at h1 h2 h3 h4 h5
  have g1 := h1.symm
  have g2 := h2.symm
  have g3 := h3.symm
  have g4 := h4.symm
  have g5 := h5.symm
  clear h1 h2 h3 h4 h5
  subst g1 g2 g3 g4 g5
  have HLK := Lib.hid hlk
  have mA : Mine.Mod none_ w3 (w3.alloc (.cells #[.slice ba' xbl bc', .slice va' xvl vc', .int .i64 xfr, .int .i64 xnum, .slice la' xll lc'] 39)) := (Mine.Mod.refl none_ w3).alloc _
  have D4 := Lib.hid (Blk.new (w := w3) (cs := [.slice ba' xbl bc', .slice va' xvl vc', .int .i64 xfr, .int .i64 xnum, .slice la' xll lc']) (t := 39))
  have M4 := Lib.hid (M1.out.trans (m3.trans mA))
  have A4 := Lib.hid (A1.out.mod (m3.trans mA) (fun e => e))
  have C4 := Lib.hid (C1.out.mod (m3.trans mA) (fun e => e))
  have MD4 := Lib.hid (hmd.grown mA)
  have HK6 := Lib.hid (show w.heap.size + 1 + 1 ≤ w3.heap.size from Nat.le_trans (show w.heap.size + 1 + 1 ≤ w1.heap.size from C1.out.lt) m3.size)
  have HWL := Lib.hid (show w.heap.size ≤ w1.heap.size from M1.out.size)
  clear q4
  clear hlk hmd m3 mA HAC a0 a1 a2 a3 a4
  go_upto_region 6 with fail
  obtain ⟨K6, hK6e⟩ : ∃ K6, K6 = w3.heap.size := ⟨_, rfl⟩
  rw [← hK6e] at D4 HK6 ⊢
  clear hK6e
  generalize w3.alloc (.cells #[.slice ba' xbl bc', .slice va' xvl vc', .int .i64 xfr, .int .i64 xnum, .slice la' xll lc'] 39) = w4 at D4 M4 A4 C4 MD4 ⊢
  have hK6 := HK6.out
  have hwr : IntKind.i64.wrap (xnum + 1) = xnum + 1 := by rw [IntKind.wrap_i64]; have := HNS.out; omega
  have d3 := D4.out.cell 3
  simp only [List.getElem?_cons_zero, List.getElem?_cons_succ] at d3
  have f3 := D4.out.frozen 3
  have mS := (Mine.Mod.refl (one K6) w4).setCell ⟨K6, 3, none⟩ (fun _ => rfl) (.int .i64 (xnum + 1))
  have D8 := Lib.hid (D4.out.set 3 (.int .i64 (xnum + 1)))
  have C8 := Lib.hid (C4.out.mod mS (fun e => by have e' : w.heap.size + 1 = K6 := e; omega))
  have M8 := Lib.hid (M4.out.transIn mS (fun b hb e => by have e' : b = K6 := e; omega))
  have MD8 := Lib.hid ((MD4.out.mod mS (fun j e => by have e' : j = K6 := e; subst e'; exact ⟨_, Or.inl D4.out⟩)).num (xnum + 1))
  obtain ⟨w8, hw8⟩ : ∃ w8, w4.setCell ⟨K6, 3, none⟩ (.int .i64 (xnum + 1)) = w8 := ⟨_, rfl⟩
  rw [hw8] at D8 C8 M8 MD8
  dsimp only [List.set_cons_zero, List.set_cons_succ] at D8 MD8
  clear mS
  go_upto_region 7 with fail
  clear hw8 d3 f3 hwr
  have c0 := D8.out.cell 0
  have c1 := D8.out.cell 1
  have c2 := D8.out.cell 2
  have c3 := D8.out.cell 3
  have c4 := D8.out.cell 4
  simp only [List.getElem?_cons_zero, List.getElem?_cons_succ] at c0 c1 c2 c3 c4
  have d0 := C8.out.cell 0
  have d1 := C8.out.cell 1
  have d2 := C8.out.cell 2
  have d3 := C8.out.cell 3
  have d4 := C8.out.cell 4
  simp only [List.getElem?_cons_zero, List.getElem?_cons_succ] at d0 d1 d2 d3 d4
  have r0 := C8.out.frozen 0
  have r1 := C8.out.frozen 1
  have r2 := C8.out.frozen 2
  have r3 := C8.out.frozen 3
  have r4 := C8.out.frozen 4
  have KF := Lib.hid (((((C8.out.set 0 (.slice ba' xbl bc')).set 1 (.slice va' xvl vc')).set 2 (.int .i64 xfr)).set 3 (.int .i64 (xnum + 1))).set 4 (.slice la' xll lc'))
  have mT := ((((((Mine.Mod.refl (one (w.heap.size + 1)) w8).setCell ⟨w.heap.size + 1, 0, none⟩ (fun _ => rfl) (.slice ba' xbl bc')).setCell ⟨w.heap.size + 1, 1, none⟩ (fun _ => rfl) (.slice va' xvl vc')).setCell ⟨w.heap.size + 1, 2, none⟩ (fun _ => rfl) (.int .i64 xfr)).setCell ⟨w.heap.size + 1, 3, none⟩ (fun _ => rfl) (.int .i64 (xnum + 1))).setCell ⟨w.heap.size + 1, 4, none⟩ (fun _ => rfl) (.slice la' xll lc'))
  have MF := Lib.hid (M8.out.transIn mT (fun b hb e => by have e' : b = w.heap.size + 1 := e; omega))
  have MDF := Lib.hid (MD8.out.mod mT (fun j e => by have e' : j = w.heap.size + 1 := e; subst e'; exact ⟨_, Or.inl C8.out⟩))
  clear mT
  go_wp2_with fail
  exact bodyPost_ret (results_hht rfl _ _ (w.heap.size + 1) [.slice ba' xbl bc', .slice va' xvl vc', .int .i64 xfr, .int .i64 (xnum + 1), .slice la' xll lc'] rfl rfl (blk_range KF.out)) rfl ⟨MF.out, fun e => absurd HE.out e, fun _ => ⟨⟨ba', xbl, bc', va', xvl, vc', xfr, xnum + 1, la', xll, lc'⟩, E', rfl, rfl, rfl, rfl, rfl, rfl, HLK.out, MDF.out.low HWL.out⟩⟩

end Go.Proofs.YtlidmajcdjlcnaaGreatDoor

namespace Go.Proofs.YtlidmajcdjlcnaaGreatDoor
open Go.RowKit Go.Shelf Go.Mine
open Classical

theorem Tryz.eeSize : (Tryz.prog.info? 35).map (·.size) = some 14 := by kernel_rfl
theorem results_ee1 {fn : Func} {p : Tmp} (h : fn.results = #[.cell p 35]) (tmps : Array Value) (w : World) (g : Nat) (cs : List Value) (hp : tmps.getD p undef = .pointer (some ⟨g, 0, none⟩)) (hl : cs.length = 14) (hr : w.rangeAt g 0 cs) :
    (results fn tmps).run Tryz.prog w = .ok (.agg cs.toArray) w := by
  have := run_loadVar_mid (P := Tryz.prog) w g 0 35 cs _ hr Tryz.underlying35 rfl (by rw [hl]; exact Tryz.eeSize)
  have hp' : tmps[p]?.getD undef = .pointer (some ⟨g, 0, none⟩) := by simpa using hp
  simp [results, h, hp', asAddr, this, Result.andThen]
set_option maxHeartbeats 4000000 in
set_option maxRecDepth 1000000 in
theorem entry_any (w : World) (n : Int) : Calls Tryz.prog 36 #[.int .i64 n] w fun e w' => e = .returned (.agg #[.int .i64 1, .int .i64 1, .int .i64 n, .int .i64 1, .int .i64 0, .string ⟨#[97]⟩, .slice none 0 0, .int .i64 1, .int .i64 1, .int .i64 0, .int .i64 1, .int .i64 0, .int .i64 0, .string ⟨#[97]⟩]) ∧ Mine.Mod none_ w w' := by
  obtain ⟨W0, hW0⟩ : ∃ W0, (w.alloc (.cells #[.int .i64 0, .int .i64 0, .int .i64 0, .int .i64 0, .int .i64 0, .string ⟨#[]⟩, .slice none 0 0, .int .i64 0, .int .i64 0, .int .i64 0, .int .i64 0, .int .i64 0, .int .i64 0, .string ⟨#[]⟩] 35)).alloc (.cells #[.int .i64 1, .int .i64 1] 28) = W0 := ⟨_, rfl⟩
  have m0 : Mine.Mod none_ w W0 := by rw [← hW0]; exact ((Mine.Mod.refl none_ w).alloc _).alloc _
  have k0 : Blk W0 w.heap.size [.int .i64 0, .int .i64 0, .int .i64 0, .int .i64 0, .int .i64 0, .string ⟨#[]⟩, .slice none 0 0, .int .i64 0, .int .i64 0, .int .i64 0, .int .i64 0, .int .i64 0, .int .i64 0, .string ⟨#[]⟩] 35 := by
    rw [← hW0]
    exact (Blk.new (w := w) (cs := [.int .i64 0, .int .i64 0, .int .i64 0, .int .i64 0, .int .i64 0, .string ⟨#[]⟩, .slice none 0 0, .int .i64 0, .int .i64 0, .int .i64 0, .int .i64 0, .int .i64 0, .int .i64 0, .string ⟨#[]⟩]) (t := 35)).mod ((Mine.Mod.refl none_ _).alloc _) (fun e => e)
  have k1 : Blk W0 (w.heap.size + 1) [.int .i64 1, .int .i64 1] 28 := by
    have := Blk.new (w := w.alloc (.cells #[.int .i64 0, .int .i64 0, .int .i64 0, .int .i64 0, .int .i64 0, .string ⟨#[]⟩, .slice none 0 0, .int .i64 0, .int .i64 0, .int .i64 0, .int .i64 0, .int .i64 0, .int .i64 0, .string ⟨#[]⟩] 35)) (cs := [.int .i64 1, .int .i64 1]) (t := 28)
    rw [World.size_alloc] at this
    rw [← hW0]
    exact this
  have a0 := k0.cell 0
  have a1 := k0.cell 1
  have a2 := k0.cell 2
  have a3 := k0.cell 3
  have a4 := k0.cell 4
  have a5 := k0.cell 5
  have a6 := k0.cell 6
  have a7 := k0.cell 7
  have a8 := k0.cell 8
  have a9 := k0.cell 9
  have a10 := k0.cell 10
  have a11 := k0.cell 11
  have a12 := k0.cell 12
  have a13 := k0.cell 13
  simp only [List.getElem?_cons_zero, List.getElem?_cons_succ] at a0 a1 a2 a3 a4 a5 a6 a7 a8 a9 a10 a11 a12 a13
  have d0 := k1.cell 0
  have d1 := k1.cell 1
  simp only [List.getElem?_cons_zero, List.getElem?_cons_succ] at d0 d1
  have r0 := k0.frozen 0
  have r1 := k0.frozen 1
  have r2 := k0.frozen 2
  have r3 := k0.frozen 3
  have r4 := k0.frozen 4
  have r5 := k0.frozen 5
  have r6 := k0.frozen 6
  have r7 := k0.frozen 7
  have r8 := k0.frozen 8
  have r9 := k0.frozen 9
  have r10 := k0.frozen 10
  have r11 := k0.frozen 11
  have r12 := k0.frozen 12
  have r13 := k0.frozen 13
  have KF := Lib.hid ((((((((((((((k0.set 0 (.int .i64 1)).set 1 (.int .i64 1)).set 2 (.int .i64 n)).set 3 (.int .i64 1)).set 4 (.int .i64 0)).set 5 (.string ⟨#[97]⟩)).set 6 (.slice none 0 0)).set 7 (.int .i64 1)).set 8 (.int .i64 1)).set 9 (.int .i64 0)).set 10 (.int .i64 1)).set 11 (.int .i64 0)).set 12 (.int .i64 0)).set 13 (.string ⟨#[97]⟩))
  have MF := Lib.hid ((((((((((((((m0.setCell ⟨w.heap.size, 0, none⟩ (fun h => absurd h (by simp)) (.int .i64 1)).setCell ⟨w.heap.size, 1, none⟩ (fun h => absurd h (by simp)) (.int .i64 1)).setCell ⟨w.heap.size, 2, none⟩ (fun h => absurd h (by simp)) (.int .i64 n)).setCell ⟨w.heap.size, 3, none⟩ (fun h => absurd h (by simp)) (.int .i64 1)).setCell ⟨w.heap.size, 4, none⟩ (fun h => absurd h (by simp)) (.int .i64 0)).setCell ⟨w.heap.size, 5, none⟩ (fun h => absurd h (by simp)) (.string ⟨#[97]⟩)).setCell ⟨w.heap.size, 6, none⟩ (fun h => absurd h (by simp)) (.slice none 0 0)).setCell ⟨w.heap.size, 7, none⟩ (fun h => absurd h (by simp)) (.int .i64 1)).setCell ⟨w.heap.size, 8, none⟩ (fun h => absurd h (by simp)) (.int .i64 1)).setCell ⟨w.heap.size, 9, none⟩ (fun h => absurd h (by simp)) (.int .i64 0)).setCell ⟨w.heap.size, 10, none⟩ (fun h => absurd h (by simp)) (.int .i64 1)).setCell ⟨w.heap.size, 11, none⟩ (fun h => absurd h (by simp)) (.int .i64 0)).setCell ⟨w.heap.size, 12, none⟩ (fun h => absurd h (by simp)) (.int .i64 0)).setCell ⟨w.heap.size, 13, none⟩ (fun h => absurd h (by simp)) (.string ⟨#[97]⟩))
  clear k0 k1 m0
  go_enter Tryz.func36, Tryz.ntmps36
  go_upto_region 2 with fail
  clear hW0
  go_wp2_with fail
  exact bodyPost_ret (results_ee1 rfl _ _ w.heap.size [.int .i64 1, .int .i64 1, .int .i64 n, .int .i64 1, .int .i64 0, .string ⟨#[97]⟩, .slice none 0 0, .int .i64 1, .int .i64 1, .int .i64 0, .int .i64 1, .int .i64 0, .int .i64 0, .string ⟨#[97]⟩] rfl rfl (blk_range KF.out)) rfl ⟨rfl, MF.out⟩

end Go.Proofs.YtlidmajcdjlcnaaGreatDoor

namespace Go.Proofs.YtlidmajcdjlcnaaGreatDoor
open Go.RowKit Go.Mine

/-- An operation that came in: whatever long its text is. -/
structure OpV.ok0 (o : OpV) (w : World) (l : List (Int × Int)) : Prop where
  sz : o.text.size ≤ maxLen
  sp : IsSpans w o.sa o.slen o.scap l
  ok : o.text.size < 4611686018427387904 → o.ok w l
theorem OpV.ok0.grown {o : OpV} {w w' : World} {l : List (Int × Int)} (h : o.ok0 w l) (m : Mod none_ w w') : o.ok0 w' l := ⟨h.sz, h.sp.grown m, fun hs => (h.ok hs).grown m⟩
/-- An act of a document. -/
structure ActV where
  k : Int
  o : OpV
  sp : List (Int × Int)
/-- Acts in memory. -/
structure IsActs (w : World) (a : Option Addr) (len cap : Nat) (l : List ActV) : Prop where
  n : l.length = len
  le : len ≤ cap
  big : cap ≤ maxLen
  ok : ∀ x ∈ l, x.o.ok0 w x.sp ∧ 0 ≤ x.k ∧ x.k ≤ 255
  acts : ∀ (i : Nat) (x : ActV), l[i]? = some x → ∃ b off, a = some ⟨b, off, none⟩ ∧ w.cell? ⟨b, off + i * 8, none⟩ = some (.int .u8 x.k) ∧ w.rangeAt b (off + i * 8 + 1) x.o.cs
theorem IsActs.grown {w w' : World} {a : Option Addr} {len cap : Nat} {l : List ActV} (h : IsActs w a len cap l) (m : Mod none_ w w') : IsActs w' a len cap l :=
  ⟨h.n, h.le, h.big, fun x hx => ⟨(h.ok x hx).1.grown m, (h.ok x hx).2⟩, fun i c hc => by
    obtain ⟨b, off, e, hk, hr⟩ := h.acts i c hc
    exact ⟨b, off, e, m.cell (fun e => e) hk, fun j v hv => m.cell (fun e => e) (hr j v hv)⟩⟩

def bigOp (o : OpV) : Bool := decide (40 < (o.slen : Int)) || decide (1000 < (o.text.size : Int))
set_option maxHeartbeats 1000000 in
set_option maxRecDepth 1000000 in
theorem great_op (o : OpV) (w : World) (l : List (Int × Int)) (h : o.ok0 w l) :
    Calls Tryz.prog 10 #[o.v] w fun e w' => e = .returned (.bool (bigOp o)) ∧ Mod none_ w w' := by
  have hsz := h.sz
  have hle := h.sp.le
  have hbig := h.sp.big
  unfold maxLen at hbig hsz
  obtain ⟨W0, hW0⟩ : ∃ W0, w.alloc (.cells o.cs.toArray 31) = W0 := ⟨_, rfl⟩
  obtain ⟨m0, kB⟩ := opBox1 hW0
  have M0 := Lib.hid m0
  have c5 : W0.cell? ⟨w.heap.size, 5, none⟩ = some (.string o.text) := by rw [kB.cell]; rfl
  have c6 : W0.cell? ⟨w.heap.size, 6, none⟩ = some (.slice o.sa o.slen o.scap) := by rw [kB.cell]; rfl
  unfold bigOp
  clear h m0 kB
  by_cases h1 : 40 < (o.slen : Int)
  · have hd : decide (40 < (o.slen : Int)) = true := by simpa using h1
    go_enter Tryz.func10, Tryz.ntmps10
    go_upto_region 1 with fail
    clear hW0
    go_wp2_with fail
    go_ret
    exact ⟨by rw [hd]; rfl, M0.out⟩
  · have hd : decide (40 < (o.slen : Int)) = false := by simp; omega
    go_enter Tryz.func10, Tryz.ntmps10
    go_upto_region 1 with fail
    clear hW0
    go_wp2_with fail
    go_ret
    exact ⟨rfl, M0.out⟩

end Go.Proofs.YtlidmajcdjlcnaaGreatDoor

namespace Go.Proofs.YtlidmajcdjlcnaaGreatDoor
open Go.RowKit Go.Shelf Go.Mine
open Classical

def oneA : ByteArray := ⟨#[97]⟩
theorem runesOf_oneA : runesOf oneA = some [97] := by
  have h4 : Lib.decodeGo oneA = (97, 1) := by decide
  have h5 : tl oneA 1 = ⟨#[]⟩ := by decide
  rw [runesOf_step (by decide) (by unfold bad1; rw [h4]; decide), h4]
  dsimp only
  rw [h5, runesOf_nil (by decide)]
  rfl
theorem ulen_oneA : ulen oneA = 1 := by rw [ulen_some runesOf_oneA]; rfl
theorem ascii_oneA : ascii oneA := by unfold ascii oneA; decide
def entA (n : Int) : EntV := ⟨⟨1, 1, n, 1, 0, oneA, none, 0, 0⟩, [], ⟨1, 1, 0, 1, 0, 0, oneA⟩⟩
def zeroV : HistV := ⟨none, 0, 0, none, 0, 0, 0, 0, none, 0, 0⟩
theorem entA_ok (w : World) (n : Int) (h : -9223372036854775808 ≤ n ∧ n ≤ 9223372036854775807) : (entA n).o.ok w (entA n).sp ∧ (entA n).ed.ok w := by
  refine ⟨⟨by simp [entA], by simp [entA], h, by simp [entA], by simp [entA], .inr ascii_oneA, (by decide : oneA.size < 4611686018427387904), ⟨rfl, Nat.le_refl _, Nat.zero_le _, (fun x hx => by cases hx), (fun i x hx => by cases hx)⟩⟩, ⟨.inr ascii_oneA, (by decide : oneA.size < 4611686018427387904)⟩⟩
theorem zeroV_is (w : World) : HistIs w zeroV [] [] [] :=
  ⟨⟨rfl, Nat.le_refl _, Nat.zero_le _, (fun x hx => by cases hx), (fun i x hx => by cases hx)⟩, ⟨rfl, Nat.le_refl _, Nat.zero_le _, (fun x hx => by cases hx), (fun i x hx => by cases hx)⟩, ⟨rfl, Nat.le_refl _, Nat.zero_le _, (fun x hx => by cases hx), (fun i x hx => by cases hx)⟩, by decide, by decide⟩
theorem baseOk_nil : baseOk [] [] = true := by
  unfold baseOk newE vecOk lastPos
  simp
theorem zeroV_may : histOk zeroV [] [] [] = true := by
  unfold histOk entsOk numsOk zeroV
  rw [baseOk_nil]
  simp [listRun, runOps, orderL, inB]
theorem entA_may : opMay (entA 1).o [] 0 = true := by
  have h : oneA.size = 1 := by decide
  simp [opMay, insOk, entA, textOk, ulen_oneA, inB, h, nameOk]
theorem entA_ent (n : Int) : entOk (entA n) = true := by
  have h : oneA.size = 1 := by decide
  simp [entOk, editOk, editKind, entA, textOk, ulen_oneA, inB, h, nameOk]
theorem raise_nil : raiseE [] 1 1 = 0 := by
  simp [raiseE, vecOk, lastPos, nameOk, inB, cntV]
theorem entA_hist : histOk (zeroV.plus 1) [] [] [entA 1] = true := by
  unfold histOk entsOk numsOk zeroV
  rw [baseOk_nil]
  have h1 : (listRun (opsOf [entA 1]) ((0 : Nat) : Int)).isSome = true := by
    have h2 : runOps (opsOf [entA 1]) ((0 : Nat) : Int) = some (0 + addsOf (entA 1).o) := by
      have := entA_may
      simp only [opsOf, List.map_cons, List.map_nil, runOps]
      rw [if_pos (by exact this)]
      rfl
    unfold listRun
    rw [h2, if_pos ⟨by simp, by simp [inB]⟩]
    rfl
  have h3 : orderL 0 0 [] 1 [entA 1] = true := by
    rw [orderL_cons]
    have e1 : (entA 1).o.site = 1 := rfl
    have e2 : (entA 1).o.seq = 1 := rfl
    have e3 : (entA 1).o.num = 1 := rfl
    rw [e1, e2, e3, if_pos raise_nil, if_neg (by decide), if_pos (by decide)]
    rfl
  simp only [List.all_cons, List.all_nil, entA_ent]
  rw [h1, h3]
  decide
theorem entA_add : addE zeroV [] [] [] (entA 1) = 0 := by
  unfold addE
  have hn : numP zeroV (entA 1) = 1 := rfl
  rw [if_pos zeroV_may, if_neg (by decide), if_neg (by decide), if_neg (by decide), hn, List.nil_append, if_pos entA_hist]
theorem entA_add2 : addE zeroV [] [] [] (entA 2) = 17 := by
  unfold addE
  rw [if_pos zeroV_may, if_neg (by decide), if_neg (by decide), if_pos (by decide)]
theorem zeroV_pass : passE zeroV [] [] [] = 0 := by
  unfold passE
  rw [if_pos zeroV_may, if_neg (by decide)]

set_option maxHeartbeats 4000000 in
set_option maxRecDepth 1000000 in
theorem alive_any (w : World) : Calls Tryz.prog 8 #[] w fun e w' => e = .returned (.bool true) ∧ Mine.Mod none_ w w' := by
  go_enter Tryz.func8, Tryz.ntmps8
  go_wp2_with fail
  refine (entry_any w 1).mono ?_
  rintro e w1 ⟨rfl, m1⟩
  have M1 := Lib.hid m1
  have hz := entA_add
  have HA := Lib.hid (add_any w1 zeroV (entA 1) [] [] [] (zeroV_is w1) (entA_ok w1 1 (by decide)) (by decide) (by decide) (fun y hy => by cases hy) (by decide))
  clear m1 hz
  go_wp2_with fail
  refine HA.out.mono ?_
  rintro e w2 ⟨m2, -, hR⟩
  have hz := entA_add
  obtain ⟨⟨ba, bl, bc, va, vl, vc, fr, nu, la, ll, lc⟩, E', rfl, h1, h2, h3, h4, h5, -, -⟩ := hR hz
  clear hR hz
  dsimp only at h1 h2 h3 h4 h5
  replace h5 : nu = 1 := h5
  replace h3 : ll = 1 := h3
  subst h5 h3
  dsimp only [HistV.v]
  have M2 := Lib.hid (M1.out.trans (m2.alloc (.cells #[.slice ba bl bc, .slice va vl vc, .int .i64 fr, .int .i64 1, .slice la 1 lc] 39)))
  have D2 := Lib.hid (Blk.new (w := w2) (cs := [.slice ba bl bc, .slice va vl vc, .int .i64 fr, .int .i64 1, .slice la 1 lc]) (t := 39))
  clear m2 h1 h2 h4 HA
  go_upto_region 2 with fail
  generalize w2.heap.size = K at D2 ⊢
  generalize w2.alloc (.cells #[.slice ba bl bc, .slice va vl vc, .int .i64 fr, .int .i64 1, .slice la 1 lc] 39) = w3 at M2 D2 ⊢
  go_wp2_with fail
  refine (entry_any w3 2).mono ?_
  rintro e w4 ⟨rfl, m4⟩
  have M4 := Lib.hid (M2.out.trans m4)
  have D4 := Lib.hid (D2.out.mod m4 (fun e => e))
  have HA := Lib.hid (add_any w4 zeroV (entA 2) [] [] [] (zeroV_is w4) (entA_ok w4 2 (by decide)) (by decide) (by decide) (fun y hy => by cases hy) (by decide))
  clear m4
  go_wp2_with fail
  refine HA.out.mono ?_
  rintro e w5 ⟨m5, hR, -⟩
  rw [entA_add2] at hR
  obtain rfl := hR (by decide)
  clear hR
  dsimp only [zeroH]
  have mA := m5.alloc (.cells #[.slice none 0 0, .slice none 0 0, .int .i64 0, .int .i64 0, .slice none 0 0] 39)
  have M6 := Lib.hid (M4.out.trans mA)
  have D6 := Lib.hid (D4.out.mod mA (fun e => e))
  clear m5 mA HA
  go_upto_region 3 with fail
  generalize w5.heap.size = K5
  generalize w5.alloc (.cells #[.slice none 0 0, .slice none 0 0, .int .i64 0, .int .i64 0, .slice none 0 0] 39) = w6 at M6 D6 ⊢
  have HP := Lib.hid (pass_any w6 zeroV [] [] [] (zeroV_is w6) (by decide) (by decide) (fun y hy => by cases hy))
  go_wp2_with fail
  refine HP.out.mono ?_
  rintro e w7 ⟨m7, -, hR⟩
  have hz := zeroV_pass
  obtain ⟨⟨ba2, bl2, bc2, va2, vl2, vc2, fr2, nu, la2, ll, lc2⟩, E', rfl, h1, h2, h3, h4, h5, -, -⟩ := hR hz
  clear hR hz
  dsimp only at h1 h2 h3 h4 h5
  replace h5 : nu = 1 := h5
  replace h3 : ll = 0 := h3
  subst h5 h3
  dsimp only [HistV.v]
  have mA := m7.alloc (.cells #[.slice ba2 bl2 bc2, .slice va2 vl2 vc2, .int .i64 fr2, .int .i64 1, .slice la2 0 lc2] 39)
  have M8 := Lib.hid (M6.out.trans mA)
  have D8 := Lib.hid (D6.out.mod mA (fun e => e))
  have F8 := Lib.hid (Blk.new (w := w7) (cs := [.slice ba2 bl2 bc2, .slice va2 vl2 vc2, .int .i64 fr2, .int .i64 1, .slice la2 0 lc2]) (t := 39))
  clear m7 mA h1 h2 h4 HP
  go_upto_region 4 with fail
  generalize w7.heap.size = K7 at F8 ⊢
  generalize w7.alloc (.cells #[.slice ba2 bl2 bc2, .slice va2 vl2 vc2, .int .i64 fr2, .int .i64 1, .slice la2 0 lc2] 39) = w8 at M8 D8 F8 ⊢
  have d3 := D8.out.cell 3
  have d4 := D8.out.cell 4
  have f3 := F8.out.cell 3
  simp only [List.getElem?_cons_zero, List.getElem?_cons_succ] at d3 d4 f3
  go_wp2_with fail
  go_ret
  exact ⟨rfl, M8.out⟩

end Go.Proofs.YtlidmajcdjlcnaaGreatDoor

namespace Go.Mine
open Go.RowKit Go.ChangeShapes Go.WideShapes Go.Deep

section
variable {H : Type} {enc : TypeId × Value → H} {P : Program} {w : World} {base : Nat} {spare : Nat → Bool} {held : Bool}

end
end Go.Mine

namespace Go.Proofs.YtlidmajcdjlcnaaGreatDoor
open Go.ChangeShapes Go.WideShapes Go.ChangeAt Go.RowKit Go.Mine Go.Deep

set_option maxRecDepth 100000
section
variable {H : Type} {enc : TypeId × Value → H} {w : World} {base : Nat} {sp : Nat → Bool} {held : Bool}

theorem szOp : Tryz.prog.cellsOf 31 = 7 := by kernel_rfl
theorem szCell : Tryz.prog.cellsOf 47 = 5 := by kernel_rfl
theorem szName : Tryz.prog.cellsOf 28 = 2 := by kernel_rfl
theorem szInt : Tryz.prog.cellsOf 3 = 1 := by kernel_rfl
theorem szRune : Tryz.prog.cellsOf 21 = 1 := by kernel_rfl
theorem szBool : Tryz.prog.cellsOf 4 = 1 := by kernel_rfl
theorem szString : Tryz.prog.cellsOf 9 = 1 := by kernel_rfl
theorem szSpans : Tryz.prog.cellsOf 29 = 1 := by kernel_rfl

theorem name_of {n : Nat} {a b : Value} {y : DataW H × List MemPlace} (h : DataW.trod enc Tryz.prog w base sp held n 28 [a, b] = some y) :
    ∃ s q : Int, a = .int .i64 s ∧ b = .int .i64 q ∧ (-9223372036854775808 ≤ s ∧ s ≤ 9223372036854775807) ∧ (-9223372036854775808 ≤ q ∧ q ≤ 9223372036854775807) := by
  obtain ⟨ys, m, _, _, _, hyl, hf⟩ := DataW.trod_struct Tryz.underlying28 h
  obtain ⟨y0, y1, rfl⟩ : ∃ y0 y1, ys = [y0, y1] := by
    match ys, (show ys.length = 2 from hyl) with
    | [y0, y1], _ => exact ⟨y0, y1, rfl⟩
  have h0 := hf 0 _ rfl
  have h1 := hf 1 _ rfl
  simp only [List.getElem_toArray, List.getElem_cons_zero, List.getElem_cons_succ, szInt, List.drop_zero, List.drop_succ_cons, List.take_succ_cons, List.take_zero, List.getElem?_cons_zero, List.getElem?_cons_succ] at h0 h1
  obtain ⟨s, e0, _, w0⟩ := DataW.trod_int Tryz.underlying3 h0
  obtain ⟨q, e1, _, w1⟩ := DataW.trod_int Tryz.underlying3 h1
  simp only [List.cons.injEq, and_true] at e0 e1
  exact ⟨s, q, e0, e1, bounds_i64 w0, bounds_i64 w1⟩

theorem cell_of {n : Nat} {cells : List Value} {y : DataW H × List MemPlace} (h : DataW.trod enc Tryz.prog w base sp held n 47 cells = some y) :
    ∃ c : CellV, cells = c.cs ∧ c.ok := by
  obtain ⟨ys, m, _, _, hl, hyl, hf⟩ := DataW.trod_struct Tryz.underlying47 h
  rw [szCell] at hl
  obtain ⟨a, b, c, d, e, rfl⟩ : ∃ a b c d e, cells = [a, b, c, d, e] := by
    match cells, hl with
    | [a, b, c, d, e], _ => exact ⟨a, b, c, d, e, rfl⟩
  obtain ⟨y0, y1, y2, y3, rfl⟩ : ∃ y0 y1 y2 y3, ys = [y0, y1, y2, y3] := by
    match ys, (show ys.length = 4 from hyl) with
    | [y0, y1, y2, y3], _ => exact ⟨y0, y1, y2, y3, rfl⟩
  have h0 := hf 0 _ rfl
  have h1 := hf 1 _ rfl
  have h2 := hf 2 _ rfl
  have h3 := hf 3 _ rfl
  simp only [List.getElem_toArray, List.getElem_cons_zero, List.getElem_cons_succ, szName, szInt, szRune, szBool, List.drop_zero, List.drop_succ_cons, List.take_succ_cons, List.take_zero, List.getElem?_cons_zero, List.getElem?_cons_succ] at h0 h1 h2 h3
  obtain ⟨s, q, rfl, rfl, hs, hq⟩ := name_of h0
  obtain ⟨f, e1, _, w1⟩ := DataW.trod_int Tryz.underlying3 h1
  obtain ⟨r, e2, _, w2⟩ := DataW.trod_int Tryz.underlying21 h2
  obtain ⟨g, e3, _⟩ := DataW.trod_bool Tryz.underlying4 h3
  simp only [List.cons.injEq, and_true] at e1 e2 e3
  subst e1 e2 e3
  exact ⟨⟨s, q, f, r, g⟩, rfl, hs, hq, bounds_i64 w1, bounds_i32 w2⟩

/-- A slice of structs of k cells: what each element's cells read as. -/
theorem slice_elems {t e : TypeId} {k fuel : Nat} {cs : List Value} {x : DataW H × List MemPlace} (ht : Tryz.prog.underlying t = some (.slice e)) (hk : Tryz.prog.cellsOf e = k) (h0k : 0 < k) (h : DataW.trod enc Tryz.prog w base sp held fuel t cs = some x) :
    ∃ (a : Option Addr) (len cap : Nat), cs = [.slice a len cap] ∧ len ≤ cap ∧ cap ≤ maxLen ∧
      ∀ i, i < len → ∃ (b off : Nat) (cells : List Value) (y : DataW H × List MemPlace) (n : Nat), a = some ⟨b, off, none⟩ ∧ cells.length = k ∧ w.rangeAt b (off + i * k) cells ∧ DataW.trod enc Tryz.prog w base sp held n e cells = some y := by
  rcases DataW.trod_slice ht h with ⟨h0, _⟩ | ⟨a, len, cap, elems, rest, n, _, hcs, _, _, hl, hm, hlen, hel, _, _⟩
  · exact ⟨none, 0, 0, h0, Nat.le_refl _, Nat.zero_le _, fun i hi => absurd hi (Nat.not_lt_zero _)⟩
  · rw [hk] at hel
    refine ⟨some a, len, cap, hcs, hl, hm, fun i hi => ?_⟩
    obtain ⟨b, off, spot⟩ := a
    have hspot : spot = none := by
      have h1 := hel 0 (by omega)
      rw [List.getElem?_eq_getElem (by omega)] at h1
      obtain ⟨cells, hc, hr⟩ := Option.bind_eq_some_iff.1 h1
      obtain ⟨_, hlen, hat⟩ := World.cells?_some hc
      have := hat 0 h0k
      rw [List.getElem?_eq_getElem (by omega)] at this
      have := World.cell?_spot this
      simpa [Addr.add] using this
    subst hspot
    have h1 := hel i hi
    rw [List.getElem?_eq_getElem (by omega)] at h1
    obtain ⟨cells, hc, hr⟩ := Option.bind_eq_some_iff.1 h1
    obtain ⟨_, hlen, hat⟩ := World.cells?_some hc
    refine ⟨b, off, cells, _, n, rfl, hlen, fun j v hv => ?_, hr⟩
    have hj : j < k := by have := (List.getElem?_eq_some_iff.1 hv).1; omega
    have := hat j hj
    rw [hv] at this
    simpa only [Addr.add_lit] using this

theorem read_cells {fuel : Nat} {a : Option Addr} {len cap : Nat} {x : DataW H × List MemPlace} (h : DataW.trod enc Tryz.prog w base sp held fuel 22 [.slice a len cap] = some x) : ∃ l, IsCells w a len cap l := by
  obtain ⟨a', len', cap', hcs, hl, hm, hf⟩ := slice_elems Tryz.underlying22 szCell (by decide) h
  simp only [List.cons.injEq, Value.slice.injEq, and_true] at hcs
  obtain ⟨rfl, rfl, rfl⟩ := hcs
  have key : ∀ i, i < len → ∃ c : CellV, c.ok ∧ ∃ b off, a = some ⟨b, off, none⟩ ∧ w.rangeAt b (off + i * 5) c.cs := by
    intro i hi
    obtain ⟨b, off, cells, y, n, e, _, hr, ht⟩ := hf i hi
    obtain ⟨c, rfl, hc⟩ := cell_of ht
    exact ⟨c, hc, b, off, e, hr⟩
  obtain ⟨f, hfk⟩ := Classical.axiomOfChoice (fun i : Fin len => key i.1 i.2)
  refine ⟨List.ofFn f, by simp, hl, hm, ?_, ?_⟩
  · intro y hy
    obtain ⟨i, rfl⟩ := List.mem_ofFn.1 hy
    exact (hfk i).1
  · intro i y hy
    have hi : i < len := by have := (List.getElem?_eq_some_iff.1 hy).1; simpa using this
    have : y = f ⟨i, hi⟩ := by
      rw [List.getElem?_eq_getElem (by simpa using hi)] at hy
      simp at hy; exact hy.symm
    subst this
    exact (hfk ⟨i, hi⟩).2

theorem szSpan : Tryz.prog.cellsOf 49 = 2 := by kernel_rfl
theorem read_spans {fuel : Nat} {a : Option Addr} {len cap : Nat} {x : DataW H × List MemPlace} (h : DataW.trod enc Tryz.prog w base sp held fuel 29 [.slice a len cap] = some x) : ∃ l, IsSpans w a len cap l := by
  obtain ⟨a', len', cap', hcs, hl, hm, hf⟩ := slice_elems Tryz.underlying29 szSpan (by decide) h
  simp only [List.cons.injEq, Value.slice.injEq, and_true] at hcs
  obtain ⟨rfl, rfl, rfl⟩ := hcs
  have key : ∀ i, i < len → ∃ y : Int × Int, ((-9223372036854775808 ≤ y.1 ∧ y.1 ≤ 9223372036854775807) ∧ (-9223372036854775808 ≤ y.2 ∧ y.2 ≤ 9223372036854775807)) ∧ ∃ b off, a = some ⟨b, off, none⟩ ∧ w.cell? ⟨b, off + i * 2, none⟩ = some (.int .i64 y.1) ∧ w.cell? ⟨b, off + i * 2 + 1, none⟩ = some (.int .i64 y.2) := by
    intro i hi
    obtain ⟨b, off, cells, y, n, e, hlen, hr, ht⟩ := hf i hi
    obtain ⟨u, v, rfl⟩ : ∃ u v, cells = [u, v] := by
      match cells, hlen with
      | [u, v], _ => exact ⟨u, v, rfl⟩
    obtain ⟨ys, m, _, _, _, hyl, hg⟩ := DataW.trod_struct Tryz.underlying49 ht
    obtain ⟨y0, y1, rfl⟩ : ∃ y0 y1, ys = [y0, y1] := by
      match ys, (show ys.length = 2 from hyl) with
      | [y0, y1], _ => exact ⟨y0, y1, rfl⟩
    have h0 := hg 0 _ rfl
    have h1 := hg 1 _ rfl
    simp only [List.getElem_toArray, List.getElem_cons_zero, List.getElem_cons_succ, szInt, List.drop_zero, List.drop_succ_cons, List.take_succ_cons, List.take_zero, List.getElem?_cons_zero, List.getElem?_cons_succ] at h0 h1
    obtain ⟨s, e0, _, w0⟩ := DataW.trod_int Tryz.underlying3 h0
    obtain ⟨q, e1, _, w1⟩ := DataW.trod_int Tryz.underlying3 h1
    simp only [List.cons.injEq, and_true] at e0 e1
    subst e0 e1
    exact ⟨(s, q), ⟨bounds_i64 w0, bounds_i64 w1⟩, b, off, e, hr 0 _ rfl, hr 1 _ rfl⟩
  obtain ⟨f, hfk⟩ := Classical.axiomOfChoice (fun i : Fin len => key i.1 i.2)
  refine ⟨List.ofFn f, by simp, hl, hm, ?_, ?_⟩
  · intro y hy
    obtain ⟨i, rfl⟩ := List.mem_ofFn.1 hy
    exact (hfk i).1
  · intro i y hy
    have hi : i < len := by have := (List.getElem?_eq_some_iff.1 hy).1; simpa using this
    have : y = f ⟨i, hi⟩ := by
      rw [List.getElem?_eq_getElem (by simpa using hi)] at hy
      simp at hy; exact hy.symm
    subst this
    exact (hfk ⟨i, hi⟩).2

theorem op_of {n : Nat} {cells : List Value} {y : DataW H × List MemPlace} (htab : tabsOk w) (h : DataW.trod enc Tryz.prog w base sp held n 31 cells = some y) :
    ∃ (o : OpV) (l : List (Int × Int)), cells = o.cs ∧ o.ok0 w l := by
  obtain ⟨ys, m, _, _, hl, hyl, hf⟩ := DataW.trod_struct Tryz.underlying31 h
  rw [szOp] at hl
  obtain ⟨c0, c1, c2, c3, c4, c5, c6, rfl⟩ : ∃ c0 c1 c2 c3 c4 c5 c6, cells = [c0, c1, c2, c3, c4, c5, c6] := by
    match cells, hl with
    | [c0, c1, c2, c3, c4, c5, c6], _ => exact ⟨c0, c1, c2, c3, c4, c5, c6, rfl⟩
  obtain ⟨y0, y1, y2, y3, y4, y5, rfl⟩ : ∃ y0 y1 y2 y3 y4 y5, ys = [y0, y1, y2, y3, y4, y5] := by
    match ys, (show ys.length = 6 from hyl) with
    | [y0, y1, y2, y3, y4, y5], _ => exact ⟨y0, y1, y2, y3, y4, y5, rfl⟩
  have h0 := hf 0 _ rfl
  have h1 := hf 1 _ rfl
  have h2 := hf 2 _ rfl
  have h3 := hf 3 _ rfl
  have h4 := hf 4 _ rfl
  have h5 := hf 5 _ rfl
  simp only [List.getElem_toArray, List.getElem_cons_zero, List.getElem_cons_succ, szName, szInt, szString, szSpans, List.drop_zero, List.drop_succ_cons, List.take_succ_cons, List.take_zero, List.getElem?_cons_zero, List.getElem?_cons_succ] at h0 h1 h2 h3 h4 h5
  obtain ⟨s, q, rfl, rfl, hs, hq⟩ := name_of h0
  obtain ⟨num, e1, _, w1⟩ := DataW.trod_int Tryz.underlying3 h1
  obtain ⟨kd, e2, _, w2⟩ := DataW.trod_int Tryz.underlying3 h2
  obtain ⟨at_, e3, _, w3⟩ := DataW.trod_int Tryz.underlying3 h3
  obtain ⟨tx, e4, _, w4⟩ := DataW.trod_string Tryz.underlying9 h4
  obtain ⟨a, len, cap, e5, _⟩ := slice_elems Tryz.underlying29 szSpan (by decide) h5
  simp only [List.cons.injEq, and_true] at e1 e2 e3 e4 e5
  subst e1 e2 e3 e4 e5
  obtain ⟨l, hsp⟩ := read_spans h5
  exact ⟨⟨s, q, num, kd, at_, tx, a, len, cap⟩, l, rfl, w4, hsp, fun hsz => { i1 := hs, i2 := hq, i3 := bounds_i64 w1, i4 := bounds_i64 w2, i5 := bounds_i64 w3, tx := .inl htab, sz := hsz, sp := hsp }⟩

end
end Go.Proofs.YtlidmajcdjlcnaaGreatDoor

namespace Go.Proofs.YtlidmajcdjlcnaaGreatDoor
open Go.RowKit Go.Shelf Go.Mine
open Classical

/-- An edit that came in. -/
structure EditV.ok0 (e : EditV) (w : World) : Prop where
  sz : e.text.size ≤ maxLen
  ok : e.text.size < 4611686018427387904 → e.ok w
theorem EditV.ok0.grown {e : EditV} {w w' : World} (h : e.ok0 w) (m : Mine.Mod none_ w w') : e.ok0 w' := ⟨h.sz, fun hs => (h.ok hs).grown m⟩
/-- Entries that came in, whatever long their texts are. -/
structure IsEnts0 (w : World) (a : Option Addr) (len cap : Nat) (l : List EntV) : Prop where
  n : l.length = len
  le : len ≤ cap
  big : cap ≤ maxLen
  ok : ∀ x ∈ l, x.o.ok0 w x.sp ∧ x.ed.ok0 w
  ents : ∀ (i : Nat) (x : EntV), l[i]? = some x → ∃ b off, a = some ⟨b, off, none⟩ ∧ w.rangeAt b (off + i * 14) x.cs
theorem IsEnts0.grown {w w' : World} {a : Option Addr} {len cap : Nat} {l : List EntV} (h : IsEnts0 w a len cap l) (m : Mine.Mod none_ w w') : IsEnts0 w' a len cap l :=
  ⟨h.n, h.le, h.big, fun x hx => ⟨(h.ok x hx).1.grown m, (h.ok x hx).2.grown m⟩, fun i c hc => by
    obtain ⟨b, off, e, hr⟩ := h.ents i c hc
    exact ⟨b, off, e, fun j v hv => m.cell (fun e => e) (hr j v hv)⟩⟩
/-- More than statements look at. -/
def bigEnt (x : EntV) : Bool := bigOp x.o || decide (1000 < (x.ed.text.size : Int))
theorem IsEnts0.small {w : World} {a : Option Addr} {len cap : Nat} {l : List EntV} (h : IsEnts0 w a len cap l) (hb : l.any bigEnt = false) : IsEnts w a len cap l := by
  refine ⟨h.n, h.le, h.big, fun x hx => ?_, h.ents⟩
  have hx0 : bigEnt x = false := by
    rw [List.any_eq_false] at hb
    simpa using hb x hx
  unfold bigEnt bigOp at hx0
  simp only [Bool.or_eq_false_iff, decide_eq_false_iff_not] at hx0
  obtain ⟨⟨_, h1⟩, h2⟩ := hx0
  exact ⟨(h.ok x hx).1.ok (by omega), (h.ok x hx).2.ok (by omega)⟩
def bigHist (h : HistV) (E : List EntV) : Bool := decide (60 < (h.bl : Int)) || decide (30 < (h.vl : Int)) || decide (14 < (h.ll : Int)) || E.any bigEnt

set_option maxHeartbeats 4000000 in
set_option maxRecDepth 1000000 in
theorem rgreatH_any (w : World) (h : HistV) (E : List EntV) (he : IsEnts0 w h.la h.ll h.lc E) :
    Calls Tryz.prog 9 #[h.v] w fun e w' => e = .returned (.bool (bigHist h E)) ∧ Mine.Mod none_ w w' := by
  obtain ⟨R, hR⟩ : ∃ R, R = bigHist h E := ⟨_, rfl⟩
  rw [← hR]
  have hle := he.le
  have hcap := he.big
  unfold maxLen at hcap
  obtain ⟨xba, xbl, xbc, xva, xvl, xvc, xfr, xnum, xla, xll, xlc⟩ := h
  dsimp only at hle hcap he
  have HR := Lib.hid (show R = (decide (60 < (xbl : Int)) || decide (30 < (xvl : Int)) || decide (14 < (xll : Int)) || E.any bigEnt) from hR)
  have H := Lib.hid he
  have HN := Lib.hid he.n
  clear he hR
  obtain ⟨W0, hW0⟩ : ∃ W0, w.alloc (.cells #[.slice xba xbl xbc, .slice xva xvl xvc, .int .i64 xfr, .int .i64 xnum, .slice xla xll xlc] 26) = W0 := ⟨_, rfl⟩
  obtain ⟨K, hK⟩ : ∃ K, w.heap.size = K := ⟨_, rfl⟩
  have m0 : Mine.Mod none_ w W0 := by rw [← hW0]; exact (Mine.Mod.refl none_ w).alloc _
  have k0 : Blk W0 K [.slice xba xbl xbc, .slice xva xvl xvc, .int .i64 xfr, .int .i64 xnum, .slice xla xll xlc] 26 := by rw [← hW0, ← hK]; exact Blk.new (w := w) (cs := [.slice xba xbl xbc, .slice xva xvl xvc, .int .i64 xfr, .int .i64 xnum, .slice xla xll xlc])
  obtain ⟨cs0, hcs0⟩ : ∃ cs0 : List Value, cs0 = [.slice xba xbl xbc, .slice xva xvl xvc, .int .i64 xfr, .int .i64 xnum, .slice xla xll xlc] := ⟨_, rfl⟩
  rw [← hcs0] at k0
  have HC0 := Lib.hid (show ∀ W, Blk W K cs0 26 → W.cell? ⟨K, 0, none⟩ = some (.slice xba xbl xbc) from fun W k => by rw [k.cell, hcs0]; rfl)
  have HC1 := Lib.hid (show ∀ W, Blk W K cs0 26 → W.cell? ⟨K, 1, none⟩ = some (.slice xva xvl xvc) from fun W k => by rw [k.cell, hcs0]; rfl)
  have HC4 := Lib.hid (show ∀ W, Blk W K cs0 26 → W.cell? ⟨K, 4, none⟩ = some (.slice xla xll xlc) from fun W k => by rw [k.cell, hcs0]; rfl)
  have M0 := Lib.hid m0
  have K0 := Lib.hid k0
  have hKw : w.heap.size ≤ K := by omega
  have c0 := HC0.out W0 k0
  have c1 := HC1.out W0 k0
  have c4 := HC4.out W0 k0
  clear m0 k0 hcs0
  go_enter Tryz.func9, Tryz.ntmps9
  go_upto_region 1 with fail
  clear hW0 hK
  cases q1 : decide (60 < (xbl : Int))
  case true =>
    have HE := Lib.hid (show R = true by rw [HR.out, q1]; simp)
    go_wp2_with fail
    go_ret
    exact ⟨by rw [HE.out]; rfl, M0.out⟩
  cases q2 : decide (30 < (xvl : Int))
  case true =>
    have HE := Lib.hid (show R = true by rw [HR.out, q1, q2]; simp)
    go_wp2_with fail
    go_ret
    exact ⟨by rw [HE.out]; rfl, M0.out⟩
  cases q3 : decide (14 < (xll : Int))
  case true =>
    have HE := Lib.hid (show R = true by rw [HR.out, q1, q2, q3]; simp)
    go_wp2_with fail
    go_ret
    exact ⟨by rw [HE.out]; rfl, M0.out⟩
  have HR2 := Lib.hid (show R = E.any bigEnt by rw [HR.out, q1, q2, q3]; rfl)
  go_wp2_with fail
  clear c0 c1 c4 q1 q2 q3
  go_loopg [3] xll (fun g s3 wx => ∃ k : Nat, g = xll - k ∧ s3 = .int .i64 k ∧ k ≤ xll ∧ Mine.Mod none_ w wx ∧ RowKit.Hid (Blk wx K cs0 26 ∧ (E.take k).any bigEnt = false))
  case atStart => exact ⟨0, rfl, rfl, Nat.zero_le _, M0.out, Lib.hid ⟨K0.out, rfl⟩⟩
  case round =>
    obtain ⟨k, rfl, rfl, hk, mx, hst⟩ := hrel
    obtain ⟨kx, hall⟩ := hst.out
    have MX := Lib.hid mx
    have KX := Lib.hid kx
    have d4 := HC4.out wr kx
    by_cases hlk : k < xll
    · obtain ⟨x, hx⟩ : ∃ x, E[k]? = some x := ⟨E[k]'(by rw [HN.out]; exact hlk), by simp⟩
      have HY := Lib.hid (fun (hb : bigEnt x = true) => show R = true by rw [HR2.out]; exact List.any_eq_true.2 ⟨x, List.mem_of_getElem? hx, hb⟩)
      have HG := Lib.hid (fun (hb : bigEnt x = false) => show (E.take (k + 1)).any bigEnt = false by rw [ents_snoc hx, List.any_append, hall]; simp [hb])
      have HSZ := ((H.out.grown mx).ok x (List.mem_of_getElem? hx)).2.sz
      unfold maxLen at HSZ
      have HM := Lib.hid (great_op x.o wr x.sp ((H.out.grown mx).ok x (List.mem_of_getElem? hx)).1)
      obtain ⟨b, off, rfl, hr⟩ := (H.out.grown mx).ents k x hx
      have c0 := hr 0 _ rfl
      have c1 := hr 1 _ rfl
      have c2 := hr 2 _ rfl
      have c3 := hr 3 _ rfl
      have c4 := hr 4 _ rfl
      have c5 := hr 5 _ rfl
      have c6 := hr 6 _ rfl
      have c7 := hr 7 _ rfl
      have c8 := hr 8 _ rfl
      have c9 := hr 9 _ rfl
      have c10 := hr 10 _ rfl
      have c11 := hr 11 _ rfl
      have c12 := hr 12 _ rfl
      have c13 := hr 13 _ rfl
      rw [Nat.add_zero] at c0
      have HRG := Lib.hid hr
      clear hx hall hst kx mx hr
      cases hb : bigOp x.o
      case true =>
        have HE := Lib.hid (HY.out (by unfold bigEnt; rw [hb]; rfl))
        rw [hb] at HM
        go_wp2_with fail
        refine HM.out.mono ?_
        rintro e w1 ⟨rfl, m1⟩
        have M1 := Lib.hid (MX.out.trans m1)
        clear m1
        go_wp2_with fail
        go_ret
        exact ⟨by rw [HE.out]; rfl, M1.out⟩
      rw [hb] at HM
      go_wp2_with fail
      refine HM.out.mono ?_
      rintro e w1 ⟨rfl, m1⟩
      have M1 := Lib.hid (MX.out.trans m1)
      have K1 := Lib.hid (KX.out.mod m1 (fun e => e))
      have e13 := m1.cell (fun e => e) c13
      have e4 := HC4.out w1 K1.out
      clear m1 d4 c0 c1 c2 c3 c4 c5 c6 c7 c8 c9 c10 c11 c12 c13
      cases hs : decide (1000 < (x.ed.text.size : Int))
      case true =>
        have HE := Lib.hid (HY.out (by unfold bigEnt; rw [hs, Bool.or_true]))
        go_wp2_with fail
        go_ret
        exact ⟨by rw [HE.out]; rfl, M1.out⟩
      have HG2 := Lib.hid (HG.out (by unfold bigEnt; rw [hb, hs]; rfl))
      go_wp2_with fail
      go_roundg (xll - (k + 1))
      all_goals first
        | omega
        | exact ⟨k + 1, rfl, by go_num, by omega, M1.out, Lib.hid ⟨K1.out, HG2.out⟩⟩
    · have hkl : xll = k := by omega
      subst hkl
      rw [List.take_of_length_le (by rw [HN.out]; omega)] at hall
      have HE := Lib.hid (show R = false by rw [HR2.out, hall])
      clear kx hall hst mx
      go_wp2_with fail
      go_ret
      exact ⟨by rw [HE.out]; rfl, MX.out⟩

end Go.Proofs.YtlidmajcdjlcnaaGreatDoor

namespace Go.Proofs.YtlidmajcdjlcnaaGreatDoor
open Go.ChangeShapes Go.WideShapes Go.ChangeAt Go.RowKit Go.Mine Go.Deep

set_option maxRecDepth 100000
/-- A history that came in. -/
structure HistIs0 (w : World) (h : HistV) (B : List CellV) (V : List Int) (E : List EntV) : Prop where
  b : IsCells w h.ba h.bl h.bc B
  v : IsVec w h.va h.vl h.vc V
  e : IsEnts0 w h.la h.ll h.lc E
  i1 : -9223372036854775808 ≤ h.from_ ∧ h.from_ ≤ 9223372036854775807
  i2 : -9223372036854775808 ≤ h.num ∧ h.num ≤ 9223372036854775807
theorem HistIs0.grown {w w' : World} {h : HistV} {B : List CellV} {V : List Int} {E : List EntV} (k : HistIs0 w h B V E) (m : Mine.Mod none_ w w') : HistIs0 w' h B V E := ⟨k.b.grown m, k.v.grown m, k.e.grown m, k.i1, k.i2⟩
theorem HistIs0.small {w : World} {h : HistV} {B : List CellV} {V : List Int} {E : List EntV} (k : HistIs0 w h B V E) (hb : bigHist h E = false) : HistIs w h B V E ∧ h.bl ≤ 60 ∧ h.vl ≤ 30 ∧ h.ll ≤ 14 ∧ ∀ y ∈ E, y.o.slen ≤ 40 := by
  unfold bigHist at hb
  simp only [Bool.or_eq_false_iff, decide_eq_false_iff_not] at hb
  obtain ⟨⟨⟨h1, h2⟩, h3⟩, h4⟩ := hb
  refine ⟨⟨k.b, k.v, k.e.small h4, k.i1, k.i2⟩, by omega, by omega, by omega, fun y hy => ?_⟩
  rw [List.any_eq_false] at h4
  have hx0 : bigEnt y = false := by simpa using h4 y hy
  unfold bigEnt bigOp at hx0
  simp only [Bool.or_eq_false_iff, decide_eq_false_iff_not] at hx0
  omega
section
variable {H : Type} {enc : TypeId × Value → H} {w : World} {base : Nat} {sp : Nat → Bool} {held : Bool}

theorem szEdit : Tryz.prog.cellsOf 33 = 7 := by kernel_rfl
theorem szEnt : Tryz.prog.cellsOf 35 = 14 := by kernel_rfl
theorem szCells : Tryz.prog.cellsOf 22 = 1 := by kernel_rfl
theorem szInts : Tryz.prog.cellsOf 23 = 1 := by kernel_rfl
theorem szEnts : Tryz.prog.cellsOf 24 = 1 := by kernel_rfl
theorem szRHist : Tryz.prog.cellsOf 26 = 5 := by kernel_rfl
theorem edit_of {n : Nat} {cells : List Value} {y : DataW H × List MemPlace} (htab : tabsOk w) (h : DataW.trod enc Tryz.prog w base sp held n 33 cells = some y) :
    ∃ e : EditV, cells = e.cs ∧ e.ok0 w := by
  obtain ⟨ys, m, _, _, hl, hyl, hf⟩ := DataW.trod_struct Tryz.underlying33 h
  rw [szEdit] at hl
  obtain ⟨c0, c1, c2, c3, c4, c5, c6, rfl⟩ : ∃ c0 c1 c2 c3 c4 c5 c6, cells = [c0, c1, c2, c3, c4, c5, c6] := by
    match cells, hl with
    | [c0, c1, c2, c3, c4, c5, c6], _ => exact ⟨c0, c1, c2, c3, c4, c5, c6, rfl⟩
  obtain ⟨y0, y1, y2, y3, y4, y5, rfl⟩ : ∃ y0 y1 y2 y3 y4 y5, ys = [y0, y1, y2, y3, y4, y5] := by
    match ys, (show ys.length = 6 from hyl) with
    | [y0, y1, y2, y3, y4, y5], _ => exact ⟨y0, y1, y2, y3, y4, y5, rfl⟩
  have h0 := hf 0 _ rfl
  have h1 := hf 1 _ rfl
  have h2 := hf 2 _ rfl
  have h3 := hf 3 _ rfl
  have h4 := hf 4 _ rfl
  have h5 := hf 5 _ rfl
  simp only [List.getElem_toArray, List.getElem_cons_zero, List.getElem_cons_succ, szName, szInt, szString, List.drop_zero, List.drop_succ_cons, List.take_succ_cons, List.take_zero, List.getElem?_cons_zero, List.getElem?_cons_succ] at h0 h1 h2 h3 h4 h5
  obtain ⟨s, q, rfl, rfl, _, _⟩ := name_of h0
  obtain ⟨cx, e1, _, _⟩ := DataW.trod_int Tryz.underlying3 h1
  obtain ⟨kd, e2, _, _⟩ := DataW.trod_int Tryz.underlying3 h2
  obtain ⟨at_, e3, _, _⟩ := DataW.trod_int Tryz.underlying3 h3
  obtain ⟨ln, e4, _, _⟩ := DataW.trod_int Tryz.underlying3 h4
  obtain ⟨tx, e5, _, w5⟩ := DataW.trod_string Tryz.underlying9 h5
  simp only [List.cons.injEq, and_true] at e1 e2 e3 e4 e5
  subst e1 e2 e3 e4 e5
  exact ⟨⟨s, q, cx, kd, at_, ln, tx⟩, rfl, w5, fun hsz => ⟨.inl htab, hsz⟩⟩
theorem entry_of {n : Nat} {cells : List Value} {y : DataW H × List MemPlace} (htab : tabsOk w) (h : DataW.trod enc Tryz.prog w base sp held n 35 cells = some y) :
    ∃ x : EntV, cells = x.cs ∧ x.o.ok0 w x.sp ∧ x.ed.ok0 w := by
  obtain ⟨ys, m, _, _, hl, hyl, hf⟩ := DataW.trod_struct Tryz.underlying35 h
  rw [szEnt] at hl
  obtain ⟨y0, y1, rfl⟩ : ∃ y0 y1, ys = [y0, y1] := by
    match ys, (show ys.length = 2 from hyl) with
    | [y0, y1], _ => exact ⟨y0, y1, rfl⟩
  have h0 := hf 0 _ rfl
  have h1 := hf 1 _ rfl
  simp only [List.getElem_toArray, List.getElem_cons_zero, List.getElem_cons_succ, szOp, szEdit, List.drop_zero, List.getElem?_cons_zero, List.getElem?_cons_succ] at h0 h1
  rw [List.take_of_length_le (by rw [List.length_drop]; omega)] at h1
  obtain ⟨o, l, e0, ho⟩ := op_of htab h0
  obtain ⟨ed, e1, he⟩ := edit_of htab h1
  refine ⟨⟨o, l, ed⟩, ?_, ho, he⟩
  rw [← List.take_append_drop 7 cells, e0, e1]
  rfl
theorem read_ents {fuel : Nat} {a : Option Addr} {len cap : Nat} {x : DataW H × List MemPlace} (htab : tabsOk w) (h : DataW.trod enc Tryz.prog w base sp held fuel 24 [.slice a len cap] = some x) : ∃ l, IsEnts0 w a len cap l := by
  obtain ⟨a', len', cap', hcs, hl, hm, hf⟩ := slice_elems Tryz.underlying24 szEnt (by decide) h
  simp only [List.cons.injEq, Value.slice.injEq, and_true] at hcs
  obtain ⟨rfl, rfl, rfl⟩ := hcs
  have key : ∀ i, i < len → ∃ c : EntV, (c.o.ok0 w c.sp ∧ c.ed.ok0 w) ∧ ∃ b off, a = some ⟨b, off, none⟩ ∧ w.rangeAt b (off + i * 14) c.cs := by
    intro i hi
    obtain ⟨b, off, cells, y, n, e, _, hr, ht⟩ := hf i hi
    obtain ⟨c, rfl, hc⟩ := entry_of htab ht
    exact ⟨c, hc, b, off, e, hr⟩
  obtain ⟨f, hfk⟩ := Classical.axiomOfChoice (fun i : Fin len => key i.1 i.2)
  refine ⟨List.ofFn f, by simp, hl, hm, ?_, ?_⟩
  · intro y hy
    obtain ⟨i, rfl⟩ := List.mem_ofFn.1 hy
    exact (hfk i).1
  · intro i y hy
    have hi : i < len := by have := (List.getElem?_eq_some_iff.1 hy).1; simpa using this
    have : y = f ⟨i, hi⟩ := by
      rw [List.getElem?_eq_getElem (by simpa using hi)] at hy
      simp at hy; exact hy.symm
    subst this
    exact (hfk ⟨i, hi⟩).2
theorem read_ints {fuel : Nat} {a : Option Addr} {len cap : Nat} {x : DataW H × List MemPlace} (h : DataW.trod enc Tryz.prog w base sp held fuel 23 [.slice a len cap] = some x) : ∃ l, IsVec w a len cap l := by
  obtain ⟨a', len', cap', hcs, hl, hm, hf⟩ := slice_elems Tryz.underlying23 szInt (by decide) h
  simp only [List.cons.injEq, Value.slice.injEq, and_true] at hcs
  obtain ⟨rfl, rfl, rfl⟩ := hcs
  have key : ∀ i, i < len → ∃ c : Int, (-9223372036854775808 ≤ c ∧ c ≤ 9223372036854775807) ∧ ∃ b off, a = some ⟨b, off, none⟩ ∧ w.cell? ⟨b, off + i, none⟩ = some (.int .i64 c) := by
    intro i hi
    obtain ⟨b, off, cells, y, n, e, hlen, hr, ht⟩ := hf i hi
    obtain ⟨c, e1, _, w1⟩ := DataW.trod_int Tryz.underlying3 ht
    subst e1
    have := hr 0 _ rfl
    rw [Nat.mul_one, Nat.add_zero] at this
    exact ⟨c, bounds_i64 w1, b, off, e, this⟩
  obtain ⟨f, hfk⟩ := Classical.axiomOfChoice (fun i : Fin len => key i.1 i.2)
  refine ⟨List.ofFn f, by simp, hl, hm, ?_, ?_⟩
  · intro y hy
    obtain ⟨i, rfl⟩ := List.mem_ofFn.1 hy
    exact (hfk i).1
  · intro i y hy
    have hi : i < len := by have := (List.getElem?_eq_some_iff.1 hy).1; simpa using this
    have : y = f ⟨i, hi⟩ := by
      rw [List.getElem?_eq_getElem (by simpa using hi)] at hy
      simp at hy; exact hy.symm
    subst this
    exact (hfk ⟨i, hi⟩).2
theorem read_hist {n : Nat} {cells : List Value} {y : DataW H × List MemPlace} (htab : tabsOk w) (h : DataW.trod enc Tryz.prog w base sp held n 26 cells = some y) :
    ∃ (h : HistV) (B : List CellV) (V : List Int) (E : List EntV), cells = h.cs ∧ HistIs0 w h B V E := by
  obtain ⟨ys, m, _, _, hl, hyl, hf⟩ := DataW.trod_struct Tryz.underlying26 h
  rw [szRHist] at hl
  obtain ⟨c0, c1, c2, c3, c4, rfl⟩ : ∃ c0 c1 c2 c3 c4, cells = [c0, c1, c2, c3, c4] := by
    match cells, hl with
    | [c0, c1, c2, c3, c4], _ => exact ⟨c0, c1, c2, c3, c4, rfl⟩
  obtain ⟨y0, y1, y2, y3, y4, rfl⟩ : ∃ y0 y1 y2 y3 y4, ys = [y0, y1, y2, y3, y4] := by
    match ys, (show ys.length = 5 from hyl) with
    | [y0, y1, y2, y3, y4], _ => exact ⟨y0, y1, y2, y3, y4, rfl⟩
  have h0 := hf 0 _ rfl
  have h1 := hf 1 _ rfl
  have h2 := hf 2 _ rfl
  have h3 := hf 3 _ rfl
  have h4 := hf 4 _ rfl
  simp only [List.getElem_toArray, List.getElem_cons_zero, List.getElem_cons_succ, szCells, szInts, szInt, szEnts, List.drop_zero, List.drop_succ_cons, List.take_succ_cons, List.take_zero, List.getElem?_cons_zero, List.getElem?_cons_succ] at h0 h1 h2 h3 h4
  obtain ⟨ba, bl, bc, e0, _⟩ := slice_elems Tryz.underlying22 szCell (by decide) h0
  obtain ⟨va, vl, vc, e1, _⟩ := slice_elems Tryz.underlying23 szInt (by decide) h1
  obtain ⟨fr, e2, _, w2⟩ := DataW.trod_int Tryz.underlying3 h2
  obtain ⟨nu, e3, _, w3⟩ := DataW.trod_int Tryz.underlying3 h3
  obtain ⟨la, ll, lc, e4, _⟩ := slice_elems Tryz.underlying24 szEnt (by decide) h4
  simp only [List.cons.injEq, and_true] at e0 e1 e2 e3 e4
  subst e0 e1 e2 e3 e4
  obtain ⟨B, hB⟩ := read_cells h0
  obtain ⟨V, hV⟩ := read_ints h1
  obtain ⟨E, hE⟩ := read_ents htab h4
  exact ⟨⟨ba, bl, bc, va, vl, vc, fr, nu, la, ll, lc⟩, B, V, E, rfl, hB, hV, hE, bounds_i64 w2, bounds_i64 w3⟩
end
theorem okWide_agg {P : Program} {w : World} {r : Reach} {b0 : Nat} {t : TypeId} {v : Value} {fs : Array Field} (ht : P.underlying t = some (.struct fs)) (h : Value.okWide P w r b0 t v) : ∃ cs : Array Value, v = .agg cs := by
  simp only [Value.okWide, ht] at h
  obtain ⟨cs, rfl, _⟩ := h
  exact ⟨cs, rfl⟩

end Go.Proofs.YtlidmajcdjlcnaaGreatDoor

namespace Go.Mine
open Go.RowKit

/-- The loop's own two blocks. -/
def two (B : Nat) : Nat → Prop := fun k => k = B ∨ k = B + 1
/-- They stay. -/
def KeepTwo (B : Nat) (W W' : World) : Prop := ∀ k, two B k → W'.heap[k]? = W.heap[k]?
theorem KeepTwo.trans {B : Nat} {a b c : World} (h : KeepTwo B a b) (k : KeepTwo B b c) : KeepTwo B a c := fun i hi => (k i hi).trans (h i hi)
theorem KeepTwo.of {S : Nat → Prop} {B : Nat} {W W' : World} (m : Mod S W W') (h1 : B + 1 < W.heap.size) (hs : ∀ k, two B k → ¬ S k) : KeepTwo B W W' := fun k hk => m.block k (by rcases hk with e | e <;> omega) (hs k hk)
/-- How a round may be left. -/
def twoPost {σ : Type} (B : Nat) (I : σ → World → Prop) (Ix : Code → σ → World → Prop) (s : σ) (W : World) : Exit → Act → World → Prop
  | .normal, _, W' => KeepTwo B W W' ∧ I s W'
  | .ret, _, W' => KeepTwo B W W' ∧ Ix .ret s W'
  | .exit id, _, W' => KeepTwo B W W' ∧ Ix (.exit id) s W'
  | .goto t, _, W' => KeepTwo B W W' ∧ Ix (.goto t) s W'
  | .panic _, _, _ => False
  | .outgrown, _, _ => False

variable {F : Fence} {n : Nat} {P : Program}

theorem two_put {B : Nat} {W : World} (o' : Obj) : Mod (two B) W (W.putObj (B + 1) o') :=
  ⟨rfl, rfl, rfl, by simp, fun k _ hs => World.putObj_heap_other (fun e => hs (Or.inr e))⟩

theorem rangeFunc_two {σ α : Type} {g : Operand} {ps : Array Tmp} {assign body : Code} {Q : Exit → Act → World → Prop} {a : Act} {w : World}
    (hro : F.round = none) (h1 : 1 ≤ n) {gf : Nat} {lb : Array Value} (hg : a.eval g = .func (.func gf) #[] lb) (hFg : F.fn gf) (eg : ∀ args w, (callFunc gf args).run P w = .ok (.enter gf args) w)
    (encs : α → Array Value) (hps : ∀ x, (encs x).size = ps.size) (I : σ → World → Prop) (Ix : Code → σ → World → Prop) (step : σ → α → σ) (G : σ → α → Prop) (S : σ → Prop) (s0 : σ)
    (hI : ∀ s W W', I s W → Mod (two w.heap.size) W W' → I s W') (hIx : ∀ c s W W', Ix c s W → Mod (two w.heap.size) W W' → Ix c s W') (h0 : I s0 w) (a₁ : α → Act)
    (hiter : ∀ (l : Nat) (J : σ → World → Prop) (Jx : Code → σ → World → Prop) (W : World), (∀ s W, J s W → I s W) → (∀ s s' W W', J s W → I s' W' → KeepTwo w.heap.size W W' → J s' W') →
      (∀ s x W1, J s W1 → G s x → YieldAt F (n - 1 - 1) P l (encs x) W1 fun e W' => (e = .returned (.bool true) ∧ J (step s x) W') ∨ (e = .returned (.bool false) ∧ ∃ c, Jx c (step s x) W')) → J s0 W → w.heap.size + 2 ≤ W.heap.size →
      CallsIn F (n - 1) P gf (#[.func (.yield l) #[] #[]] ++ lb) W fun e W' => (∃ v, e = .returned v) ∧ ((∃ s, S s ∧ J s W') ∨ (∃ c s, Jx c s W')))
    (hassign : ∀ (l : Nat) (x : α) (W : World) (K : Act → World → Prop), K (a₁ x) W →
      assign.wpIn (F.inRound l) (n - 1 - 1) P (Exit.then K (fun _ _ _ => False)) { tmps := (ps.zip (encs x)).foldl (fun t (p, v) => t.setIfInBounds p v) a.tmps, defers := [] } W)
    (hbody : ∀ (l : Nat) (s : σ) (x : α) (W : World), I s W → G s x → body.wpIn (F.inRound l) (n - 1 - 1) P (twoPost w.heap.size I Ix (step s x) W) (a₁ x) W)
    (hdone : ∀ (D : Nat) (s : σ) (W : World), S s → I s W → W.heap[D]? = some (.deferred (some [])) → D = w.heap.size → Q .normal { a with defers := { target := .collected D, args := #[] } :: a.defers } W)
    (hstop : ∀ (D : Nat) (c : Code) (s : σ) (W : World), Ix c s W → W.heap[D]? = some (.deferred (some [])) → D = w.heap.size → c.wpIn F n P Q { a with defers := { target := .collected D, args := #[] } :: a.defers } W) :
    (Code.rangeFunc g ps assign body).wpIn F n P Q a w := by
  refine wpIn_rangeFunc ?_
  intro fn hfn
  rw [hro]
  obtain ⟨rec, hrec⟩ : ∃ rec : LoopState → Option Code → Loop, rec = fun st pe => { state := st, pending := pe, fn, tmps := a.tmps, params := ps, assign, body, defers := w.heap.size } := ⟨_, rfl⟩
  obtain ⟨W1, hW1⟩ : ∃ W1, (w.alloc (.deferred (some []))).alloc (.loop (rec .ready none)) = W1 := ⟨_, rfl⟩
  have hL : W1.heap[w.heap.size + 1]? = some (.loop (rec .ready none)) := by
    rw [← hW1]; have := World.alloc_heap_new (w.alloc (.deferred (some []))) (.loop (rec .ready none)); rwa [World.size_alloc] at this
  have hK : W1.heap[w.heap.size]? = some (.deferred (some [])) := by
    rw [← hW1]; exact (Below.heap_alloc _ _ _ (by simp)).trans (World.alloc_heap_new w _)
  have hI1 : I s0 W1 := by rw [← hW1]; exact hI _ _ _ h0 (((Mod.refl _ w).alloc _).alloc _)
  refine ⟨w.heap.size + 1, [{ target := .collected w.heap.size, args := #[] }], W1, { target := .fn (.func gf) lb, args := #[.func (.yield (w.heap.size + 1)) #[] #[]] }, W1, gf,
    #[.func (.yield (w.heap.size + 1)) #[] #[]] ++ lb, W1, ?_, ?_, ?_, ?_, fun _ => h1, ?_⟩
  · rw [← hW1, hrec]; exact run_enterLoop_outer _ _ _ _ _
  · simp only [resolve, hg]
    simp [go_sem]
  · intro f' hf'; simp [Target.leads] at hf'; subst hf'; exact hFg
  · simp [invoke, go_sem, eg]
  refine (hiter (w.heap.size + 1)
    (fun s W => I s W ∧ W.heap[w.heap.size + 1]? = some (.loop (rec .ready none)) ∧ W.heap[w.heap.size]? = some (.deferred (some [])))
    (fun c s W => Ix c s W ∧ W.heap[w.heap.size + 1]? = some (.loop (rec .done (some c))) ∧ W.heap[w.heap.size]? = some (.deferred (some [])))
    W1 (fun s W h => h.1) (fun s s' W W' h hi hk => ⟨hi, (hk _ (Or.inr rfl)).trans h.2.1, (hk _ (Or.inl rfl)).trans h.2.2⟩) ?_ ⟨hI1, hL, hK⟩ (by rw [← hW1]; simp)).mono ?_
  · rintro s x W ⟨hi, hl, hk⟩ hG
    have hlt : w.heap.size + 1 < W.heap.size := (Array.getElem?_eq_some_iff.1 hl).1
    have hy := run_yield (P := P) (args := encs x) hl (by rw [hrec]; exact hps x)
    rw [hrec] at hy
    refine ⟨fn, _, assign, body, hy, roundIn_of_wpIn hfn (hassign _ x W _ ⟨_, run_beginRound hl (by rw [hrec]), ?_⟩)⟩
    have hl2 : (W.putObj (w.heap.size + 1) (.loop { rec .ready none with state := .busy })).heap[w.heap.size + 1]? = some (.loop { rec .ready none with state := .busy }) := World.putObj_heap_same hlt
    have hk2 : (W.putObj (w.heap.size + 1) (.loop { rec .ready none with state := .busy })).heap[w.heap.size]? = some (.deferred (some [])) := (World.putObj_heap_other (by omega)).trans hk
    refine wpIn_mono (hbody _ s x _ (hI _ _ _ hi (two_put _)) hG) ?_
    have fin : ∀ (jump : Option Code) (W3 : World), KeepTwo w.heap.size (W.putObj (w.heap.size + 1) (.loop { rec .ready none with state := .busy })) W3 →
        (Instr.endRound (w.heap.size + 1) jump).run P W3 = .ok (.bool jump.isNone) (W3.putObj (w.heap.size + 1) (.loop (rec (if jump.isNone then .ready else .done) jump))) ∧
        W3.heap[w.heap.size + 1]? = some (.loop { rec .ready none with state := .busy }) ∧
        (W3.putObj (w.heap.size + 1) (.loop (rec (if jump.isNone then .ready else .done) jump))).heap[w.heap.size + 1]? = some (.loop (rec (if jump.isNone then .ready else .done) jump)) ∧
        (W3.putObj (w.heap.size + 1) (.loop (rec (if jump.isNone then .ready else .done) jump))).heap[w.heap.size]? = some (.deferred (some [])) := fun jump W3 hk3 => by
      have hl3 := (hk3 _ (Or.inr rfl)).trans hl2
      have := run_endRound (P := P) jump hl3
      rw [hrec] at this ⊢
      exact ⟨this, by rw [hrec] at hl3; exact hl3, World.putObj_heap_same (Array.getElem?_eq_some_iff.1 hl3).1, (World.putObj_heap_other (by omega)).trans ((hk3 _ (Or.inl rfl)).trans hk2)⟩
    rintro e a3 W3 hp
    cases e with
    | normal =>
      obtain ⟨hk3, hi3⟩ := hp
      obtain ⟨hr, hl3, hl4, hk4⟩ := fin none W3 hk3
      exact ⟨_, _, hr, .inl ⟨rfl, hI _ _ _ hi3 (two_put _), hl4, hk4⟩⟩
    | ret =>
      obtain ⟨hk3, hi3⟩ := hp
      obtain ⟨hr, hl3, hl4, hk4⟩ := fin (some .ret) W3 hk3
      exact ⟨_, _, hr, .inr ⟨rfl, .ret, hIx _ _ _ _ hi3 (two_put _), hl4, hk4⟩⟩
    | exit id =>
      obtain ⟨hk3, hi3⟩ := hp
      obtain ⟨hr, hl3, hl4, hk4⟩ := fin (some (.exit id)) W3 hk3
      exact ⟨_, _, hr, .inr ⟨rfl, .exit id, hIx _ _ _ _ hi3 (two_put _), hl4, hk4⟩⟩
    | goto t =>
      obtain ⟨hk3, hi3⟩ := hp
      obtain ⟨hr, hl3, hl4, hk4⟩ := fin (some (.goto t)) W3 hk3
      exact ⟨_, _, hr, .inr ⟨rfl, .goto t, hIx _ _ _ _ hi3 (two_put _), hl4, hk4⟩⟩
    | panic ch => exact hp.elim
    | outgrown => exact hp.elim
  · rintro e W2 ⟨⟨v, rfl⟩, (⟨s, hS, hi, hl, hk⟩ | ⟨c, s, hi, hl, hk⟩)⟩
    · exact ⟨none, _, by have := run_endLoop (P := P) hl (by rw [hrec]; simp); rw [hrec] at this; exact this, hdone _ s _ hS (hI _ _ _ hi (two_put _)) ((World.putObj_heap_other (by omega)).trans hk) rfl⟩
    · exact ⟨some c, _, by have := run_endLoop (P := P) hl (by rw [hrec]; simp); rw [hrec] at this; exact this, hstop _ c s _ (hIx _ _ _ _ hi (two_put _)) ((World.putObj_heap_other (by omega)).trans hk) rfl⟩

end Go.Mine

namespace Go.Proofs.YtlidmajcdjlcnaaGreatDoor
open Go.RowKit Go.Shelf Go.Mine

set_option maxHeartbeats 2000000 in
set_option maxRecDepth 1000000 in
theorem rvmay_any (w : World) (a : Option Addr) (len cap : Nat) (l : List Int) (h : IsVec w a len cap l) :
    Calls Tryz.prog 42 #[.slice a len cap] w fun e w' => e = .returned (.bool (vecOk l)) ∧ Mine.Mod none_ w w' := by
  have hle := h.le
  have hcap := h.big
  unfold maxLen at hcap
  have H := Lib.hid h
  have HN := Lib.hid h.n
  obtain ⟨R, hR⟩ : ∃ R, R = vecOk l := ⟨_, rfl⟩
  rw [← hR]
  have HR := Lib.hid hR
  clear h hR
  go_enter Tryz.func42, Tryz.ntmps42
  by_cases h16 : 16 < (len : Int)
  · have d16 : decide (16 < (len : Int)) = true := by simpa using h16
    have HE := Lib.hid (show R = false by
      rw [HR.out]; unfold vecOk
      have : decide (l.length ≤ 16) = false := by rw [HN.out]; simp; omega
      rw [this, Bool.and_false, Bool.false_and])
    go_wp2_with fail
    go_ret
    exact ⟨by rw [HE.out]; rfl, Mine.Mod.refl _ _⟩
  have d16 : decide (16 < (len : Int)) = false := by simpa using h16
  go_wp2_with fail
  go_loopg [3] len (fun g s3 wx => ∃ k : Nat, g = len - k ∧ s3 = .int .i64 k ∧ k ≤ len ∧ wx = w ∧ RowKit.Hid (((l.take k).all fun x => inB x 0 1099511627776) = true))
  case atStart => exact ⟨0, rfl, rfl, Nat.zero_le _, rfl, Lib.hid rfl⟩
  case round =>
    obtain ⟨k, rfl, rfl, hk, rfl, hst⟩ := hrel
    by_cases hlk : k < len
    · obtain ⟨x, hx⟩ : ∃ x, l[k]? = some x := ⟨l[k]'(by rw [HN.out]; exact hlk), by simp⟩
      obtain ⟨b, off, rfl, c0⟩ := H.out.cells k x hx
      have HX := Lib.hid hx
      have HBAD := Lib.hid (show inB x 0 1099511627776 = false → R = false from fun hb => by
        rw [HR.out]; unfold vecOk
        have : (l.all fun x => inB x 0 1099511627776) = false := by
          rw [List.all_eq_false]
          exact ⟨x, List.mem_of_getElem? HX.out, by rw [hb]; simp⟩
        rw [this]; rfl)
      clear hx
      by_cases h1 : x < 0
      · have HE := Lib.hid (HBAD.out (by unfold inB; simp; omega))
        have e1 : decide (x < 0) = true := by simpa using h1
        clear hst
        go_wp2_with fail
        go_ret
        exact ⟨by rw [HE.out]; rfl, Mine.Mod.refl _ _⟩
      have e1 : decide (x < 0) = false := by simpa using h1
      by_cases h2 : 1099511627776 < x
      · have HE := Lib.hid (HBAD.out (by unfold inB; simp; omega))
        have e2 : decide (1099511627776 < x) = true := by simpa using h2
        clear hst
        go_wp2_with fail
        go_ret
        exact ⟨by rw [HE.out]; rfl, Mine.Mod.refl _ _⟩
      have e2 : decide (1099511627776 < x) = false := by simpa using h2
      have HST := Lib.hid (show ((l.take (k + 1)).all fun x => inB x 0 1099511627776) = true by
        rw [vec_snoc HX.out, List.all_append, hst.out]
        simp [inB]; omega)
      clear hst
      go_wp2_with fail
      go_roundg (len - (k + 1))
      all_goals first
        | omega
        | exact ⟨k + 1, rfl, by go_num, by omega, rfl, HST⟩
    · obtain rfl : k = len := by omega
      have HALL := Lib.hid (show (l.all fun x => inB x 0 1099511627776) = true by
        have := hst.out
        rw [List.take_of_length_le (by rw [HN.out]; exact Nat.le_refl _)] at this
        exact this)
      clear hst
      cases k with
      | zero =>
        have HE := Lib.hid (show R = true by
          rw [HR.out]; unfold vecOk
          rw [HALL.out]
          have : l = [] := List.eq_nil_of_length_eq_zero HN.out
          rw [this]; rfl)
        go_wp2_with fail
        go_ret
        exact ⟨by rw [HE.out]; rfl, Mine.Mod.refl _ _⟩
      | succ n =>
        obtain ⟨x, hx⟩ : ∃ x, l[n]? = some x := ⟨l[n]'(by rw [HN.out]; omega), by simp⟩
        obtain ⟨b, off, rfl, c0⟩ := H.out.cells n x hx
        have hx0 : 0 ≤ x := by
          have := List.all_eq_true.1 HALL.out x (List.mem_of_getElem? hx)
          unfold inB at this
          simp only [decide_eq_true_eq] at this
          omega
        have HE := Lib.hid (show R = decide (0 < x) by
          rw [HR.out]; unfold vecOk
          rw [HALL.out, lastPos_at HN.out hx, HN.out]
          have : decide (n + 1 ≤ 16) = true := by simp; omega
          rw [this]; rfl)
        have hz : ((n : Int) + 1 == 0) = false := by rw [beq_eq_false_iff_ne]; omega
        have hw1 : IntKind.i64.wrap ((n : Int) + 1 - 1) = (n : Int) := by rw [IntKind.wrap_i64]; omega
        clear hx
        by_cases h0 : x = 0
        · have HE2 := Lib.hid (show R = false by rw [HE.out]; simp; omega)
          clear hx0
          go_wp2_with fail
          go_ret
          exact ⟨by rw [HE2.out]; rfl, Mine.Mod.refl _ _⟩
        · have HE2 := Lib.hid (show R = true by rw [HE.out]; simp; omega)
          have hb0 : (x == 0) = false := by simpa using h0
          have hb1 : (x != 0) = true := by simpa using h0
          go_wp2_with fail
          go_ret
          exact ⟨by rw [HE2.out]; rfl, Mine.Mod.refl _ _⟩

set_option maxHeartbeats 2000000 in
set_option maxRecDepth 1000000 in
theorem rvcount_any (w : World) (a : Option Addr) (len cap : Nat) (l : List Int) (s : Int) (h : IsVec w a len cap l) (_hs : -9223372036854775808 ≤ s ∧ s ≤ 9223372036854775807) :
    Calls Tryz.prog 44 #[.slice a len cap, .int .i64 s] w fun e w' => e = .returned (.int .i64 (cntV l s)) ∧ w' = w := by
  have hle := h.le
  have hcap := h.big
  unfold maxLen at hcap
  have H := Lib.hid h
  have HN := Lib.hid h.n
  clear h
  go_enter Tryz.func44, Tryz.ntmps44
  by_cases h1 : 1 ≤ s
  · have d1 : decide (1 ≤ s) = true := by simpa using h1
    by_cases h2 : s ≤ (len : Int)
    · have d2 : decide (s ≤ (len : Int)) = true := by simpa using h2
      obtain ⟨n, rfl⟩ : ∃ n : Nat, s = (n : Int) + 1 := ⟨(s - 1).toNat, by omega⟩
      have hnl : n < len := by omega
      obtain ⟨x, hx⟩ : ∃ x, l[n]? = some x := ⟨l[n]'(by rw [HN.out]; exact hnl), by simp⟩
      obtain ⟨b, off, rfl, c0⟩ := H.out.cells n x hx
      have HE := Lib.hid (show cntV l ((n : Int) + 1) = x by
        unfold cntV inB
        rw [HN.out, if_pos (by simpa using ⟨by omega, h2⟩), show ((n : Int) + 1 - 1).toNat = n by omega, hx]; rfl)
      have hw1 : IntKind.i64.wrap ((n : Int) + 1 - 1) = (n : Int) := by rw [IntKind.wrap_i64]; omega
      clear hx
      go_wp2_with fail
      go_ret
      exact ⟨by rw [HE.out]; rfl, rfl⟩
    · have d2 : decide (s ≤ (len : Int)) = false := by simpa using h2
      have HE := Lib.hid (show cntV l s = 0 by unfold cntV inB; rw [HN.out, if_neg (by simp; omega)])
      go_wp2_with fail
      go_ret
      exact ⟨by rw [HE.out]; rfl, rfl⟩
  · have d1 : decide (1 ≤ s) = false := by simpa using h1
    have HE := Lib.hid (show cntV l s = 0 by unfold cntV inB; rw [HN.out, if_neg (by simp; omega)])
    go_wp2_with fail
    go_ret
    exact ⟨by rw [HE.out]; rfl, rfl⟩

/-- What Made makes of sixteen counts: those up to the last one that is not nought. -/
def MadeOf (L : List Int) (n : Nat) : Prop := n ≤ 16 ∧ (∀ i, n ≤ i → i < 16 → L[i]? = some 0) ∧ (n = 0 ∨ ∃ x, L[n - 1]? = some x ∧ x ≠ 0)

set_option maxHeartbeats 4000000 in
set_option maxRecDepth 1000000 in
theorem rvmade_any (w : World) (L : List Int) (hL : L.length = 16) :
    Calls Tryz.prog 74 #[.agg (intCs L).toArray] w fun e w' => (∃ va n vc, e = .returned (.slice va n vc) ∧ MadeOf L n ∧ w'.ownsRow w.heap.size 3 1 (.slice va n vc) n (intCs (L.take n))) ∧ Mine.Mod none_ w w' := by
  obtain ⟨W0, hW0⟩ : ∃ W0, w.alloc (.cells (intCs L).toArray 116) = W0 := ⟨_, rfl⟩
  obtain ⟨K, hK⟩ : ∃ K, w.heap.size = K := ⟨_, rfl⟩
  have m0 : Mine.Mod none_ w W0 := by rw [← hW0]; exact (Mine.Mod.refl none_ w).alloc _
  have k0 : Blk W0 K (intCs L) 116 := by rw [← hW0, ← hK]; exact Blk.new (w := w) (cs := intCs L)
  have M0 := Lib.hid m0
  have K0 := Lib.hid k0
  have HL := Lib.hid hL
  have HK := Lib.hid hK
  have hat : ∀ W, Blk W K (intCs L) 116 → ∀ (i : Nat) (x : Int), L[i]? = some x → W.cell? ⟨K, i, none⟩ = some (.int .i64 x) := fun W k i x hx => by rw [k.cell, List.getElem?_map, hx]; rfl
  have HAT := Lib.hid hat
  obtain ⟨i0, hi0, hz0, hz1, hz2⟩ := info_parts infoInt
  have HI0 := Lib.hid hi0
  have HZ0 := Lib.hid hz0
  have HZ1 := Lib.hid hz1
  have HZ2 := Lib.hid hz2
  clear m0 k0 hL hat hi0 hz0 hz1 hz2
  go_enter Tryz.func74, Tryz.ntmps74
  go_upto_region 1 with fail
  clear hW0 hK
  go_wp2_with fail
  go_loopg [3] 16 (fun g s3 wx => ∃ n : Nat, n = g ∧ s3 = .int .i64 n ∧ n ≤ 16 ∧ wx = W0 ∧ RowKit.Hid (∀ i, n ≤ i → i < 16 → L[i]? = some 0))
  case atStart => exact ⟨16, rfl, rfl, Nat.le_refl _, rfl, Lib.hid (fun i h1 h2 => by omega)⟩
  case round =>
    obtain ⟨n, rfl, rfl, hn, rfl, hst⟩ := hrel
    cases n with
    | zero =>
      have HM := Lib.hid (show MadeOf L 0 from ⟨Nat.zero_le _, hst.out, .inl rfl⟩)
      clear hst
      go_wp2_with fail
      go_loopg [4, 5] (0) (fun g s4 s5 wx => ∃ (k : Nat) (va : Option Addr) (vc : Nat), g = 0 - k ∧ s4 = .slice va k vc ∧ s5 = .int .i64 k ∧ k ≤ 0 ∧ Mine.Mod none_ w wx ∧ RowKit.Hid (Blk wx K (intCs L) 116 ∧ wx.ownsRow w.heap.size 3 1 (.slice va k vc) k (intCs (L.take k))))
      case atStart => exact ⟨0, none, 0, rfl, rfl, rfl, Nat.zero_le _, M0.out, Lib.hid ⟨K0.out, ⟨rfl, .inl ⟨rfl, rfl⟩⟩⟩⟩
      case round =>
        obtain ⟨k, va, vc, rfl, rfl, rfl, hk, mx, hst⟩ := hrel
        have MX := Lib.hid mx
        obtain ⟨kx, ox⟩ := hst.out
        have OX := Lib.hid ox
        by_cases hlk : k < 0
        · omega
        · have hkn : k = 0 := by omega
          have HO := Lib.hid ox
          clear hst mx kx ox
          go_wp2_with fail
          go_ret
          exact ⟨⟨va, k, vc, rfl, by rw [hkn]; exact HM.out, HO.out⟩, MX.out⟩
    | succ m =>
      obtain ⟨x, hx⟩ : ∃ x, L[m]? = some x := ⟨L[m]'(by rw [HL.out]; omega), by simp⟩
      have c0 := HAT.out _ K0.out m x hx
      have hw1 : IntKind.i64.wrap ((m : Int) + 1 - 1) = (m : Int) := by rw [IntKind.wrap_i64]; omega
      have hpos : decide (0 < (m : Int) + 1) = true := by rw [decide_eq_true_eq]; omega
      by_cases h0 : x = 0
      · subst h0
        have HST := Lib.hid (show ∀ i, m ≤ i → i < 16 → L[i]? = some 0 from fun i h1 h2 => by
          by_cases him : i = m
          · subst him; exact hx
          · exact hst.out i (by omega) h2)
        clear hst hx
        go_wp2_with fail
        go_roundg m
        all_goals first
          | omega
          | exact ⟨m, rfl, by go_num, by omega, rfl, HST⟩
      · have HM := Lib.hid (show MadeOf L (m + 1) from ⟨hn, hst.out, .inr ⟨x, by rw [Nat.add_sub_cancel]; exact hx, h0⟩⟩)
        have hb0 : (x == 0) = false := by simpa using h0
        clear hx
        clear hst
        go_wp2_with fail
        go_loopg [4, 5] (m + 1) (fun g s4 s5 wx => ∃ (k : Nat) (va : Option Addr) (vc : Nat), g = m + 1 - k ∧ s4 = .slice va k vc ∧ s5 = .int .i64 k ∧ k ≤ m + 1 ∧ Mine.Mod none_ w wx ∧ RowKit.Hid (Blk wx K (intCs L) 116 ∧ wx.ownsRow w.heap.size 3 1 (.slice va k vc) k (intCs (L.take k))))
        case atStart => exact ⟨0, none, 0, rfl, rfl, rfl, Nat.zero_le _, M0.out, Lib.hid ⟨K0.out, ⟨rfl, .inl ⟨rfl, rfl⟩⟩⟩⟩
        case round =>
          obtain ⟨k, va, vc, rfl, rfl, rfl, hk, mx, hst⟩ := hrel
          have MX := Lib.hid mx
          obtain ⟨kx, ox⟩ := hst.out
          have OX := Lib.hid ox
          by_cases hlk : k < m + 1
          · obtain ⟨y, hy⟩ : ∃ y, L[k]? = some y := ⟨L[k]'(by rw [HL.out]; omega), by simp⟩
            have c1 := HAT.out _ kx k y hy
            have mY : Mine.Mod none_ wr (wr.alloc (.cells #[.int .i64 y] 3)) := (Mine.Mod.refl none_ wr).alloc _
            obtain ⟨v', w5, hrun, ho5, hg5, _⟩ := run_append_own (P := Tryz.prog) (wr.alloc (.cells #[.int .i64 y] 3)) w.heap.size 23 23 3 i0 _ 1 8 Tryz.underlying23 HI0.out HZ0.out HZ1.out HZ2.out rfl (by decide) (.slice va k vc) k _ (ownsRow_mod ox mY (fun _ _ e => e)) ⟨wr.heap.size, 0, none⟩ 1 1 [.int .i64 y] rfl (World.news_of_block (heap_alloc_new wr _)) (fun u hu => by rw [List.mem_singleton.1 hu]; rfl) (by unfold maxLen; omega) (by omega) (Nat.le_trans mx.size mY.size)
            obtain ⟨va', vc', rfl⟩ : ∃ va' vc', v' = .slice va' (k + 1) vc' := by
              rcases ownsRow_blk ho5 with ⟨_, h0, _⟩ | ⟨g', c', _, h1, _⟩
              · omega
              · exact ⟨_, _, h1⟩
            have mW : Mine.Mod (fun j => (Value.slice va k vc).ownBlock = some j) wr w5 := (mY.mono (fun _ _ e => e.elim)).trans ((Mine.Mod.refl _ _).grown hg5 (fun j e _ => e))
            have FIN := Lib.hid (show Mine.Mod none_ w w5 ∧ Blk w5 K (intCs L) 116 ∧ w5.ownsRow w.heap.size 3 1 (.slice va' (k + 1) vc') (k + 1) (intCs (L.take (k + 1))) from by
              refine ⟨mx.transIn mW (fun j hb e => by have := (ox.lt j e).1; omega), kx.mod mW (fun e => ?_), ?_⟩
              · obtain ⟨cs2, hb2⟩ := ownsRow_type ox e
                have e2 := Option.some.inj (kx.symm.trans hb2)
                injection e2 with _ h2 _
                exact absurd h2 (by decide)
              · rw [vec_snoc hy]
                unfold intCs at ho5 ⊢
                rw [List.map_append]
                exact ho5)
            have HRUN := Lib.hid hrun
            clear hst mx kx ox hy mY hrun ho5 hg5 mW OX
            go_wp2_with (at_builtin; refine Lib.wpList_append_run _ rfl (.tmp 22) (.tmp 26) 23 23 rfl _ _ rfl rfl _ _ HRUN.out ?_)
            go_roundg (m + 1 - (k + 1))
            all_goals first
              | omega
              | exact ⟨k + 1, va', vc', rfl, rfl, by go_num, by omega, FIN.out.1, Lib.hid FIN.out.2⟩
          · have hkn : k = m + 1 := by omega
            have HO := Lib.hid ox
            clear hst mx kx ox
            go_wp2_with fail
            go_ret
            exact ⟨⟨va, k, vc, rfl, by rw [hkn]; exact HM.out, HO.out⟩, MX.out⟩
end Go.Proofs.YtlidmajcdjlcnaaGreatDoor

namespace Go.Proofs.YtlidmajcdjlcnaaGreatDoor
open Go.RowKit Go.Mine

theorem list16 (L : List Int) (h : L.length = 16) : ∃ x0 x1 x2 x3 x4 x5 x6 x7 x8 x9 x10 x11 x12 x13 x14 x15, L = [x0, x1, x2, x3, x4, x5, x6, x7, x8, x9, x10, x11, x12, x13, x14, x15] := by
  match L, h with
  | [x0, x1, x2, x3, x4, x5, x6, x7, x8, x9, x10, x11, x12, x13, x14, x15], _ => exact ⟨x0, x1, x2, x3, x4, x5, x6, x7, x8, x9, x10, x11, x12, x13, x14, x15, rfl⟩
/-- The first i counts, and noughts. -/
def cntsTo (l : List Int) (i : Nat) : List Int := (List.range 16).map fun (j : Nat) => if j < i then cntV l ((j : Int) + 1) else 0
theorem cntsTo_len (l : List Int) (i : Nat) : (cntsTo l i).length = 16 := by unfold cntsTo; rw [List.length_map, List.length_range]
theorem cntsTo_at (l : List Int) (i j : Nat) (hj : j < 16) : (cntsTo l i)[j]? = some (if j < i then cntV l ((j : Int) + 1) else 0) := by
  unfold cntsTo
  rw [List.getElem?_map, List.getElem?_range hj]; rfl
theorem cntsTo_set (l : List Int) (i : Nat) (hi : i < 16) : (cntsTo l i).set i (cntV l ((i : Int) + 1)) = cntsTo l (i + 1) := by
  apply List.ext_getElem?
  intro j
  rw [List.getElem?_set, cntsTo_len]
  by_cases hj : j < 16
  · rw [cntsTo_at l i j hj, cntsTo_at l (i + 1) j hj]
    by_cases hij : i = j
    · subst hij
      rw [if_pos rfl, if_pos hi, if_pos (Nat.lt_succ_self _)]
    · rw [if_neg hij]
      by_cases h : j < i
      · rw [if_pos h, if_pos (by omega)]
      · rw [if_neg h, if_neg (by omega)]
  · rw [if_neg (by omega), List.getElem?_eq_none (by rw [cntsTo_len]; omega), List.getElem?_eq_none (by rw [cntsTo_len]; omega)]
theorem cntV_off (l : List Int) (j : Nat) (h : l.length ≤ j) : cntV l ((j : Int) + 1) = 0 := by
  unfold cntV inB
  rw [if_neg (by simp; omega)]
theorem cntV_in (l : List Int) (j : Nat) (x : Int) (h : l[j]? = some x) : cntV l ((j : Int) + 1) = x := by
  have hj := (List.getElem?_eq_some_iff.1 h).1
  unfold cntV inB
  rw [if_pos (by simp; omega), show ((j : Int) + 1 - 1).toNat = j by omega, h]; rfl
/-- All counts, that of the site raised. -/
theorem raised_at (l : List Int) (S : Nat) (hS : S < 16) (hl : l.length ≤ 16) (j : Nat) (hj : j < 16) : ((cntsTo l 16).set S (cntV l ((S : Int) + 1) + 1))[j]? = some ((raiseL l ((S : Int) + 1))[j]?.getD 0) := by
  have hs1 : ((S : Int) + 1).toNat = S + 1 := by omega
  unfold raiseL
  rw [hs1, Nat.add_sub_cancel, List.getElem?_set, List.getElem?_set, cntsTo_len, List.length_append, List.length_replicate]
  by_cases hij : S = j
  · subst hij
    rw [if_pos rfl, if_pos rfl, if_pos hS, if_pos (by omega)]; rfl
  · rw [if_neg hij, if_neg hij, cntsTo_at l 16 j hj, if_pos hj]
    by_cases h : j < l.length
    · rw [List.getElem?_append_left h, cntV_in l j l[j] (List.getElem?_eq_getElem h), List.getElem?_eq_getElem h]; rfl
    · rw [cntV_off l j (by omega), List.getElem?_append_right (by omega), List.getElem?_replicate]
      split <;> rfl
theorem raiseL_last {l : List Int} (hv : vecOk l = true) (S : Nat) : ∃ x, (raiseL l ((S : Int) + 1))[max l.length (S + 1) - 1]? = some x ∧ x ≠ 0 := by
  have hs1 : ((S : Int) + 1).toNat = S + 1 := by omega
  have hc := cntV_le hv ((S : Int) + 1)
  unfold raiseL
  rw [hs1, Nat.add_sub_cancel, List.getElem?_set, List.length_append, List.length_replicate]
  by_cases hm : S = max l.length (S + 1) - 1
  · rw [if_pos hm, if_pos (by omega)]
    exact ⟨_, rfl, by omega⟩
  · rw [if_neg hm, List.getElem?_append_left (by omega), show max l.length (S + 1) - 1 = l.length - 1 by omega]
    unfold vecOk at hv
    simp only [Bool.and_eq_true] at hv
    have hlp := hv.2
    unfold lastPos at hlp
    rw [List.getLast?_eq_getElem?] at hlp
    have hlt : l.length - 1 < l.length := by omega
    rw [List.getElem?_eq_getElem hlt] at hlp ⊢
    simp only [decide_eq_true_eq] at hlp
    exact ⟨_, rfl, by omega⟩
/-- What Made makes of them is the raised vector. -/
theorem made_raise {l : List Int} (hv : vecOk l = true) (S : Nat) (hS : S < 16) {n : Nat} (h : MadeOf ((cntsTo l 16).set S (cntV l ((S : Int) + 1) + 1)) n) : ((cntsTo l 16).set S (cntV l ((S : Int) + 1) + 1)).take n = raiseL l ((S : Int) + 1) := by
  have hl16 : l.length ≤ 16 := by
    unfold vecOk at hv
    simp only [Bool.and_eq_true, decide_eq_true_eq] at hv
    exact hv.1.2
  obtain ⟨x, hx, hx0⟩ := raiseL_last hv S
  have hlen := raiseL_len l ((S : Int) + 1)
  rw [show ((S : Int) + 1).toNat = S + 1 by omega] at hlen
  obtain ⟨h1, h2, h3⟩ := h
  have hT : n = max l.length (S + 1) := by
    rcases Nat.lt_trichotomy n (max l.length (S + 1)) with hlt | heq | hgt
    · have e := h2 (max l.length (S + 1) - 1) (by omega) (by omega)
      rw [raised_at l S hS hl16 _ (by omega), hx] at e
      simp only [Option.getD_some, Option.some.injEq] at e
      exact absurd e hx0
    · exact heq
    · rcases h3 with h3 | ⟨y, hy, hy0⟩
      · omega
      · rw [raised_at l S hS hl16 _ (by omega), List.getElem?_eq_none (by omega)] at hy
        simp only [Option.getD_none, Option.some.injEq] at hy
        exact absurd hy.symm hy0
  apply List.ext_getElem?
  intro j
  rw [List.getElem?_take]
  by_cases hj : j < n
  · rw [if_pos hj, raised_at l S hS hl16 j (by omega), List.getElem?_eq_getElem (by omega)]; rfl
  · rw [if_neg hj, List.getElem?_eq_none (by omega)]

set_option maxHeartbeats 8000000 in
set_option maxRecDepth 1000000 in
theorem rvraise_any (w : World) (a : Option Addr) (len cap : Nat) (l : List Int) (s q : Int) (h : IsVec w a len cap l) (hs : -9223372036854775808 ≤ s ∧ s ≤ 9223372036854775807) :
    Calls Tryz.prog 46 #[.slice a len cap, .agg #[.int .i64 s, .int .i64 q]] w (RaiseTo w l s q) := by
  have hle := h.le
  have hcap := h.big
  unfold maxLen at hcap
  obtain ⟨W0, hW0⟩ : ∃ W0, w.alloc (.cells #[.int .i64 s, .int .i64 q] 28) = W0 := ⟨_, rfl⟩
  obtain ⟨K, hK⟩ : ∃ K, w.heap.size = K := ⟨_, rfl⟩
  have m0 : Mine.Mod none_ w W0 := by rw [← hW0]; exact (Mine.Mod.refl none_ w).alloc _
  have k0 : Blk W0 K [.int .i64 s, .int .i64 q] 28 := by rw [← hW0, ← hK]; exact Blk.new (w := w) (cs := [.int .i64 s, .int .i64 q])
  have M0 := Lib.hid m0
  have K0 := Lib.hid k0
  have HN := Lib.hid h.n
  have H := Lib.hid h
  have HV := Lib.hid (show ∀ W, Mine.Mod none_ w W → Calls Tryz.prog 42 #[.slice a len cap] W fun e w' => e = .returned (.bool (vecOk l)) ∧ Mine.Mod none_ W w' from fun W m => rvmay_any W a len cap l (h.grown m))
  have HC0 := Lib.hid (show ∀ W, Mine.Mod none_ w W → ∀ s, -9223372036854775808 ≤ s ∧ s ≤ 9223372036854775807 → Calls Tryz.prog 44 #[.slice a len cap, .int .i64 s] W fun e w' => e = .returned (.int .i64 (cntV l s)) ∧ w' = W from fun W m s hs => rvcount_any W a len cap l s (h.grown m) hs)
  have HSB := Lib.hid hs
  have c0 : W0.cell? ⟨K, 0, none⟩ = some (.int .i64 s) := by rw [k0.cell]; rfl
  have c1 : W0.cell? ⟨K, 1, none⟩ = some (.int .i64 q) := by rw [k0.cell]; rfl
  clear h m0 k0 hs
  go_enter Tryz.func46, Tryz.ntmps46
  go_upto_region 1 with fail
  clear hW0 hK
  cases hv : vecOk l
  · have HE := Lib.hid (show raiseE l s q = 1 by unfold raiseE; rw [hv]; rfl)
    go_wp2_with fail
    refine (HV.out _ M0.out).mono ?_
    rintro e w1 ⟨rfl, m1⟩
    rw [hv]
    have M1 := Lib.hid (M0.out.trans m1)
    clear m1 c0 c1
    go_wp2_with fail
    go_ret2
    exact ⟨.inl ⟨by rw [HE.out]; omega, by rw [HE.out]; rfl⟩, M1.out⟩
  go_wp2_with fail
  refine (HV.out _ M0.out).mono ?_
  rintro e w1 ⟨rfl, m1⟩
  rw [hv]
  have M1 := Lib.hid (M0.out.trans m1)
  have K1 := Lib.hid (K0.out.mod m1 (fun e => e))
  have d0 : w1.cell? ⟨K, 0, none⟩ = some (.int .i64 s) := by rw [K1.out.cell]; rfl
  have d1 : w1.cell? ⟨K, 1, none⟩ = some (.int .i64 q) := by rw [K1.out.cell]; rfl
  clear m1 c0 c1 M0 K0
  go_wp2_with fail
  refine (rname_any s q _).mono ?_
  rintro e w2 ⟨rfl, m2⟩
  have M2 := Lib.hid (M1.out.trans m2)
  have K2 := Lib.hid (K1.out.mod m2 (fun e => e))
  have c0 : w2.cell? ⟨K, 0, none⟩ = some (.int .i64 s) := by rw [K2.out.cell]; rfl
  have c1 : w2.cell? ⟨K, 1, none⟩ = some (.int .i64 q) := by rw [K2.out.cell]; rfl
  clear m2 d0 d1 M1 K1
  cases hq : nameOk s q
  · have HE := Lib.hid (show raiseE l s q = 1 by unfold raiseE; rw [hq, Bool.and_false]; rfl)
    go_wp2_with fail
    go_ret2
    exact ⟨.inl ⟨by rw [HE.out]; omega, by rw [HE.out]; rfl⟩, M2.out⟩
  have hsq : (1 ≤ s ∧ s ≤ 16) ∧ 1 ≤ q ∧ q ≤ 1099511627776 := by
    unfold nameOk inB at hq
    simpa using hq
  have hc := cntV_le hv s
  have HVK := Lib.hid hv
  have HRE := Lib.hid (show raiseE l s q = if cntV l s = 1099511627776 then 7 else if q = cntV l s + 1 then 0 else 17 by unfold raiseE; rw [hv, hq]; rfl)
  obtain ⟨n, hn⟩ : ∃ n, n = cntV l s := ⟨_, rfl⟩
  have HC := Lib.hid (fun (W : World) (m : Mine.Mod none_ w2 W) => by
    have := HC0.out W (M2.out.trans m) s HSB.out
    rw [← hn] at this
    exact this)
  rw [← hn] at hc HRE
  have HNN := Lib.hid hn
  clear hv hq hn HV
  go_wp2_with fail
  refine (HC.out _ (Mine.Mod.refl _ _)).mono ?_
  rintro e w3 ⟨rfl, rfl⟩
  by_cases h1 : n = 1099511627776
  · have HE := Lib.hid (show raiseE l s q = 7 by rw [HRE.out, if_pos h1])
    have hb1 : (n == 1099511627776) = true := by simpa using h1
    clear h1
    go_wp2_with fail
    go_ret2
    exact ⟨.inl ⟨by rw [HE.out]; omega, by rw [HE.out]; rfl⟩, M2.out⟩
  have hb1 : (n == 1099511627776) = false := by simpa using h1
  have hw : IntKind.i64.wrap (n + 1) = n + 1 := by rw [IntKind.wrap_i64]; omega
  go_upto_region 5 with fail
  obtain ⟨w4, rfl⟩ : ∃ w4, w4 = w3 := ⟨_, rfl⟩
  refine wp_region_held_drew (S := fun w' => Mine.Mod none_ w4 w' ∧ w'.cell? ⟨K, 0, none⟩ = some (.int .i64 s) ∧ w'.cell? ⟨K, 1, none⟩ = some (.int .i64 q)) (by kernel_rfl) ⟨Mine.Mod.drew (Mine.Mod.refl none_ w4), c0, c1⟩ (fun hS => ?_)
  refine wpAnyH_take (i := 0) (v := .pointer (some ⟨K, 1, none⟩)) rfl (by kernel_rfl) (by kernel_rfl) (by kernel_rfl) (fun _ _ _ h => h) (Or.inl ⟨by kernel_rfl, ?_⟩) hS ?_
  · rintro w' ⟨_, q0, q1⟩; go_simp
  try simp only [Act.put, List.setIfInBounds_toArray, List.set_cons_zero, List.set_cons_succ]
  refine wpAnyH_take (i := 1) (v := .int .i64 q) rfl (by kernel_rfl) (by kernel_rfl) (by kernel_rfl) (fun _ _ _ h => h) (Or.inl ⟨by kernel_rfl, ?_⟩) hS ?_
  · rintro w' ⟨_, q0, q1⟩; go_simp
  try simp only [Act.put, List.setIfInBounds_toArray, List.set_cons_zero, List.set_cons_succ]
  refine wpAnyH_take (i := 2) (v := .slice a len cap) rfl (by kernel_rfl) (by kernel_rfl) (by kernel_rfl) (fun _ _ _ h => h) (Or.inl ⟨by kernel_rfl, ?_⟩) hS ?_
  · rintro w' ⟨_, q0, q1⟩; go_simp
  try simp only [Act.put, List.setIfInBounds_toArray, List.set_cons_zero, List.set_cons_succ]
  refine wpAnyH_take (i := 3) (v := .pointer (some ⟨K, 0, none⟩)) rfl (by kernel_rfl) (by kernel_rfl) (by kernel_rfl) (fun _ _ _ h => h) (Or.inl ⟨by kernel_rfl, ?_⟩) hS ?_
  · rintro w' ⟨_, q0, q1⟩; go_simp
  try simp only [Act.put, List.setIfInBounds_toArray, List.set_cons_zero, List.set_cons_succ]
  refine wpAnyH_take (i := 4) (v := .int .i64 s) rfl (by kernel_rfl) (by kernel_rfl) (by kernel_rfl) (fun _ _ _ h => h) (Or.inl ⟨by kernel_rfl, ?_⟩) hS ?_
  · rintro w' ⟨_, q0, q1⟩; go_simp
  try simp only [Act.put, List.setIfInBounds_toArray, List.set_cons_zero, List.set_cons_succ]
  refine wpAnyH_ready (rs := [5]) (by kernel_rfl) (by simp) (AllReadyH.cons rfl (fun K2 hK2 => ?_) <| AllReadyH.nil)
  go_simp
  refine (HC.out _ hS.1).mono ?_
  rintro e w1 ⟨rfl, rfl⟩
  refine hK2.out _ _ hS (fun hS => ?_)
  clear hK2 K2
  try simp only [Act.put, List.setIfInBounds_toArray, List.set_cons_zero, List.set_cons_succ]
  refine wpAnyH_take (i := 6) (v := .int .i64 (n + 1)) rfl (by kernel_rfl) (by kernel_rfl) (by kernel_rfl) (fun _ _ _ h => h) (Or.inl ⟨by kernel_rfl, ?_⟩) hS ?_
  · rintro w' ⟨_, q0, q1⟩; go_simp
  try simp only [Act.put, List.setIfInBounds_toArray, List.set_cons_zero, List.set_cons_succ]
  by_cases h2 : q = n + 1
  · subst h2
    refine wpAnyH_take (i := 7) (v := .bool false) rfl (by kernel_rfl) (by kernel_rfl) (by kernel_rfl) (fun _ _ _ h => h) (Or.inl ⟨by kernel_rfl, ?_⟩) hS ?_
    · rintro w' ⟨_, q0, q1⟩; go_simp
    try simp only [Act.put, List.setIfInBounds_toArray, List.set_cons_zero, List.set_cons_succ]
    refine wpAnyH_done (by kernel_rfl) ?_ _
    try simp only [List.getElem_toArray, List.getElem_cons_succ, List.getElem_cons_zero]
    try simp only [Act.put, List.setIfInBounds_toArray, List.set_cons_zero, List.set_cons_succ]
    have HE := Lib.hid (show raiseE l s (n + 1) = 0 by rw [HRE.out, if_neg h1, if_pos rfl])
    obtain ⟨S, rfl⟩ : ∃ S : Nat, s = (S : Int) + 1 := ⟨(s - 1).toNat, by omega⟩
    have hS16 : S < 16 := by omega
    have M5 := Lib.hid (M2.out.trans hS.1)
    have K5 := Lib.hid (K2.out.mod hS.1 (fun e => e))
    clear hS c0 c1 HC
    generalize w4.drew = w5 at M5 K5 ⊢
    go_upto_region 8 with fail
    obtain ⟨G, hG⟩ : ∃ G, G = w5.heap.size := ⟨_, rfl⟩
    have hGw : w.heap.size ≤ G := by rw [hG]; exact M5.out.size
    have mG := (Mine.Mod.refl none_ w5).alloc (.cells (intCs (cntsTo l 0)).toArray 116)
    have kG : Blk (w5.alloc (.cells (intCs (cntsTo l 0)).toArray 116)) G (intCs (cntsTo l 0)) 116 := by rw [hG]; exact Blk.new
    have M6 := Lib.hid (M5.out.trans mG)
    have K6 := Lib.hid (K5.out.mod mG (fun e => e))
    have KG := Lib.hid kG
    have hKG : ¬ K = G := by have := K5.out.lt; omega
    rw [← hG]
    have ez : (intCs (cntsTo l 0)).toArray = #[Value.int IntKind.i64 0, Value.int IntKind.i64 0, Value.int IntKind.i64 0, Value.int IntKind.i64 0, Value.int IntKind.i64 0, Value.int IntKind.i64 0, Value.int IntKind.i64 0, Value.int IntKind.i64 0, Value.int IntKind.i64 0, Value.int IntKind.i64 0, Value.int IntKind.i64 0, Value.int IntKind.i64 0, Value.int IntKind.i64 0, Value.int IntKind.i64 0, Value.int IntKind.i64 0, Value.int IntKind.i64 0] := rfl
    rw [← ez]
    clear ez hG mG kG K5 M5
    generalize w5.alloc (.cells (intCs (cntsTo l 0)).toArray 116) = w6 at M6 K6 KG ⊢
    go_wp2_with fail
    go_loopg [7] 16 (fun g s7 wx => ∃ k : Nat, g = 16 - k ∧ s7 = .int .i64 ((k : Int) + 1) ∧ k ≤ 16 ∧ Mine.Mod none_ w wx ∧ RowKit.Hid (Blk wx G (intCs (cntsTo l k)) 116 ∧ Blk wx K [.int .i64 ((S : Int) + 1), .int .i64 (n + 1)] 28))
    case atStart => exact ⟨0, rfl, rfl, Nat.zero_le _, M6.out, Lib.hid ⟨KG.out, K6.out⟩⟩
    case round =>
      obtain ⟨k, rfl, rfl, hk, mx, hst⟩ := hrel
      have MX := Lib.hid mx
      obtain ⟨kx, kk⟩ := hst.out
      by_cases hlk : k < 16
      · have e0 : wr.cell? ⟨G, k, none⟩ = some (.int .i64 0) := by
          rw [kx.cell, List.getElem?_map, cntsTo_at l k k hlk, if_neg (Nat.lt_irrefl _)]; rfl
        have f0 := kx.frozen k
        have kn := kx.set k (.int .i64 (cntV l ((k : Int) + 1)))
        have hset : (intCs (cntsTo l k)).set k (.int .i64 (cntV l ((k : Int) + 1))) = intCs (cntsTo l (k + 1)) := by
          rw [← cntsTo_set l k hlk]
          unfold intCs
          rw [List.map_set]
        rw [hset] at kn
        have mS : Mine.Mod (one G) wr (wr.setCell ⟨G, k, none⟩ (.int .i64 (cntV l ((k : Int) + 1)))) := (Mine.Mod.refl (one G) wr).setCell ⟨G, k, none⟩ (fun _ => rfl) _
        have FIN := Lib.hid (And.intro (mx.transIn mS (fun b hb e => by have e' : b = G := e; omega)) (And.intro kn (kk.mod mS (fun e => hKG e))))
        have HCC := Lib.hid (HC0.out wr mx ((k : Int) + 1) (by omega))
        obtain ⟨cv, hcv⟩ : ∃ cv, cv = cntV l ((k : Int) + 1) := ⟨_, rfl⟩
        rw [← hcv] at FIN HCC
        have hw1 : IntKind.i64.wrap ((k : Int) + 1 - 1) = (k : Int) := by rw [IntKind.wrap_i64]; omega
        have hle16 : decide ((k : Int) + 1 ≤ 16) = true := by rw [decide_eq_true_eq]; omega
        clear hst mx kx kk kn hset mS hcv
        go_wp2_with fail
        refine HCC.out.mono ?_
        rintro e w7 ⟨rfl, rfl⟩
        go_wp2_with fail
        go_roundg (16 - (k + 1))
        all_goals first
          | omega
          | exact ⟨k + 1, rfl, by go_num, by omega, FIN.out.1, Lib.hid FIN.out.2⟩
      · obtain rfl : k = 16 := by omega
        have d0 : wr.cell? ⟨K, 0, none⟩ = some (.int .i64 ((S : Int) + 1)) := by rw [kk.cell]; rfl
        have d1 : wr.cell? ⟨K, 1, none⟩ = some (.int .i64 (n + 1)) := by rw [kk.cell]; rfl
        have e0 : wr.cell? ⟨G, S, none⟩ = some (.int .i64 n) := by
          rw [kx.cell, List.getElem?_map, cntsTo_at l 16 S hS16, if_pos hS16, ← HNN.out]; rfl
        have f0 := kx.frozen S
        have kn := kx.set S (.int .i64 (n + 1))
        have hset : (intCs (cntsTo l 16)).set S (.int .i64 (n + 1)) = intCs ((cntsTo l 16).set S (n + 1)) := by
          unfold intCs
          rw [List.map_set]
        rw [hset] at kn
        have mS : Mine.Mod (one G) wr (wr.setCell ⟨G, S, none⟩ (.int .i64 (n + 1))) := (Mine.Mod.refl (one G) wr).setCell ⟨G, S, none⟩ (fun _ => rfl) _
        have M8 := Lib.hid (mx.transIn mS (fun b hb e => by have e' : b = G := e; omega))
        have HMR := Lib.hid (fun (m : Nat) (h : MadeOf ((cntsTo l 16).set S (n + 1)) m) => by
          have := made_raise HVK.out S hS16 (n := m) (by rw [← HNN.out]; exact h)
          rw [← HNN.out] at this
          exact this)
        obtain ⟨L8, hL8⟩ : ∃ L8, L8 = (cntsTo l 16).set S (n + 1) := ⟨_, rfl⟩
        have hlen8 : L8.length = 16 := by rw [hL8, List.length_set, cntsTo_len]
        rw [← hL8] at kn HMR
        obtain ⟨x0, x1, x2, x3, x4, x5, x6, x7, x8, x9, x10, x11, x12, x13, x14, x15, hx16⟩ := list16 L8 hlen8
        have HMD := fun (W : World) => rvmade_any W L8 hlen8
        rw [hx16] at kn HMR HMD
        have HMD := Lib.hid HMD
        have KF := Lib.hid kn
        have hw1 : IntKind.i64.wrap ((S : Int) + 1 - 1) = (S : Int) := by rw [IntKind.wrap_i64]; omega
        clear hst mx kx kk kn hset mS hL8 hlen8 hx16 HC0
        go_upto_region 13 with fail
        generalize wr.setCell ⟨G, S, none⟩ (.int .i64 (n + 1)) = w8 at M8 KF ⊢
        clear e0 f0 d0 d1
        have g0 : w8.cell? ⟨G, 0, none⟩ = some (.int .i64 x0) := by rw [KF.out.cell]; rfl
        have g1 : w8.cell? ⟨G, 1, none⟩ = some (.int .i64 x1) := by rw [KF.out.cell]; rfl
        have g2 : w8.cell? ⟨G, 2, none⟩ = some (.int .i64 x2) := by rw [KF.out.cell]; rfl
        have g3 : w8.cell? ⟨G, 3, none⟩ = some (.int .i64 x3) := by rw [KF.out.cell]; rfl
        have g4 : w8.cell? ⟨G, 4, none⟩ = some (.int .i64 x4) := by rw [KF.out.cell]; rfl
        have g5 : w8.cell? ⟨G, 5, none⟩ = some (.int .i64 x5) := by rw [KF.out.cell]; rfl
        have g6 : w8.cell? ⟨G, 6, none⟩ = some (.int .i64 x6) := by rw [KF.out.cell]; rfl
        have g7 : w8.cell? ⟨G, 7, none⟩ = some (.int .i64 x7) := by rw [KF.out.cell]; rfl
        have g8 : w8.cell? ⟨G, 8, none⟩ = some (.int .i64 x8) := by rw [KF.out.cell]; rfl
        have g9 : w8.cell? ⟨G, 9, none⟩ = some (.int .i64 x9) := by rw [KF.out.cell]; rfl
        have g10 : w8.cell? ⟨G, 10, none⟩ = some (.int .i64 x10) := by rw [KF.out.cell]; rfl
        have g11 : w8.cell? ⟨G, 11, none⟩ = some (.int .i64 x11) := by rw [KF.out.cell]; rfl
        have g12 : w8.cell? ⟨G, 12, none⟩ = some (.int .i64 x12) := by rw [KF.out.cell]; rfl
        have g13 : w8.cell? ⟨G, 13, none⟩ = some (.int .i64 x13) := by rw [KF.out.cell]; rfl
        have g14 : w8.cell? ⟨G, 14, none⟩ = some (.int .i64 x14) := by rw [KF.out.cell]; rfl
        have g15 : w8.cell? ⟨G, 15, none⟩ = some (.int .i64 x15) := by rw [KF.out.cell]; rfl
        go_wp2_with fail
        refine (HMD.out w8).mono ?_
        rintro e w9 ⟨⟨va, m, vc, rfl, hmo, hown⟩, m9⟩
        have FIN := Lib.hid (show RaiseTo w l ((S : Int) + 1) (n + 1) (.returned (.tuple #[.slice va m vc, .int .i64 0])) w9 from by
          refine ⟨.inr ⟨HE.out, va, m, vc, rfl, ?_⟩, M8.out.trans m9⟩
          rw [HMR.out m hmo] at hown
          exact ownsRow_base hown M8.out.size)
        clear hmo hown m9 HMR HMD
        go_wp2_with fail
        go_ret2
        exact FIN.out
  · have hb2 : (q == n + 1) = false := by simpa using h2
    refine wpAnyH_take (i := 7) (v := .bool true) rfl (by kernel_rfl) (by kernel_rfl) (by kernel_rfl) (fun _ _ _ h => h) (Or.inl ⟨by kernel_rfl, ?_⟩) hS ?_
    · rintro w' ⟨_, q0, q1⟩; go_simp
    try simp only [Act.put, List.setIfInBounds_toArray, List.set_cons_zero, List.set_cons_succ]
    refine wpAnyH_done (by kernel_rfl) ?_ _
    try simp only [List.getElem_toArray, List.getElem_cons_succ, List.getElem_cons_zero]
    try simp only [Act.put, List.setIfInBounds_toArray, List.set_cons_zero, List.set_cons_succ]
    have HE := Lib.hid (show raiseE l s q = 17 by rw [HRE.out, if_neg h1, if_neg h2])
    have M5 := Lib.hid (M2.out.trans hS.1)
    clear hS c0 c1 HC
    go_wp2_with fail
    go_ret2
    exact ⟨.inl ⟨by rw [HE.out]; omega, by rw [HE.out]; rfl⟩, M5.out⟩
end Go.Proofs.YtlidmajcdjlcnaaGreatDoor

namespace Go.Proofs.YtlidmajcdjlcnaaGreatDoor
open Go.RowKit Go.Shelf Go.Mine
open Classical

theorem orderL_step {last p num : Int} {V : List Int} {x : EntV} {r : List EntV} (h : orderL last p V num (x :: r) = true) : raiseE V x.o.site x.o.seq = 0 ∧ ∃ l' p', orderL l' p' (raiseL V x.o.site) num r = true := by
  rw [orderL_cons] at h
  by_cases hz : raiseE V x.o.site x.o.seq = 0
  · rw [if_pos hz] at h
    refine ⟨hz, ?_⟩
    by_cases hn : x.o.num = 0
    · rw [if_pos hn] at h
      by_cases hc : p = 0 ∨ p = x.o.site
      · rw [if_pos hc] at h; exact ⟨_, _, h⟩
      · rw [if_neg hc] at h; cases h
    · rw [if_neg hn] at h
      by_cases hc : p = 0 ∧ last < x.o.num ∧ x.o.num ≤ num
      · rw [if_pos hc] at h; exact ⟨_, _, h⟩
      · rw [if_neg hc] at h; cases h
  · rw [if_neg hz] at h; cases h

end Go.Proofs.YtlidmajcdjlcnaaGreatDoor

namespace Go.Proofs.YtlidmajcdjlcnaaGreatDoor
open Go.RowKit Go.Shelf Go.Mine
open Classical

theorem histOk_order {h : HistV} {B : List CellV} {V : List Int} {E : List EntV} (hb : histOk h B V E = true) : orderL h.from_ 0 V h.num E = true := by
  unfold histOk at hb
  simp only [Bool.and_eq_true] at hb
  exact hb.2

end Go.Proofs.YtlidmajcdjlcnaaGreatDoor

namespace Go.Proofs.YtlidmajcdjlcnaaGreatDoor
open Go.RowKit Go.Shelf Go.Mine
open Classical

/-- The cells behind entries. -/
noncomputable def repL : List CellV → List EntV → List CellV
  | L, [] => L
  | L, x :: r => repL (runL9 x.o x.sp L) r
theorem repL_snoc {B : List CellV} {E : List EntV} {k : Nat} {x : EntV} (h : E[k]? = some x) : repL B (E.take (k + 1)) = runL9 x.o x.sp (repL B (E.take k)) := by
  rw [ents_snoc h]
  generalize E.take k = A
  induction A generalizing B with
  | nil => rfl
  | cons y r ih => exact ih
/-- Cells, and what is still to be carried out upon them. -/
structure Rep (V : List Int) (n : Int) (L : List CellV) (E : List EntV) : Prop where
  len : (L.length : Int) = n
  inb : inB n 0 20000 = true
  seq : ∀ c ∈ L, c.seq ≤ cntV V c.site
  run : (runOps (opsOf E) n).isSome = true
  ord : ∃ last p num, orderL last p V num E = true
theorem cntV_raise {V : List Int} {s : Int} (hv : vecOk V = true) (h1 : 1 ≤ s) (h2 : s ≤ 16) (t : Int) : cntV (raiseL V s) t = if t = s then cntV V s + 1 else cntV V t := by
  have hl := raiseL_len V s
  have hg : (raiseL V s)[s.toNat - 1]? = some (cntV V s + 1) := by
    unfold raiseL
    rw [List.getElem?_set, if_pos rfl, if_pos (by rw [List.length_append, List.length_replicate]; omega)]
  by_cases ht : t = s
  · rw [if_pos ht, ht]
    have hc : cntV (raiseL V s) s = ((raiseL V s)[(s - 1).toNat]?).getD 0 := by
      unfold cntV
      rw [if_pos (by unfold inB; rw [decide_eq_true_eq, hl]; omega)]
    have e : (s - 1).toNat = s.toNat - 1 := by omega
    rw [hc, e, hg]
    rfl
  · rw [if_neg ht]
    by_cases hin : 1 ≤ t ∧ t ≤ (raiseL V s).length
    · have hne : s.toNat - 1 ≠ (t - 1).toNat := by omega
      have hget : (raiseL V s)[(t - 1).toNat]? = (V ++ List.replicate (s.toNat - V.length) 0)[(t - 1).toNat]? := by
        unfold raiseL
        rw [List.getElem?_set, if_neg hne]
      have hc : cntV (raiseL V s) t = ((raiseL V s)[(t - 1).toNat]?).getD 0 := by
        unfold cntV
        rw [if_pos (by unfold inB; rw [decide_eq_true_eq]; exact hin)]
      rw [hc, hget]
      by_cases hV : t ≤ V.length
      · unfold cntV
        rw [if_pos (by unfold inB; rw [decide_eq_true_eq]; omega), List.getElem?_append_left (by omega)]
      · unfold cntV
        rw [if_neg (by unfold inB; rw [decide_eq_true_eq]; omega), List.getElem?_append_right (by omega), List.getElem?_replicate]
        split <;> rfl
    · unfold cntV
      rw [if_neg (by unfold inB; rw [decide_eq_true_eq]; exact hin), if_neg (by unfold inB; rw [decide_eq_true_eq]; intro e; exact hin ⟨e.1, by rw [hl]; omega⟩)]
theorem raise_seq {V : List Int} {s q : Int} (h : raiseE V s q = 0) : vecOk V = true ∧ nameOk s q = true ∧ q = cntV V s + 1 := by
  have h1 := raise_vec h
  refine ⟨h1.1, h1.2, ?_⟩
  unfold raiseE at h
  rw [h1.1, h1.2] at h
  simp only [Bool.and_self, if_true] at h
  by_cases h2 : cntV V s = 1099511627776
  · rw [if_pos h2] at h; omega
  · rw [if_neg h2] at h
    by_cases h3 : q = cntV V s + 1
    · exact h3
    · rw [if_neg h3] at h; omega
/-- One operation: it is carried out, as the document says. -/
theorem Rep.step {V : List Int} {n : Int} {L : List CellV} {x : EntV} {E : List EntV} (h : Rep V n L (x :: E)) :
    opMay x.o x.sp L.length = true ∧ doE x.o x.sp L = 0 ∧ doL x.o x.sp L = runL9 x.o x.sp L ∧ Rep (raiseL V x.o.site) (n + addsOf x.o) (runL9 x.o x.sp L) E := by
  obtain ⟨last, p, num, ho⟩ := h.ord
  obtain ⟨hz, l2, p2, h2⟩ := orderL_step ho
  obtain ⟨hv, hn, hq⟩ := raise_seq hz
  have hs := nameOk_site hn
  have hrun := h.run
  unfold opsOf at hrun
  rw [List.map_cons, runOps] at hrun
  have hm : opMay x.o x.sp n = true := by
    by_cases hm : opMay x.o x.sp n = true
    · exact hm
    · rw [if_neg hm] at hrun; cases hrun
  rw [if_pos hm] at hrun
  have hm' : opMay x.o x.sp L.length = true := by rw [h.len]; exact hm
  have hnm : x.o.name ∉ L.map CellV.name := by
    intro hc
    obtain ⟨c, hcl, hce⟩ := List.mem_map.1 hc
    have e1 : c.site = x.o.site := by simp only [Value.agg.injEq] at hce; simp at hce; exact hce.1
    have e2 : c.seq = x.o.seq := by simp only [Value.agg.injEq] at hce; simp at hce; exact hce.2
    have := h.seq c hcl
    rw [e1, e2] at this
    omega
  have hmono : ∀ t, cntV V t ≤ cntV (raiseL V x.o.site) t := by
    intro t
    rw [cntV_raise hv hs.1 hs.2]
    split
    · rename_i e; rw [e]; omega
    · exact Int.le_refl _
  have hin := adds_in h.inb hm
  by_cases hk : x.o.kind = 2
  · have hrl : runL9 x.o x.sp L = markS x.sp 0 L := by unfold runL9; rw [if_pos hk]
    have ha : addsOf x.o = 0 := by unfold addsOf; rw [if_neg (by omega)]
    refine ⟨hm', ?_, ?_, ?_, hin.1, ?_, hrun, l2, p2, _, h2⟩
    · unfold doE; rw [if_pos hm', if_pos hk]
    · unfold doL; rw [if_pos hm', if_pos hk, hrl]
    · rw [hrl, markS_len, ha, h.len]; omega
    · intro c hc
      rw [hrl] at hc
      have hid : c.id ∈ (markS x.sp 0 L).map CellV.id := List.mem_map_of_mem hc
      rw [markS_ids] at hid
      obtain ⟨d, hd, e⟩ := List.mem_map.1 hid
      have e1 : d.site = c.site := by simp only [Value.agg.injEq] at e; simp at e; exact e.1
      have e2 : d.seq = c.seq := by simp only [Value.agg.injEq] at e; simp at e; exact e.2.1
      have := h.seq d hd
      have h3 := hmono d.site
      rw [e1, e2] at this
      rw [e1] at h3
      omega
  · have hE : doE x.o x.sp L = 0 := by unfold doE; rw [if_pos hm', if_neg hk, if_neg hnm]
    have hk1 : x.o.kind = 1 := by
      unfold opMay at hm
      rw [if_neg hk] at hm
      by_cases h1 : x.o.kind = 1
      · exact h1
      · rw [if_neg h1] at hm; simp at hm
    have hrl : runL9 x.o x.sp L = L.take x.o.at_.toNat ++ freshC x.o (runesD x.o.text) ++ L.drop x.o.at_.toNat := by unfold runL9; rw [if_neg hk]
    have hins : insOk x.o n = true := by
      unfold opMay at hm
      rw [if_pos hk1] at hm
      simp only [Bool.and_eq_true] at hm
      exact hm.2
    have hul : 1 ≤ ulen x.o.text := by
      unfold insOk textOk inB at hins
      simp only [Bool.and_eq_true, decide_eq_true_eq] at hins
      omega
    obtain ⟨rs, hrs⟩ : ∃ rs, runesOf x.o.text = some rs := by
      cases hr : runesOf x.o.text with
      | none => rw [ulen_none hr] at hul; omega
      | some rs => exact ⟨rs, rfl⟩
    have hrd : runesD x.o.text = rs := by unfold runesD; rw [hrs]; rfl
    have ha : addsOf x.o = (rs.length : Int) := by
      unfold addsOf
      rw [if_pos hk1, ulen_some hrs]
      omega
    refine ⟨hm', hE, ?_, ?_, hin.1, ?_, hrun, l2, p2, _, h2⟩
    · unfold doL; rw [if_pos hm', if_neg hk, if_neg hnm, hrl]
    · rw [hrl, hrd, ha, ← h.len]
      simp only [List.length_append, List.length_take, List.length_drop, freshC_len]
      omega
    · intro c hc
      rw [hrl] at hc
      rcases List.mem_append.1 hc with hc | hc
      · rcases List.mem_append.1 hc with hc | hc
        · have := h.seq c (List.mem_of_mem_take hc); have h3 := hmono c.site; omega
        · obtain ⟨e1, e2⟩ := fresh_name hc
          rw [e1, e2, cntV_raise hv hs.1 hs.2, if_pos rfl, hq]
          exact Int.le_refl _
      · have := h.seq c (List.mem_of_mem_drop hc); have h3 := hmono c.site; omega
/-- A history that may be: all its operations are to be carried out upon its base. -/
theorem histOk_rep {h : HistV} {B : List CellV} {V : List Int} {E : List EntV} (hb : histOk h B V E = true) (hl : B.length = h.bl) : newE B = 0 ∧ Rep V (h.bl : Int) B E := by
  have ho := histOk_order hb
  unfold histOk at hb
  simp only [Bool.and_eq_true] at hb
  obtain ⟨⟨⟨_, hbase⟩, hents⟩, _⟩ := hb
  unfold baseOk at hbase
  simp only [Bool.and_eq_true, decide_eq_true_eq] at hbase
  obtain ⟨⟨hn, hv⟩, hu⟩ := hbase
  unfold entsOk at hents
  simp only [Bool.and_eq_true] at hents
  have hr := hents.2
  unfold listRun at hr
  by_cases hc : ((opsOf E).map OpS.nm).Nodup ∧ inB (h.bl : Int) 0 20000 = true
  · rw [if_pos hc] at hr
    refine ⟨hn, by rw [hl], hc.2, ?_, hr, _, _, _, ho⟩
    intro c hcB
    have hu' : B.any (unkn V) = false := by simpa using hu
    rw [List.any_eq_false] at hu'
    have := hu' c hcB
    unfold unkn at this
    simpa using this
  · rw [if_neg hc] at hr; cases hr
/-- So far on: what stands before the k-th entry. -/
theorem Rep.upto {B : List CellV} {E : List EntV} (k : Nat) (hk : k ≤ E.length) : ∀ {V : List Int} {n : Int}, Rep V n B E → ∃ V' n', Rep V' n' (repL B (E.take k)) (E.drop k) := by
  induction k with
  | zero => intro V n h; exact ⟨V, n, by simpa [repL] using h⟩
  | succ k ih =>
    intro V n h
    obtain ⟨V', n', h'⟩ := ih (by omega) h
    have hx : E[k]? = some (E[k]'(by omega)) := List.getElem?_eq_getElem _
    rw [drop_cons hx] at h'
    rw [repL_snoc hx]
    exact ⟨_, _, h'.step.2.2.2⟩

end Go.Proofs.YtlidmajcdjlcnaaGreatDoor

namespace Go.Proofs.YtlidmajcdjlcnaaGreatDoor
open Go.RowKit Go.Mine
open Classical

/-- Since w only new blocks; the document D of the cells L lies in new blocks, none of them in E. -/
structure DocF (w : World) (E : Nat → Prop) (wx : World) (D : Nat) (L : List CellV) : Prop where
  m : Mod none_ w wx
  doc : ∃ S, DocS wx S D L ∧ ∀ k, S k → w.heap.size ≤ k ∧ ¬ E k
  ex : ∀ k, E k → k < wx.heap.size
  cl : Cl L
theorem DocF.grown {w wx wy : World} {E : Nat → Prop} {D : Nat} {L : List CellV} (h : DocF w E wx D L) (m : Mod none_ wx wy) : DocF w E wy D L :=
  ⟨h.m.trans m, (by obtain ⟨S, h1, h2⟩ := h.doc; exact ⟨S, h1.grown m, h2⟩), fun k hk => Nat.lt_of_lt_of_le (h.ex k hk) m.size, h.cl⟩
theorem DocF.is {w wx : World} {E : Nat → Prop} {D : Nat} {L : List CellV} (h : DocF w E wx D L) : DocIs wx 0 D L := by
  obtain ⟨S, h1, _⟩ := h.doc
  exact h1.is
/-- A store into the blocks that are kept. -/
theorem DocF.put {w wx wy : World} {E : Nat → Prop} {D : Nat} {L : List CellV} (h : DocF w E wx D L) (m : Mod E wx wy) (hE : ∀ k, E k → w.heap.size ≤ k) : DocF w E wy D L := by
  obtain ⟨S, h1, h2⟩ := h.doc
  exact ⟨h.m.transIn m (fun b hb e => by have := hE b e; omega), ⟨S, h1.mod m (fun k hk => (h2 k hk).2), h2⟩, fun k hk => Nat.lt_of_lt_of_le (h.ex k hk) m.size, h.cl⟩
theorem far_of {w : World} {S : Nat → Prop} {sa : Option Addr} {n c : Nat} {sp : List (Int × Int)} (hsp : IsSpans w sa n c sp) (hS : ∀ k, S k → w.heap.size ≤ k) : ∀ b off, sa = some ⟨b, off, none⟩ → 0 < n → ¬ S b := by
  intro b off hsa hpos hsb
  have h1 := hS b hsb
  have hl : 0 < sp.length := by rw [hsp.n]; exact hpos
  obtain ⟨b', off', e, hc, _⟩ := hsp.cells 0 sp[0] (List.getElem?_eq_getElem hl)
  rw [hsa] at e
  cases e
  have := block_lt_of_cell hc
  simp at this
  omega
theorem Cl.new {l : List CellV} (h : newE l = 0) (hok : ∀ c ∈ l, c.ok) (hl : l.length ≤ 20000) : Cl l := by
  unfold newE at h
  by_cases h1 : l.all cellOk = true
  · rw [if_pos h1] at h
    by_cases h2 : (l.map CellV.id).Nodup
    · exact ⟨h2, hok, hl⟩
    · rw [if_neg h2] at h; omega
  · rw [if_neg h1] at h; omega

end Go.Proofs.YtlidmajcdjlcnaaGreatDoor

namespace Go.Proofs.YtlidmajcdjlcnaaGreatDoor
open Go.RowKit Go.Shelf Go.Mine
open Classical
attribute [local go_sem] Oper.semAt_some

/-- Do, upon a document made since w: the blocks that are kept stay. -/
theorem DocF.do2 {w wx : World} {E : Nat → Prop} {D : Nat} {L : List CellV} (h : DocF w E wx D L) (o : OpV) (sp : List (Int × Int)) (ho : o.ok w sp) (hsz : o.text.size ≤ 1099511627776) :
    Calls Tryz.prog 97 #[.pointer (some ⟨D, 0, none⟩), o.v] wx fun e w' => e = .returned (.int .i64 (doE o sp L)) ∧ DocF w E w' D (doL o sp L) ∧ ∀ k, E k → w'.heap[k]? = wx.heap[k]? := by
  obtain ⟨S, hd, hS⟩ := h.doc
  have ho' := ho.grown h.m
  refine (do_any wx S D L o sp hd h.cl.big h.cl.ok ho' hsz (far_of ho.sp (fun k hk => (hS k hk).1))).mono ?_
  rintro e w' ⟨rfl, m, hd'⟩
  refine ⟨rfl, ⟨h.m.transIn m (fun b hb hs => absurd (hS b hs).1 (by omega)), ⟨_, hd', ?_⟩, fun k hk => Nat.lt_of_lt_of_le (h.ex k hk) m.size, h.cl.doL ho.i1 ho.i2⟩, fun k hk => m.block k (h.ex k hk) (fun hs => (hS _ hs).2 hk)⟩
  rintro k (hk | ⟨hk, _⟩)
  · exact hS k hk
  · have h1 := h.m.size
    exact ⟨by omega, fun e => by have := h.ex k e; omega⟩

/-- The blocks that lie between: the boxes, and the range's own two. -/
def repEx (w W0 : World) : Nat → Prop := fun k => w.heap.size ≤ k ∧ k < W0.heap.size + 2
/-- All else that was made between stays. -/
def repSame (w W0 : World) (bT : Nat) (W : World) : Prop := ∀ k, w.heap.size ≤ k → k < W0.heap.size → k ≠ bT → W.heap[k]? = W0.heap[k]?
/-- Where replaying stands: nothing yet; or so many operations behind, the document, whether it is noted. -/
def repI (w W0 : World) (bB bL bT : Nat) (vB vL : Value) (B : List CellV) (E : List EntV) : Option (Nat × Nat × Bool) → World → Prop
  | none, W => Mine.Mod none_ w W ∧ Blk W bB [vB] 22 ∧ Blk W bL [vL] 60 ∧ Blk W bT [.pointer none] 77 ∧ repSame w W0 bT W
  | some (i, D, b), W => Mine.Mod none_ w W ∧ Blk W bB [vB] 22 ∧ Blk W bL [vL] 60 ∧ (∃ p, Blk W bT [.pointer p] 77 ∧ (b = true → p = some ⟨D, 0, none⟩)) ∧ DocF w (repEx w W0) W D (repL B (E.take i)) ∧ repSame w W0 bT W
theorem repI.mod {w W0 : World} {bB bL bT : Nat} {vB vL : Value} {B : List CellV} {E : List EntV} {s : Option (Nat × Nat × Bool)} {W W' : World} (hW : w.heap.size ≤ W0.heap.size) (h : repI w W0 bB bL bT vB vL B E s W) (m : Mine.Mod (two W0.heap.size) W W') (b1 : bB < W0.heap.size) (b2 : bL < W0.heap.size) (b3 : bT < W0.heap.size) : repI w W0 bB bL bT vB vL B E s W' := by
  have ne : ∀ k, k < W0.heap.size → ¬ two W0.heap.size k := fun k hk e => by rcases e with e | e <;> omega
  have hx : ∀ k, two W0.heap.size k → repEx w W0 k := fun k e => by rcases e with e | e <;> exact ⟨by omega, by omega⟩
  have hsz : W0.heap.size ≤ W.heap.size → repSame w W0 bT W → repSame w W0 bT W' := fun hz h k h1 h2 h3 => (m.block k (by omega) (ne k h2)).trans (h k h1 h2 h3)
  have hsm : repSame w W0 bT W → repSame w W0 bT W' := fun h => by
    by_cases hz : W0.heap.size ≤ W.heap.size
    · exact hsz hz h
    · intro k h1 h2 h3
      by_cases hk : k < W.heap.size
      · exact (m.block k hk (ne k h2)).trans (h k h1 h2 h3)
      · have e := h k h1 h2 h3
        rw [Array.getElem?_eq_none (by omega), Array.getElem?_eq_getElem h2] at e
        cases e
  cases s with
  | none =>
    obtain ⟨h1, h2, h3, h4, h7⟩ := h
    exact ⟨h1.transIn m (fun b hb e => by have := (hx b e).1; omega), h2.mod m (ne _ b1), h3.mod m (ne _ b2), h4.mod m (ne _ b3), hsm h7⟩
  | some x =>
    obtain ⟨i, D, b⟩ := x
    obtain ⟨h1, h2, h3, ⟨p, h4, h5⟩, h6, h7⟩ := h
    exact ⟨h1.transIn m (fun b hb e => by have := (hx b e).1; omega), h2.mod m (ne _ b1), h3.mod m (ne _ b2), ⟨p, h4.mod m (ne _ b3), h5⟩, h6.put (m.mono (fun k _ e => hx k e)) (fun k e => e.1), hsm h7⟩
def repStep : Option (Nat × Nat × Bool) → Nat → Option (Nat × Nat × Bool)
  | some (i, D, _), _ => some (i, D, true)
  | none, _ => none
def repG (s : Option (Nat × Nat × Bool)) (x : Nat) : Prop := ∃ i, s = some (i, x, false)
def repEnc (x : Nat) : Array Value := #[.pointer (some ⟨x, 0, none⟩)]

set_option maxHeartbeats 8000000 in
set_option maxRecDepth 1000000 in
theorem docs1_any (n : Nat) (w W0 : World) (bB bL bT : Nat) (ba : Option Addr) (bl bc : Nat) (la : Option Addr) (kk lc : Nat) (B : List CellV) (V : List Int) (E : List EntV) (hB : IsCells w ba bl bc B) (hbl : bl ≤ 1000) (hE : ∀ x ∈ E, x.o.ok w x.sp) (hT : ∀ x ∈ E, x.o.text.size ≤ 1099511627776) (hL : IsOps W0 la kk lc ((opsOf E).take kk)) (hkE : kk ≤ E.length) (hkk : kk ≤ 1000) (hlc : lc ≤ 9223372036854775807) (hn : newE B = 0) (hrep : Rep V (bl : Int) B E)
    (hw : w.heap.size ≤ W0.heap.size) (b1 : bB < W0.heap.size) (b2 : bL < W0.heap.size) (b3 : bT < W0.heap.size) (c1 : w.heap.size ≤ bB) (c2 : w.heap.size ≤ bL) (c3 : w.heap.size ≤ bT) (hLx : ∀ W s, repI w W0 bB bL bT (.slice ba bl bc) (.slice la kk lc) B E s W → IsOps W la kk lc ((opsOf E).take kk))
    (l : Nat) (J : Option (Nat × Nat × Bool) → World → Prop) (Jx : Code → Option (Nat × Nat × Bool) → World → Prop) (W : World) (hJI : ∀ s W, J s W → repI w W0 bB bL bT (.slice ba bl bc) (.slice la kk lc) B E s W)
    (hJ : ∀ s s' W W', J s W → repI w W0 bB bL bT (.slice ba bl bc) (.slice la kk lc) B E s' W' → KeepTwo W0.heap.size W W' → J s' W')
    (hY : ∀ st (x : Nat) W1, J st W1 → repG st x → YieldAt Fence.wide (n - 1) Tryz.prog l (repEnc x) W1 fun e W' => (e = .returned (.bool true) ∧ J (repStep st x) W') ∨ (e = .returned (.bool false) ∧ ∃ c, Jx c (repStep st x) W'))
    (h0 : J none W) (hsz : W0.heap.size + 2 ≤ W.heap.size) :
    CallsIn Fence.wide n Tryz.prog 96 (#[.func (.yield l) #[] #[]] ++ #[.pointer (some ⟨bB, 0, none⟩), .pointer (some ⟨bL, 0, none⟩)]) W fun e W' => (∃ v, e = .returned v) ∧ ((∃ s, (∃ D, s = some (kk, D, true)) ∧ J s W') ∨ (∃ c st, Jx c st W')) := by
  obtain ⟨i1, i2, i3, i4, i5⟩ := hJI _ _ h0
  have cb : W.cell? ⟨bB, 0, none⟩ = some (.slice ba bl bc) := by rw [i2.cell]; rfl
  have hBW := hB.grown i1
  have hBn := hB.n
  have hBok := hB.ok
  have HN := Lib.hid (new_any W ba bl bc B hBW (by omega))
  have I1 := Lib.hid i1
  have I2 := Lib.hid i2
  have I3 := Lib.hid i3
  have I4 := Lib.hid i4
  have I5 := Lib.hid i5
  have H0 := Lib.hid h0
  have HB := Lib.hid hBok
  have HNE := Lib.hid hn
  have HRP := Lib.hid hrep
  have HOK := Lib.hid hE
  have HTX := Lib.hid hT
  have HJ := Lib.hid hJ
  have HJI := Lib.hid hJI
  have HY := Lib.hid hY
  have HLX := Lib.hid hLx
  clear i1 i2 i3 i4 i5 hB hBW hE hT hL hn hrep h0 hBok hJ hJI hY hLx
  refine callsIn_of_wp Tryz.func96 rfl trivial ?_ rfl
  simp only [Tryz.ntmps96, List.size_toArray, List.length_cons, List.length_nil, Nat.reduceAdd, Nat.reduceSub, Array.replicate_succ, Array.replicate_zero, List.push_toArray, List.append_toArray, List.nil_append, List.cons_append]
  gi_wp2_with fail
  refine ⟨trivial, fun h => (by cases h), ?_⟩
  refine (callsIn_wide.2 HN.out).mono ?_
  rintro e w3 ⟨m3, -, hgood⟩
  obtain ⟨D, rfl, hdoc⟩ := hgood HNE.out
  have HF0 := Lib.hid (show repI w W0 bB bL bT (.slice ba bl bc) (.slice la kk lc) B E (some (0, D, false)) w3 from
    ⟨I1.out.trans m3, I2.out.mod m3 (fun e => e), I3.out.mod m3 (fun e => e), ⟨none, I4.out.mod m3 (fun e => e), fun e => by cases e⟩, ⟨I1.out.trans m3, ⟨_, hdoc.s, fun k hk => ⟨Nat.le_trans I1.out.size hk, fun e => by have e2 := e.2; have hk' : W.heap.size ≤ k := hk; omega⟩⟩, fun k hk => by have := hk.2; have := m3.size; omega, Cl.new HNE.out HB.out (show B.length ≤ 20000 by omega)⟩, fun k h1 h2 h3 => (m3.block k (by omega) (fun e => e)).trans (I5.out k h1 h2 h3)⟩)
  have J0 := Lib.hid (HJ.out none (some (0, D, false)) W w3 H0.out HF0.out (KeepTwo.of m3 (by omega) (fun _ _ e => e)))
  clear m3 hgood hdoc cb HN
  gi_wp2_with fail
  gi_loopw [5, 6] (fun s5 s6 wr => ∃ i : Nat, s5 = .int .i64 0 ∧ s6 = .int .i64 i ∧ i ≤ kk ∧ J (some (i, D, false)) wr) (fun s5 s6 wr => kk - (intOf s6).toNat)
  case atStart => exact ⟨0, rfl, rfl, Nat.zero_le _, J0.out⟩
  case round =>
    obtain ⟨i, rfl, rfl, hi, hJ0⟩ := hrel
    obtain ⟨fn, tmps, assign, body, hy, hR⟩ := HY.out (some (i, D, false)) D wr hJ0 ⟨i, rfl⟩
    unfold repEnc at hy
    gi_wp2_with fail
    refine ⟨fun h => (by cases h), ?_⟩
    refine hR.mono ?_
    rintro e W' (⟨rfl, hj0⟩ | ⟨rfl, cc, hj⟩)
    · have hj : J (some (i, D, true)) W' := hj0
      have hI := HJI.out _ _ hj
      have HX := Lib.hid (HLX.out W' _ hI)
      obtain ⟨m1, kb, kl, ⟨p, kt, hp⟩, hf, hsm⟩ := hI
      have HSM := Lib.hid hsm
      have cl : W'.cell? ⟨bL, 0, none⟩ = some (.slice la kk lc) := by rw [kl.cell]; rfl
      have KB := Lib.hid kb
      have KL := Lib.hid kl
      have KT := Lib.hid kt
      have HF := Lib.hid hf
      have HJ1 := Lib.hid hj
      clear hj0 hj m1 kb kl kt hp hf hsm hJ0 hy hR
      by_cases hlt : i < kk
      · obtain ⟨x, hx⟩ : ∃ x, E[i]? = some x := ⟨E[i]'(by omega), by simp⟩
        have hmem := List.mem_of_getElem? hx
        obtain ⟨V', n', hrp⟩ := Rep.upto i (by omega) HRP.out
        rw [drop_cons hx] at hrp
        obtain ⟨-, hE0, hL0, -⟩ := hrp.step
        have hdo := HF.out.do2 x.o x.sp (HOK.out x hmem) (HTX.out x hmem)
        rw [hE0, hL0, ← repL_snoc hx] at hdo
        have HDO := Lib.hid hdo
        have hxo : ((opsOf E).take kk)[i]? = some ⟨x.o, x.sp⟩ := by
          rw [List.getElem?_take, if_pos hlt]
          unfold opsOf
          rw [List.getElem?_map, hx]; rfl
        obtain ⟨b, off, rfl, hr⟩ := HX.out.ops i _ hxo
        have x0 := hr 0 _ rfl
        have x1 := hr 1 _ rfl
        have x2 := hr 2 _ rfl
        have x3 := hr 3 _ rfl
        have x4 := hr 4 _ rfl
        have x5 := hr 5 _ rfl
        have x6 := hr 6 _ rfl
        rw [Nat.add_zero] at x0
        dsimp only at x0 x1 x2 x3 x4 x5 x6
        have hkc : kk ≤ lc := HX.out.le
        clear hx hmem hrp hE0 hL0 hdo hxo hr
        gi_wp2_with fail
        refine ⟨trivial, fun h => (by cases h), ?_⟩
        refine (callsIn_wide.2 HDO.out).mono ?_
        rintro e w4 ⟨rfl, hf4, hk4⟩
        have hbl : ∀ k, w.heap.size ≤ k → k < W0.heap.size + 2 → w4.heap[k]? = W'.heap[k]? := fun k h1 h2 => hk4 k ⟨h1, h2⟩
        have J4 := Lib.hid (HJ.out (some (i, D, true)) (some (i + 1, D, false)) W' w4 HJ1.out ⟨hf4.m, (hbl bB c1 (by omega)).trans KB.out, (hbl bL c2 (by omega)).trans KL.out, ⟨p, (hbl bT c3 (by omega)).trans KT.out, fun e => by cases e⟩, hf4, fun k h1 h2 h3 => (hbl k h1 (by omega)).trans (HSM.out k h1 h2 h3)⟩ (fun k hk => hbl k (by rcases hk with e | e <;> omega) (by rcases hk with e | e <;> omega)))
        clear hf4 hk4 hbl x0 x1 x2 x3 x4 x5 x6 cl
        gi_wp2_with fail
        refine ⟨⟨i + 1, rfl, by simp, by omega, J4.out⟩, by simp [intOf]; omega⟩
      · obtain rfl : i = kk := by omega
        gi_wp2_with fail
        go_end0
        exact ⟨⟨_, rfl⟩, .inl ⟨_, ⟨D, rfl⟩, HJ1.out⟩⟩
    · gi_wp2_with fail
      go_end0
      exact ⟨⟨_, rfl⟩, .inr ⟨cc, _, hj⟩⟩
end Go.Proofs.YtlidmajcdjlcnaaGreatDoor

namespace Go.Proofs.YtlidmajcdjlcnaaGreatDoor
open Go.RowKit Go.Mine

set_option maxHeartbeats 4000000 in
set_option maxRecDepth 1000000 in
theorem same_cells (w : World) (a b : Option Addr) (n c d : Nat) (l : List CellV) (ha : IsCells w a n c l) (hb : IsCells w b n d l) :
    Calls Tryz.prog 33 #[.slice a n c, .slice b n d] w fun e w' => e = .returned (.bool true) ∧ Mod none_ w w' := by
  have hale := ha.le
  have habig := ha.big
  have hbbig := hb.big
  unfold maxLen at habig hbbig
  have HA := Lib.hid ha
  have HB := Lib.hid hb
  have hble := hb.le
  clear ha hb
  go_enter Tryz.func33, Tryz.ntmps33
  go_wp2_with fail
  go_loopg [5] n (fun g s5 wx => ∃ k : Nat, g = n - k ∧ s5 = .int .i64 k ∧ k ≤ n ∧ Mod none_ w wx)
  case atStart => exact ⟨0, rfl, rfl, Nat.zero_le _, Mod.refl _ _⟩
  case round =>
    obtain ⟨k, rfl, rfl, hk, mx⟩ := hrel
    have MX := Lib.hid mx
    by_cases hlk : k < n
    · obtain ⟨x, hx⟩ : ∃ x, l[k]? = some x := ⟨l[k]'(by rw [HA.out.n]; exact hlk), by simp⟩
      obtain ⟨b1, o1, rfl, hr1⟩ := (HA.out.grown mx).cells k x hx
      obtain ⟨b2, o2, rfl, hr2⟩ := (HB.out.grown mx).cells k x hx
      have c0 := hr1 0 _ rfl
      have c1 := hr1 1 _ rfl
      have c2 := hr1 2 _ rfl
      have c3 := hr1 3 _ rfl
      have c4 := hr1 4 _ rfl
      have d0 := hr2 0 _ rfl
      have d1 := hr2 1 _ rfl
      have d2 := hr2 2 _ rfl
      have d3 := hr2 3 _ rfl
      have d4 := hr2 4 _ rfl
      rw [Nat.add_zero] at c0 d0
      clear hr1 hr2 hx mx
      go_upto_region 6 with fail
      go_quiet (fail)
      have MQ := Lib.hid (MX.out.drewN nq)
      generalize wr.drewN nq = wq at MQ ⊢
      clear c0 c1 c2 c3 c4 d0 d1 d2 d3 d4
      go_wp2_with fail
      go_roundg (n - (k + 1))
      all_goals first
        | omega
        | exact ⟨k + 1, rfl, by go_num, by omega, MQ.out⟩
    · obtain rfl : k = n := by omega
      clear mx
      go_wp2_with fail
      go_ret
      exact ⟨rfl, MX.out⟩
end Go.Proofs.YtlidmajcdjlcnaaGreatDoor

namespace Go.Proofs.YtlidmajcdjlcnaaGreatDoor
open Go.RowKit Go.Shelf Go.Mine
open Classical

end Go.Proofs.YtlidmajcdjlcnaaGreatDoor

namespace Go.Proofs.YtlidmajcdjlcnaaGreatDoor
open Go.RowKit Go.Mine
open Classical

theorem nodup_snoc {α : Type} {l : List α} {x : α} (h : l.Nodup) (hx : ∀ y ∈ l, y ≠ x) : (l ++ [x]).Nodup := by
  rw [List.nodup_append]
  exact ⟨h, by simp, fun a ha b hb => by rw [List.mem_singleton.1 hb]; exact hx a ha⟩
theorem ids_take {l : List CellV} {k : Nat} {y : CellV} (hy : l[k]? = some y) : (l.take (k + 1)).map CellV.id = (l.take k).map CellV.id ++ [y.id] := by
  obtain ⟨hk', e⟩ := List.getElem?_eq_some_iff.1 hy
  rw [List.take_succ_eq_append_getElem hk', e, List.map_append]; rfl

set_option maxHeartbeats 8000000 in
set_option maxRecDepth 1000000 in
theorem rmayDoc_any (w : World) (a : Option Addr) (len cap : Nat) (l : List CellV) (h : IsCells w a len cap l) (hl : len ≤ 1099511627776) :
    Calls Tryz.prog 41 #[.slice a len cap] w fun e w' => e = .returned (.int .i64 (newE l)) ∧ Mine.Mod none_ w w' := by
  have hle := h.le
  have hcap := h.big
  unfold maxLen at hcap
  have H := Lib.hid h
  have HN := Lib.hid h.n
  obtain ⟨R, hR⟩ : ∃ R, R = newE l := ⟨_, rfl⟩
  rw [← hR]
  have HR := Lib.hid hR
  clear h hR
  go_enter Tryz.func41, Tryz.ntmps41
  go_wp2_with fail
  go_loopg [3] len (fun g s3 wx => ∃ k : Nat, g = len - k ∧ s3 = .int .i64 k ∧ k ≤ len ∧ Mine.Mod none_ w wx ∧ RowKit.Hid (∀ c ∈ l.take k, cellOk c = true))
  case atStart => exact ⟨0, rfl, rfl, Nat.zero_le _, Mine.Mod.refl _ _, Lib.hid (fun c hc => by simp at hc)⟩
  case round =>
    obtain ⟨k, rfl, rfl, hk, mx, hst⟩ := hrel
    have MX := Lib.hid mx
    by_cases hlk : k < len
    · obtain ⟨x, hx⟩ : ∃ x, l[k]? = some x := ⟨l[k]'(by rw [HN.out]; exact hlk), by simp⟩
      have HX := Lib.hid hx
      have HBAD := Lib.hid (show cellOk x = false → R = 1 from fun hb => by
        rw [HR.out]; unfold newE
        rw [if_neg]
        intro ha
        have := List.all_eq_true.1 ha x (List.mem_of_getElem? HX.out)
        rw [hb] at this; cases this)
      have HST := Lib.hid (show cellOk x = true → ∀ c ∈ l.take (k + 1), cellOk c = true from fun hb c hc => by
        obtain ⟨hk', e⟩ := List.getElem?_eq_some_iff.1 HX.out
        rw [List.take_succ_eq_append_getElem hk', e] at hc
        rcases List.mem_append.1 hc with hc | hc
        · exact hst.out c hc
        · rw [List.mem_singleton.1 hc]; exact hb)
      obtain ⟨b, off, rfl, hr⟩ := (H.out.grown mx).cells k x hx
      have c0 := hr 0 _ rfl
      have c1 := hr 1 _ rfl
      have c2 := hr 2 _ rfl
      have c3 := hr 3 _ rfl
      rw [Nat.add_zero] at c0
      clear mx hx hst
      cases h1 : nameOk x.site x.seq
      · have HE := Lib.hid (HBAD.out (by unfold cellOk; rw [h1]; rfl))
        clear HST hr
        go_wp2_with fail
        refine (rname_any x.site x.seq _).mono ?_
        rintro e w1 ⟨rfl, m1⟩
        rw [h1]
        have M1 := Lib.hid (MX.out.trans m1)
        clear m1 c0 c1 c2 c3
        go_wp2_with fail
        go_ret
        exact ⟨by rw [HE.out]; rfl, M1.out⟩
      · go_wp2_with fail
        refine (rname_any x.site x.seq _).mono ?_
        rintro e w1 ⟨rfl, m1⟩
        rw [h1]
        have d2 := m1.cell (fun e => e) c2
        have d3 := m1.cell (fun e => e) c3
        have M1 := Lib.hid (MX.out.trans m1)
        clear m1 c0 c1 c2 c3 hr
        by_cases h2 : x.off < 0
        · have HE := Lib.hid (HBAD.out (by unfold cellOk; simp; omega))
          have e2 : decide (x.off < 0) = true := by simpa using h2
          clear HST
          go_wp2_with fail
          go_ret
          exact ⟨by rw [HE.out]; rfl, M1.out⟩
        have e2 : decide (x.off < 0) = false := by simpa using h2
        by_cases h3 : 199 < x.off
        · have HE := Lib.hid (HBAD.out (by unfold cellOk; simp; omega))
          have e3 : decide (199 < x.off) = true := by simpa using h3
          clear HST
          go_wp2_with fail
          go_ret
          exact ⟨by rw [HE.out]; rfl, M1.out⟩
        have e3 : decide (199 < x.off) = false := by simpa using h3
        cases h4 : Lib.validRune x.r
        · have HE := Lib.hid (HBAD.out (by unfold cellOk; rw [h4, Bool.and_false]))
          clear HST
          go_wp2_with fail
          refine (ris_any x.r _).mono ?_
          rintro e w2 ⟨rfl, rfl⟩
          rw [h4]
          go_wp2_with fail
          go_ret
          exact ⟨by rw [HE.out]; rfl, M1.out⟩
        · have HT := Lib.hid (HST.out (by unfold cellOk; rw [h1, h4]; simp; omega))
          clear HST HBAD
          go_wp2_with fail
          refine (ris_any x.r _).mono ?_
          rintro e w2 ⟨rfl, rfl⟩
          rw [h4]
          go_wp2_with fail
          go_roundg (len - (k + 1))
          all_goals first
            | omega
            | exact ⟨k + 1, rfl, by go_num, by omega, M1.out, HT⟩
    · obtain rfl : k = len := by omega
      have HALL := Lib.hid (show l.all cellOk = true by
        rw [List.all_eq_true]
        intro c hc
        exact hst.out c (by rw [List.take_of_length_le (by rw [HN.out]; exact Nat.le_refl _)]; exact hc))
      clear mx hst
      obtain ⟨w0, rfl⟩ : ∃ w0, w0 = wr := ⟨_, rfl⟩
      go_wp2_with fail
      go_loopg [4] k (fun g s4 wx => ∃ n : Nat, g = k - n ∧ s4 = .int .i64 n ∧ n ≤ k ∧ Mine.Mod none_ w wx ∧ RowKit.Hid (((l.take n).map CellV.id).Nodup))
      case atStart => exact ⟨0, rfl, rfl, Nat.zero_le _, MX.out, Lib.hid (by simp)⟩
      case round =>
        obtain ⟨n, rfl, rfl, hn, my, hnd⟩ := hrel
        obtain ⟨wy, rfl⟩ : ∃ wy, wy = wr := ⟨_, rfl⟩
        have MY := Lib.hid my
        by_cases hln : n < k
        · obtain ⟨y, hy⟩ : ∃ y, l[n]? = some y := ⟨l[n]'(by rw [HN.out]; exact hln), by simp⟩
          have HY := Lib.hid hy
          clear my hy
          go_wp2_with fail
          go_loopg [5] n (fun g s5 wx => ∃ j : Nat, g = n - j ∧ s5 = .int .i64 j ∧ j ≤ n ∧ Mine.Mod none_ w wx ∧ RowKit.Hid (∀ (i : Nat) (x : CellV), i < j → l[i]? = some x → x.id ≠ y.id))
          case atStart => exact ⟨0, rfl, rfl, Nat.zero_le _, MY.out, Lib.hid (fun i x hi => absurd hi (by omega))⟩
          case round =>
            obtain ⟨j, rfl, rfl, hj, mz, hne⟩ := hrel
            have MZ := Lib.hid mz
            by_cases hlj : j < n
            · obtain ⟨x, hx⟩ : ∃ x, l[j]? = some x := ⟨l[j]'(by rw [HN.out]; omega), by simp⟩
              have HX := Lib.hid hx
              obtain ⟨b, off, rfl, hr⟩ := (H.out.grown mz).cells n y HY.out
              have d0 := hr 0 _ rfl
              have d1 := hr 1 _ rfl
              have d2 := hr 2 _ rfl
              rw [Nat.add_zero] at d0
              obtain ⟨b2, off2, hbe, hr2⟩ := (H.out.grown mz).cells j x hx
              obtain ⟨rfl, rfl⟩ : b = b2 ∧ off = off2 := by simpa using hbe
              have c0 := hr2 0 _ rfl
              have c1 := hr2 1 _ rfl
              have c2 := hr2 2 _ rfl
              rw [Nat.add_zero] at c0
              have HNE := Lib.hid (show x.id ≠ y.id → ∀ (i : Nat) (z : CellV), i < j + 1 → l[i]? = some z → z.id ≠ y.id from fun hxy i z hi hz => by
                by_cases hij : i = j
                · subst hij
                  rw [HX.out] at hz
                  obtain rfl := Option.some.inj hz
                  exact hxy
                · exact hne.out i z (by omega) hz)
              clear hr hr2 hbe mz hx hne
              by_cases e1 : x.site = y.site
              · by_cases e2 : x.seq = y.seq
                · by_cases e3 : x.off = y.off
                  · have HE := Lib.hid (show R = 15 by
                      rw [HR.out]; unfold newE
                      rw [if_pos HALL.out, if_neg]
                      intro hnd2
                      have hid : x.id = y.id := by unfold CellV.id; rw [e1, e2, e3]
                      have hj1 := List.getElem?_eq_some_iff.1 HX.out
                      have hj2 := List.getElem?_eq_some_iff.1 HY.out
                      obtain ⟨p1, q1⟩ := hj1
                      obtain ⟨p2, q2⟩ := hj2
                      refine List.pairwise_iff_getElem.1 hnd2 j n (by rw [List.length_map]; exact p1) (by rw [List.length_map]; exact p2) hlj ?_
                      rw [List.getElem_map, List.getElem_map, q1, q2, hid])
                    rw [e1] at c0
                    rw [e2] at c1
                    rw [e3] at c2
                    clear e1 e2 e3 HNE
                    go_upto_region 12 with fail
                    go_quiet (fail)
                    have MQ := Lib.hid (MZ.out.drewN nq)
                    generalize wr.drewN nq = wq at MQ ⊢
                    clear c0 c1 c2 d0 d1 d2
                    go_wp2_with fail
                    go_ret
                    exact ⟨by rw [HE.out]; rfl, MQ.out⟩
                  · have b3 : (x.off == y.off) = false := by simpa using e3
                    rw [e1] at c0
                    rw [e2] at c1
                    have HT := Lib.hid (HNE.out (by unfold CellV.id; simp [e3]))
                    clear HNE e1 e2
                    go_upto_region 12 with fail
                    go_quiet (fail)
                    have MQ := Lib.hid (MZ.out.drewN nq)
                    generalize wr.drewN nq = wq at MQ ⊢
                    clear c0 c1 c2 d0 d1 d2
                    go_wp2_with fail
                    go_roundg (n - (j + 1))
                    all_goals first
                      | omega
                      | exact ⟨j + 1, rfl, by go_num, by omega, MQ.out, HT⟩
                · have b2 : (x.seq == y.seq) = false := by simpa using e2
                  rw [e1] at c0
                  have HT := Lib.hid (HNE.out (by unfold CellV.id; simp [e2]))
                  clear HNE e1
                  go_upto_region 12 with fail
                  go_quiet (fail)
                  have MQ := Lib.hid (MZ.out.drewN nq)
                  generalize wr.drewN nq = wq at MQ ⊢
                  clear c0 c1 c2 d0 d1 d2
                  go_wp2_with fail
                  go_roundg (n - (j + 1))
                  all_goals first
                    | omega
                    | exact ⟨j + 1, rfl, by go_num, by omega, MQ.out, HT⟩
              · have b1 : (x.site == y.site) = false := by simpa using e1
                have HT := Lib.hid (HNE.out (by unfold CellV.id; simp [e1]))
                clear HNE
                go_upto_region 12 with fail
                go_quiet (fail)
                have MQ := Lib.hid (MZ.out.drewN nq)
                generalize wr.drewN nq = wq at MQ ⊢
                clear c0 c1 c2 d0 d1 d2
                go_wp2_with fail
                go_roundg (n - (j + 1))
                all_goals first
                  | omega
                  | exact ⟨j + 1, rfl, by go_num, by omega, MQ.out, HT⟩
            · obtain rfl : j = n := by omega
              have HND := Lib.hid (show ((l.take (j + 1)).map CellV.id).Nodup by
                rw [ids_take HY.out]
                refine nodup_snoc hnd.out (fun z hz => ?_)
                obtain ⟨c, hc, rfl⟩ := List.mem_map.1 hz
                obtain ⟨i, hi, rfl⟩ := List.getElem_of_mem hc
                rw [List.length_take] at hi
                rw [List.getElem_take]
                exact hne.out i _ (by omega) (List.getElem?_eq_getElem (by omega)))
              clear mz hne hnd
              go_wp2_with fail
              go_roundg (k - (j + 1))
              all_goals first
                | omega
                | exact ⟨j + 1, rfl, by go_num, by omega, MZ.out, HND⟩
        · obtain rfl : n = k := by omega
          have HND := Lib.hid (show (l.map CellV.id).Nodup by
            have := hnd.out
            rw [List.take_of_length_le (by rw [HN.out]; exact Nat.le_refl _)] at this
            exact this)
          clear my hnd
          by_cases hbig : 20000 < (n : Int)
          · have HE := Lib.hid (show R = 4 by
              rw [HR.out]; unfold newE
              rw [if_pos HALL.out, if_pos HND.out, if_neg]
              rw [HN.out]; omega)
            have eb : decide (20000 < (n : Int)) = true := by simpa using hbig
            go_wp2_with fail
            go_ret
            exact ⟨by rw [HE.out]; rfl, MY.out⟩
          · have HE := Lib.hid (show R = 0 by
              rw [HR.out]; unfold newE
              rw [if_pos HALL.out, if_pos HND.out, if_pos]
              rw [HN.out]; omega)
            have eb : decide (20000 < (n : Int)) = false := by simpa using hbig
            go_wp2_with fail
            go_ret
            exact ⟨by rw [HE.out]; rfl, MY.out⟩
end Go.Proofs.YtlidmajcdjlcnaaGreatDoor

namespace Go.Proofs.YtlidmajcdjlcnaaGreatDoor
open Go.RowKit Go.Shelf Go.Mine
open Classical

theorem nums_two (h : HistV) : numsOk h = (!decide (h.from_ < 0) && !decide (h.num < h.from_) && !decide (1099511627776 < h.num) && !decide (400 < (h.ll : Int))) := by
  unfold numsOk
  rw [Bool.eq_iff_iff]
  simp
  omega
theorem base_no {B : List CellV} {V : List Int} {c : CellV} {k : Nat} (hc : B[k]? = some c) (h : unkn V c = true) : baseOk B V = false := by
  unfold baseOk
  rw [List.any_eq_true.2 ⟨c, List.mem_of_getElem? hc, h⟩, Bool.not_true, Bool.and_false]
theorem base_take {B : List CellV} {V : List Int} {c : CellV} {k : Nat} (hc : B[k]? = some c) (h : unkn V c = false) (ha : (B.take k).any (unkn V) = false) : (B.take (k + 1)).any (unkn V) = false := by
  obtain ⟨hk, e⟩ := List.getElem?_eq_some_iff.1 hc
  rw [List.take_succ_eq_append_getElem hk, e, List.any_append, ha]; simp [h]

set_option maxHeartbeats 4000000 in
set_option maxRecDepth 1000000 in
theorem rhmay_any (w : World) (h : HistV) (B : List CellV) (V : List Int) (E : List EntV) (hh : HistIs w h B V E) (hl : h.bl ≤ 1099511627776) :
    Calls Tryz.prog 18 #[h.v] w fun e w' => e = .returned (.bool (histOk h B V E)) ∧ Mine.Mod none_ w w' := by
  obtain ⟨R, hR⟩ : ∃ R, R = histOk h B V E := ⟨_, rfl⟩
  rw [← hR]
  have hble := hh.b.le
  have hbcap := hh.b.big
  have hlle := hh.e.le
  have hlcap := hh.e.big
  unfold maxLen at hbcap hlcap
  have HHB := Lib.hid hh.b
  have HHV := Lib.hid hh.v
  have HHE := Lib.hid hh.e
  have HBN := Lib.hid hh.b.n
  have HEN := Lib.hid hh.e.n
  have HR := Lib.hid hR
  clear hh hR
  obtain ⟨xba, xbl, xbc, xva, xvl, xvc, xfr, xnum, xla, xll, xlc⟩ := h
  dsimp only at hl hble hbcap hlle hlcap HHB HHV HHE HBN HEN
  obtain ⟨W0, hW0⟩ : ∃ W0, w.alloc (.cells #[.slice xba xbl xbc, .slice xva xvl xvc, .int .i64 xfr, .int .i64 xnum, .slice xla xll xlc] 26) = W0 := ⟨_, rfl⟩
  obtain ⟨K, hK⟩ : ∃ K, w.heap.size = K := ⟨_, rfl⟩
  have m0 : Mine.Mod none_ w W0 := by rw [← hW0]; exact (Mine.Mod.refl none_ w).alloc _
  have k0 : Blk W0 K [.slice xba xbl xbc, .slice xva xvl xvc, .int .i64 xfr, .int .i64 xnum, .slice xla xll xlc] 26 := by rw [← hW0, ← hK]; exact Blk.new (w := w) (cs := [.slice xba xbl xbc, .slice xva xvl xvc, .int .i64 xfr, .int .i64 xnum, .slice xla xll xlc])
  obtain ⟨cs0, hcs0⟩ : ∃ cs0 : List Value, cs0 = [.slice xba xbl xbc, .slice xva xvl xvc, .int .i64 xfr, .int .i64 xnum, .slice xla xll xlc] := ⟨_, rfl⟩
  rw [← hcs0] at k0
  have HC0 := Lib.hid (show ∀ W, Blk W K cs0 26 → W.cell? ⟨K, 0, none⟩ = some (.slice xba xbl xbc) from fun W k => by rw [k.cell, hcs0]; rfl)
  have HC1 := Lib.hid (show ∀ W, Blk W K cs0 26 → W.cell? ⟨K, 1, none⟩ = some (.slice xva xvl xvc) from fun W k => by rw [k.cell, hcs0]; rfl)
  have HC2 := Lib.hid (show ∀ W, Blk W K cs0 26 → W.cell? ⟨K, 2, none⟩ = some (.int .i64 xfr) from fun W k => by rw [k.cell, hcs0]; rfl)
  have HC3 := Lib.hid (show ∀ W, Blk W K cs0 26 → W.cell? ⟨K, 3, none⟩ = some (.int .i64 xnum) from fun W k => by rw [k.cell, hcs0]; rfl)
  have HC4 := Lib.hid (show ∀ W, Blk W K cs0 26 → W.cell? ⟨K, 4, none⟩ = some (.slice xla xll xlc) from fun W k => by rw [k.cell, hcs0]; rfl)
  have M0 := Lib.hid m0
  have K0 := Lib.hid k0
  have hKw : w.heap.size ≤ K := by omega
  have c0 := HC0.out W0 k0
  have c1 := HC1.out W0 k0
  have c2 := HC2.out W0 k0
  have c3 := HC3.out W0 k0
  have c4 := HC4.out W0 k0
  clear m0 k0 hcs0
  go_enter Tryz.func18, Tryz.ntmps18
  go_upto_region 1 with fail
  clear hW0 hK
  go_wp2_with fail
  refine (rmayDoc_any W0 xba xbl xbc B (HHB.out.grown M0.out) hl).mono ?_
  rintro e w1 ⟨rfl, m1⟩
  have M1 := Lib.hid (M0.out.trans m1)
  have K1 := Lib.hid (K0.out.mod m1 (fun e => e))
  have d0 := HC0.out w1 K1.out
  have d1 := HC1.out w1 K1.out
  have d2 := HC2.out w1 K1.out
  have d3 := HC3.out w1 K1.out
  have d4 := HC4.out w1 K1.out
  clear m1 c0 c1 c2 c3 c4 M0 K0
  by_cases hn : newE B = 0
  case neg =>
    have HE := Lib.hid (show R = false by rw [HR.out]; unfold histOk baseOk; simp [hn])
    have hb : (newE B == 0) = false := by simpa using hn
    have hb2 : (newE B != 0) = true := by simpa using hn
    generalize newE B = ne at hn hb hb2 ⊢
    go_wp2_with fail
    go_ret
    exact ⟨by rw [HE.out]; rfl, M1.out⟩
  rw [hn]
  have HNE := Lib.hid hn
  clear hn
  go_wp2_with fail
  refine (rvmay_any w1 xva xvl xvc V (HHV.out.grown M1.out)).mono ?_
  rintro e w2 ⟨rfl, m2⟩
  have M2 := Lib.hid (M1.out.trans m2)
  have K2 := Lib.hid (K1.out.mod m2 (fun e => e))
  have e0 := HC0.out w2 K2.out
  have e1 := HC1.out w2 K2.out
  have e2 := HC2.out w2 K2.out
  have e3 := HC3.out w2 K2.out
  have e4 := HC4.out w2 K2.out
  clear m2 d0 d1 d2 d3 d4 M1 K1
  cases hv : vecOk V
  case false =>
    have HE := Lib.hid (show R = false by rw [HR.out]; unfold histOk baseOk; rw [hv]; simp)
    go_wp2_with fail
    go_ret
    exact ⟨by rw [HE.out]; rfl, M2.out⟩
  have HVO := Lib.hid hv
  clear hv
  cases q1 : decide (xfr < 0)
  case true =>
    have HE := Lib.hid (show R = false by rw [HR.out]; unfold histOk; rw [nums_two]; dsimp only; rw [q1]; rfl)
    go_wp2_with fail
    go_ret
    exact ⟨by rw [HE.out]; rfl, M2.out⟩
  cases q2 : decide (xnum < xfr)
  case true =>
    have HE := Lib.hid (show R = false by rw [HR.out]; unfold histOk; rw [nums_two]; dsimp only; rw [q1, q2]; rfl)
    go_wp2_with fail
    go_ret
    exact ⟨by rw [HE.out]; rfl, M2.out⟩
  cases q3 : decide (1099511627776 < xnum)
  case true =>
    have HE := Lib.hid (show R = false by rw [HR.out]; unfold histOk; rw [nums_two]; dsimp only; rw [q1, q2, q3]; rfl)
    go_wp2_with fail
    go_ret
    exact ⟨by rw [HE.out]; rfl, M2.out⟩
  cases q4 : decide (400 < (xll : Int))
  case true =>
    have HE := Lib.hid (show R = false by rw [HR.out]; unfold histOk; rw [nums_two]; dsimp only; rw [q1, q2, q3, q4]; rfl)
    go_wp2_with fail
    go_ret
    exact ⟨by rw [HE.out]; rfl, M2.out⟩
  have HNU := Lib.hid (show numsOk ⟨xba, xbl, xbc, xva, xvl, xvc, xfr, xnum, xla, xll, xlc⟩ = true by rw [nums_two]; dsimp only; rw [q1, q2, q3, q4]; rfl)
  have hll : xll ≤ 400 := by simp at q4; omega
  go_upto_region 3 with fail
  clear e0 e1 e2 e3 e4 q1 q2 q3 q4
  have f0 := HC0.out w2 K2.out
  have f1 := HC1.out w2 K2.out
  have f2 := HC2.out w2 K2.out
  have f3 := HC3.out w2 K2.out
  have f4 := HC4.out w2 K2.out
  have HA := Lib.hid (rops_any w2.drew ⟨xba, xbl, xbc, xva, xvl, xvc, xfr, xnum, xla, xll, xlc⟩ E ((HHE.out.grown M2.out).grown (Mine.Mod.drew (Mine.Mod.refl none_ w2))) (by show xll ≤ 100000; omega))
  refine wp_region_held_drew (S := fun w' => w'.cell? ⟨K, 0, none⟩ = some (.slice xba xbl xbc) ∧ w'.cell? ⟨K, 1, none⟩ = some (.slice xva xvl xvc) ∧ w'.cell? ⟨K, 2, none⟩ = some (.int .i64 xfr) ∧ w'.cell? ⟨K, 3, none⟩ = some (.int .i64 xnum) ∧ w'.cell? ⟨K, 4, none⟩ = some (.slice xla xll xlc)) (by kernel_rfl) ⟨f0, f1, f2, f3, f4⟩ (fun hS => ?_)
  clear f0 f1 f2 f3 f4
  refine wpAnyH_take (i := 0) (v := .agg #[.slice xba xbl xbc, .slice xva xvl xvc, .int .i64 xfr, .int .i64 xnum, .slice xla xll xlc]) rfl (by kernel_rfl) (by kernel_rfl) (by kernel_rfl) (fun _ _ _ h => h) (Or.inl ⟨by kernel_rfl, ?_⟩) hS ?_
  · rintro w' ⟨q0, q1, q2, q3, q4⟩; go_simp
  try simp only [Act.put, List.setIfInBounds_toArray, List.set_cons_zero, List.set_cons_succ]
  refine wpAnyH_take (i := 2) (v := .pointer (some ⟨K, 0, none⟩)) rfl (by kernel_rfl) (by kernel_rfl) (by kernel_rfl) (fun _ _ _ h => h) (Or.inl ⟨by kernel_rfl, ?_⟩) hS ?_
  · rintro w' ⟨q0, q1, q2, q3, q4⟩; go_simp
  try simp only [Act.put, List.setIfInBounds_toArray, List.set_cons_zero, List.set_cons_succ]
  refine wpAnyH_take (i := 3) (v := .slice xba xbl xbc) rfl (by kernel_rfl) (by kernel_rfl) (by kernel_rfl) (fun _ _ _ h => h) (Or.inl ⟨by kernel_rfl, ?_⟩) hS ?_
  · rintro w' ⟨q0, q1, q2, q3, q4⟩; go_simp
  try simp only [Act.put, List.setIfInBounds_toArray, List.set_cons_zero, List.set_cons_succ]
  refine wpAnyH_take (i := 4) (v := .int .i64 (xbl : Int)) rfl (by kernel_rfl) (by kernel_rfl) (by kernel_rfl) (fun _ _ _ h => h) (Or.inl ⟨by kernel_rfl, ?_⟩) hS ?_
  · rintro w' ⟨q0, q1, q2, q3, q4⟩; go_simp
  try simp only [Act.put, List.setIfInBounds_toArray, List.set_cons_zero, List.set_cons_succ]
  refine wpAnyH_ready (rs := [1]) (by kernel_rfl) (by simp) (AllReadyH.cons rfl (fun K hK => ?_) <| AllReadyH.nil)
  go_simp
  refine HA.out.mono ?_
  rintro e w3 ⟨⟨va, n, vc, rfl, ho⟩, m1⟩
  have MA := Lib.hid m1
  have KA := Lib.hid ((K2.out.mod (Mine.Mod.drew (Mine.Mod.refl none_ w2)) (fun e => e)).mod m1 (fun e => e))
  have HO := Lib.hid (own_ops ho (fun y hy => by obtain ⟨z, hz, rfl⟩ := List.mem_map.1 hy; exact (((HHE.out.grown M2.out).ok z hz).1.grown (Mine.Mod.drew (Mine.Mod.refl none_ w2))).grown m1))
  refine hK.out _ _ ⟨HC0.out _ KA.out, HC1.out _ KA.out, HC2.out _ KA.out, HC3.out _ KA.out, HC4.out _ KA.out⟩ (fun hS => ?_)
  clear hK K
  try simp only [Act.put, List.setIfInBounds_toArray, List.set_cons_zero, List.set_cons_succ]
  clear ho m1 HA
  refine wpAnyH_ready (rs := [5]) (by kernel_rfl) (by simp) (AllReadyH.cons rfl (fun K hK => ?_) <| AllReadyH.nil)
  go_simp
  refine (rlistRun_any w3 va n vc (opsOf E) (xbl : Int) HO.out).mono ?_
  rintro e w4 ⟨rfl, m2⟩
  have M4 := Lib.hid ((M2.out.trans (Mine.Mod.drew (Mine.Mod.refl none_ w2))).trans (MA.out.trans m2))
  have K4 := Lib.hid (KA.out.mod m2 (fun e => e))
  clear m2
  obtain ⟨ov, hov⟩ := listV_shape (opsOf E) (xbl : Int)
  rw [hov]
  obtain ⟨ob, hob⟩ : ∃ ob, ob = (listRun (opsOf E) (xbl : Int)).isSome := ⟨_, rfl⟩
  rw [← hob]
  have HOB := Lib.hid hob
  clear hov hob
  refine hK.out _ _ ⟨HC0.out _ K4.out, HC1.out _ K4.out, HC2.out _ K4.out, HC3.out _ K4.out, HC4.out _ K4.out⟩ (fun hS => ?_)
  clear hK K
  try simp only [Act.put, List.setIfInBounds_toArray, List.set_cons_zero, List.set_cons_succ]
  refine wpAnyH_take (i := 6) (v := .tuple #[.int .i64 ov, .bool ob]) rfl (by kernel_rfl) (by kernel_rfl) (by kernel_rfl) (fun _ _ _ h => h) (Or.inl ⟨by kernel_rfl, ?_⟩) hS ?_
  · rintro w' ⟨q0, q1, q2, q3, q4⟩; go_simp
  try simp only [Act.put, List.setIfInBounds_toArray, List.set_cons_zero, List.set_cons_succ]
  refine wpAnyH_take (i := 7) (v := .int .i64 ov) rfl (by kernel_rfl) (by kernel_rfl) (by kernel_rfl) (fun _ _ _ h => h) (Or.inl ⟨by kernel_rfl, ?_⟩) hS ?_
  · rintro w' ⟨q0, q1, q2, q3, q4⟩; go_simp
  try simp only [Act.put, List.setIfInBounds_toArray, List.set_cons_zero, List.set_cons_succ]
  refine wpAnyH_take (i := 8) (v := .bool ob) rfl (by kernel_rfl) (by kernel_rfl) (by kernel_rfl) (fun _ _ _ h => h) (Or.inl ⟨by kernel_rfl, ?_⟩) hS ?_
  · rintro w' ⟨q0, q1, q2, q3, q4⟩; go_simp
  try simp only [Act.put, List.setIfInBounds_toArray, List.set_cons_zero, List.set_cons_succ]
  refine wpAnyH_take (i := 9) (v := .int .i64 ov) rfl (by kernel_rfl) (by kernel_rfl) (by kernel_rfl) (fun _ _ _ h => h) (Or.inl ⟨by kernel_rfl, ?_⟩) hS ?_
  · rintro w' ⟨q0, q1, q2, q3, q4⟩; go_simp
  try simp only [Act.put, List.setIfInBounds_toArray, List.set_cons_zero, List.set_cons_succ]
  refine wpAnyH_take (i := 10) (v := .bool ob) rfl (by kernel_rfl) (by kernel_rfl) (by kernel_rfl) (fun _ _ _ h => h) (Or.inl ⟨by kernel_rfl, ?_⟩) hS ?_
  · rintro w' ⟨q0, q1, q2, q3, q4⟩; go_simp
  try simp only [Act.put, List.setIfInBounds_toArray, List.set_cons_zero, List.set_cons_succ]
  refine wpAnyH_done (by kernel_rfl) ?_ _
  try simp only [List.getElem_toArray, List.getElem_cons_succ, List.getElem_cons_zero]
  try simp only [Act.put, List.setIfInBounds_toArray, List.set_cons_zero, List.set_cons_succ]
  clear hS MA KA HO M2 K2
  cases ob
  case false =>
    have HE := Lib.hid (show R = false by rw [HR.out]; unfold histOk entsOk; rw [← HOB.out]; simp)
    go_wp2_with fail
    go_ret
    exact ⟨by rw [HE.out]; rfl, M4.out⟩
  have e0 := HC0.out w4 K4.out
  go_wp2_with fail
  clear e0
  go_loopg [5] xbl (fun g s5 wx => ∃ k : Nat, g = xbl - k ∧ s5 = .int .i64 k ∧ k ≤ xbl ∧ Mine.Mod none_ w wx ∧ RowKit.Hid (Blk wx K cs0 26 ∧ (B.take k).any (unkn V) = false))
  case atStart => exact ⟨0, rfl, rfl, Nat.zero_le _, M4.out, Lib.hid ⟨K4.out, rfl⟩⟩
  case round =>
    obtain ⟨k, rfl, rfl, hk, mx, hst⟩ := hrel
    have MX := Lib.hid mx
    obtain ⟨kx, hall⟩ := hst.out
    have KX := Lib.hid kx
    have a0 := HC0.out wr kx
    have a1 := HC1.out wr kx
    have a2 := HC2.out wr kx
    have a3 := HC3.out wr kx
    have a4 := HC4.out wr kx
    by_cases hlk : k < xbl
    · obtain ⟨x, hx⟩ : ∃ x, B[k]? = some x := ⟨B[k]'(by rw [HBN.out]; exact hlk), by simp⟩
      have hxo := (HHB.out.grown mx).ok x (List.mem_of_getElem? hx)
      obtain ⟨b, off, rfl, hr⟩ := (HHB.out.grown mx).cells k x hx
      have c0 := hr 0 _ rfl
      have c1 := hr 1 _ rfl
      rw [Nat.add_zero] at c0
      have HCT := Lib.hid (show ∀ n, Calls Tryz.prog 44 #[.slice xva xvl xvc, .int .i64 x.site] (wr.drewN n) fun e w' => e = .returned (.int .i64 (cntV V x.site)) ∧ w' = wr.drewN n from fun n => rvcount_any _ xva xvl xvc V x.site ((HHV.out.grown mx).grown ((Mine.Mod.refl none_ wr).drewN n)) hxo.i1)
      have HGO := Lib.hid (fun (hb : unkn V x = false) => base_take hx hb hall)
      have HNO := Lib.hid (fun (hb : unkn V x = true) => show R = false by rw [HR.out]; unfold histOk; rw [base_no hx hb]; simp)
      obtain ⟨n, hn⟩ : ∃ n, n = cntV V x.site := ⟨_, rfl⟩
      rw [← hn] at HCT
      have HU := Lib.hid (show unkn V x = !decide (x.seq ≤ n) by rw [hn]; rfl)
      clear hx hxo hr hn kx hall hst mx
      cases hq : decide (n < x.seq)
      · have HG := Lib.hid (HGO.out (by rw [HU.out]; simp at hq ⊢; omega))
        go_wp2_with fail
        go_quiet ((go_at_call 44; exact Calls.quiet_of_same (HCT.out _)))
        have MQ := Lib.hid (MX.out.trans ((Mine.Mod.refl none_ wr).drewN nq))
        have KQ := Lib.hid (KX.out.mod ((Mine.Mod.refl none_ wr).drewN nq) (fun e => e))
        generalize wr.drewN nq = wq at MQ KQ ⊢
        clear c0 c1 a0 a1 a2 a3 a4
        go_wp2_with fail
        go_roundg (xbl - (k + 1))
        all_goals first
          | omega
          | exact ⟨k + 1, rfl, by go_num, by omega, MQ.out, Lib.hid ⟨KQ.out, HG.out⟩⟩
      · have HE := Lib.hid (HNO.out (by rw [HU.out]; simp at hq ⊢; omega))
        go_wp2_with fail
        go_quiet ((go_at_call 44; exact Calls.quiet_of_same (HCT.out _)))
        have MQ := Lib.hid (MX.out.trans ((Mine.Mod.refl none_ wr).drewN nq))
        generalize wr.drewN nq = wq at MQ ⊢
        clear c0 c1 a0 a1 a2 a3 a4
        go_wp2_with fail
        go_ret
        exact ⟨by rw [HE.out]; rfl, MQ.out⟩
    · have hkl : xbl = k := by omega
      subst hkl
      rw [List.take_of_length_le (by rw [HBN.out]; omega)] at hall
      have HBO := Lib.hid (show baseOk B V = true by unfold baseOk; rw [HNE.out, HVO.out, hall]; rfl)
      clear kx hall hst mx
      go_wp2_with fail
      clear a0 a1 a2 a3 a4
      have HALLB := Lib.hid (fun (e : E.all entOk = true) (o : orderL xfr 0 V xnum E = true) => show R = true by rw [HR.out]; unfold histOk entsOk; rw [HNU.out, HBO.out, e, ← HOB.out]; dsimp only; rw [o]; rfl)
      have HBADO := Lib.hid (fun (o : orderL xfr 0 V xnum E = false) => show R = false by rw [HR.out]; unfold histOk; dsimp only; rw [o, Bool.and_false])
      have HBADE := Lib.hid (fun (o : entsOk E (xbl : Int) = false) => show R = false by rw [HR.out]; unfold histOk; dsimp only; rw [o]; simp)
      clear HBO HNE HVO HOB HNU HR
      go_loopg [6, 7, 8, 9] xll (fun g s6 s7 s8 s9 wx => ∃ (k : Nat) (last p : Int) (va : Option Addr) (vn vc : Nat) (V' : List Int), g = xll - k ∧ s6 = .int .i64 last ∧ s7 = .int .i64 p ∧ s8 = .slice va vn vc ∧ s9 = .int .i64 k ∧ k ≤ xll ∧ Mine.Mod none_ w wx ∧ RowKit.Hid (Blk wx K cs0 26 ∧ IsVec wx va vn vc V' ∧ orderL xfr 0 V xnum E = orderL last p V' xnum (E.drop k) ∧ (E.take k).all entOk = true))
      case atStart => exact ⟨0, xfr, 0, xva, xvl, xvc, V, rfl, rfl, rfl, rfl, rfl, Nat.zero_le _, MX.out, Lib.hid ⟨KX.out, HHV.out.grown MX.out, rfl, rfl⟩⟩
      case round =>
        clear MX KX
        obtain ⟨k, last, p, va, vn, vc, V', rfl, rfl, rfl, rfl, rfl, hk, mx, hst⟩ := hrel
        have MX := Lib.hid mx
        obtain ⟨kx, hv, hR, hall⟩ := hst.out
        have KX := Lib.hid kx
        have a3 := HC3.out wr kx
        have a4 := HC4.out wr kx
        by_cases hlk : k < xll
        · obtain ⟨x, hx⟩ : ∃ x, E[k]? = some x := ⟨E[k]'(by rw [HEN.out]; exact hlk), by simp⟩
          rw [drop_cons hx, orderL_cons] at hR
          have HRO := Lib.hid hR
          have HALL := Lib.hid (fun (hb : entOk x = true) => all_snocE hx hall hb)
          have HBAD := Lib.hid (fun (hb : entOk x = false) => show R = false from HBADE.out (not_allE hx hb))
          have hxo := (HHE.out.grown mx).ok x (List.mem_of_getElem? hx)
          obtain ⟨b, off, rfl, hr⟩ := (HHE.out.grown mx).ents k x hx
          have c0 := hr 0 _ rfl
          have c1 := hr 1 _ rfl
          have c2 := hr 2 _ rfl
          have c3 := hr 3 _ rfl
          have c4 := hr 4 _ rfl
          have c5 := hr 5 _ rfl
          have c6 := hr 6 _ rfl
          have c7 := hr 7 _ rfl
          have c8 := hr 8 _ rfl
          have c9 := hr 9 _ rfl
          have c10 := hr 10 _ rfl
          have c11 := hr 11 _ rfl
          have c12 := hr 12 _ rfl
          have c13 := hr 13 _ rfl
          rw [Nat.add_zero] at c0
          have mE : Mine.Mod none_ wr (wr.alloc (.cells x.cs.toArray 35)) := (Mine.Mod.refl none_ wr).alloc _
          have ME := Lib.hid mE
          have KE := Lib.hid (Blk.new (w := wr) (cs := x.cs) (t := 35))
          have HS := Lib.hid (show ((-9223372036854775808 ≤ x.o.site ∧ x.o.site ≤ 9223372036854775807)) from hxo.1.i1)
          have HM := Lib.hid (rmayEdit_any x.ed _ (hxo.2.grown mE))
          have HVI := Lib.hid hv
          dsimp only [EntV.cs] at ME KE HM
          clear kx hv hR hst hx hxo hr mE mx hall
          go_wp2_with fail
          refine HM.out.mono ?_
          rintro e w1 ⟨rfl, m1⟩
          have MW := Lib.hid (ME.out.trans m1)
          have M1 := Lib.hid (MX.out.trans MW.out)
          have K1 := Lib.hid (KX.out.mod MW.out (fun e => e))
          have KE1 := Lib.hid (KE.out.mod m1 (fun e => e))
          have e0 : w1.cell? ⟨wr.heap.size, 0, none⟩ = some (.int .i64 x.o.site) := by rw [KE1.out.cell]; rfl
          have e1 : w1.cell? ⟨wr.heap.size, 1, none⟩ = some (.int .i64 x.o.seq) := by rw [KE1.out.cell]; rfl
          have e2 : w1.cell? ⟨wr.heap.size, 2, none⟩ = some (.int .i64 x.o.num) := by rw [KE1.out.cell]; rfl
          have e3 : w1.cell? ⟨wr.heap.size, 3, none⟩ = some (.int .i64 x.o.kind) := by rw [KE1.out.cell]; rfl
          have e7 : w1.cell? ⟨wr.heap.size, 7, none⟩ = some (.int .i64 x.ed.site) := by rw [KE1.out.cell]; rfl
          have e8 : w1.cell? ⟨wr.heap.size, 8, none⟩ = some (.int .i64 x.ed.seq) := by rw [KE1.out.cell]; rfl
          have e10 : w1.cell? ⟨wr.heap.size, 10, none⟩ = some (.int .i64 x.ed.kind) := by rw [KE1.out.cell]; rfl
          clear m1 c0 c1 c2 c3 c4 c5 c6 c7 c8 c9 c10 c11 c12 c13 HM ME KE KX MX a3 a4
          cases ho : editOk x.ed
          case false =>
            have HE := Lib.hid (HBAD.out (by unfold entOk; rw [ho]; rfl))
            go_wp2_with fail
            go_ret
            exact ⟨by rw [HE.out]; rfl, M1.out⟩
          by_cases h1 : x.ed.site = x.o.site
          case neg =>
            have HE := Lib.hid (HBAD.out (by unfold entOk; simp [h1]))
            have b1 : (x.ed.site == x.o.site) = false := by simpa using h1
            go_wp2_with fail
            go_ret
            exact ⟨by rw [HE.out]; rfl, M1.out⟩
          by_cases h2 : x.ed.seq = x.o.seq
          case neg =>
            have HE := Lib.hid (HBAD.out (by unfold entOk; simp [h2]))
            have b2 : (x.ed.seq == x.o.seq) = false := by simpa using h2
            rw [h1] at e7
            clear h1
            go_wp2_with fail
            go_ret
            exact ⟨by rw [HE.out]; rfl, M1.out⟩
          by_cases h3 : x.ed.kind = x.o.kind
          case neg =>
            have HE := Lib.hid (HBAD.out (by unfold entOk; simp [h3]))
            have b3 : (x.ed.kind == x.o.kind) = false := by simpa using h3
            rw [h1] at e7
            rw [h2] at e8
            clear h1 h2
            go_wp2_with fail
            go_ret
            exact ⟨by rw [HE.out]; rfl, M1.out⟩
          have HALL2 := Lib.hid (HALL.out (by unfold entOk; rw [ho]; simp [h1, h2, h3]))
          rw [h1] at e7
          rw [h2] at e8
          rw [h3] at e10
          clear h1 h2 h3 ho HALL HBAD
          have HM := Lib.hid (rvraise_any w1 va vn vc V' x.o.site x.o.seq (HVI.out.grown MW.out) HS.out)
          have HVO := Lib.hid HVI.out.ok
          clear HVI MW
          go_wp2_with fail
          refine HM.out.mono ?_
          rintro e w2 ⟨hr, m1⟩
          have M2 := Lib.hid (M1.out.trans m1)
          have K2 := Lib.hid (K1.out.mod m1 (fun e => e))
          have KE2 := Lib.hid (KE1.out.mod m1 (fun e => e))
          clear e0 e1 e2 e3 e7 e8 e10
          have e0 : w2.cell? ⟨wr.heap.size, 0, none⟩ = some (.int .i64 x.o.site) := by rw [KE2.out.cell]; rfl
          have e2 : w2.cell? ⟨wr.heap.size, 2, none⟩ = some (.int .i64 x.o.num) := by rw [KE2.out.cell]; rfl
          have d3 := HC3.out w2 K2.out
          clear m1 HM KE1 KE2 K1 M1
          rcases hr with ⟨hne, rfl⟩ | ⟨hz, va', vn', vc', rfl, ho⟩
          · have hb : (raiseE V' x.o.site x.o.seq == 0) = false := by simpa using hne
            have hb2 : (raiseE V' x.o.site x.o.seq != 0) = true := by simpa using hne
            have HE := Lib.hid (HBADO.out (by rw [HRO.out, if_neg hne]))
            generalize raiseE V' x.o.site x.o.seq = ee at hne hb hb2 ⊢
            clear HRO
            go_wp2_with fail
            go_ret
            exact ⟨by rw [HE.out]; rfl, M2.out⟩
          have HR2 := Lib.hid (HRO.out.trans (if_pos hz))
          have hrv := raise_vec hz
          have HV1 := Lib.hid (own_vec ho (raiseL_i64 hrv.1 HVO.out))
          have hs1 := (nameOk_site hrv.2).1
          clear ho hz hrv HRO HVO
          by_cases hn : x.o.num = 0
          · have HR3 := Lib.hid (HR2.out.trans (if_pos hn))
            rw [hn] at e2
            clear hn HR2
            by_cases hp : p = 0
            · have HG := Lib.hid (HR3.out.trans (if_pos (Or.inl hp)))
              subst hp
              clear HR3
              go_wp2_with fail
              go_roundg (xll - (k + 1))
              all_goals first
                | omega
                | exact ⟨k + 1, _, _, va', vn', vc', _, rfl, rfl, rfl, rfl, by go_num, by omega, M2.out, Lib.hid ⟨K2.out, HV1.out, HG.out, HALL2.out⟩⟩
            have hb1 : (p == 0) = false := by simpa using hp
            have hb5 : (p != 0) = true := by simpa using hp
            by_cases hq : p = x.o.site
            · have HG := Lib.hid (HR3.out.trans (if_pos (Or.inr hq)))
              rw [← hq] at e0 HG HV1 hs1
              clear hq HR3
              go_wp2_with fail
              go_roundg (xll - (k + 1))
              all_goals first
                | omega
                | exact ⟨k + 1, _, _, va', vn', vc', _, rfl, rfl, rfl, rfl, by go_num, by omega, M2.out, Lib.hid ⟨K2.out, HV1.out, HG.out, HALL2.out⟩⟩
            have HE := Lib.hid (HBADO.out (HR3.out.trans (if_neg (fun e => e.elim hp hq))))
            have hb2 : (p == x.o.site) = false := by simpa using hq
            have hb6 : (p != x.o.site) = true := by simpa using hq
            clear HR3
            go_wp2_with fail
            go_ret
            exact ⟨by rw [HE.out]; rfl, M2.out⟩
          have HR3 := Lib.hid (HR2.out.trans (if_neg hn))
          have hb3 : (x.o.num == 0) = false := by simpa using hn
          have hb4 : (x.o.num != 0) = true := by simpa using hn
          by_cases hp : p = 0
          case neg =>
            have hb1 : (p == 0) = false := by simpa using hp
            have hb5 : (p != 0) = true := by simpa using hp
            have HE := Lib.hid (HBADO.out (HR3.out.trans (if_neg (fun e => hp e.1))))
            clear HR3 HR2
            go_wp2_with fail
            go_ret
            exact ⟨by rw [HE.out]; rfl, M2.out⟩
          subst hp
          clear HR2
          cases hl1 : decide (x.o.num ≤ last)
          case true =>
            have HE := Lib.hid (HBADO.out (HR3.out.trans (if_neg (fun e => by simp at hl1; omega))))
            clear HR3
            go_wp2_with fail
            go_ret
            exact ⟨by rw [HE.out]; rfl, M2.out⟩
          cases hl2 : decide (xnum < x.o.num)
          case true =>
            have HE := Lib.hid (HBADO.out (HR3.out.trans (if_neg (fun e => by simp at hl2; omega))))
            clear HR3
            go_wp2_with fail
            go_ret
            exact ⟨by rw [HE.out]; rfl, M2.out⟩
          have HG := Lib.hid (HR3.out.trans (if_pos (by simp at hl1 hl2; omega)))
          clear HR3
          go_wp2_with fail
          go_roundg (xll - (k + 1))
          all_goals first
            | omega
            | exact ⟨k + 1, _, _, va', vn', vc', _, rfl, rfl, rfl, rfl, by go_num, by omega, M2.out, Lib.hid ⟨K2.out, HV1.out, HG.out, HALL2.out⟩⟩
        · have hkl : k = xll := by omega
          rw [List.drop_of_length_le (by rw [HEN.out]; omega)] at hR
          rw [List.take_of_length_le (by rw [HEN.out]; omega)] at hall
          have HE := Lib.hid (HALLB.out hall hR)
          clear kx hv hR hst mx hall
          go_wp2_with fail
          go_ret
          exact ⟨by rw [HE.out]; rfl, MX.out⟩

end Go.Proofs.YtlidmajcdjlcnaaGreatDoor

namespace Go.Proofs.YtlidmajcdjlcnaaGreatDoor
open Go.RowKit Go.Shelf Go.Mine
open Classical

end Go.Proofs.YtlidmajcdjlcnaaGreatDoor

namespace Go.Proofs.YtlidmajcdjlcnaaGreatDoor
open Go.RowKit Go.Shelf Go.Mine
open Classical

theorem likeE.symm {E E' : List EntV} (h : likeE E E') : likeE E' E := by
  refine ⟨h.1.symm, fun i y hy => ?_⟩
  have hi : i < E.length := by rw [← h.1]; exact (List.getElem?_eq_some_iff.1 hy).1
  obtain ⟨a, c, h2⟩ := h.2 i _ (List.getElem?_eq_getElem hi)
  rw [h2] at hy
  cases hy
  rw [List.getElem?_eq_getElem hi]
  exact ⟨E[i].o.sa, E[i].o.scap, rfl⟩
/-- What Add's answer holds. -/
def AddP (b0 : Nat) (R : Int) (h : HistV) (B : List CellV) (V : List Int) (E : List EntV) (x : EntV) (g : HistV) (BB : List CellV) (VV : List Int) (EE : List EntV) (wx : World) : Prop :=
  (R ≠ 0 → g = zeroV ∧ BB = [] ∧ VV = [] ∧ EE = []) ∧ (R = 0 → BB = B ∧ VV = V ∧ g.bl = h.bl ∧ g.vl = h.vl ∧ g.ll = h.ll + 1 ∧ g.from_ = h.from_ ∧ g.num = numP h x ∧ likeE (E ++ [x]) EE ∧ Made b0 wx g B V EE)
theorem AddP.mod {S : Nat → Prop} {b0 : Nat} {R : Int} {h g : HistV} {B BB : List CellV} {V VV : List Int} {E EE : List EntV} {x : EntV} {w w' : World} (k : AddP b0 R h B V E x g BB VV EE w) (m : Mine.Mod S w w') (hs : ∀ j, S j → ∃ cs, Blk w j cs 39 ∨ Blk w j cs 26) : AddP b0 R h B V E x g BB VV EE w' :=
  ⟨k.1, fun e => by
    obtain ⟨q1, q2, q3, q4, q5, q6, q7, q8, q9⟩ := k.2 e
    exact ⟨q1, q2, q3, q4, q5, q6, q7, q8, q9.mod m hs⟩⟩
theorem IsEnts.take {w : World} {a : Option Addr} {len cap : Nat} {l : List EntV} (h : IsEnts w a len cap l) (k : Nat) (hk : k ≤ len) : IsEnts w a k cap (l.take k) :=
  ⟨by rw [List.length_take, h.n]; omega, Nat.le_trans hk h.le, h.big, fun c hc => h.ok c (List.mem_of_mem_take hc), fun i c hc => h.ents i c (by
    rw [List.getElem?_take] at hc
    split at hc
    · exact hc
    · cases hc)⟩
end Go.Proofs.YtlidmajcdjlcnaaGreatDoor

namespace Go.Proofs.YtlidmajcdjlcnaaGreatDoor
open Go.RowKit Go.Shelf Go.Mine
open Classical

/-- What is known of a history while its numbers are written over: its bases' places, its entries' spans and places, are numbers. -/
structure Sh (wx : World) (g : HistV) (EE : List EntV) : Prop where
  b : ∀ i, i < g.bl → ∃ gb cs, g.ba = some ⟨gb, 0, none⟩ ∧ Blk wx gb cs 47 ∧ ∃ v : Int, cs[i * 5 + 2]? = some (.int .i64 v)
  e : ∀ (i : Nat) (x : EntV), EE[i]? = some x → ∃ gl cs, g.la = some ⟨gl, 0, none⟩ ∧ Blk wx gl cs 35 ∧ cs[i * 14 + 6]? = some (.slice x.o.sa x.o.slen x.o.scap) ∧ ∃ v : Int, cs[i * 14 + 11]? = some (.int .i64 v)
  s : ∀ x ∈ EE, ∀ k, k < x.o.slen → ∃ gs cs, x.o.sa = some ⟨gs, 0, none⟩ ∧ Blk wx gs cs 49 ∧ ∃ v : Int, cs[k * 2 + 1]? = some (.int .i64 v)
theorem set_int {cs : List Value} {p q : Nat} {v u : Int} (h : cs[q]? = some (.int .i64 u)) : ∃ y : Int, (cs.set p (.int .i64 v))[q]? = some (.int .i64 y) := by
  rw [List.getElem?_set]
  by_cases hp : p = q
  · subst hp
    have hq := (List.getElem?_eq_some_iff.1 h).1
    rw [if_pos rfl, if_pos hq]
    exact ⟨v, rfl⟩
  · rw [if_neg hp]
    exact ⟨u, h⟩
theorem blk_same {w : World} {b : Nat} {cs cs' : List Value} {t t' : TypeId} (h : Blk w b cs t) (h' : Blk w b cs' t') : cs = cs' ∧ t = t' := by
  have e := Option.some.inj (h.symm.trans h')
  injection e with e1 e2 _
  exact ⟨by simpa using e1, e2⟩
theorem Sh.set {wx : World} {g : HistV} {EE : List EntV} {b : Nat} {cs : List Value} {t : TypeId} (k : Sh wx g EE) (hb : Blk wx b cs t) (p : Nat) (v : Int) (hp : t = 35 → p % 14 = 11) : Sh (wx.setCell ⟨b, p, none⟩ (.int .i64 v)) g EE := by
  have mS := (Mine.Mod.refl (one b) wx).setCell ⟨b, p, none⟩ (fun _ => rfl) (.int .i64 v)
  have hn := hb.set p (.int .i64 v)
  refine ⟨fun i hi => ?_, fun i x hx => ?_, fun x hx j hj => ?_⟩
  · obtain ⟨gb, ds, h1, h2, u, h3⟩ := k.b i hi
    by_cases e : gb = b
    · subst e
      obtain ⟨rfl, rfl⟩ := blk_same h2 hb
      exact ⟨gb, _, h1, hn, set_int h3⟩
    · exact ⟨gb, ds, h1, h2.mod mS e, u, h3⟩
  · obtain ⟨gl, ds, h1, h2, h3, u, h4⟩ := k.e i x hx
    by_cases e : gl = b
    · subst e
      obtain ⟨rfl, rfl⟩ := blk_same h2 hb
      refine ⟨gl, _, h1, hn, ?_, set_int h4⟩
      have := hp rfl
      rw [List.getElem?_set, if_neg (by omega)]
      exact h3
    · exact ⟨gl, ds, h1, h2.mod mS e, h3, u, h4⟩
  · obtain ⟨gs, ds, h1, h2, u, h3⟩ := k.s x hx j hj
    by_cases e : gs = b
    · subst e
      obtain ⟨rfl, rfl⟩ := blk_same h2 hb
      exact ⟨gs, _, h1, hn, set_int h3⟩
    · exact ⟨gs, ds, h1, h2.mod mS e, u, h3⟩
theorem Sh.grown {w w' : World} {g : HistV} {EE : List EntV} (k : Sh w g EE) (m : Mine.Mod none_ w w') : Sh w' g EE :=
  ⟨fun i hi => by obtain ⟨gb, ds, h1, h2, u, h3⟩ := k.b i hi; exact ⟨gb, ds, h1, h2.mod m (fun e => e), u, h3⟩,
   fun i x hx => by obtain ⟨gl, ds, h1, h2, h3, u, h4⟩ := k.e i x hx; exact ⟨gl, ds, h1, h2.mod m (fun e => e), h3, u, h4⟩,
   fun x hx j hj => by obtain ⟨gs, ds, h1, h2, u, h3⟩ := k.s x hx j hj; exact ⟨gs, ds, h1, h2.mod m (fun e => e), u, h3⟩⟩
end Go.Proofs.YtlidmajcdjlcnaaGreatDoor
