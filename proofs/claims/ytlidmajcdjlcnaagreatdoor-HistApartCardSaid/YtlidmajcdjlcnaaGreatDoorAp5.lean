/-
  Texts on which the claim rests, one behind the other: His25 Open Read1 His19 Read2 His26 Apt2.
-/
import Derived.Test.YtlidmajcdjlcnaaGreatDoorAp4
import Derived.WalkKit
import Derived.ProofKit
import Derived.OpenShut
import Derived.ShutString
import Derived.ChangeOld
import Derived.ChangeSame
import Derived.Deep.Slices
import Derived.Deep.Fields
import Derived.Lib.SmallJoins

set_option linter.unusedSimpArgs false
set_option linter.unusedVariables false

namespace Go.Proofs.YtlidmajcdjlcnaaGreatDoor
open Go.RowKit Go.Shelf Go.Mine
open Classical

/-- What the document's Add leaves. -/
def RAddTo (w : World) (R : Int) (h : HistV) (E : List EntV) (x : EntV) (e : Ending) (w' : World) : Prop :=
  Mine.Mod none_ w w' ∧ (R ≠ 0 → e = .returned (.tuple #[zeroH, .int .i64 R])) ∧ (R = 0 → ∃ (la : Option Addr) (lc : Nat), e = .returned (.tuple #[.agg #[.slice h.ba h.bl h.bc, .slice h.va h.vl h.vc, .int .i64 h.from_, .int .i64 (numP h x), .slice la (h.ll + 1) lc], .int .i64 0]) ∧ w'.ownsRow w.heap.size 35 14 (.slice la (h.ll + 1) lc) (h.ll + 1) (flat EntV.cs (E ++ [x])))
theorem IsEnts.row {w : World} {b off len cap : Nat} {l : List EntV} (h : IsEnts w (some ⟨b, off, none⟩) len cap l) : w.rangeAt b off (flat EntV.cs l) := by
  intro j v hv
  have hj : j < l.length * 14 := by
    have := (List.getElem?_eq_some_iff.1 hv).1
    rw [flat_length EntV.len] at this; exact this
  have hi : j / 14 < l.length := by omega
  have hx : l[j / 14]? = some (l[j / 14]'hi) := List.getElem?_eq_getElem _
  obtain ⟨b', off', e, hr⟩ := h.ents (j / 14) _ hx
  cases e
  have hg := flat_get EntV.len l (j / 14) (j % 14) _ hx (Nat.mod_lt _ (by decide))
  rw [show j / 14 * 14 + j % 14 = j by omega, hv] at hg
  have := hr (j % 14) v hg.symm
  rwa [show off + j / 14 * 14 + j % 14 = off + j by omega] at this
theorem flat_onesE (l : List EntV) : ∀ v ∈ flat EntV.cs l, v.oneCell' = true := by
  intro v hv
  unfold flat at hv
  obtain ⟨c, _, hc⟩ := List.mem_flatMap.1 hv
  exact EntV.ones c v hc
/-- Entries behind others: append. -/
theorem app_ents {W : World} {B n vc len cap : Nat} {va a : Option Addr} {xs l : List EntV} (ho : W.ownsRow B 35 14 (.slice va n vc) n (flat EntV.cs xs)) (h : IsEnts W a len cap l) (hb : n + len ≤ 1000000) (hB : B ≤ W.heap.size) :
    ∃ va' vc' w', (Builtin.append_ #[24, 24] 24 #[.slice va n vc, .slice a len cap]).run Tryz.prog W = .ok (.slice va' (n + len) vc') w' ∧
      w'.ownsRow B 35 14 (.slice va' (n + len) vc') (n + len) (flat EntV.cs (xs ++ l)) ∧ Mine.Mod (fun k => (Value.slice va n vc).ownBlock = some k) W w' := by
  obtain ⟨i0, hi0, hz0, hz1, hz2⟩ := info_parts infoEnt
  by_cases hl0 : len = 0
  · subst hl0
    have hl : l = [] := List.eq_nil_of_length_eq_zero h.n
    subst hl
    have hle : n ≤ vc := by
      rcases ownsRow_blk ho with ⟨h1, h2, _⟩ | ⟨g, cap, more, h1, _, _, h2, _⟩
      · omega
      · cases h1; exact h2
    refine ⟨va, vc, W, ?_, by simpa using ho, Mine.Mod.refl _ _⟩
    have hs := src_zero (P := Tryz.prog) (size := i0.size) W Tryz.underlying24 a cap
    have := run_append_nothing (P := Tryz.prog) W 24 24 24 35 i0 Tryz.underlying24 hi0 va n vc hle _ hs
    simpa using this
  · obtain ⟨c, hc⟩ : ∃ x, l[0]? = some x := ⟨l[0]'(by rw [h.n]; omega), by simp⟩
    obtain ⟨b, off, rfl, _⟩ := h.ents 0 c hc
    have hr := h.row
    obtain ⟨v', w', hrun, hown, hgrow, _⟩ := run_append_own (P := Tryz.prog) W B 24 24 35 i0 _ 14 144 Tryz.underlying24 hi0 hz0 hz1 hz2 rfl (by decide) (.slice va n vc) n _ ho ⟨b, off, none⟩ len cap (flat EntV.cs l) (by rw [flat_length EntV.len, h.n]) (fun j u hj => by rw [Addr.add_lit]; exact hr j u hj) (flat_onesE l) (by unfold maxLen; omega) (by omega) hB
    obtain ⟨va', vc', rfl⟩ : ∃ va' vc', v' = .slice va' (n + len) vc' := by
      rcases ownsRow_blk hown with ⟨_, h0, _⟩ | ⟨g', c', _, rfl, _⟩
      · omega
      · exact ⟨_, c', rfl⟩
    refine ⟨va', vc', w', hrun, ?_, (Mine.Mod.refl _ _).grown hgrow (fun k e _ => e)⟩
    rw [flat_append]; exact hown
/-- The document's Add, the list grown by the entry. -/
def RAddMid (w : World) (h : HistV) (E : List EntV) (x : EntV) (wx : World) : Prop :=
  ∃ (la : Option Addr) (lc : Nat), Blk wx w.heap.size [.slice h.ba h.bl h.bc, .slice h.va h.vl h.vc, .int .i64 h.from_, .int .i64 h.num, .slice la (h.ll + 1) lc] 26 ∧ wx.ownsRow (w.heap.size + 1 + 1 + 1) 35 14 (.slice la (h.ll + 1) lc) (h.ll + 1) (flat EntV.cs (E ++ [x])) ∧ Mine.Mod none_ w wx ∧ Blk wx (w.heap.size + 1) x.cs 35 ∧ Blk wx (w.heap.size + 1 + 1) [.slice none 0 0, .slice none 0 0, .int .i64 0, .int .i64 0, .slice none 0 0] 26

set_option maxHeartbeats 4000000 in
set_option maxRecDepth 1000000 in
theorem radd_any (w : World) (h : HistV) (x : EntV) (B : List CellV) (V : List Int) (E : List EntV) (hh : HistIs w h B V E) (hx : x.o.ok w x.sp ∧ x.ed.ok w) (hl : h.bl ≤ 1099511627776) :
    Calls Tryz.prog 13 #[h.v, x.v] w (RAddTo w (addE h B V E x) h E x) := by
  have hle := hh.e.le
  have hcap := hh.e.big
  unfold maxLen at hcap
  have hnl : numN E ≤ h.ll := by have := numN_le E; rwa [hh.e.n] at this
  have HMAY := Lib.hid (show ∀ W, Mine.Mod none_ w W → Calls Tryz.prog 18 #[h.v] W fun e w' => e = .returned (.bool (histOk h B V E)) ∧ Mine.Mod none_ W w' from fun W m => rhmay_any W h B V E (hh.grown m) hl)
  have HNUM := Lib.hid (show ∀ W, Mine.Mod none_ w W → Calls Tryz.prog 19 #[h.v] W fun e w' => e = .returned (.int .i64 (numN E : Int)) ∧ Mine.Mod none_ W w' from fun W m => rnumbered_any W h E (hh.e.grown m))
  have HH := Lib.hid hh
  have HX := Lib.hid hx
  obtain ⟨R, hR⟩ : ∃ R, R = addE h B V E x := ⟨_, rfl⟩
  rw [← hR]
  have HR := Lib.hid hR
  obtain ⟨R1, hR1⟩ : ∃ R1, R1 = histOk h B V E := ⟨_, rfl⟩
  rw [← hR1] at HMAY
  have HR1 := Lib.hid hR1
  have HXI := Lib.hid hx.1.i3
  obtain ⟨nn, hnn⟩ : ∃ nn, nn = numN E := ⟨_, rfl⟩
  rw [← hnn] at HNUM hnl
  have HNN := Lib.hid hnn
  clear hR hR1 hh hx hnn
  obtain ⟨xba, xbl, xbc, xva, xvl, xvc, xfr, xnum, xla, xll, xlc⟩ := h
  dsimp only at hl hle hcap hnl HMAY HNUM
  obtain ⟨W0, hW0⟩ : ∃ W0, ((w.alloc (.cells #[.slice xba xbl xbc, .slice xva xvl xvc, .int .i64 xfr, .int .i64 xnum, .slice xla xll xlc] 26)).alloc (.cells #[.int .i64 x.o.site, .int .i64 x.o.seq, .int .i64 x.o.num, .int .i64 x.o.kind, .int .i64 x.o.at_, .string x.o.text, .slice x.o.sa x.o.slen x.o.scap, .int .i64 x.ed.site, .int .i64 x.ed.seq, .int .i64 x.ed.ctx, .int .i64 x.ed.kind, .int .i64 x.ed.at_, .int .i64 x.ed.len, .string x.ed.text] 35)).alloc (.cells #[.slice none 0 0, .slice none 0 0, .int .i64 0, .int .i64 0, .slice none 0 0] 26) = W0 := ⟨_, rfl⟩
  have m0 : Mine.Mod none_ w W0 := by rw [← hW0]; exact (((Mine.Mod.refl none_ w).alloc _).alloc _).alloc _
  have k0 : Blk W0 (w.heap.size) [.slice xba xbl xbc, .slice xva xvl xvc, .int .i64 xfr, .int .i64 xnum, .slice xla xll xlc] 26 := by
    have hb := Blk.new (w := w) (cs := [.slice xba xbl xbc, .slice xva xvl xvc, .int .i64 xfr, .int .i64 xnum, .slice xla xll xlc]) (t := 26)
    rw [← hW0]
    exact hb.mod (((Mine.Mod.refl none_ _).alloc _).alloc _) (fun e => e)
  have k1 : Blk W0 (w.heap.size + 1) [.int .i64 x.o.site, .int .i64 x.o.seq, .int .i64 x.o.num, .int .i64 x.o.kind, .int .i64 x.o.at_, .string x.o.text, .slice x.o.sa x.o.slen x.o.scap, .int .i64 x.ed.site, .int .i64 x.ed.seq, .int .i64 x.ed.ctx, .int .i64 x.ed.kind, .int .i64 x.ed.at_, .int .i64 x.ed.len, .string x.ed.text] 35 := by
    have hb := Blk.new (w := (w.alloc (.cells #[.slice xba xbl xbc, .slice xva xvl xvc, .int .i64 xfr, .int .i64 xnum, .slice xla xll xlc] 26))) (cs := [.int .i64 x.o.site, .int .i64 x.o.seq, .int .i64 x.o.num, .int .i64 x.o.kind, .int .i64 x.o.at_, .string x.o.text, .slice x.o.sa x.o.slen x.o.scap, .int .i64 x.ed.site, .int .i64 x.ed.seq, .int .i64 x.ed.ctx, .int .i64 x.ed.kind, .int .i64 x.ed.at_, .int .i64 x.ed.len, .string x.ed.text]) (t := 35)
    simp only [World.size_alloc] at hb
    rw [← hW0]
    exact hb.mod ((Mine.Mod.refl none_ _).alloc _) (fun e => e)
  have k2 : Blk W0 (w.heap.size + 1 + 1) [.slice none 0 0, .slice none 0 0, .int .i64 0, .int .i64 0, .slice none 0 0] 26 := by
    have hb := Blk.new (w := ((w.alloc (.cells #[.slice xba xbl xbc, .slice xva xvl xvc, .int .i64 xfr, .int .i64 xnum, .slice xla xll xlc] 26)).alloc (.cells #[.int .i64 x.o.site, .int .i64 x.o.seq, .int .i64 x.o.num, .int .i64 x.o.kind, .int .i64 x.o.at_, .string x.o.text, .slice x.o.sa x.o.slen x.o.scap, .int .i64 x.ed.site, .int .i64 x.ed.seq, .int .i64 x.ed.ctx, .int .i64 x.ed.kind, .int .i64 x.ed.at_, .int .i64 x.ed.len, .string x.ed.text] 35))) (cs := [.slice none 0 0, .slice none 0 0, .int .i64 0, .int .i64 0, .slice none 0 0]) (t := 26)
    simp only [World.size_alloc] at hb
    rw [← hW0]
    exact hb.mod (Mine.Mod.refl none_ _) (fun e => e)
  have hs0 : W0.heap.size = w.heap.size + 1 + 1 + 1 := by rw [← hW0]; simp only [World.size_alloc]
  have M0 := Lib.hid m0
  have A0 := Lib.hid k0
  have B0 := Lib.hid k1
  have C0 := Lib.hid k2
  have a0 := k0.cell 0
  have a1 := k0.cell 1
  have a2 := k0.cell 2
  have a3 := k0.cell 3
  have a4 := k0.cell 4
  simp only [List.getElem?_cons_zero, List.getElem?_cons_succ] at a0 a1 a2 a3 a4
  clear m0 k0 k1 k2 hs0
  have HM := Lib.hid (HMAY.out W0 M0.out)
  go_enter Tryz.func13, Tryz.ntmps13
  go_upto_region 1 with fail
  clear hW0
  go_wp2_with fail
  refine HM.out.mono ?_
  rintro e w1 ⟨rfl, m1⟩
  have M1 := Lib.hid (M0.out.trans m1)
  have A1 := Lib.hid (A0.out.mod m1 (fun e => e))
  have B1 := Lib.hid (B0.out.mod m1 (fun e => e))
  have C1 := Lib.hid (C0.out.mod m1 (fun e => e))
  clear m1 a0 a1 a2 a3 a4 HM
  cases R1
  · have HE := Lib.hid (show R = 1 by rw [HR.out]; unfold addE; rw [← HR1.out]; rfl)
    have d0 := C1.out.cell 0
    have d1 := C1.out.cell 1
    have d2 := C1.out.cell 2
    have d3 := C1.out.cell 3
    have d4 := C1.out.cell 4
    simp only [List.getElem?_cons_zero, List.getElem?_cons_succ] at d0 d1 d2 d3 d4
    have r0 := C1.out.frozen 0
    have r1 := C1.out.frozen 1
    have r2 := C1.out.frozen 2
    have r3 := C1.out.frozen 3
    have r4 := C1.out.frozen 4
    have KF := Lib.hid (((((C1.out.set 0 (.slice none 0 0)).set 1 (.slice none 0 0)).set 2 (.int .i64 0)).set 3 (.int .i64 0)).set 4 (.slice none 0 0))
    have mT := ((((((Mine.Mod.refl (one (w.heap.size + 1 + 1)) w1).setCell ⟨w.heap.size + 1 + 1, 0, none⟩ (fun _ => rfl) (.slice none 0 0)).setCell ⟨w.heap.size + 1 + 1, 1, none⟩ (fun _ => rfl) (.slice none 0 0)).setCell ⟨w.heap.size + 1 + 1, 2, none⟩ (fun _ => rfl) (.int .i64 0)).setCell ⟨w.heap.size + 1 + 1, 3, none⟩ (fun _ => rfl) (.int .i64 0)).setCell ⟨w.heap.size + 1 + 1, 4, none⟩ (fun _ => rfl) (.slice none 0 0))
    have MF := Lib.hid (M1.out.transIn mT (fun b hb e => by have e' : b = w.heap.size + 1 + 1 := e; omega))
    clear mT
    go_wp2_with fail
    exact bodyPost_ret (results_rht rfl _ _ (w.heap.size + 1 + 1) [.slice none 0 0, .slice none 0 0, .int .i64 0, .int .i64 0, .slice none 0 0] rfl rfl (blk_range KF.out)) rfl ⟨MF.out, fun _ => by rw [HE.out]; rfl, fun e => absurd (HE.out.symm.trans e) (by decide)⟩
  have HNS := Lib.hid (histOk_nums HR1.out.symm)
  dsimp only at HNS
  have a0 := A1.out.cell 0
  have a1 := A1.out.cell 1
  have a2 := A1.out.cell 2
  have a3 := A1.out.cell 3
  have a4 := A1.out.cell 4
  simp only [List.getElem?_cons_zero, List.getElem?_cons_succ] at a0 a1 a2 a3 a4
  by_cases hll : xll = 400
  · have HE := Lib.hid (show R = 5 by rw [HR.out]; unfold addE; rw [if_pos HR1.out.symm, if_pos hll])
    subst hll
    clear HNS
    go_upto_region 4 with fail
    clear a0 a1 a2 a3 a4
    have d0 := C1.out.cell 0
    have d1 := C1.out.cell 1
    have d2 := C1.out.cell 2
    have d3 := C1.out.cell 3
    have d4 := C1.out.cell 4
    simp only [List.getElem?_cons_zero, List.getElem?_cons_succ] at d0 d1 d2 d3 d4
    have r0 := C1.out.frozen 0
    have r1 := C1.out.frozen 1
    have r2 := C1.out.frozen 2
    have r3 := C1.out.frozen 3
    have r4 := C1.out.frozen 4
    have KF := Lib.hid (((((C1.out.set 0 (.slice none 0 0)).set 1 (.slice none 0 0)).set 2 (.int .i64 0)).set 3 (.int .i64 0)).set 4 (.slice none 0 0))
    have mT := ((((((Mine.Mod.refl (one (w.heap.size + 1 + 1)) w1).setCell ⟨w.heap.size + 1 + 1, 0, none⟩ (fun _ => rfl) (.slice none 0 0)).setCell ⟨w.heap.size + 1 + 1, 1, none⟩ (fun _ => rfl) (.slice none 0 0)).setCell ⟨w.heap.size + 1 + 1, 2, none⟩ (fun _ => rfl) (.int .i64 0)).setCell ⟨w.heap.size + 1 + 1, 3, none⟩ (fun _ => rfl) (.int .i64 0)).setCell ⟨w.heap.size + 1 + 1, 4, none⟩ (fun _ => rfl) (.slice none 0 0))
    have MF := Lib.hid (M1.out.transIn mT (fun b hb e => by have e' : b = w.heap.size + 1 + 1 := e; omega))
    clear mT
    go_wp2_with fail
    exact bodyPost_ret (results_rht rfl _ _ (w.heap.size + 1 + 1) [.slice none 0 0, .slice none 0 0, .int .i64 0, .int .i64 0, .slice none 0 0] rfl rfl (blk_range KF.out)) rfl ⟨MF.out, fun _ => by rw [HE.out]; rfl, fun e => absurd (HE.out.symm.trans e) (by decide)⟩
  have q4 : ((xll : Int) == 400) = false := by simp; omega
  have HLL := Lib.hid hll
  go_upto_region 5 with fail
  clear q4 hll a0 a1 a2 a3 a4
  obtain ⟨bb, hbb⟩ : ∃ bb, bb = (decide (x.o.num ≠ 0) && decide ((nn : Int) < (xll : Int))) := ⟨_, rfl⟩
  have HBB := Lib.hid hbb
  clear hbb
  go_cut [26] from 15 to 26 (fun s26 wx => s26 = .bool bb ∧ Mine.Mod none_ w1 wx)
  case first =>
    have f0 : w1.cell? ⟨w.heap.size, 0, none⟩ = some (.slice xba xbl xbc) := by rw [A1.out.cell]; rfl
    have f1 : w1.cell? ⟨w.heap.size, 1, none⟩ = some (.slice xva xvl xvc) := by rw [A1.out.cell]; rfl
    have f2 : w1.cell? ⟨w.heap.size, 2, none⟩ = some (.int .i64 xfr) := by rw [A1.out.cell]; rfl
    have f3 : w1.cell? ⟨w.heap.size, 3, none⟩ = some (.int .i64 xnum) := by rw [A1.out.cell]; rfl
    have f4 : w1.cell? ⟨w.heap.size, 4, none⟩ = some (.slice xla xll xlc) := by rw [A1.out.cell]; rfl
    have g2 : w1.cell? ⟨w.heap.size + 1, 2, none⟩ = some (.int .i64 x.o.num) := by rw [B1.out.cell]; rfl
    by_cases hz : x.o.num = 0
    · have hb0 : bb = false := by rw [HBB.out]; simp [hz]
      subst hb0
      have hzb : (x.o.num != 0) = false := by simp [hz]
      refine wp_region_held_drew (S := fun w' => w'.cell? ⟨w.heap.size, 0, none⟩ = some (.slice xba xbl xbc) ∧ w'.cell? ⟨w.heap.size, 1, none⟩ = some (.slice xva xvl xvc) ∧ w'.cell? ⟨w.heap.size, 2, none⟩ = some (.int .i64 xfr) ∧ w'.cell? ⟨w.heap.size, 3, none⟩ = some (.int .i64 xnum) ∧ w'.cell? ⟨w.heap.size, 4, none⟩ = some (.slice xla xll xlc) ∧ w'.cell? ⟨w.heap.size + 1, 2, none⟩ = some (.int .i64 x.o.num)) (by kernel_rfl) ⟨f0, f1, f2, f3, f4, g2⟩ (fun hS => ?_)
      clear f0 f1 f2 f3 f4 g2 hz
      refine wpAnyH_take (i := 0) (v := .pointer (some ⟨w.heap.size + 1, 0, none⟩)) rfl (by kernel_rfl) (by kernel_rfl) (by kernel_rfl) (fun _ _ _ h => h) (Or.inl ⟨by kernel_rfl, ?_⟩) hS ?_
      · rintro w' ⟨q0, q1, q2, q3, q4, q5⟩; go_simp
      try simp only [Act.put, List.setIfInBounds_toArray, List.set_cons_zero, List.set_cons_succ]
      refine wpAnyH_take (i := 1) (v := .pointer (some ⟨w.heap.size + 1, 2, none⟩)) rfl (by kernel_rfl) (by kernel_rfl) (by kernel_rfl) (fun _ _ _ h => h) (Or.inl ⟨by kernel_rfl, ?_⟩) hS ?_
      · rintro w' ⟨q0, q1, q2, q3, q4, q5⟩; go_simp
      try simp only [Act.put, List.setIfInBounds_toArray, List.set_cons_zero, List.set_cons_succ]
      refine wpAnyH_take (i := 2) (v := .int .i64 x.o.num) rfl (by kernel_rfl) (by kernel_rfl) (by kernel_rfl) (fun _ _ _ h => h) (Or.inl ⟨by kernel_rfl, ?_⟩) hS ?_
      · rintro w' ⟨q0, q1, q2, q3, q4, q5⟩; go_simp
      try simp only [Act.put, List.setIfInBounds_toArray, List.set_cons_zero, List.set_cons_succ]
      refine wpAnyH_take (i := 3) (v := .bool false) rfl (by kernel_rfl) (by kernel_rfl) (by kernel_rfl) (fun _ _ _ h => h) (Or.inl ⟨by kernel_rfl, ?_⟩) hS ?_
      · rintro w' ⟨q0, q1, q2, q3, q4, q5⟩; go_simp
      try simp only [Act.put, List.setIfInBounds_toArray, List.set_cons_zero, List.set_cons_succ]
      refine wpAnyH_take (i := 4) (v := .bool false) rfl (by kernel_rfl) (by kernel_rfl) (by kernel_rfl) (fun _ _ _ h => h) (Or.inl ⟨by kernel_rfl, ?_⟩) hS ?_
      · rintro w' ⟨q0, q1, q2, q3, q4, q5⟩; go_simp
      try simp only [Act.put, List.setIfInBounds_toArray, List.set_cons_zero, List.set_cons_succ]
      refine wpAnyH_take (i := 5) (v := undef) rfl (by kernel_rfl) (by kernel_rfl) (by kernel_rfl) (fun _ _ _ h => h) (Or.inr ⟨by kernel_rfl, rfl⟩) hS ?_
      try simp only [Act.put, List.setIfInBounds_toArray, List.set_cons_zero, List.set_cons_succ]
      refine wpAnyH_take (i := 6) (v := undef) rfl (by kernel_rfl) (by kernel_rfl) (by kernel_rfl) (fun _ _ _ h => h) (Or.inr ⟨by kernel_rfl, rfl⟩) hS ?_
      try simp only [Act.put, List.setIfInBounds_toArray, List.set_cons_zero, List.set_cons_succ]
      refine wpAnyH_take (i := 7) (v := undef) rfl (by kernel_rfl) (by kernel_rfl) (by kernel_rfl) (fun _ _ _ h => h) (Or.inr ⟨by kernel_rfl, rfl⟩) hS ?_
      try simp only [Act.put, List.setIfInBounds_toArray, List.set_cons_zero, List.set_cons_succ]
      refine wpAnyH_take (i := 8) (v := undef) rfl (by kernel_rfl) (by kernel_rfl) (by kernel_rfl) (fun _ _ _ h => h) (Or.inr ⟨by kernel_rfl, rfl⟩) hS ?_
      try simp only [Act.put, List.setIfInBounds_toArray, List.set_cons_zero, List.set_cons_succ]
      refine wpAnyH_take (i := 9) (v := undef) rfl (by kernel_rfl) (by kernel_rfl) (by kernel_rfl) (fun _ _ _ h => h) (Or.inr ⟨by kernel_rfl, rfl⟩) hS ?_
      try simp only [Act.put, List.setIfInBounds_toArray, List.set_cons_zero, List.set_cons_succ]
      refine wpAnyH_take (i := 10) (v := undef) rfl (by kernel_rfl) (by kernel_rfl) (by kernel_rfl) (fun _ _ _ h => h) (Or.inr ⟨by kernel_rfl, rfl⟩) hS ?_
      try simp only [Act.put, List.setIfInBounds_toArray, List.set_cons_zero, List.set_cons_succ]
      refine wpAnyH_take (i := 11) (v := .bool false) rfl (by kernel_rfl) (by kernel_rfl) (by kernel_rfl) (fun _ _ _ h => h) (Or.inl ⟨by kernel_rfl, ?_⟩) hS ?_
      · rintro w' ⟨q0, q1, q2, q3, q4, q5⟩; go_simp
      try simp only [Act.put, List.setIfInBounds_toArray, List.set_cons_zero, List.set_cons_succ]
      refine wpAnyH_done (by kernel_rfl) ?_ _
      try simp only [List.getElem_toArray, List.getElem_cons_succ, List.getElem_cons_zero]
      try simp only [Act.put, List.setIfInBounds_toArray, List.set_cons_zero, List.set_cons_succ]
      go_wp2_with fail
      go_meet
      exact ⟨rfl, Mine.Mod.drew (Mine.Mod.refl none_ w1)⟩
    · have hb0 : bb = decide ((nn : Int) < (xll : Int)) := by rw [HBB.out]; simp [hz]
      subst hb0
      have hzb : (x.o.num != 0) = true := by simp [hz]
      refine wp_region_held_drew (S := fun w' => w'.cell? ⟨w.heap.size, 0, none⟩ = some (.slice xba xbl xbc) ∧ w'.cell? ⟨w.heap.size, 1, none⟩ = some (.slice xva xvl xvc) ∧ w'.cell? ⟨w.heap.size, 2, none⟩ = some (.int .i64 xfr) ∧ w'.cell? ⟨w.heap.size, 3, none⟩ = some (.int .i64 xnum) ∧ w'.cell? ⟨w.heap.size, 4, none⟩ = some (.slice xla xll xlc) ∧ w'.cell? ⟨w.heap.size + 1, 2, none⟩ = some (.int .i64 x.o.num)) (by kernel_rfl) ⟨f0, f1, f2, f3, f4, g2⟩ (fun hS => ?_)
      clear f0 f1 f2 f3 f4 g2 hz
      refine wpAnyH_take (i := 0) (v := .pointer (some ⟨w.heap.size + 1, 0, none⟩)) rfl (by kernel_rfl) (by kernel_rfl) (by kernel_rfl) (fun _ _ _ h => h) (Or.inl ⟨by kernel_rfl, ?_⟩) hS ?_
      · rintro w' ⟨q0, q1, q2, q3, q4, q5⟩; go_simp
      try simp only [Act.put, List.setIfInBounds_toArray, List.set_cons_zero, List.set_cons_succ]
      refine wpAnyH_take (i := 1) (v := .pointer (some ⟨w.heap.size + 1, 2, none⟩)) rfl (by kernel_rfl) (by kernel_rfl) (by kernel_rfl) (fun _ _ _ h => h) (Or.inl ⟨by kernel_rfl, ?_⟩) hS ?_
      · rintro w' ⟨q0, q1, q2, q3, q4, q5⟩; go_simp
      try simp only [Act.put, List.setIfInBounds_toArray, List.set_cons_zero, List.set_cons_succ]
      refine wpAnyH_take (i := 2) (v := .int .i64 x.o.num) rfl (by kernel_rfl) (by kernel_rfl) (by kernel_rfl) (fun _ _ _ h => h) (Or.inl ⟨by kernel_rfl, ?_⟩) hS ?_
      · rintro w' ⟨q0, q1, q2, q3, q4, q5⟩; go_simp
      try simp only [Act.put, List.setIfInBounds_toArray, List.set_cons_zero, List.set_cons_succ]
      refine wpAnyH_take (i := 3) (v := .bool true) rfl (by kernel_rfl) (by kernel_rfl) (by kernel_rfl) (fun _ _ _ h => h) (Or.inl ⟨by kernel_rfl, ?_⟩) hS ?_
      · rintro w' ⟨q0, q1, q2, q3, q4, q5⟩; go_simp
      try simp only [Act.put, List.setIfInBounds_toArray, List.set_cons_zero, List.set_cons_succ]
      refine wpAnyH_take (i := 4) (v := .bool true) rfl (by kernel_rfl) (by kernel_rfl) (by kernel_rfl) (fun _ _ _ h => h) (Or.inl ⟨by kernel_rfl, ?_⟩) hS ?_
      · rintro w' ⟨q0, q1, q2, q3, q4, q5⟩; go_simp
      try simp only [Act.put, List.setIfInBounds_toArray, List.set_cons_zero, List.set_cons_succ]
      refine wpAnyH_take (i := 5) (v := .agg #[.slice xba xbl xbc, .slice xva xvl xvc, .int .i64 xfr, .int .i64 xnum, .slice xla xll xlc]) rfl (by kernel_rfl) (by kernel_rfl) (by kernel_rfl) (fun _ _ _ h => h) (Or.inl ⟨by kernel_rfl, ?_⟩) hS ?_
      · rintro w' ⟨q0, q1, q2, q3, q4, q5⟩; go_simp
      try simp only [Act.put, List.setIfInBounds_toArray, List.set_cons_zero, List.set_cons_succ]
      refine wpAnyH_take (i := 7) (v := .pointer (some ⟨w.heap.size, 4, none⟩)) rfl (by kernel_rfl) (by kernel_rfl) (by kernel_rfl) (fun _ _ _ h => h) (Or.inl ⟨by kernel_rfl, ?_⟩) hS ?_
      · rintro w' ⟨q0, q1, q2, q3, q4, q5⟩; go_simp
      try simp only [Act.put, List.setIfInBounds_toArray, List.set_cons_zero, List.set_cons_succ]
      refine wpAnyH_take (i := 8) (v := .slice xla xll xlc) rfl (by kernel_rfl) (by kernel_rfl) (by kernel_rfl) (fun _ _ _ h => h) (Or.inl ⟨by kernel_rfl, ?_⟩) hS ?_
      · rintro w' ⟨q0, q1, q2, q3, q4, q5⟩; go_simp
      try simp only [Act.put, List.setIfInBounds_toArray, List.set_cons_zero, List.set_cons_succ]
      refine wpAnyH_take (i := 9) (v := .int .i64 (xll : Int)) rfl (by kernel_rfl) (by kernel_rfl) (by kernel_rfl) (fun _ _ _ h => h) (Or.inl ⟨by kernel_rfl, ?_⟩) hS ?_
      · rintro w' ⟨q0, q1, q2, q3, q4, q5⟩; go_simp
      try simp only [Act.put, List.setIfInBounds_toArray, List.set_cons_zero, List.set_cons_succ]
      refine wpAnyH_ready (rs := [6]) (by kernel_rfl) (by simp) (AllReadyH.cons rfl (fun K hK => ?_) <| AllReadyH.nil)
      rw [if_pos (by kernel_rfl)]
      go_simp
      refine (HNUM.out _ (M1.out.trans (Mine.Mod.drew (Mine.Mod.refl none_ w1)))).mono ?_
      rintro e w2 ⟨rfl, m2⟩
      have A2 := Lib.hid ((A1.out.mod (Mine.Mod.drew (Mine.Mod.refl none_ w1)) (fun e => e)).mod m2 (fun e => e))
      have B2 := Lib.hid ((B1.out.mod (Mine.Mod.drew (Mine.Mod.refl none_ w1)) (fun e => e)).mod m2 (fun e => e))
      have M2 := Lib.hid ((Mine.Mod.drew (Mine.Mod.refl none_ w1)).trans m2)
      refine hK.out _ _ ⟨by rw [A2.out.cell]; rfl, by rw [A2.out.cell]; rfl, by rw [A2.out.cell]; rfl, by rw [A2.out.cell]; rfl, by rw [A2.out.cell]; rfl, by rw [B2.out.cell]; rfl⟩ (fun hS => ?_)
      clear hK K
      try simp only [Act.put, List.setIfInBounds_toArray, List.set_cons_zero, List.set_cons_succ]
      refine wpAnyH_take (i := 10) (v := .bool (decide ((nn : Int) < (xll : Int)))) rfl (by kernel_rfl) (by kernel_rfl) (by kernel_rfl) (fun _ _ _ h => h) (Or.inl ⟨by kernel_rfl, ?_⟩) hS ?_
      · rintro w' ⟨q0, q1, q2, q3, q4, q5⟩; go_simp
      try simp only [Act.put, List.setIfInBounds_toArray, List.set_cons_zero, List.set_cons_succ]
      refine wpAnyH_take (i := 11) (v := .bool (decide ((nn : Int) < (xll : Int)))) rfl (by kernel_rfl) (by kernel_rfl) (by kernel_rfl) (fun _ _ _ h => h) (Or.inl ⟨by kernel_rfl, ?_⟩) hS ?_
      · rintro w' ⟨q0, q1, q2, q3, q4, q5⟩; go_simp
      try simp only [Act.put, List.setIfInBounds_toArray, List.set_cons_zero, List.set_cons_succ]
      refine wpAnyH_done (by kernel_rfl) ?_ _
      try simp only [List.getElem_toArray, List.getElem_cons_succ, List.getElem_cons_zero]
      try simp only [Act.put, List.setIfInBounds_toArray, List.set_cons_zero, List.set_cons_succ]
      go_wp2_with fail
      go_meet
      exact ⟨rfl, M2.out⟩
  case rest =>
  obtain ⟨rfl, m2⟩ := hcut
  have M2 := Lib.hid (M1.out.trans m2)
  have A2 := Lib.hid (A1.out.mod m2 (fun e => e))
  have B2 := Lib.hid (B1.out.mod m2 (fun e => e))
  have C2 := Lib.hid (C1.out.mod m2 (fun e => e))
  clear m2
  cases bb
  case true =>
    have HE := Lib.hid (show R = 13 by
      have hb := HBB.out.symm
      simp only [Bool.and_eq_true, decide_eq_true_eq] at hb
      rw [HR.out]; unfold addE; rw [if_pos HR1.out.symm, if_neg HLL.out, if_pos ⟨hb.1, by rw [← HNN.out]; show nn < xll; omega⟩])
    have d0 := C2.out.cell 0
    have d1 := C2.out.cell 1
    have d2 := C2.out.cell 2
    have d3 := C2.out.cell 3
    have d4 := C2.out.cell 4
    simp only [List.getElem?_cons_zero, List.getElem?_cons_succ] at d0 d1 d2 d3 d4
    have r0 := C2.out.frozen 0
    have r1 := C2.out.frozen 1
    have r2 := C2.out.frozen 2
    have r3 := C2.out.frozen 3
    have r4 := C2.out.frozen 4
    have KF := Lib.hid (((((C2.out.set 0 (.slice none 0 0)).set 1 (.slice none 0 0)).set 2 (.int .i64 0)).set 3 (.int .i64 0)).set 4 (.slice none 0 0))
    have mT := ((((((Mine.Mod.refl (one (w.heap.size + 1 + 1)) wc).setCell ⟨w.heap.size + 1 + 1, 0, none⟩ (fun _ => rfl) (.slice none 0 0)).setCell ⟨w.heap.size + 1 + 1, 1, none⟩ (fun _ => rfl) (.slice none 0 0)).setCell ⟨w.heap.size + 1 + 1, 2, none⟩ (fun _ => rfl) (.int .i64 0)).setCell ⟨w.heap.size + 1 + 1, 3, none⟩ (fun _ => rfl) (.int .i64 0)).setCell ⟨w.heap.size + 1 + 1, 4, none⟩ (fun _ => rfl) (.slice none 0 0))
    have MF := Lib.hid (M2.out.transIn mT (fun b hb e => by have e' : b = w.heap.size + 1 + 1 := e; omega))
    clear mT
    go_wp2_with fail
    exact bodyPost_ret (results_rht rfl _ _ (w.heap.size + 1 + 1) [.slice none 0 0, .slice none 0 0, .int .i64 0, .int .i64 0, .slice none 0 0] rfl rfl (blk_range KF.out)) rfl ⟨MF.out, fun _ => by rw [HE.out]; rfl, fun e => absurd (HE.out.symm.trans e) (by decide)⟩
  have H13 := Lib.hid (show ¬ (x.o.num ≠ 0 ∧ numN E < xll) by
    have hb := HBB.out.symm
    rw [HNN.out] at hb
    intro hc
    simp only [Bool.and_eq_false_iff, decide_eq_false_iff_not] at hb
    rcases hb with hb | hb
    · exact hb hc.1
    · omega)
  clear HBB HNUM
  obtain ⟨w2, rfl⟩ : ∃ w2, w2 = wc := ⟨_, rfl⟩
  obtain ⟨cc, hcc⟩ : ∃ cc, cc = (decide (x.o.num ≠ 0) && decide (x.o.num ≠ xnum + 1)) := ⟨_, rfl⟩
  have HCC := Lib.hid hcc
  have b2 := B2.out.cell 2
  have a3 := A2.out.cell 3
  simp only [List.getElem?_cons_zero, List.getElem?_cons_succ] at b2 a3
  clear hcc
  go_upto_region 7 with fail
  go_cut [40] from 28 to 40 (fun s40 wx => s40 = .bool cc ∧ wx = w2)
  case first =>
    by_cases hz : x.o.num = 0
    · have hc0 : cc = false := by rw [HCC.out]; simp [hz]
      subst hc0
      have hzb : (x.o.num != 0) = false := by simp [hz]
      clear hz
      go_wp2_with fail
      go_meet
      exact ⟨rfl, rfl⟩
    · have hzb : (x.o.num != 0) = true := by simp [hz]
      have hXI := HXI.out
      by_cases hy : x.o.num = xnum + 1
      · have HC0 := Lib.hid (show cc = false by rw [HCC.out]; simp [hy])
        have hwr : IntKind.i64.wrap (x.o.num - 1) = xnum := by rw [IntKind.wrap_i64]; have := HNS.out; omega
        clear hz hy
        go_wp2_with fail
        go_meet
        exact ⟨by rw [HC0.out], rfl⟩
      · have HC0 := Lib.hid (show cc = true by rw [HCC.out]; simp [hz, hy])
        have hwr : (IntKind.i64.wrap (x.o.num - 1) != xnum) = true := by
          have hne : IntKind.i64.wrap (x.o.num - 1) ≠ xnum := by
            rw [IntKind.wrap_i64]; have := HNS.out; intro e; omega
          simpa using hne
        have HWR := Lib.hid hwr
        clear hz hy
        go_wp2_with fail
        go_meet
        exact ⟨by rw [HC0.out]; have h := HWR.out; rw [IntWalk.i64_left] at h; exact congrArg Value.bool h, rfl⟩
  case rest =>
  obtain ⟨rfl, hw2⟩ := hcut
  rw [hw2]
  clear hw2 b2 a3
  cases cc
  case true =>
    have HE := Lib.hid (show R = 17 by
      have hb := HCC.out.symm
      simp only [Bool.and_eq_true, decide_eq_true_eq] at hb
      rw [HR.out]; unfold addE; rw [if_pos HR1.out.symm, if_neg HLL.out, if_neg H13.out, if_pos hb])
    have d0 := C2.out.cell 0
    have d1 := C2.out.cell 1
    have d2 := C2.out.cell 2
    have d3 := C2.out.cell 3
    have d4 := C2.out.cell 4
    simp only [List.getElem?_cons_zero, List.getElem?_cons_succ] at d0 d1 d2 d3 d4
    have r0 := C2.out.frozen 0
    have r1 := C2.out.frozen 1
    have r2 := C2.out.frozen 2
    have r3 := C2.out.frozen 3
    have r4 := C2.out.frozen 4
    have KF := Lib.hid (((((C2.out.set 0 (.slice none 0 0)).set 1 (.slice none 0 0)).set 2 (.int .i64 0)).set 3 (.int .i64 0)).set 4 (.slice none 0 0))
    have mT := ((((((Mine.Mod.refl (one (w.heap.size + 1 + 1)) w2).setCell ⟨w.heap.size + 1 + 1, 0, none⟩ (fun _ => rfl) (.slice none 0 0)).setCell ⟨w.heap.size + 1 + 1, 1, none⟩ (fun _ => rfl) (.slice none 0 0)).setCell ⟨w.heap.size + 1 + 1, 2, none⟩ (fun _ => rfl) (.int .i64 0)).setCell ⟨w.heap.size + 1 + 1, 3, none⟩ (fun _ => rfl) (.int .i64 0)).setCell ⟨w.heap.size + 1 + 1, 4, none⟩ (fun _ => rfl) (.slice none 0 0))
    have MF := Lib.hid (M2.out.transIn mT (fun b hb e => by have e' : b = w.heap.size + 1 + 1 := e; omega))
    clear mT
    go_wp2_with fail
    exact bodyPost_ret (results_rht rfl _ _ (w.heap.size + 1 + 1) [.slice none 0 0, .slice none 0 0, .int .i64 0, .int .i64 0, .slice none 0 0] rfl rfl (blk_range KF.out)) rfl ⟨MF.out, fun _ => by rw [HE.out]; rfl, fun e => absurd (HE.out.symm.trans e) (by decide)⟩
  have H17 := Lib.hid (show ¬ (x.o.num ≠ 0 ∧ x.o.num ≠ xnum + 1) by
    have hb := HCC.out.symm
    intro hc
    simp only [Bool.and_eq_false_iff, decide_eq_false_iff_not] at hb
    rcases hb with hb | hb
    · exact hb hc.1
    · exact hb hc.2)
  have HRE := Lib.hid (show R = if histOk (HistV.plus ⟨xba, xbl, xbc, xva, xvl, xvc, xfr, xnum, xla, xll, xlc⟩ (numP ⟨xba, xbl, xbc, xva, xvl, xvc, xfr, xnum, xla, xll, xlc⟩ x)) B V (E ++ [x]) = true then 0 else 1 by
    rw [HR.out]; unfold addE; rw [if_pos HR1.out.symm, if_neg HLL.out, if_neg H13.out, if_neg H17.out])
  clear HCC HLL H13 H17
  go_upto_region 9 with fail
  have mD := Mine.Mod.drew (Mine.Mod.refl none_ w2)
  have M3 := Lib.hid (M2.out.trans mD)
  have A3 := Lib.hid (A2.out.mod mD (fun e => e))
  have B3 := Lib.hid (B2.out.mod mD (fun e => e))
  have C3 := Lib.hid (C2.out.mod mD (fun e => e))
  clear mD
  go_cut [] from 42 to 49 (fun wx => RowKit.Hid (RAddMid w ⟨xba, xbl, xbc, xva, xvl, xvc, xfr, xnum, xla, xll, xlc⟩ E x wx))
  case first =>
    have f0 : w2.cell? ⟨w.heap.size + 1, 0, none⟩ = some (.int .i64 x.o.site) := by rw [B2.out.cell]; rfl
    have f1 : w2.cell? ⟨w.heap.size + 1, 1, none⟩ = some (.int .i64 x.o.seq) := by rw [B2.out.cell]; rfl
    have f2 : w2.cell? ⟨w.heap.size + 1, 2, none⟩ = some (.int .i64 x.o.num) := by rw [B2.out.cell]; rfl
    have f3 : w2.cell? ⟨w.heap.size + 1, 3, none⟩ = some (.int .i64 x.o.kind) := by rw [B2.out.cell]; rfl
    have f4 : w2.cell? ⟨w.heap.size + 1, 4, none⟩ = some (.int .i64 x.o.at_) := by rw [B2.out.cell]; rfl
    have f5 : w2.cell? ⟨w.heap.size + 1, 5, none⟩ = some (.string x.o.text) := by rw [B2.out.cell]; rfl
    have f6 : w2.cell? ⟨w.heap.size + 1, 6, none⟩ = some (.slice x.o.sa x.o.slen x.o.scap) := by rw [B2.out.cell]; rfl
    have f7 : w2.cell? ⟨w.heap.size + 1, 7, none⟩ = some (.int .i64 x.ed.site) := by rw [B2.out.cell]; rfl
    have f8 : w2.cell? ⟨w.heap.size + 1, 8, none⟩ = some (.int .i64 x.ed.seq) := by rw [B2.out.cell]; rfl
    have f9 : w2.cell? ⟨w.heap.size + 1, 9, none⟩ = some (.int .i64 x.ed.ctx) := by rw [B2.out.cell]; rfl
    have f10 : w2.cell? ⟨w.heap.size + 1, 10, none⟩ = some (.int .i64 x.ed.kind) := by rw [B2.out.cell]; rfl
    have f11 : w2.cell? ⟨w.heap.size + 1, 11, none⟩ = some (.int .i64 x.ed.at_) := by rw [B2.out.cell]; rfl
    have f12 : w2.cell? ⟨w.heap.size + 1, 12, none⟩ = some (.int .i64 x.ed.len) := by rw [B2.out.cell]; rfl
    have f13 : w2.cell? ⟨w.heap.size + 1, 13, none⟩ = some (.string x.ed.text) := by rw [B2.out.cell]; rfl
    refine wp_region_held_drew (S := fun w' => w'.cell? ⟨w.heap.size + 1, 0, none⟩ = some (.int .i64 x.o.site) ∧ w'.cell? ⟨w.heap.size + 1, 1, none⟩ = some (.int .i64 x.o.seq) ∧ w'.cell? ⟨w.heap.size + 1, 2, none⟩ = some (.int .i64 x.o.num) ∧ w'.cell? ⟨w.heap.size + 1, 3, none⟩ = some (.int .i64 x.o.kind) ∧ w'.cell? ⟨w.heap.size + 1, 4, none⟩ = some (.int .i64 x.o.at_) ∧ w'.cell? ⟨w.heap.size + 1, 5, none⟩ = some (.string x.o.text) ∧ w'.cell? ⟨w.heap.size + 1, 6, none⟩ = some (.slice x.o.sa x.o.slen x.o.scap) ∧ w'.cell? ⟨w.heap.size + 1, 7, none⟩ = some (.int .i64 x.ed.site) ∧ w'.cell? ⟨w.heap.size + 1, 8, none⟩ = some (.int .i64 x.ed.seq) ∧ w'.cell? ⟨w.heap.size + 1, 9, none⟩ = some (.int .i64 x.ed.ctx) ∧ w'.cell? ⟨w.heap.size + 1, 10, none⟩ = some (.int .i64 x.ed.kind) ∧ w'.cell? ⟨w.heap.size + 1, 11, none⟩ = some (.int .i64 x.ed.at_) ∧ w'.cell? ⟨w.heap.size + 1, 12, none⟩ = some (.int .i64 x.ed.len) ∧ w'.cell? ⟨w.heap.size + 1, 13, none⟩ = some (.string x.ed.text)) (by kernel_rfl) ⟨f0, f1, f2, f3, f4, f5, f6, f7, f8, f9, f10, f11, f12, f13⟩ (fun hS => ?_)
    clear f0 f1 f2 f3 f4 f5 f6 f7 f8 f9 f10 f11 f12 f13
    generalize w2.drew = w3 at M3 A3 B3 C3 hS ⊢
    refine wpAnyH_take (i := 1) (v := .pointer (some ⟨w.heap.size, 4, none⟩)) rfl (by kernel_rfl) (by kernel_rfl) (by kernel_rfl) (fun _ _ _ h => h) (Or.inl ⟨by kernel_rfl, ?_⟩) hS ?_
    · rintro w' ⟨q0, q1, q2, q3, q4, q5, q6, q7, q8, q9, q10, q11, q12, q13⟩; go_simp
    try simp only [Act.put, List.setIfInBounds_toArray, List.set_cons_zero, List.set_cons_succ]
    refine wpAnyH_take (i := 4) (v := .agg #[.int .i64 x.o.site, .int .i64 x.o.seq, .int .i64 x.o.num, .int .i64 x.o.kind, .int .i64 x.o.at_, .string x.o.text, .slice x.o.sa x.o.slen x.o.scap, .int .i64 x.ed.site, .int .i64 x.ed.seq, .int .i64 x.ed.ctx, .int .i64 x.ed.kind, .int .i64 x.ed.at_, .int .i64 x.ed.len, .string x.ed.text]) rfl (by kernel_rfl) (by kernel_rfl) (by kernel_rfl) (fun _ _ _ h => h) (Or.inl ⟨by kernel_rfl, ?_⟩) hS ?_
    · rintro w' ⟨q0, q1, q2, q3, q4, q5, q6, q7, q8, q9, q10, q11, q12, q13⟩; go_simp
    try simp only [Act.put, List.setIfInBounds_toArray, List.set_cons_zero, List.set_cons_succ]
    refine wpAnyH_ready (rs := [0, 2, 5]) (by kernel_rfl) (by simp) (AllReadyH.cons rfl (fun J hJ => ?_) <| AllReadyH.cons rfl (fun J hJ => ?_) <| AllReadyH.cons rfl (fun J hJ => ?_) <| AllReadyH.nil)
    · have mA : Mine.Mod none_ w3 (w3.alloc (.cells #[] 35)) := (Mine.Mod.refl none_ _).alloc _
      have O4 := Lib.hid (show (w3.alloc (.cells #[] 35)).ownsRow (w.heap.size + 1 + 1 + 1) 35 14 (.slice (some ⟨w3.heap.size, 0, none⟩) 0 0) 0 (flat EntV.cs []) by have ho := World.ownsRow_made (base := w.heap.size + 1 + 1 + 1) (e := 35) (size := 14) w3 #[] 0 C3.out.lt (by unfold maxLen; omega) rfl; (try simp only [World.size_alloc] at ho); exact ho)
      have M4 := Lib.hid (M3.out.trans mA)
      have A4 := Lib.hid (A3.out.mod mA (fun e => e))
      have B4 := Lib.hid (B3.out.mod mA (fun e => e))
      have C4 := Lib.hid (C3.out.mod mA (fun e => e))
      clear mA
      go_simp
      refine hJ.out _ _ ⟨by rw [B4.out.cell]; rfl, by rw [B4.out.cell]; rfl, by rw [B4.out.cell]; rfl, by rw [B4.out.cell]; rfl, by rw [B4.out.cell]; rfl, by rw [B4.out.cell]; rfl, by rw [B4.out.cell]; rfl, by rw [B4.out.cell]; rfl, by rw [B4.out.cell]; rfl, by rw [B4.out.cell]; rfl, by rw [B4.out.cell]; rfl, by rw [B4.out.cell]; rfl, by rw [B4.out.cell]; rfl, by rw [B4.out.cell]; rfl⟩ (fun hS => ?_)
      clear hJ J
      try simp only [Act.put, List.setIfInBounds_toArray, List.set_cons_zero, List.set_cons_succ]
      refine wpAnyH_ready (rs := [2, 5]) (by kernel_rfl) (by simp) (AllReadyH.cons rfl (fun J hJ => ?_) <| AllReadyH.cons rfl (fun J hJ => ?_) <| AllReadyH.nil)
      · have b0 := A4.out.cell 4
        simp only [List.getElem?_cons_zero, List.getElem?_cons_succ] at b0
        go_simp
        refine hJ.out _ _ ⟨by rw [B4.out.cell]; rfl, by rw [B4.out.cell]; rfl, by rw [B4.out.cell]; rfl, by rw [B4.out.cell]; rfl, by rw [B4.out.cell]; rfl, by rw [B4.out.cell]; rfl, by rw [B4.out.cell]; rfl, by rw [B4.out.cell]; rfl, by rw [B4.out.cell]; rfl, by rw [B4.out.cell]; rfl, by rw [B4.out.cell]; rfl, by rw [B4.out.cell]; rfl, by rw [B4.out.cell]; rfl, by rw [B4.out.cell]; rfl⟩ (fun hS => ?_)
        clear hJ J b0
        try simp only [Act.put, List.setIfInBounds_toArray, List.set_cons_zero, List.set_cons_succ]
        refine wpAnyH_ready (rs := [3, 5]) (by kernel_rfl) (by simp) (AllReadyH.cons rfl (fun J hJ => ?_) <| AllReadyH.cons rfl (fun J hJ => ?_) <| AllReadyH.nil)
        · obtain ⟨va7, vc7, w7, hrun, ho7, m7⟩ := app_ents O4.out (HH.out.e.grown M4.out) (show 0 + xll ≤ 1000000 by have := HNS.out; omega) C4.out.lt
          rw [Nat.zero_add] at hrun ho7
          rw [List.nil_append] at ho7
          have HRUN := Lib.hid hrun
          have lb : ∀ j, (Value.slice (some ⟨w3.heap.size, 0, none⟩) 0 0).ownBlock = some j → w.heap.size + 1 + 1 + 1 ≤ j := fun j hj => (O4.out.lt j hj).1
          have M5 := Lib.hid (M4.out.transIn m7 (fun b hb e => by have := lb _ e; omega))
          have A5 := Lib.hid (A4.out.mod m7 (fun e => by have := lb _ e; omega))
          have B5 := Lib.hid (B4.out.mod m7 (fun e => by have := lb _ e; omega))
          have C5 := Lib.hid (C4.out.mod m7 (fun e => by have := lb _ e; omega))
          have O5 := Lib.hid ho7
          clear hrun ho7 m7 lb
          refine step_append_runI rfl (.tmp 42) (.tmp 44) 24 rfl _ _ _ rfl rfl HRUN.out ?_
          refine hJ.out _ _ ⟨by rw [B5.out.cell]; rfl, by rw [B5.out.cell]; rfl, by rw [B5.out.cell]; rfl, by rw [B5.out.cell]; rfl, by rw [B5.out.cell]; rfl, by rw [B5.out.cell]; rfl, by rw [B5.out.cell]; rfl, by rw [B5.out.cell]; rfl, by rw [B5.out.cell]; rfl, by rw [B5.out.cell]; rfl, by rw [B5.out.cell]; rfl, by rw [B5.out.cell]; rfl, by rw [B5.out.cell]; rfl, by rw [B5.out.cell]; rfl⟩ (fun hS => ?_)
          clear hJ J
          try simp only [Act.put, List.setIfInBounds_toArray, List.set_cons_zero, List.set_cons_succ]
          refine wpAnyH_ready (rs := [5]) (by kernel_rfl) (by simp) (AllReadyH.cons rfl (fun J hJ => ?_) <| AllReadyH.nil)
          have mA : Mine.Mod none_ w7 (w7.alloc (.cells #[.int .i64 x.o.site, .int .i64 x.o.seq, .int .i64 x.o.num, .int .i64 x.o.kind, .int .i64 x.o.at_, .string x.o.text, .slice x.o.sa x.o.slen x.o.scap, .int .i64 x.ed.site, .int .i64 x.ed.seq, .int .i64 x.ed.ctx, .int .i64 x.ed.kind, .int .i64 x.ed.at_, .int .i64 x.ed.len, .string x.ed.text] 35)) := (Mine.Mod.refl none_ _).alloc _
          have X6 : RowKit.Hid (Blk (w7.alloc (.cells #[.int .i64 x.o.site, .int .i64 x.o.seq, .int .i64 x.o.num, .int .i64 x.o.kind, .int .i64 x.o.at_, .string x.o.text, .slice x.o.sa x.o.slen x.o.scap, .int .i64 x.ed.site, .int .i64 x.ed.seq, .int .i64 x.ed.ctx, .int .i64 x.ed.kind, .int .i64 x.ed.at_, .int .i64 x.ed.len, .string x.ed.text] 35)) (w7.heap.size) [.int .i64 x.o.site, .int .i64 x.o.seq, .int .i64 x.o.num, .int .i64 x.o.kind, .int .i64 x.o.at_, .string x.o.text, .slice x.o.sa x.o.slen x.o.scap, .int .i64 x.ed.site, .int .i64 x.ed.seq, .int .i64 x.ed.ctx, .int .i64 x.ed.kind, .int .i64 x.ed.at_, .int .i64 x.ed.len, .string x.ed.text] 35) := Lib.hid (by have hb := Blk.new (w := w7) (cs := [.int .i64 x.o.site, .int .i64 x.o.seq, .int .i64 x.o.num, .int .i64 x.o.kind, .int .i64 x.o.at_, .string x.o.text, .slice x.o.sa x.o.slen x.o.scap, .int .i64 x.ed.site, .int .i64 x.ed.seq, .int .i64 x.ed.ctx, .int .i64 x.ed.kind, .int .i64 x.ed.at_, .int .i64 x.ed.len, .string x.ed.text]) (t := 35); (try simp only [World.size_alloc] at hb); exact hb)
          have M6 := Lib.hid (M5.out.trans mA)
          have A6 := Lib.hid (A5.out.mod mA (fun e => e))
          have B6 := Lib.hid (B5.out.mod mA (fun e => e))
          have C6 := Lib.hid (C5.out.mod mA (fun e => e))
          have O6 := Lib.hid (ownsRow_mod O5.out mA (fun _ _ e => e))
          clear mA
          go_simp
          refine hJ.out _ _ ⟨by rw [B6.out.cell]; rfl, by rw [B6.out.cell]; rfl, by rw [B6.out.cell]; rfl, by rw [B6.out.cell]; rfl, by rw [B6.out.cell]; rfl, by rw [B6.out.cell]; rfl, by rw [B6.out.cell]; rfl, by rw [B6.out.cell]; rfl, by rw [B6.out.cell]; rfl, by rw [B6.out.cell]; rfl, by rw [B6.out.cell]; rfl, by rw [B6.out.cell]; rfl, by rw [B6.out.cell]; rfl, by rw [B6.out.cell]; rfl⟩ (fun hS => ?_)
          clear hJ J
          try simp only [Act.put, List.setIfInBounds_toArray, List.set_cons_zero, List.set_cons_succ]
          obtain ⟨va8, vc8, w8, hrun, ho8, m8⟩ := app_ent (x := x) O6.out X6.out (Nat.le_trans HNS.out.2.2.2 (by decide)) C6.out.lt
          have HRUN := Lib.hid hrun
          have lb : ∀ j, (Value.slice va7 xll vc7).ownBlock = some j → w.heap.size + 1 + 1 + 1 ≤ j := fun j hj => (O6.out.lt j hj).1
          have M7 := Lib.hid (M6.out.transIn m8 (fun b hb e => by have := lb _ e; omega))
          have A7 := Lib.hid (A6.out.mod m8 (fun e => by have := lb _ e; omega))
          have B7 := Lib.hid (B6.out.mod m8 (fun e => by have := lb _ e; omega))
          have C7 := Lib.hid (C6.out.mod m8 (fun e => by have := lb _ e; omega))
          have O7 := Lib.hid ho8
          clear hrun ho8 m8 lb
          refine wpAnyH_ready (rs := [6]) (by kernel_rfl) (by simp) (AllReadyH.cons rfl (fun J hJ => ?_) <| AllReadyH.nil)
          refine step_append_runI rfl (.tmp 45) (.tmp 47) 24 rfl _ _ _ rfl rfl HRUN.out ?_
          refine hJ.out _ _ ⟨by rw [B7.out.cell]; rfl, by rw [B7.out.cell]; rfl, by rw [B7.out.cell]; rfl, by rw [B7.out.cell]; rfl, by rw [B7.out.cell]; rfl, by rw [B7.out.cell]; rfl, by rw [B7.out.cell]; rfl, by rw [B7.out.cell]; rfl, by rw [B7.out.cell]; rfl, by rw [B7.out.cell]; rfl, by rw [B7.out.cell]; rfl, by rw [B7.out.cell]; rfl, by rw [B7.out.cell]; rfl, by rw [B7.out.cell]; rfl⟩ (fun hS => ?_)
          clear hJ J
          try simp only [Act.put, List.setIfInBounds_toArray, List.set_cons_zero, List.set_cons_succ]
          refine wpAnyH_take (i := 7) (v := .pointer (some ⟨w.heap.size, 4, none⟩)) rfl (by kernel_rfl) (by kernel_rfl) (by kernel_rfl) (fun _ _ _ h => h) (Or.inl ⟨by kernel_rfl, ?_⟩) hS ?_
          · rintro w' ⟨q0, q1, q2, q3, q4, q5, q6, q7, q8, q9, q10, q11, q12, q13⟩; go_simp
          try simp only [Act.put, List.setIfInBounds_toArray, List.set_cons_zero, List.set_cons_succ]
          have b0 := A7.out.cell 4
          simp only [List.getElem?_cons_zero, List.getElem?_cons_succ] at b0
          have f0 := A7.out.frozen 4
          have mS := (Mine.Mod.refl (one w.heap.size) w8).setCell ⟨w.heap.size, 4, none⟩ (fun _ => rfl) (.slice va8 (xll + 1) vc8)
          have B9 := Lib.hid (B7.out.mod mS (fun e => by have e' : w.heap.size + 1 = w.heap.size := e; omega))
          have HF := Lib.hid (show RAddMid w ⟨xba, xbl, xbc, xva, xvl, xvc, xfr, xnum, xla, xll, xlc⟩ E x _ from ⟨va8, vc8, A7.out.set 4 (.slice va8 (xll + 1) vc8), ownsRow_mod O7.out mS (fun k hk e => by have e' : k = w.heap.size := e; have := (O7.out.lt k hk).1; omega), M7.out.transIn mS (fun b hb e => by have e' : b = w.heap.size := e; omega), B9.out, C7.out.mod mS (fun e => by have e' : w.heap.size + 1 + 1 = w.heap.size := e; omega)⟩)
          clear mS
          refine wpAnyH_ready (rs := [8]) (by kernel_rfl) (by simp) (AllReadyH.cons rfl (fun J hJ => ?_) <| AllReadyH.nil)
          go_simp
          refine hJ.out _ _ ⟨by rw [B9.out.cell]; rfl, by rw [B9.out.cell]; rfl, by rw [B9.out.cell]; rfl, by rw [B9.out.cell]; rfl, by rw [B9.out.cell]; rfl, by rw [B9.out.cell]; rfl, by rw [B9.out.cell]; rfl, by rw [B9.out.cell]; rfl, by rw [B9.out.cell]; rfl, by rw [B9.out.cell]; rfl, by rw [B9.out.cell]; rfl, by rw [B9.out.cell]; rfl, by rw [B9.out.cell]; rfl, by rw [B9.out.cell]; rfl⟩ (fun hS => ?_)
          clear hJ J
          try simp only [Act.put, List.setIfInBounds_toArray, List.set_cons_zero, List.set_cons_succ]
          refine wpAnyH_done (by kernel_rfl) ?_ _
          try simp only [List.getElem_toArray, List.getElem_cons_succ, List.getElem_cons_zero]
          try simp only [Act.put, List.setIfInBounds_toArray, List.set_cons_zero, List.set_cons_succ]
          clear b0 f0
          go_wp2_with fail
          go_meet
          exact HF
        · have mA : Mine.Mod none_ (w3.alloc (.cells #[] 35)) ((w3.alloc (.cells #[] 35)).alloc (.cells #[.int .i64 x.o.site, .int .i64 x.o.seq, .int .i64 x.o.num, .int .i64 x.o.kind, .int .i64 x.o.at_, .string x.o.text, .slice x.o.sa x.o.slen x.o.scap, .int .i64 x.ed.site, .int .i64 x.ed.seq, .int .i64 x.ed.ctx, .int .i64 x.ed.kind, .int .i64 x.ed.at_, .int .i64 x.ed.len, .string x.ed.text] 35)) := (Mine.Mod.refl none_ _).alloc _
          have X5 : RowKit.Hid (Blk ((w3.alloc (.cells #[] 35)).alloc (.cells #[.int .i64 x.o.site, .int .i64 x.o.seq, .int .i64 x.o.num, .int .i64 x.o.kind, .int .i64 x.o.at_, .string x.o.text, .slice x.o.sa x.o.slen x.o.scap, .int .i64 x.ed.site, .int .i64 x.ed.seq, .int .i64 x.ed.ctx, .int .i64 x.ed.kind, .int .i64 x.ed.at_, .int .i64 x.ed.len, .string x.ed.text] 35)) (w3.heap.size + 1) [.int .i64 x.o.site, .int .i64 x.o.seq, .int .i64 x.o.num, .int .i64 x.o.kind, .int .i64 x.o.at_, .string x.o.text, .slice x.o.sa x.o.slen x.o.scap, .int .i64 x.ed.site, .int .i64 x.ed.seq, .int .i64 x.ed.ctx, .int .i64 x.ed.kind, .int .i64 x.ed.at_, .int .i64 x.ed.len, .string x.ed.text] 35) := Lib.hid (by have hb := Blk.new (w := (w3.alloc (.cells #[] 35))) (cs := [.int .i64 x.o.site, .int .i64 x.o.seq, .int .i64 x.o.num, .int .i64 x.o.kind, .int .i64 x.o.at_, .string x.o.text, .slice x.o.sa x.o.slen x.o.scap, .int .i64 x.ed.site, .int .i64 x.ed.seq, .int .i64 x.ed.ctx, .int .i64 x.ed.kind, .int .i64 x.ed.at_, .int .i64 x.ed.len, .string x.ed.text]) (t := 35); (try simp only [World.size_alloc] at hb); exact hb)
          have M5 := Lib.hid (M4.out.trans mA)
          have A5 := Lib.hid (A4.out.mod mA (fun e => e))
          have B5 := Lib.hid (B4.out.mod mA (fun e => e))
          have C5 := Lib.hid (C4.out.mod mA (fun e => e))
          have O5 := Lib.hid (ownsRow_mod O4.out mA (fun _ _ e => e))
          have HNX : RowKit.Hid (¬ (Value.slice (some ⟨w3.heap.size, 0, none⟩) 0 0).ownBlock = some (w3.heap.size + 1)) := Lib.hid (fun e => by have e1 := Option.some.inj e; have e3 : w3.heap.size = w3.heap.size + 1 := e1; omega)
          clear mA
          go_simp
          refine hJ.out _ _ ⟨by rw [B5.out.cell]; rfl, by rw [B5.out.cell]; rfl, by rw [B5.out.cell]; rfl, by rw [B5.out.cell]; rfl, by rw [B5.out.cell]; rfl, by rw [B5.out.cell]; rfl, by rw [B5.out.cell]; rfl, by rw [B5.out.cell]; rfl, by rw [B5.out.cell]; rfl, by rw [B5.out.cell]; rfl, by rw [B5.out.cell]; rfl, by rw [B5.out.cell]; rfl, by rw [B5.out.cell]; rfl, by rw [B5.out.cell]; rfl⟩ (fun hS => ?_)
          clear hJ J
          try simp only [Act.put, List.setIfInBounds_toArray, List.set_cons_zero, List.set_cons_succ]
          refine wpAnyH_ready (rs := [3]) (by kernel_rfl) (by simp) (AllReadyH.cons rfl (fun J hJ => ?_) <| AllReadyH.nil)
          obtain ⟨va7, vc7, w7, hrun, ho7, m7⟩ := app_ents O5.out (HH.out.e.grown M5.out) (show 0 + xll ≤ 1000000 by have := HNS.out; omega) C5.out.lt
          rw [Nat.zero_add] at hrun ho7
          rw [List.nil_append] at ho7
          have HRUN := Lib.hid hrun
          have lb : ∀ j, (Value.slice (some ⟨w3.heap.size, 0, none⟩) 0 0).ownBlock = some j → w.heap.size + 1 + 1 + 1 ≤ j := fun j hj => (O5.out.lt j hj).1
          have M6 := Lib.hid (M5.out.transIn m7 (fun b hb e => by have := lb _ e; omega))
          have A6 := Lib.hid (A5.out.mod m7 (fun e => by have := lb _ e; omega))
          have B6 := Lib.hid (B5.out.mod m7 (fun e => by have := lb _ e; omega))
          have C6 := Lib.hid (C5.out.mod m7 (fun e => by have := lb _ e; omega))
          have O6 := Lib.hid ho7
          have X6 := Lib.hid (X5.out.mod m7 HNX.out)
          clear hrun ho7 m7 lb
          refine step_append_runI rfl (.tmp 42) (.tmp 44) 24 rfl _ _ _ rfl rfl HRUN.out ?_
          refine hJ.out _ _ ⟨by rw [B6.out.cell]; rfl, by rw [B6.out.cell]; rfl, by rw [B6.out.cell]; rfl, by rw [B6.out.cell]; rfl, by rw [B6.out.cell]; rfl, by rw [B6.out.cell]; rfl, by rw [B6.out.cell]; rfl, by rw [B6.out.cell]; rfl, by rw [B6.out.cell]; rfl, by rw [B6.out.cell]; rfl, by rw [B6.out.cell]; rfl, by rw [B6.out.cell]; rfl, by rw [B6.out.cell]; rfl, by rw [B6.out.cell]; rfl⟩ (fun hS => ?_)
          clear hJ J
          try simp only [Act.put, List.setIfInBounds_toArray, List.set_cons_zero, List.set_cons_succ]
          obtain ⟨va8, vc8, w8, hrun, ho8, m8⟩ := app_ent (x := x) O6.out X6.out (Nat.le_trans HNS.out.2.2.2 (by decide)) C6.out.lt
          have HRUN := Lib.hid hrun
          have lb : ∀ j, (Value.slice va7 xll vc7).ownBlock = some j → w.heap.size + 1 + 1 + 1 ≤ j := fun j hj => (O6.out.lt j hj).1
          have M7 := Lib.hid (M6.out.transIn m8 (fun b hb e => by have := lb _ e; omega))
          have A7 := Lib.hid (A6.out.mod m8 (fun e => by have := lb _ e; omega))
          have B7 := Lib.hid (B6.out.mod m8 (fun e => by have := lb _ e; omega))
          have C7 := Lib.hid (C6.out.mod m8 (fun e => by have := lb _ e; omega))
          have O7 := Lib.hid ho8
          clear hrun ho8 m8 lb
          refine wpAnyH_ready (rs := [6]) (by kernel_rfl) (by simp) (AllReadyH.cons rfl (fun J hJ => ?_) <| AllReadyH.nil)
          refine step_append_runI rfl (.tmp 45) (.tmp 47) 24 rfl _ _ _ rfl rfl HRUN.out ?_
          refine hJ.out _ _ ⟨by rw [B7.out.cell]; rfl, by rw [B7.out.cell]; rfl, by rw [B7.out.cell]; rfl, by rw [B7.out.cell]; rfl, by rw [B7.out.cell]; rfl, by rw [B7.out.cell]; rfl, by rw [B7.out.cell]; rfl, by rw [B7.out.cell]; rfl, by rw [B7.out.cell]; rfl, by rw [B7.out.cell]; rfl, by rw [B7.out.cell]; rfl, by rw [B7.out.cell]; rfl, by rw [B7.out.cell]; rfl, by rw [B7.out.cell]; rfl⟩ (fun hS => ?_)
          clear hJ J
          try simp only [Act.put, List.setIfInBounds_toArray, List.set_cons_zero, List.set_cons_succ]
          refine wpAnyH_take (i := 7) (v := .pointer (some ⟨w.heap.size, 4, none⟩)) rfl (by kernel_rfl) (by kernel_rfl) (by kernel_rfl) (fun _ _ _ h => h) (Or.inl ⟨by kernel_rfl, ?_⟩) hS ?_
          · rintro w' ⟨q0, q1, q2, q3, q4, q5, q6, q7, q8, q9, q10, q11, q12, q13⟩; go_simp
          try simp only [Act.put, List.setIfInBounds_toArray, List.set_cons_zero, List.set_cons_succ]
          have b0 := A7.out.cell 4
          simp only [List.getElem?_cons_zero, List.getElem?_cons_succ] at b0
          have f0 := A7.out.frozen 4
          have mS := (Mine.Mod.refl (one w.heap.size) w8).setCell ⟨w.heap.size, 4, none⟩ (fun _ => rfl) (.slice va8 (xll + 1) vc8)
          have B9 := Lib.hid (B7.out.mod mS (fun e => by have e' : w.heap.size + 1 = w.heap.size := e; omega))
          have HF := Lib.hid (show RAddMid w ⟨xba, xbl, xbc, xva, xvl, xvc, xfr, xnum, xla, xll, xlc⟩ E x _ from ⟨va8, vc8, A7.out.set 4 (.slice va8 (xll + 1) vc8), ownsRow_mod O7.out mS (fun k hk e => by have e' : k = w.heap.size := e; have := (O7.out.lt k hk).1; omega), M7.out.transIn mS (fun b hb e => by have e' : b = w.heap.size := e; omega), B9.out, C7.out.mod mS (fun e => by have e' : w.heap.size + 1 + 1 = w.heap.size := e; omega)⟩)
          clear mS
          refine wpAnyH_ready (rs := [8]) (by kernel_rfl) (by simp) (AllReadyH.cons rfl (fun J hJ => ?_) <| AllReadyH.nil)
          go_simp
          refine hJ.out _ _ ⟨by rw [B9.out.cell]; rfl, by rw [B9.out.cell]; rfl, by rw [B9.out.cell]; rfl, by rw [B9.out.cell]; rfl, by rw [B9.out.cell]; rfl, by rw [B9.out.cell]; rfl, by rw [B9.out.cell]; rfl, by rw [B9.out.cell]; rfl, by rw [B9.out.cell]; rfl, by rw [B9.out.cell]; rfl, by rw [B9.out.cell]; rfl, by rw [B9.out.cell]; rfl, by rw [B9.out.cell]; rfl, by rw [B9.out.cell]; rfl⟩ (fun hS => ?_)
          clear hJ J
          try simp only [Act.put, List.setIfInBounds_toArray, List.set_cons_zero, List.set_cons_succ]
          refine wpAnyH_done (by kernel_rfl) ?_ _
          try simp only [List.getElem_toArray, List.getElem_cons_succ, List.getElem_cons_zero]
          try simp only [Act.put, List.setIfInBounds_toArray, List.set_cons_zero, List.set_cons_succ]
          clear b0 f0
          go_wp2_with fail
          go_meet
          exact HF
      · have mA : Mine.Mod none_ (w3.alloc (.cells #[] 35)) ((w3.alloc (.cells #[] 35)).alloc (.cells #[.int .i64 x.o.site, .int .i64 x.o.seq, .int .i64 x.o.num, .int .i64 x.o.kind, .int .i64 x.o.at_, .string x.o.text, .slice x.o.sa x.o.slen x.o.scap, .int .i64 x.ed.site, .int .i64 x.ed.seq, .int .i64 x.ed.ctx, .int .i64 x.ed.kind, .int .i64 x.ed.at_, .int .i64 x.ed.len, .string x.ed.text] 35)) := (Mine.Mod.refl none_ _).alloc _
        have X5 : RowKit.Hid (Blk ((w3.alloc (.cells #[] 35)).alloc (.cells #[.int .i64 x.o.site, .int .i64 x.o.seq, .int .i64 x.o.num, .int .i64 x.o.kind, .int .i64 x.o.at_, .string x.o.text, .slice x.o.sa x.o.slen x.o.scap, .int .i64 x.ed.site, .int .i64 x.ed.seq, .int .i64 x.ed.ctx, .int .i64 x.ed.kind, .int .i64 x.ed.at_, .int .i64 x.ed.len, .string x.ed.text] 35)) (w3.heap.size + 1) [.int .i64 x.o.site, .int .i64 x.o.seq, .int .i64 x.o.num, .int .i64 x.o.kind, .int .i64 x.o.at_, .string x.o.text, .slice x.o.sa x.o.slen x.o.scap, .int .i64 x.ed.site, .int .i64 x.ed.seq, .int .i64 x.ed.ctx, .int .i64 x.ed.kind, .int .i64 x.ed.at_, .int .i64 x.ed.len, .string x.ed.text] 35) := Lib.hid (by have hb := Blk.new (w := (w3.alloc (.cells #[] 35))) (cs := [.int .i64 x.o.site, .int .i64 x.o.seq, .int .i64 x.o.num, .int .i64 x.o.kind, .int .i64 x.o.at_, .string x.o.text, .slice x.o.sa x.o.slen x.o.scap, .int .i64 x.ed.site, .int .i64 x.ed.seq, .int .i64 x.ed.ctx, .int .i64 x.ed.kind, .int .i64 x.ed.at_, .int .i64 x.ed.len, .string x.ed.text]) (t := 35); (try simp only [World.size_alloc] at hb); exact hb)
        have M5 := Lib.hid (M4.out.trans mA)
        have A5 := Lib.hid (A4.out.mod mA (fun e => e))
        have B5 := Lib.hid (B4.out.mod mA (fun e => e))
        have C5 := Lib.hid (C4.out.mod mA (fun e => e))
        have O5 := Lib.hid (ownsRow_mod O4.out mA (fun _ _ e => e))
        have HNX : RowKit.Hid (¬ (Value.slice (some ⟨w3.heap.size, 0, none⟩) 0 0).ownBlock = some (w3.heap.size + 1)) := Lib.hid (fun e => by have e1 := Option.some.inj e; have e3 : w3.heap.size = w3.heap.size + 1 := e1; omega)
        clear mA
        go_simp
        refine hJ.out _ _ ⟨by rw [B5.out.cell]; rfl, by rw [B5.out.cell]; rfl, by rw [B5.out.cell]; rfl, by rw [B5.out.cell]; rfl, by rw [B5.out.cell]; rfl, by rw [B5.out.cell]; rfl, by rw [B5.out.cell]; rfl, by rw [B5.out.cell]; rfl, by rw [B5.out.cell]; rfl, by rw [B5.out.cell]; rfl, by rw [B5.out.cell]; rfl, by rw [B5.out.cell]; rfl, by rw [B5.out.cell]; rfl, by rw [B5.out.cell]; rfl⟩ (fun hS => ?_)
        clear hJ J
        try simp only [Act.put, List.setIfInBounds_toArray, List.set_cons_zero, List.set_cons_succ]
        refine wpAnyH_ready (rs := [2]) (by kernel_rfl) (by simp) (AllReadyH.cons rfl (fun J hJ => ?_) <| AllReadyH.nil)
        have b0 := A5.out.cell 4
        simp only [List.getElem?_cons_zero, List.getElem?_cons_succ] at b0
        go_simp
        refine hJ.out _ _ ⟨by rw [B5.out.cell]; rfl, by rw [B5.out.cell]; rfl, by rw [B5.out.cell]; rfl, by rw [B5.out.cell]; rfl, by rw [B5.out.cell]; rfl, by rw [B5.out.cell]; rfl, by rw [B5.out.cell]; rfl, by rw [B5.out.cell]; rfl, by rw [B5.out.cell]; rfl, by rw [B5.out.cell]; rfl, by rw [B5.out.cell]; rfl, by rw [B5.out.cell]; rfl, by rw [B5.out.cell]; rfl, by rw [B5.out.cell]; rfl⟩ (fun hS => ?_)
        clear hJ J b0
        try simp only [Act.put, List.setIfInBounds_toArray, List.set_cons_zero, List.set_cons_succ]
        refine wpAnyH_ready (rs := [3]) (by kernel_rfl) (by simp) (AllReadyH.cons rfl (fun J hJ => ?_) <| AllReadyH.nil)
        obtain ⟨va7, vc7, w7, hrun, ho7, m7⟩ := app_ents O5.out (HH.out.e.grown M5.out) (show 0 + xll ≤ 1000000 by have := HNS.out; omega) C5.out.lt
        rw [Nat.zero_add] at hrun ho7
        rw [List.nil_append] at ho7
        have HRUN := Lib.hid hrun
        have lb : ∀ j, (Value.slice (some ⟨w3.heap.size, 0, none⟩) 0 0).ownBlock = some j → w.heap.size + 1 + 1 + 1 ≤ j := fun j hj => (O5.out.lt j hj).1
        have M6 := Lib.hid (M5.out.transIn m7 (fun b hb e => by have := lb _ e; omega))
        have A6 := Lib.hid (A5.out.mod m7 (fun e => by have := lb _ e; omega))
        have B6 := Lib.hid (B5.out.mod m7 (fun e => by have := lb _ e; omega))
        have C6 := Lib.hid (C5.out.mod m7 (fun e => by have := lb _ e; omega))
        have O6 := Lib.hid ho7
        have X6 := Lib.hid (X5.out.mod m7 HNX.out)
        clear hrun ho7 m7 lb
        refine step_append_runI rfl (.tmp 42) (.tmp 44) 24 rfl _ _ _ rfl rfl HRUN.out ?_
        refine hJ.out _ _ ⟨by rw [B6.out.cell]; rfl, by rw [B6.out.cell]; rfl, by rw [B6.out.cell]; rfl, by rw [B6.out.cell]; rfl, by rw [B6.out.cell]; rfl, by rw [B6.out.cell]; rfl, by rw [B6.out.cell]; rfl, by rw [B6.out.cell]; rfl, by rw [B6.out.cell]; rfl, by rw [B6.out.cell]; rfl, by rw [B6.out.cell]; rfl, by rw [B6.out.cell]; rfl, by rw [B6.out.cell]; rfl, by rw [B6.out.cell]; rfl⟩ (fun hS => ?_)
        clear hJ J
        try simp only [Act.put, List.setIfInBounds_toArray, List.set_cons_zero, List.set_cons_succ]
        obtain ⟨va8, vc8, w8, hrun, ho8, m8⟩ := app_ent (x := x) O6.out X6.out (Nat.le_trans HNS.out.2.2.2 (by decide)) C6.out.lt
        have HRUN := Lib.hid hrun
        have lb : ∀ j, (Value.slice va7 xll vc7).ownBlock = some j → w.heap.size + 1 + 1 + 1 ≤ j := fun j hj => (O6.out.lt j hj).1
        have M7 := Lib.hid (M6.out.transIn m8 (fun b hb e => by have := lb _ e; omega))
        have A7 := Lib.hid (A6.out.mod m8 (fun e => by have := lb _ e; omega))
        have B7 := Lib.hid (B6.out.mod m8 (fun e => by have := lb _ e; omega))
        have C7 := Lib.hid (C6.out.mod m8 (fun e => by have := lb _ e; omega))
        have O7 := Lib.hid ho8
        clear hrun ho8 m8 lb
        refine wpAnyH_ready (rs := [6]) (by kernel_rfl) (by simp) (AllReadyH.cons rfl (fun J hJ => ?_) <| AllReadyH.nil)
        refine step_append_runI rfl (.tmp 45) (.tmp 47) 24 rfl _ _ _ rfl rfl HRUN.out ?_
        refine hJ.out _ _ ⟨by rw [B7.out.cell]; rfl, by rw [B7.out.cell]; rfl, by rw [B7.out.cell]; rfl, by rw [B7.out.cell]; rfl, by rw [B7.out.cell]; rfl, by rw [B7.out.cell]; rfl, by rw [B7.out.cell]; rfl, by rw [B7.out.cell]; rfl, by rw [B7.out.cell]; rfl, by rw [B7.out.cell]; rfl, by rw [B7.out.cell]; rfl, by rw [B7.out.cell]; rfl, by rw [B7.out.cell]; rfl, by rw [B7.out.cell]; rfl⟩ (fun hS => ?_)
        clear hJ J
        try simp only [Act.put, List.setIfInBounds_toArray, List.set_cons_zero, List.set_cons_succ]
        refine wpAnyH_take (i := 7) (v := .pointer (some ⟨w.heap.size, 4, none⟩)) rfl (by kernel_rfl) (by kernel_rfl) (by kernel_rfl) (fun _ _ _ h => h) (Or.inl ⟨by kernel_rfl, ?_⟩) hS ?_
        · rintro w' ⟨q0, q1, q2, q3, q4, q5, q6, q7, q8, q9, q10, q11, q12, q13⟩; go_simp
        try simp only [Act.put, List.setIfInBounds_toArray, List.set_cons_zero, List.set_cons_succ]
        have b0 := A7.out.cell 4
        simp only [List.getElem?_cons_zero, List.getElem?_cons_succ] at b0
        have f0 := A7.out.frozen 4
        have mS := (Mine.Mod.refl (one w.heap.size) w8).setCell ⟨w.heap.size, 4, none⟩ (fun _ => rfl) (.slice va8 (xll + 1) vc8)
        have B9 := Lib.hid (B7.out.mod mS (fun e => by have e' : w.heap.size + 1 = w.heap.size := e; omega))
        have HF := Lib.hid (show RAddMid w ⟨xba, xbl, xbc, xva, xvl, xvc, xfr, xnum, xla, xll, xlc⟩ E x _ from ⟨va8, vc8, A7.out.set 4 (.slice va8 (xll + 1) vc8), ownsRow_mod O7.out mS (fun k hk e => by have e' : k = w.heap.size := e; have := (O7.out.lt k hk).1; omega), M7.out.transIn mS (fun b hb e => by have e' : b = w.heap.size := e; omega), B9.out, C7.out.mod mS (fun e => by have e' : w.heap.size + 1 + 1 = w.heap.size := e; omega)⟩)
        clear mS
        refine wpAnyH_ready (rs := [8]) (by kernel_rfl) (by simp) (AllReadyH.cons rfl (fun J hJ => ?_) <| AllReadyH.nil)
        go_simp
        refine hJ.out _ _ ⟨by rw [B9.out.cell]; rfl, by rw [B9.out.cell]; rfl, by rw [B9.out.cell]; rfl, by rw [B9.out.cell]; rfl, by rw [B9.out.cell]; rfl, by rw [B9.out.cell]; rfl, by rw [B9.out.cell]; rfl, by rw [B9.out.cell]; rfl, by rw [B9.out.cell]; rfl, by rw [B9.out.cell]; rfl, by rw [B9.out.cell]; rfl, by rw [B9.out.cell]; rfl, by rw [B9.out.cell]; rfl, by rw [B9.out.cell]; rfl⟩ (fun hS => ?_)
        clear hJ J
        try simp only [Act.put, List.setIfInBounds_toArray, List.set_cons_zero, List.set_cons_succ]
        refine wpAnyH_done (by kernel_rfl) ?_ _
        try simp only [List.getElem_toArray, List.getElem_cons_succ, List.getElem_cons_zero]
        try simp only [Act.put, List.setIfInBounds_toArray, List.set_cons_zero, List.set_cons_succ]
        clear b0 f0
        go_wp2_with fail
        go_meet
        exact HF
    · have b0 := A3.out.cell 4
      simp only [List.getElem?_cons_zero, List.getElem?_cons_succ] at b0
      go_simp
      refine hJ.out _ _ ⟨by rw [B3.out.cell]; rfl, by rw [B3.out.cell]; rfl, by rw [B3.out.cell]; rfl, by rw [B3.out.cell]; rfl, by rw [B3.out.cell]; rfl, by rw [B3.out.cell]; rfl, by rw [B3.out.cell]; rfl, by rw [B3.out.cell]; rfl, by rw [B3.out.cell]; rfl, by rw [B3.out.cell]; rfl, by rw [B3.out.cell]; rfl, by rw [B3.out.cell]; rfl, by rw [B3.out.cell]; rfl, by rw [B3.out.cell]; rfl⟩ (fun hS => ?_)
      clear hJ J b0
      try simp only [Act.put, List.setIfInBounds_toArray, List.set_cons_zero, List.set_cons_succ]
      refine wpAnyH_ready (rs := [0, 5]) (by kernel_rfl) (by simp) (AllReadyH.cons rfl (fun J hJ => ?_) <| AllReadyH.cons rfl (fun J hJ => ?_) <| AllReadyH.nil)
      · have mA : Mine.Mod none_ w3 (w3.alloc (.cells #[] 35)) := (Mine.Mod.refl none_ _).alloc _
        have O4 := Lib.hid (show (w3.alloc (.cells #[] 35)).ownsRow (w.heap.size + 1 + 1 + 1) 35 14 (.slice (some ⟨w3.heap.size, 0, none⟩) 0 0) 0 (flat EntV.cs []) by have ho := World.ownsRow_made (base := w.heap.size + 1 + 1 + 1) (e := 35) (size := 14) w3 #[] 0 C3.out.lt (by unfold maxLen; omega) rfl; (try simp only [World.size_alloc] at ho); exact ho)
        have M4 := Lib.hid (M3.out.trans mA)
        have A4 := Lib.hid (A3.out.mod mA (fun e => e))
        have B4 := Lib.hid (B3.out.mod mA (fun e => e))
        have C4 := Lib.hid (C3.out.mod mA (fun e => e))
        clear mA
        go_simp
        refine hJ.out _ _ ⟨by rw [B4.out.cell]; rfl, by rw [B4.out.cell]; rfl, by rw [B4.out.cell]; rfl, by rw [B4.out.cell]; rfl, by rw [B4.out.cell]; rfl, by rw [B4.out.cell]; rfl, by rw [B4.out.cell]; rfl, by rw [B4.out.cell]; rfl, by rw [B4.out.cell]; rfl, by rw [B4.out.cell]; rfl, by rw [B4.out.cell]; rfl, by rw [B4.out.cell]; rfl, by rw [B4.out.cell]; rfl, by rw [B4.out.cell]; rfl⟩ (fun hS => ?_)
        clear hJ J
        try simp only [Act.put, List.setIfInBounds_toArray, List.set_cons_zero, List.set_cons_succ]
        refine wpAnyH_ready (rs := [3, 5]) (by kernel_rfl) (by simp) (AllReadyH.cons rfl (fun J hJ => ?_) <| AllReadyH.cons rfl (fun J hJ => ?_) <| AllReadyH.nil)
        · obtain ⟨va7, vc7, w7, hrun, ho7, m7⟩ := app_ents O4.out (HH.out.e.grown M4.out) (show 0 + xll ≤ 1000000 by have := HNS.out; omega) C4.out.lt
          rw [Nat.zero_add] at hrun ho7
          rw [List.nil_append] at ho7
          have HRUN := Lib.hid hrun
          have lb : ∀ j, (Value.slice (some ⟨w3.heap.size, 0, none⟩) 0 0).ownBlock = some j → w.heap.size + 1 + 1 + 1 ≤ j := fun j hj => (O4.out.lt j hj).1
          have M5 := Lib.hid (M4.out.transIn m7 (fun b hb e => by have := lb _ e; omega))
          have A5 := Lib.hid (A4.out.mod m7 (fun e => by have := lb _ e; omega))
          have B5 := Lib.hid (B4.out.mod m7 (fun e => by have := lb _ e; omega))
          have C5 := Lib.hid (C4.out.mod m7 (fun e => by have := lb _ e; omega))
          have O5 := Lib.hid ho7
          clear hrun ho7 m7 lb
          refine step_append_runI rfl (.tmp 42) (.tmp 44) 24 rfl _ _ _ rfl rfl HRUN.out ?_
          refine hJ.out _ _ ⟨by rw [B5.out.cell]; rfl, by rw [B5.out.cell]; rfl, by rw [B5.out.cell]; rfl, by rw [B5.out.cell]; rfl, by rw [B5.out.cell]; rfl, by rw [B5.out.cell]; rfl, by rw [B5.out.cell]; rfl, by rw [B5.out.cell]; rfl, by rw [B5.out.cell]; rfl, by rw [B5.out.cell]; rfl, by rw [B5.out.cell]; rfl, by rw [B5.out.cell]; rfl, by rw [B5.out.cell]; rfl, by rw [B5.out.cell]; rfl⟩ (fun hS => ?_)
          clear hJ J
          try simp only [Act.put, List.setIfInBounds_toArray, List.set_cons_zero, List.set_cons_succ]
          refine wpAnyH_ready (rs := [5]) (by kernel_rfl) (by simp) (AllReadyH.cons rfl (fun J hJ => ?_) <| AllReadyH.nil)
          have mA : Mine.Mod none_ w7 (w7.alloc (.cells #[.int .i64 x.o.site, .int .i64 x.o.seq, .int .i64 x.o.num, .int .i64 x.o.kind, .int .i64 x.o.at_, .string x.o.text, .slice x.o.sa x.o.slen x.o.scap, .int .i64 x.ed.site, .int .i64 x.ed.seq, .int .i64 x.ed.ctx, .int .i64 x.ed.kind, .int .i64 x.ed.at_, .int .i64 x.ed.len, .string x.ed.text] 35)) := (Mine.Mod.refl none_ _).alloc _
          have X6 : RowKit.Hid (Blk (w7.alloc (.cells #[.int .i64 x.o.site, .int .i64 x.o.seq, .int .i64 x.o.num, .int .i64 x.o.kind, .int .i64 x.o.at_, .string x.o.text, .slice x.o.sa x.o.slen x.o.scap, .int .i64 x.ed.site, .int .i64 x.ed.seq, .int .i64 x.ed.ctx, .int .i64 x.ed.kind, .int .i64 x.ed.at_, .int .i64 x.ed.len, .string x.ed.text] 35)) (w7.heap.size) [.int .i64 x.o.site, .int .i64 x.o.seq, .int .i64 x.o.num, .int .i64 x.o.kind, .int .i64 x.o.at_, .string x.o.text, .slice x.o.sa x.o.slen x.o.scap, .int .i64 x.ed.site, .int .i64 x.ed.seq, .int .i64 x.ed.ctx, .int .i64 x.ed.kind, .int .i64 x.ed.at_, .int .i64 x.ed.len, .string x.ed.text] 35) := Lib.hid (by have hb := Blk.new (w := w7) (cs := [.int .i64 x.o.site, .int .i64 x.o.seq, .int .i64 x.o.num, .int .i64 x.o.kind, .int .i64 x.o.at_, .string x.o.text, .slice x.o.sa x.o.slen x.o.scap, .int .i64 x.ed.site, .int .i64 x.ed.seq, .int .i64 x.ed.ctx, .int .i64 x.ed.kind, .int .i64 x.ed.at_, .int .i64 x.ed.len, .string x.ed.text]) (t := 35); (try simp only [World.size_alloc] at hb); exact hb)
          have M6 := Lib.hid (M5.out.trans mA)
          have A6 := Lib.hid (A5.out.mod mA (fun e => e))
          have B6 := Lib.hid (B5.out.mod mA (fun e => e))
          have C6 := Lib.hid (C5.out.mod mA (fun e => e))
          have O6 := Lib.hid (ownsRow_mod O5.out mA (fun _ _ e => e))
          clear mA
          go_simp
          refine hJ.out _ _ ⟨by rw [B6.out.cell]; rfl, by rw [B6.out.cell]; rfl, by rw [B6.out.cell]; rfl, by rw [B6.out.cell]; rfl, by rw [B6.out.cell]; rfl, by rw [B6.out.cell]; rfl, by rw [B6.out.cell]; rfl, by rw [B6.out.cell]; rfl, by rw [B6.out.cell]; rfl, by rw [B6.out.cell]; rfl, by rw [B6.out.cell]; rfl, by rw [B6.out.cell]; rfl, by rw [B6.out.cell]; rfl, by rw [B6.out.cell]; rfl⟩ (fun hS => ?_)
          clear hJ J
          try simp only [Act.put, List.setIfInBounds_toArray, List.set_cons_zero, List.set_cons_succ]
          obtain ⟨va8, vc8, w8, hrun, ho8, m8⟩ := app_ent (x := x) O6.out X6.out (Nat.le_trans HNS.out.2.2.2 (by decide)) C6.out.lt
          have HRUN := Lib.hid hrun
          have lb : ∀ j, (Value.slice va7 xll vc7).ownBlock = some j → w.heap.size + 1 + 1 + 1 ≤ j := fun j hj => (O6.out.lt j hj).1
          have M7 := Lib.hid (M6.out.transIn m8 (fun b hb e => by have := lb _ e; omega))
          have A7 := Lib.hid (A6.out.mod m8 (fun e => by have := lb _ e; omega))
          have B7 := Lib.hid (B6.out.mod m8 (fun e => by have := lb _ e; omega))
          have C7 := Lib.hid (C6.out.mod m8 (fun e => by have := lb _ e; omega))
          have O7 := Lib.hid ho8
          clear hrun ho8 m8 lb
          refine wpAnyH_ready (rs := [6]) (by kernel_rfl) (by simp) (AllReadyH.cons rfl (fun J hJ => ?_) <| AllReadyH.nil)
          refine step_append_runI rfl (.tmp 45) (.tmp 47) 24 rfl _ _ _ rfl rfl HRUN.out ?_
          refine hJ.out _ _ ⟨by rw [B7.out.cell]; rfl, by rw [B7.out.cell]; rfl, by rw [B7.out.cell]; rfl, by rw [B7.out.cell]; rfl, by rw [B7.out.cell]; rfl, by rw [B7.out.cell]; rfl, by rw [B7.out.cell]; rfl, by rw [B7.out.cell]; rfl, by rw [B7.out.cell]; rfl, by rw [B7.out.cell]; rfl, by rw [B7.out.cell]; rfl, by rw [B7.out.cell]; rfl, by rw [B7.out.cell]; rfl, by rw [B7.out.cell]; rfl⟩ (fun hS => ?_)
          clear hJ J
          try simp only [Act.put, List.setIfInBounds_toArray, List.set_cons_zero, List.set_cons_succ]
          refine wpAnyH_take (i := 7) (v := .pointer (some ⟨w.heap.size, 4, none⟩)) rfl (by kernel_rfl) (by kernel_rfl) (by kernel_rfl) (fun _ _ _ h => h) (Or.inl ⟨by kernel_rfl, ?_⟩) hS ?_
          · rintro w' ⟨q0, q1, q2, q3, q4, q5, q6, q7, q8, q9, q10, q11, q12, q13⟩; go_simp
          try simp only [Act.put, List.setIfInBounds_toArray, List.set_cons_zero, List.set_cons_succ]
          have b0 := A7.out.cell 4
          simp only [List.getElem?_cons_zero, List.getElem?_cons_succ] at b0
          have f0 := A7.out.frozen 4
          have mS := (Mine.Mod.refl (one w.heap.size) w8).setCell ⟨w.heap.size, 4, none⟩ (fun _ => rfl) (.slice va8 (xll + 1) vc8)
          have B9 := Lib.hid (B7.out.mod mS (fun e => by have e' : w.heap.size + 1 = w.heap.size := e; omega))
          have HF := Lib.hid (show RAddMid w ⟨xba, xbl, xbc, xva, xvl, xvc, xfr, xnum, xla, xll, xlc⟩ E x _ from ⟨va8, vc8, A7.out.set 4 (.slice va8 (xll + 1) vc8), ownsRow_mod O7.out mS (fun k hk e => by have e' : k = w.heap.size := e; have := (O7.out.lt k hk).1; omega), M7.out.transIn mS (fun b hb e => by have e' : b = w.heap.size := e; omega), B9.out, C7.out.mod mS (fun e => by have e' : w.heap.size + 1 + 1 = w.heap.size := e; omega)⟩)
          clear mS
          refine wpAnyH_ready (rs := [8]) (by kernel_rfl) (by simp) (AllReadyH.cons rfl (fun J hJ => ?_) <| AllReadyH.nil)
          go_simp
          refine hJ.out _ _ ⟨by rw [B9.out.cell]; rfl, by rw [B9.out.cell]; rfl, by rw [B9.out.cell]; rfl, by rw [B9.out.cell]; rfl, by rw [B9.out.cell]; rfl, by rw [B9.out.cell]; rfl, by rw [B9.out.cell]; rfl, by rw [B9.out.cell]; rfl, by rw [B9.out.cell]; rfl, by rw [B9.out.cell]; rfl, by rw [B9.out.cell]; rfl, by rw [B9.out.cell]; rfl, by rw [B9.out.cell]; rfl, by rw [B9.out.cell]; rfl⟩ (fun hS => ?_)
          clear hJ J
          try simp only [Act.put, List.setIfInBounds_toArray, List.set_cons_zero, List.set_cons_succ]
          refine wpAnyH_done (by kernel_rfl) ?_ _
          try simp only [List.getElem_toArray, List.getElem_cons_succ, List.getElem_cons_zero]
          try simp only [Act.put, List.setIfInBounds_toArray, List.set_cons_zero, List.set_cons_succ]
          clear b0 f0
          go_wp2_with fail
          go_meet
          exact HF
        · have mA : Mine.Mod none_ (w3.alloc (.cells #[] 35)) ((w3.alloc (.cells #[] 35)).alloc (.cells #[.int .i64 x.o.site, .int .i64 x.o.seq, .int .i64 x.o.num, .int .i64 x.o.kind, .int .i64 x.o.at_, .string x.o.text, .slice x.o.sa x.o.slen x.o.scap, .int .i64 x.ed.site, .int .i64 x.ed.seq, .int .i64 x.ed.ctx, .int .i64 x.ed.kind, .int .i64 x.ed.at_, .int .i64 x.ed.len, .string x.ed.text] 35)) := (Mine.Mod.refl none_ _).alloc _
          have X5 : RowKit.Hid (Blk ((w3.alloc (.cells #[] 35)).alloc (.cells #[.int .i64 x.o.site, .int .i64 x.o.seq, .int .i64 x.o.num, .int .i64 x.o.kind, .int .i64 x.o.at_, .string x.o.text, .slice x.o.sa x.o.slen x.o.scap, .int .i64 x.ed.site, .int .i64 x.ed.seq, .int .i64 x.ed.ctx, .int .i64 x.ed.kind, .int .i64 x.ed.at_, .int .i64 x.ed.len, .string x.ed.text] 35)) (w3.heap.size + 1) [.int .i64 x.o.site, .int .i64 x.o.seq, .int .i64 x.o.num, .int .i64 x.o.kind, .int .i64 x.o.at_, .string x.o.text, .slice x.o.sa x.o.slen x.o.scap, .int .i64 x.ed.site, .int .i64 x.ed.seq, .int .i64 x.ed.ctx, .int .i64 x.ed.kind, .int .i64 x.ed.at_, .int .i64 x.ed.len, .string x.ed.text] 35) := Lib.hid (by have hb := Blk.new (w := (w3.alloc (.cells #[] 35))) (cs := [.int .i64 x.o.site, .int .i64 x.o.seq, .int .i64 x.o.num, .int .i64 x.o.kind, .int .i64 x.o.at_, .string x.o.text, .slice x.o.sa x.o.slen x.o.scap, .int .i64 x.ed.site, .int .i64 x.ed.seq, .int .i64 x.ed.ctx, .int .i64 x.ed.kind, .int .i64 x.ed.at_, .int .i64 x.ed.len, .string x.ed.text]) (t := 35); (try simp only [World.size_alloc] at hb); exact hb)
          have M5 := Lib.hid (M4.out.trans mA)
          have A5 := Lib.hid (A4.out.mod mA (fun e => e))
          have B5 := Lib.hid (B4.out.mod mA (fun e => e))
          have C5 := Lib.hid (C4.out.mod mA (fun e => e))
          have O5 := Lib.hid (ownsRow_mod O4.out mA (fun _ _ e => e))
          have HNX : RowKit.Hid (¬ (Value.slice (some ⟨w3.heap.size, 0, none⟩) 0 0).ownBlock = some (w3.heap.size + 1)) := Lib.hid (fun e => by have e1 := Option.some.inj e; have e3 : w3.heap.size = w3.heap.size + 1 := e1; omega)
          clear mA
          go_simp
          refine hJ.out _ _ ⟨by rw [B5.out.cell]; rfl, by rw [B5.out.cell]; rfl, by rw [B5.out.cell]; rfl, by rw [B5.out.cell]; rfl, by rw [B5.out.cell]; rfl, by rw [B5.out.cell]; rfl, by rw [B5.out.cell]; rfl, by rw [B5.out.cell]; rfl, by rw [B5.out.cell]; rfl, by rw [B5.out.cell]; rfl, by rw [B5.out.cell]; rfl, by rw [B5.out.cell]; rfl, by rw [B5.out.cell]; rfl, by rw [B5.out.cell]; rfl⟩ (fun hS => ?_)
          clear hJ J
          try simp only [Act.put, List.setIfInBounds_toArray, List.set_cons_zero, List.set_cons_succ]
          refine wpAnyH_ready (rs := [3]) (by kernel_rfl) (by simp) (AllReadyH.cons rfl (fun J hJ => ?_) <| AllReadyH.nil)
          obtain ⟨va7, vc7, w7, hrun, ho7, m7⟩ := app_ents O5.out (HH.out.e.grown M5.out) (show 0 + xll ≤ 1000000 by have := HNS.out; omega) C5.out.lt
          rw [Nat.zero_add] at hrun ho7
          rw [List.nil_append] at ho7
          have HRUN := Lib.hid hrun
          have lb : ∀ j, (Value.slice (some ⟨w3.heap.size, 0, none⟩) 0 0).ownBlock = some j → w.heap.size + 1 + 1 + 1 ≤ j := fun j hj => (O5.out.lt j hj).1
          have M6 := Lib.hid (M5.out.transIn m7 (fun b hb e => by have := lb _ e; omega))
          have A6 := Lib.hid (A5.out.mod m7 (fun e => by have := lb _ e; omega))
          have B6 := Lib.hid (B5.out.mod m7 (fun e => by have := lb _ e; omega))
          have C6 := Lib.hid (C5.out.mod m7 (fun e => by have := lb _ e; omega))
          have O6 := Lib.hid ho7
          have X6 := Lib.hid (X5.out.mod m7 HNX.out)
          clear hrun ho7 m7 lb
          refine step_append_runI rfl (.tmp 42) (.tmp 44) 24 rfl _ _ _ rfl rfl HRUN.out ?_
          refine hJ.out _ _ ⟨by rw [B6.out.cell]; rfl, by rw [B6.out.cell]; rfl, by rw [B6.out.cell]; rfl, by rw [B6.out.cell]; rfl, by rw [B6.out.cell]; rfl, by rw [B6.out.cell]; rfl, by rw [B6.out.cell]; rfl, by rw [B6.out.cell]; rfl, by rw [B6.out.cell]; rfl, by rw [B6.out.cell]; rfl, by rw [B6.out.cell]; rfl, by rw [B6.out.cell]; rfl, by rw [B6.out.cell]; rfl, by rw [B6.out.cell]; rfl⟩ (fun hS => ?_)
          clear hJ J
          try simp only [Act.put, List.setIfInBounds_toArray, List.set_cons_zero, List.set_cons_succ]
          obtain ⟨va8, vc8, w8, hrun, ho8, m8⟩ := app_ent (x := x) O6.out X6.out (Nat.le_trans HNS.out.2.2.2 (by decide)) C6.out.lt
          have HRUN := Lib.hid hrun
          have lb : ∀ j, (Value.slice va7 xll vc7).ownBlock = some j → w.heap.size + 1 + 1 + 1 ≤ j := fun j hj => (O6.out.lt j hj).1
          have M7 := Lib.hid (M6.out.transIn m8 (fun b hb e => by have := lb _ e; omega))
          have A7 := Lib.hid (A6.out.mod m8 (fun e => by have := lb _ e; omega))
          have B7 := Lib.hid (B6.out.mod m8 (fun e => by have := lb _ e; omega))
          have C7 := Lib.hid (C6.out.mod m8 (fun e => by have := lb _ e; omega))
          have O7 := Lib.hid ho8
          clear hrun ho8 m8 lb
          refine wpAnyH_ready (rs := [6]) (by kernel_rfl) (by simp) (AllReadyH.cons rfl (fun J hJ => ?_) <| AllReadyH.nil)
          refine step_append_runI rfl (.tmp 45) (.tmp 47) 24 rfl _ _ _ rfl rfl HRUN.out ?_
          refine hJ.out _ _ ⟨by rw [B7.out.cell]; rfl, by rw [B7.out.cell]; rfl, by rw [B7.out.cell]; rfl, by rw [B7.out.cell]; rfl, by rw [B7.out.cell]; rfl, by rw [B7.out.cell]; rfl, by rw [B7.out.cell]; rfl, by rw [B7.out.cell]; rfl, by rw [B7.out.cell]; rfl, by rw [B7.out.cell]; rfl, by rw [B7.out.cell]; rfl, by rw [B7.out.cell]; rfl, by rw [B7.out.cell]; rfl, by rw [B7.out.cell]; rfl⟩ (fun hS => ?_)
          clear hJ J
          try simp only [Act.put, List.setIfInBounds_toArray, List.set_cons_zero, List.set_cons_succ]
          refine wpAnyH_take (i := 7) (v := .pointer (some ⟨w.heap.size, 4, none⟩)) rfl (by kernel_rfl) (by kernel_rfl) (by kernel_rfl) (fun _ _ _ h => h) (Or.inl ⟨by kernel_rfl, ?_⟩) hS ?_
          · rintro w' ⟨q0, q1, q2, q3, q4, q5, q6, q7, q8, q9, q10, q11, q12, q13⟩; go_simp
          try simp only [Act.put, List.setIfInBounds_toArray, List.set_cons_zero, List.set_cons_succ]
          have b0 := A7.out.cell 4
          simp only [List.getElem?_cons_zero, List.getElem?_cons_succ] at b0
          have f0 := A7.out.frozen 4
          have mS := (Mine.Mod.refl (one w.heap.size) w8).setCell ⟨w.heap.size, 4, none⟩ (fun _ => rfl) (.slice va8 (xll + 1) vc8)
          have B9 := Lib.hid (B7.out.mod mS (fun e => by have e' : w.heap.size + 1 = w.heap.size := e; omega))
          have HF := Lib.hid (show RAddMid w ⟨xba, xbl, xbc, xva, xvl, xvc, xfr, xnum, xla, xll, xlc⟩ E x _ from ⟨va8, vc8, A7.out.set 4 (.slice va8 (xll + 1) vc8), ownsRow_mod O7.out mS (fun k hk e => by have e' : k = w.heap.size := e; have := (O7.out.lt k hk).1; omega), M7.out.transIn mS (fun b hb e => by have e' : b = w.heap.size := e; omega), B9.out, C7.out.mod mS (fun e => by have e' : w.heap.size + 1 + 1 = w.heap.size := e; omega)⟩)
          clear mS
          refine wpAnyH_ready (rs := [8]) (by kernel_rfl) (by simp) (AllReadyH.cons rfl (fun J hJ => ?_) <| AllReadyH.nil)
          go_simp
          refine hJ.out _ _ ⟨by rw [B9.out.cell]; rfl, by rw [B9.out.cell]; rfl, by rw [B9.out.cell]; rfl, by rw [B9.out.cell]; rfl, by rw [B9.out.cell]; rfl, by rw [B9.out.cell]; rfl, by rw [B9.out.cell]; rfl, by rw [B9.out.cell]; rfl, by rw [B9.out.cell]; rfl, by rw [B9.out.cell]; rfl, by rw [B9.out.cell]; rfl, by rw [B9.out.cell]; rfl, by rw [B9.out.cell]; rfl, by rw [B9.out.cell]; rfl⟩ (fun hS => ?_)
          clear hJ J
          try simp only [Act.put, List.setIfInBounds_toArray, List.set_cons_zero, List.set_cons_succ]
          refine wpAnyH_done (by kernel_rfl) ?_ _
          try simp only [List.getElem_toArray, List.getElem_cons_succ, List.getElem_cons_zero]
          try simp only [Act.put, List.setIfInBounds_toArray, List.set_cons_zero, List.set_cons_succ]
          clear b0 f0
          go_wp2_with fail
          go_meet
          exact HF
      · have mA : Mine.Mod none_ w3 (w3.alloc (.cells #[.int .i64 x.o.site, .int .i64 x.o.seq, .int .i64 x.o.num, .int .i64 x.o.kind, .int .i64 x.o.at_, .string x.o.text, .slice x.o.sa x.o.slen x.o.scap, .int .i64 x.ed.site, .int .i64 x.ed.seq, .int .i64 x.ed.ctx, .int .i64 x.ed.kind, .int .i64 x.ed.at_, .int .i64 x.ed.len, .string x.ed.text] 35)) := (Mine.Mod.refl none_ _).alloc _
        have X4 : RowKit.Hid (Blk (w3.alloc (.cells #[.int .i64 x.o.site, .int .i64 x.o.seq, .int .i64 x.o.num, .int .i64 x.o.kind, .int .i64 x.o.at_, .string x.o.text, .slice x.o.sa x.o.slen x.o.scap, .int .i64 x.ed.site, .int .i64 x.ed.seq, .int .i64 x.ed.ctx, .int .i64 x.ed.kind, .int .i64 x.ed.at_, .int .i64 x.ed.len, .string x.ed.text] 35)) (w3.heap.size) [.int .i64 x.o.site, .int .i64 x.o.seq, .int .i64 x.o.num, .int .i64 x.o.kind, .int .i64 x.o.at_, .string x.o.text, .slice x.o.sa x.o.slen x.o.scap, .int .i64 x.ed.site, .int .i64 x.ed.seq, .int .i64 x.ed.ctx, .int .i64 x.ed.kind, .int .i64 x.ed.at_, .int .i64 x.ed.len, .string x.ed.text] 35) := Lib.hid (by have hb := Blk.new (w := w3) (cs := [.int .i64 x.o.site, .int .i64 x.o.seq, .int .i64 x.o.num, .int .i64 x.o.kind, .int .i64 x.o.at_, .string x.o.text, .slice x.o.sa x.o.slen x.o.scap, .int .i64 x.ed.site, .int .i64 x.ed.seq, .int .i64 x.ed.ctx, .int .i64 x.ed.kind, .int .i64 x.ed.at_, .int .i64 x.ed.len, .string x.ed.text]) (t := 35); (try simp only [World.size_alloc] at hb); exact hb)
        have M4 := Lib.hid (M3.out.trans mA)
        have A4 := Lib.hid (A3.out.mod mA (fun e => e))
        have B4 := Lib.hid (B3.out.mod mA (fun e => e))
        have C4 := Lib.hid (C3.out.mod mA (fun e => e))
        clear mA
        go_simp
        refine hJ.out _ _ ⟨by rw [B4.out.cell]; rfl, by rw [B4.out.cell]; rfl, by rw [B4.out.cell]; rfl, by rw [B4.out.cell]; rfl, by rw [B4.out.cell]; rfl, by rw [B4.out.cell]; rfl, by rw [B4.out.cell]; rfl, by rw [B4.out.cell]; rfl, by rw [B4.out.cell]; rfl, by rw [B4.out.cell]; rfl, by rw [B4.out.cell]; rfl, by rw [B4.out.cell]; rfl, by rw [B4.out.cell]; rfl, by rw [B4.out.cell]; rfl⟩ (fun hS => ?_)
        clear hJ J
        try simp only [Act.put, List.setIfInBounds_toArray, List.set_cons_zero, List.set_cons_succ]
        refine wpAnyH_ready (rs := [0]) (by kernel_rfl) (by simp) (AllReadyH.cons rfl (fun J hJ => ?_) <| AllReadyH.nil)
        have mA : Mine.Mod none_ (w3.alloc (.cells #[.int .i64 x.o.site, .int .i64 x.o.seq, .int .i64 x.o.num, .int .i64 x.o.kind, .int .i64 x.o.at_, .string x.o.text, .slice x.o.sa x.o.slen x.o.scap, .int .i64 x.ed.site, .int .i64 x.ed.seq, .int .i64 x.ed.ctx, .int .i64 x.ed.kind, .int .i64 x.ed.at_, .int .i64 x.ed.len, .string x.ed.text] 35)) ((w3.alloc (.cells #[.int .i64 x.o.site, .int .i64 x.o.seq, .int .i64 x.o.num, .int .i64 x.o.kind, .int .i64 x.o.at_, .string x.o.text, .slice x.o.sa x.o.slen x.o.scap, .int .i64 x.ed.site, .int .i64 x.ed.seq, .int .i64 x.ed.ctx, .int .i64 x.ed.kind, .int .i64 x.ed.at_, .int .i64 x.ed.len, .string x.ed.text] 35)).alloc (.cells #[] 35)) := (Mine.Mod.refl none_ _).alloc _
        have O5 := Lib.hid (show ((w3.alloc (.cells #[.int .i64 x.o.site, .int .i64 x.o.seq, .int .i64 x.o.num, .int .i64 x.o.kind, .int .i64 x.o.at_, .string x.o.text, .slice x.o.sa x.o.slen x.o.scap, .int .i64 x.ed.site, .int .i64 x.ed.seq, .int .i64 x.ed.ctx, .int .i64 x.ed.kind, .int .i64 x.ed.at_, .int .i64 x.ed.len, .string x.ed.text] 35)).alloc (.cells #[] 35)).ownsRow (w.heap.size + 1 + 1 + 1) 35 14 (.slice (some ⟨w3.heap.size + 1, 0, none⟩) 0 0) 0 (flat EntV.cs []) by have ho := World.ownsRow_made (base := w.heap.size + 1 + 1 + 1) (e := 35) (size := 14) (w3.alloc (.cells #[.int .i64 x.o.site, .int .i64 x.o.seq, .int .i64 x.o.num, .int .i64 x.o.kind, .int .i64 x.o.at_, .string x.o.text, .slice x.o.sa x.o.slen x.o.scap, .int .i64 x.ed.site, .int .i64 x.ed.seq, .int .i64 x.ed.ctx, .int .i64 x.ed.kind, .int .i64 x.ed.at_, .int .i64 x.ed.len, .string x.ed.text] 35)) #[] 0 C4.out.lt (by unfold maxLen; omega) rfl; (try simp only [World.size_alloc] at ho); exact ho)
        have M5 := Lib.hid (M4.out.trans mA)
        have A5 := Lib.hid (A4.out.mod mA (fun e => e))
        have B5 := Lib.hid (B4.out.mod mA (fun e => e))
        have C5 := Lib.hid (C4.out.mod mA (fun e => e))
        have X5 := Lib.hid (X4.out.mod mA (fun e => e))
        have HNX : RowKit.Hid (¬ (Value.slice (some ⟨w3.heap.size + 1, 0, none⟩) 0 0).ownBlock = some (w3.heap.size)) := Lib.hid (fun e => by have e1 := Option.some.inj e; have e2 := X4.out.lt; simp only [World.size_alloc] at e2; have e3 : w3.heap.size + 1 = w3.heap.size := e1; have e4 : w3.heap.size < w3.heap.size + 1 := e2; omega)
        clear mA
        go_simp
        refine hJ.out _ _ ⟨by rw [B5.out.cell]; rfl, by rw [B5.out.cell]; rfl, by rw [B5.out.cell]; rfl, by rw [B5.out.cell]; rfl, by rw [B5.out.cell]; rfl, by rw [B5.out.cell]; rfl, by rw [B5.out.cell]; rfl, by rw [B5.out.cell]; rfl, by rw [B5.out.cell]; rfl, by rw [B5.out.cell]; rfl, by rw [B5.out.cell]; rfl, by rw [B5.out.cell]; rfl, by rw [B5.out.cell]; rfl, by rw [B5.out.cell]; rfl⟩ (fun hS => ?_)
        clear hJ J
        try simp only [Act.put, List.setIfInBounds_toArray, List.set_cons_zero, List.set_cons_succ]
        refine wpAnyH_ready (rs := [3]) (by kernel_rfl) (by simp) (AllReadyH.cons rfl (fun J hJ => ?_) <| AllReadyH.nil)
        obtain ⟨va7, vc7, w7, hrun, ho7, m7⟩ := app_ents O5.out (HH.out.e.grown M5.out) (show 0 + xll ≤ 1000000 by have := HNS.out; omega) C5.out.lt
        rw [Nat.zero_add] at hrun ho7
        rw [List.nil_append] at ho7
        have HRUN := Lib.hid hrun
        have lb : ∀ j, (Value.slice (some ⟨w3.heap.size + 1, 0, none⟩) 0 0).ownBlock = some j → w.heap.size + 1 + 1 + 1 ≤ j := fun j hj => (O5.out.lt j hj).1
        have M6 := Lib.hid (M5.out.transIn m7 (fun b hb e => by have := lb _ e; omega))
        have A6 := Lib.hid (A5.out.mod m7 (fun e => by have := lb _ e; omega))
        have B6 := Lib.hid (B5.out.mod m7 (fun e => by have := lb _ e; omega))
        have C6 := Lib.hid (C5.out.mod m7 (fun e => by have := lb _ e; omega))
        have O6 := Lib.hid ho7
        have X6 := Lib.hid (X5.out.mod m7 HNX.out)
        clear hrun ho7 m7 lb
        refine step_append_runI rfl (.tmp 42) (.tmp 44) 24 rfl _ _ _ rfl rfl HRUN.out ?_
        refine hJ.out _ _ ⟨by rw [B6.out.cell]; rfl, by rw [B6.out.cell]; rfl, by rw [B6.out.cell]; rfl, by rw [B6.out.cell]; rfl, by rw [B6.out.cell]; rfl, by rw [B6.out.cell]; rfl, by rw [B6.out.cell]; rfl, by rw [B6.out.cell]; rfl, by rw [B6.out.cell]; rfl, by rw [B6.out.cell]; rfl, by rw [B6.out.cell]; rfl, by rw [B6.out.cell]; rfl, by rw [B6.out.cell]; rfl, by rw [B6.out.cell]; rfl⟩ (fun hS => ?_)
        clear hJ J
        try simp only [Act.put, List.setIfInBounds_toArray, List.set_cons_zero, List.set_cons_succ]
        obtain ⟨va8, vc8, w8, hrun, ho8, m8⟩ := app_ent (x := x) O6.out X6.out (Nat.le_trans HNS.out.2.2.2 (by decide)) C6.out.lt
        have HRUN := Lib.hid hrun
        have lb : ∀ j, (Value.slice va7 xll vc7).ownBlock = some j → w.heap.size + 1 + 1 + 1 ≤ j := fun j hj => (O6.out.lt j hj).1
        have M7 := Lib.hid (M6.out.transIn m8 (fun b hb e => by have := lb _ e; omega))
        have A7 := Lib.hid (A6.out.mod m8 (fun e => by have := lb _ e; omega))
        have B7 := Lib.hid (B6.out.mod m8 (fun e => by have := lb _ e; omega))
        have C7 := Lib.hid (C6.out.mod m8 (fun e => by have := lb _ e; omega))
        have O7 := Lib.hid ho8
        clear hrun ho8 m8 lb
        refine wpAnyH_ready (rs := [6]) (by kernel_rfl) (by simp) (AllReadyH.cons rfl (fun J hJ => ?_) <| AllReadyH.nil)
        refine step_append_runI rfl (.tmp 45) (.tmp 47) 24 rfl _ _ _ rfl rfl HRUN.out ?_
        refine hJ.out _ _ ⟨by rw [B7.out.cell]; rfl, by rw [B7.out.cell]; rfl, by rw [B7.out.cell]; rfl, by rw [B7.out.cell]; rfl, by rw [B7.out.cell]; rfl, by rw [B7.out.cell]; rfl, by rw [B7.out.cell]; rfl, by rw [B7.out.cell]; rfl, by rw [B7.out.cell]; rfl, by rw [B7.out.cell]; rfl, by rw [B7.out.cell]; rfl, by rw [B7.out.cell]; rfl, by rw [B7.out.cell]; rfl, by rw [B7.out.cell]; rfl⟩ (fun hS => ?_)
        clear hJ J
        try simp only [Act.put, List.setIfInBounds_toArray, List.set_cons_zero, List.set_cons_succ]
        refine wpAnyH_take (i := 7) (v := .pointer (some ⟨w.heap.size, 4, none⟩)) rfl (by kernel_rfl) (by kernel_rfl) (by kernel_rfl) (fun _ _ _ h => h) (Or.inl ⟨by kernel_rfl, ?_⟩) hS ?_
        · rintro w' ⟨q0, q1, q2, q3, q4, q5, q6, q7, q8, q9, q10, q11, q12, q13⟩; go_simp
        try simp only [Act.put, List.setIfInBounds_toArray, List.set_cons_zero, List.set_cons_succ]
        have b0 := A7.out.cell 4
        simp only [List.getElem?_cons_zero, List.getElem?_cons_succ] at b0
        have f0 := A7.out.frozen 4
        have mS := (Mine.Mod.refl (one w.heap.size) w8).setCell ⟨w.heap.size, 4, none⟩ (fun _ => rfl) (.slice va8 (xll + 1) vc8)
        have B9 := Lib.hid (B7.out.mod mS (fun e => by have e' : w.heap.size + 1 = w.heap.size := e; omega))
        have HF := Lib.hid (show RAddMid w ⟨xba, xbl, xbc, xva, xvl, xvc, xfr, xnum, xla, xll, xlc⟩ E x _ from ⟨va8, vc8, A7.out.set 4 (.slice va8 (xll + 1) vc8), ownsRow_mod O7.out mS (fun k hk e => by have e' : k = w.heap.size := e; have := (O7.out.lt k hk).1; omega), M7.out.transIn mS (fun b hb e => by have e' : b = w.heap.size := e; omega), B9.out, C7.out.mod mS (fun e => by have e' : w.heap.size + 1 + 1 = w.heap.size := e; omega)⟩)
        clear mS
        refine wpAnyH_ready (rs := [8]) (by kernel_rfl) (by simp) (AllReadyH.cons rfl (fun J hJ => ?_) <| AllReadyH.nil)
        go_simp
        refine hJ.out _ _ ⟨by rw [B9.out.cell]; rfl, by rw [B9.out.cell]; rfl, by rw [B9.out.cell]; rfl, by rw [B9.out.cell]; rfl, by rw [B9.out.cell]; rfl, by rw [B9.out.cell]; rfl, by rw [B9.out.cell]; rfl, by rw [B9.out.cell]; rfl, by rw [B9.out.cell]; rfl, by rw [B9.out.cell]; rfl, by rw [B9.out.cell]; rfl, by rw [B9.out.cell]; rfl, by rw [B9.out.cell]; rfl, by rw [B9.out.cell]; rfl⟩ (fun hS => ?_)
        clear hJ J
        try simp only [Act.put, List.setIfInBounds_toArray, List.set_cons_zero, List.set_cons_succ]
        refine wpAnyH_done (by kernel_rfl) ?_ _
        try simp only [List.getElem_toArray, List.getElem_cons_succ, List.getElem_cons_zero]
        try simp only [Act.put, List.setIfInBounds_toArray, List.set_cons_zero, List.set_cons_succ]
        clear b0 f0
        go_wp2_with fail
        go_meet
        exact HF
    · have mA : Mine.Mod none_ w3 (w3.alloc (.cells #[.int .i64 x.o.site, .int .i64 x.o.seq, .int .i64 x.o.num, .int .i64 x.o.kind, .int .i64 x.o.at_, .string x.o.text, .slice x.o.sa x.o.slen x.o.scap, .int .i64 x.ed.site, .int .i64 x.ed.seq, .int .i64 x.ed.ctx, .int .i64 x.ed.kind, .int .i64 x.ed.at_, .int .i64 x.ed.len, .string x.ed.text] 35)) := (Mine.Mod.refl none_ _).alloc _
      have X4 : RowKit.Hid (Blk (w3.alloc (.cells #[.int .i64 x.o.site, .int .i64 x.o.seq, .int .i64 x.o.num, .int .i64 x.o.kind, .int .i64 x.o.at_, .string x.o.text, .slice x.o.sa x.o.slen x.o.scap, .int .i64 x.ed.site, .int .i64 x.ed.seq, .int .i64 x.ed.ctx, .int .i64 x.ed.kind, .int .i64 x.ed.at_, .int .i64 x.ed.len, .string x.ed.text] 35)) (w3.heap.size) [.int .i64 x.o.site, .int .i64 x.o.seq, .int .i64 x.o.num, .int .i64 x.o.kind, .int .i64 x.o.at_, .string x.o.text, .slice x.o.sa x.o.slen x.o.scap, .int .i64 x.ed.site, .int .i64 x.ed.seq, .int .i64 x.ed.ctx, .int .i64 x.ed.kind, .int .i64 x.ed.at_, .int .i64 x.ed.len, .string x.ed.text] 35) := Lib.hid (by have hb := Blk.new (w := w3) (cs := [.int .i64 x.o.site, .int .i64 x.o.seq, .int .i64 x.o.num, .int .i64 x.o.kind, .int .i64 x.o.at_, .string x.o.text, .slice x.o.sa x.o.slen x.o.scap, .int .i64 x.ed.site, .int .i64 x.ed.seq, .int .i64 x.ed.ctx, .int .i64 x.ed.kind, .int .i64 x.ed.at_, .int .i64 x.ed.len, .string x.ed.text]) (t := 35); (try simp only [World.size_alloc] at hb); exact hb)
      have M4 := Lib.hid (M3.out.trans mA)
      have A4 := Lib.hid (A3.out.mod mA (fun e => e))
      have B4 := Lib.hid (B3.out.mod mA (fun e => e))
      have C4 := Lib.hid (C3.out.mod mA (fun e => e))
      clear mA
      go_simp
      refine hJ.out _ _ ⟨by rw [B4.out.cell]; rfl, by rw [B4.out.cell]; rfl, by rw [B4.out.cell]; rfl, by rw [B4.out.cell]; rfl, by rw [B4.out.cell]; rfl, by rw [B4.out.cell]; rfl, by rw [B4.out.cell]; rfl, by rw [B4.out.cell]; rfl, by rw [B4.out.cell]; rfl, by rw [B4.out.cell]; rfl, by rw [B4.out.cell]; rfl, by rw [B4.out.cell]; rfl, by rw [B4.out.cell]; rfl, by rw [B4.out.cell]; rfl⟩ (fun hS => ?_)
      clear hJ J
      try simp only [Act.put, List.setIfInBounds_toArray, List.set_cons_zero, List.set_cons_succ]
      refine wpAnyH_ready (rs := [0, 2]) (by kernel_rfl) (by simp) (AllReadyH.cons rfl (fun J hJ => ?_) <| AllReadyH.cons rfl (fun J hJ => ?_) <| AllReadyH.nil)
      · have mA : Mine.Mod none_ (w3.alloc (.cells #[.int .i64 x.o.site, .int .i64 x.o.seq, .int .i64 x.o.num, .int .i64 x.o.kind, .int .i64 x.o.at_, .string x.o.text, .slice x.o.sa x.o.slen x.o.scap, .int .i64 x.ed.site, .int .i64 x.ed.seq, .int .i64 x.ed.ctx, .int .i64 x.ed.kind, .int .i64 x.ed.at_, .int .i64 x.ed.len, .string x.ed.text] 35)) ((w3.alloc (.cells #[.int .i64 x.o.site, .int .i64 x.o.seq, .int .i64 x.o.num, .int .i64 x.o.kind, .int .i64 x.o.at_, .string x.o.text, .slice x.o.sa x.o.slen x.o.scap, .int .i64 x.ed.site, .int .i64 x.ed.seq, .int .i64 x.ed.ctx, .int .i64 x.ed.kind, .int .i64 x.ed.at_, .int .i64 x.ed.len, .string x.ed.text] 35)).alloc (.cells #[] 35)) := (Mine.Mod.refl none_ _).alloc _
        have O5 := Lib.hid (show ((w3.alloc (.cells #[.int .i64 x.o.site, .int .i64 x.o.seq, .int .i64 x.o.num, .int .i64 x.o.kind, .int .i64 x.o.at_, .string x.o.text, .slice x.o.sa x.o.slen x.o.scap, .int .i64 x.ed.site, .int .i64 x.ed.seq, .int .i64 x.ed.ctx, .int .i64 x.ed.kind, .int .i64 x.ed.at_, .int .i64 x.ed.len, .string x.ed.text] 35)).alloc (.cells #[] 35)).ownsRow (w.heap.size + 1 + 1 + 1) 35 14 (.slice (some ⟨w3.heap.size + 1, 0, none⟩) 0 0) 0 (flat EntV.cs []) by have ho := World.ownsRow_made (base := w.heap.size + 1 + 1 + 1) (e := 35) (size := 14) (w3.alloc (.cells #[.int .i64 x.o.site, .int .i64 x.o.seq, .int .i64 x.o.num, .int .i64 x.o.kind, .int .i64 x.o.at_, .string x.o.text, .slice x.o.sa x.o.slen x.o.scap, .int .i64 x.ed.site, .int .i64 x.ed.seq, .int .i64 x.ed.ctx, .int .i64 x.ed.kind, .int .i64 x.ed.at_, .int .i64 x.ed.len, .string x.ed.text] 35)) #[] 0 C4.out.lt (by unfold maxLen; omega) rfl; (try simp only [World.size_alloc] at ho); exact ho)
        have M5 := Lib.hid (M4.out.trans mA)
        have A5 := Lib.hid (A4.out.mod mA (fun e => e))
        have B5 := Lib.hid (B4.out.mod mA (fun e => e))
        have C5 := Lib.hid (C4.out.mod mA (fun e => e))
        have X5 := Lib.hid (X4.out.mod mA (fun e => e))
        have HNX : RowKit.Hid (¬ (Value.slice (some ⟨w3.heap.size + 1, 0, none⟩) 0 0).ownBlock = some (w3.heap.size)) := Lib.hid (fun e => by have e1 := Option.some.inj e; have e2 := X4.out.lt; simp only [World.size_alloc] at e2; have e3 : w3.heap.size + 1 = w3.heap.size := e1; have e4 : w3.heap.size < w3.heap.size + 1 := e2; omega)
        clear mA
        go_simp
        refine hJ.out _ _ ⟨by rw [B5.out.cell]; rfl, by rw [B5.out.cell]; rfl, by rw [B5.out.cell]; rfl, by rw [B5.out.cell]; rfl, by rw [B5.out.cell]; rfl, by rw [B5.out.cell]; rfl, by rw [B5.out.cell]; rfl, by rw [B5.out.cell]; rfl, by rw [B5.out.cell]; rfl, by rw [B5.out.cell]; rfl, by rw [B5.out.cell]; rfl, by rw [B5.out.cell]; rfl, by rw [B5.out.cell]; rfl, by rw [B5.out.cell]; rfl⟩ (fun hS => ?_)
        clear hJ J
        try simp only [Act.put, List.setIfInBounds_toArray, List.set_cons_zero, List.set_cons_succ]
        refine wpAnyH_ready (rs := [2]) (by kernel_rfl) (by simp) (AllReadyH.cons rfl (fun J hJ => ?_) <| AllReadyH.nil)
        have b0 := A5.out.cell 4
        simp only [List.getElem?_cons_zero, List.getElem?_cons_succ] at b0
        go_simp
        refine hJ.out _ _ ⟨by rw [B5.out.cell]; rfl, by rw [B5.out.cell]; rfl, by rw [B5.out.cell]; rfl, by rw [B5.out.cell]; rfl, by rw [B5.out.cell]; rfl, by rw [B5.out.cell]; rfl, by rw [B5.out.cell]; rfl, by rw [B5.out.cell]; rfl, by rw [B5.out.cell]; rfl, by rw [B5.out.cell]; rfl, by rw [B5.out.cell]; rfl, by rw [B5.out.cell]; rfl, by rw [B5.out.cell]; rfl, by rw [B5.out.cell]; rfl⟩ (fun hS => ?_)
        clear hJ J b0
        try simp only [Act.put, List.setIfInBounds_toArray, List.set_cons_zero, List.set_cons_succ]
        refine wpAnyH_ready (rs := [3]) (by kernel_rfl) (by simp) (AllReadyH.cons rfl (fun J hJ => ?_) <| AllReadyH.nil)
        obtain ⟨va7, vc7, w7, hrun, ho7, m7⟩ := app_ents O5.out (HH.out.e.grown M5.out) (show 0 + xll ≤ 1000000 by have := HNS.out; omega) C5.out.lt
        rw [Nat.zero_add] at hrun ho7
        rw [List.nil_append] at ho7
        have HRUN := Lib.hid hrun
        have lb : ∀ j, (Value.slice (some ⟨w3.heap.size + 1, 0, none⟩) 0 0).ownBlock = some j → w.heap.size + 1 + 1 + 1 ≤ j := fun j hj => (O5.out.lt j hj).1
        have M6 := Lib.hid (M5.out.transIn m7 (fun b hb e => by have := lb _ e; omega))
        have A6 := Lib.hid (A5.out.mod m7 (fun e => by have := lb _ e; omega))
        have B6 := Lib.hid (B5.out.mod m7 (fun e => by have := lb _ e; omega))
        have C6 := Lib.hid (C5.out.mod m7 (fun e => by have := lb _ e; omega))
        have O6 := Lib.hid ho7
        have X6 := Lib.hid (X5.out.mod m7 HNX.out)
        clear hrun ho7 m7 lb
        refine step_append_runI rfl (.tmp 42) (.tmp 44) 24 rfl _ _ _ rfl rfl HRUN.out ?_
        refine hJ.out _ _ ⟨by rw [B6.out.cell]; rfl, by rw [B6.out.cell]; rfl, by rw [B6.out.cell]; rfl, by rw [B6.out.cell]; rfl, by rw [B6.out.cell]; rfl, by rw [B6.out.cell]; rfl, by rw [B6.out.cell]; rfl, by rw [B6.out.cell]; rfl, by rw [B6.out.cell]; rfl, by rw [B6.out.cell]; rfl, by rw [B6.out.cell]; rfl, by rw [B6.out.cell]; rfl, by rw [B6.out.cell]; rfl, by rw [B6.out.cell]; rfl⟩ (fun hS => ?_)
        clear hJ J
        try simp only [Act.put, List.setIfInBounds_toArray, List.set_cons_zero, List.set_cons_succ]
        obtain ⟨va8, vc8, w8, hrun, ho8, m8⟩ := app_ent (x := x) O6.out X6.out (Nat.le_trans HNS.out.2.2.2 (by decide)) C6.out.lt
        have HRUN := Lib.hid hrun
        have lb : ∀ j, (Value.slice va7 xll vc7).ownBlock = some j → w.heap.size + 1 + 1 + 1 ≤ j := fun j hj => (O6.out.lt j hj).1
        have M7 := Lib.hid (M6.out.transIn m8 (fun b hb e => by have := lb _ e; omega))
        have A7 := Lib.hid (A6.out.mod m8 (fun e => by have := lb _ e; omega))
        have B7 := Lib.hid (B6.out.mod m8 (fun e => by have := lb _ e; omega))
        have C7 := Lib.hid (C6.out.mod m8 (fun e => by have := lb _ e; omega))
        have O7 := Lib.hid ho8
        clear hrun ho8 m8 lb
        refine wpAnyH_ready (rs := [6]) (by kernel_rfl) (by simp) (AllReadyH.cons rfl (fun J hJ => ?_) <| AllReadyH.nil)
        refine step_append_runI rfl (.tmp 45) (.tmp 47) 24 rfl _ _ _ rfl rfl HRUN.out ?_
        refine hJ.out _ _ ⟨by rw [B7.out.cell]; rfl, by rw [B7.out.cell]; rfl, by rw [B7.out.cell]; rfl, by rw [B7.out.cell]; rfl, by rw [B7.out.cell]; rfl, by rw [B7.out.cell]; rfl, by rw [B7.out.cell]; rfl, by rw [B7.out.cell]; rfl, by rw [B7.out.cell]; rfl, by rw [B7.out.cell]; rfl, by rw [B7.out.cell]; rfl, by rw [B7.out.cell]; rfl, by rw [B7.out.cell]; rfl, by rw [B7.out.cell]; rfl⟩ (fun hS => ?_)
        clear hJ J
        try simp only [Act.put, List.setIfInBounds_toArray, List.set_cons_zero, List.set_cons_succ]
        refine wpAnyH_take (i := 7) (v := .pointer (some ⟨w.heap.size, 4, none⟩)) rfl (by kernel_rfl) (by kernel_rfl) (by kernel_rfl) (fun _ _ _ h => h) (Or.inl ⟨by kernel_rfl, ?_⟩) hS ?_
        · rintro w' ⟨q0, q1, q2, q3, q4, q5, q6, q7, q8, q9, q10, q11, q12, q13⟩; go_simp
        try simp only [Act.put, List.setIfInBounds_toArray, List.set_cons_zero, List.set_cons_succ]
        have b0 := A7.out.cell 4
        simp only [List.getElem?_cons_zero, List.getElem?_cons_succ] at b0
        have f0 := A7.out.frozen 4
        have mS := (Mine.Mod.refl (one w.heap.size) w8).setCell ⟨w.heap.size, 4, none⟩ (fun _ => rfl) (.slice va8 (xll + 1) vc8)
        have B9 := Lib.hid (B7.out.mod mS (fun e => by have e' : w.heap.size + 1 = w.heap.size := e; omega))
        have HF := Lib.hid (show RAddMid w ⟨xba, xbl, xbc, xva, xvl, xvc, xfr, xnum, xla, xll, xlc⟩ E x _ from ⟨va8, vc8, A7.out.set 4 (.slice va8 (xll + 1) vc8), ownsRow_mod O7.out mS (fun k hk e => by have e' : k = w.heap.size := e; have := (O7.out.lt k hk).1; omega), M7.out.transIn mS (fun b hb e => by have e' : b = w.heap.size := e; omega), B9.out, C7.out.mod mS (fun e => by have e' : w.heap.size + 1 + 1 = w.heap.size := e; omega)⟩)
        clear mS
        refine wpAnyH_ready (rs := [8]) (by kernel_rfl) (by simp) (AllReadyH.cons rfl (fun J hJ => ?_) <| AllReadyH.nil)
        go_simp
        refine hJ.out _ _ ⟨by rw [B9.out.cell]; rfl, by rw [B9.out.cell]; rfl, by rw [B9.out.cell]; rfl, by rw [B9.out.cell]; rfl, by rw [B9.out.cell]; rfl, by rw [B9.out.cell]; rfl, by rw [B9.out.cell]; rfl, by rw [B9.out.cell]; rfl, by rw [B9.out.cell]; rfl, by rw [B9.out.cell]; rfl, by rw [B9.out.cell]; rfl, by rw [B9.out.cell]; rfl, by rw [B9.out.cell]; rfl, by rw [B9.out.cell]; rfl⟩ (fun hS => ?_)
        clear hJ J
        try simp only [Act.put, List.setIfInBounds_toArray, List.set_cons_zero, List.set_cons_succ]
        refine wpAnyH_done (by kernel_rfl) ?_ _
        try simp only [List.getElem_toArray, List.getElem_cons_succ, List.getElem_cons_zero]
        try simp only [Act.put, List.setIfInBounds_toArray, List.set_cons_zero, List.set_cons_succ]
        clear b0 f0
        go_wp2_with fail
        go_meet
        exact HF
      · have b0 := A4.out.cell 4
        simp only [List.getElem?_cons_zero, List.getElem?_cons_succ] at b0
        go_simp
        refine hJ.out _ _ ⟨by rw [B4.out.cell]; rfl, by rw [B4.out.cell]; rfl, by rw [B4.out.cell]; rfl, by rw [B4.out.cell]; rfl, by rw [B4.out.cell]; rfl, by rw [B4.out.cell]; rfl, by rw [B4.out.cell]; rfl, by rw [B4.out.cell]; rfl, by rw [B4.out.cell]; rfl, by rw [B4.out.cell]; rfl, by rw [B4.out.cell]; rfl, by rw [B4.out.cell]; rfl, by rw [B4.out.cell]; rfl, by rw [B4.out.cell]; rfl⟩ (fun hS => ?_)
        clear hJ J b0
        try simp only [Act.put, List.setIfInBounds_toArray, List.set_cons_zero, List.set_cons_succ]
        refine wpAnyH_ready (rs := [0]) (by kernel_rfl) (by simp) (AllReadyH.cons rfl (fun J hJ => ?_) <| AllReadyH.nil)
        have mA : Mine.Mod none_ (w3.alloc (.cells #[.int .i64 x.o.site, .int .i64 x.o.seq, .int .i64 x.o.num, .int .i64 x.o.kind, .int .i64 x.o.at_, .string x.o.text, .slice x.o.sa x.o.slen x.o.scap, .int .i64 x.ed.site, .int .i64 x.ed.seq, .int .i64 x.ed.ctx, .int .i64 x.ed.kind, .int .i64 x.ed.at_, .int .i64 x.ed.len, .string x.ed.text] 35)) ((w3.alloc (.cells #[.int .i64 x.o.site, .int .i64 x.o.seq, .int .i64 x.o.num, .int .i64 x.o.kind, .int .i64 x.o.at_, .string x.o.text, .slice x.o.sa x.o.slen x.o.scap, .int .i64 x.ed.site, .int .i64 x.ed.seq, .int .i64 x.ed.ctx, .int .i64 x.ed.kind, .int .i64 x.ed.at_, .int .i64 x.ed.len, .string x.ed.text] 35)).alloc (.cells #[] 35)) := (Mine.Mod.refl none_ _).alloc _
        have O5 := Lib.hid (show ((w3.alloc (.cells #[.int .i64 x.o.site, .int .i64 x.o.seq, .int .i64 x.o.num, .int .i64 x.o.kind, .int .i64 x.o.at_, .string x.o.text, .slice x.o.sa x.o.slen x.o.scap, .int .i64 x.ed.site, .int .i64 x.ed.seq, .int .i64 x.ed.ctx, .int .i64 x.ed.kind, .int .i64 x.ed.at_, .int .i64 x.ed.len, .string x.ed.text] 35)).alloc (.cells #[] 35)).ownsRow (w.heap.size + 1 + 1 + 1) 35 14 (.slice (some ⟨w3.heap.size + 1, 0, none⟩) 0 0) 0 (flat EntV.cs []) by have ho := World.ownsRow_made (base := w.heap.size + 1 + 1 + 1) (e := 35) (size := 14) (w3.alloc (.cells #[.int .i64 x.o.site, .int .i64 x.o.seq, .int .i64 x.o.num, .int .i64 x.o.kind, .int .i64 x.o.at_, .string x.o.text, .slice x.o.sa x.o.slen x.o.scap, .int .i64 x.ed.site, .int .i64 x.ed.seq, .int .i64 x.ed.ctx, .int .i64 x.ed.kind, .int .i64 x.ed.at_, .int .i64 x.ed.len, .string x.ed.text] 35)) #[] 0 C4.out.lt (by unfold maxLen; omega) rfl; (try simp only [World.size_alloc] at ho); exact ho)
        have M5 := Lib.hid (M4.out.trans mA)
        have A5 := Lib.hid (A4.out.mod mA (fun e => e))
        have B5 := Lib.hid (B4.out.mod mA (fun e => e))
        have C5 := Lib.hid (C4.out.mod mA (fun e => e))
        have X5 := Lib.hid (X4.out.mod mA (fun e => e))
        have HNX : RowKit.Hid (¬ (Value.slice (some ⟨w3.heap.size + 1, 0, none⟩) 0 0).ownBlock = some (w3.heap.size)) := Lib.hid (fun e => by have e1 := Option.some.inj e; have e2 := X4.out.lt; simp only [World.size_alloc] at e2; have e3 : w3.heap.size + 1 = w3.heap.size := e1; have e4 : w3.heap.size < w3.heap.size + 1 := e2; omega)
        clear mA
        go_simp
        refine hJ.out _ _ ⟨by rw [B5.out.cell]; rfl, by rw [B5.out.cell]; rfl, by rw [B5.out.cell]; rfl, by rw [B5.out.cell]; rfl, by rw [B5.out.cell]; rfl, by rw [B5.out.cell]; rfl, by rw [B5.out.cell]; rfl, by rw [B5.out.cell]; rfl, by rw [B5.out.cell]; rfl, by rw [B5.out.cell]; rfl, by rw [B5.out.cell]; rfl, by rw [B5.out.cell]; rfl, by rw [B5.out.cell]; rfl, by rw [B5.out.cell]; rfl⟩ (fun hS => ?_)
        clear hJ J
        try simp only [Act.put, List.setIfInBounds_toArray, List.set_cons_zero, List.set_cons_succ]
        refine wpAnyH_ready (rs := [3]) (by kernel_rfl) (by simp) (AllReadyH.cons rfl (fun J hJ => ?_) <| AllReadyH.nil)
        obtain ⟨va7, vc7, w7, hrun, ho7, m7⟩ := app_ents O5.out (HH.out.e.grown M5.out) (show 0 + xll ≤ 1000000 by have := HNS.out; omega) C5.out.lt
        rw [Nat.zero_add] at hrun ho7
        rw [List.nil_append] at ho7
        have HRUN := Lib.hid hrun
        have lb : ∀ j, (Value.slice (some ⟨w3.heap.size + 1, 0, none⟩) 0 0).ownBlock = some j → w.heap.size + 1 + 1 + 1 ≤ j := fun j hj => (O5.out.lt j hj).1
        have M6 := Lib.hid (M5.out.transIn m7 (fun b hb e => by have := lb _ e; omega))
        have A6 := Lib.hid (A5.out.mod m7 (fun e => by have := lb _ e; omega))
        have B6 := Lib.hid (B5.out.mod m7 (fun e => by have := lb _ e; omega))
        have C6 := Lib.hid (C5.out.mod m7 (fun e => by have := lb _ e; omega))
        have O6 := Lib.hid ho7
        have X6 := Lib.hid (X5.out.mod m7 HNX.out)
        clear hrun ho7 m7 lb
        refine step_append_runI rfl (.tmp 42) (.tmp 44) 24 rfl _ _ _ rfl rfl HRUN.out ?_
        refine hJ.out _ _ ⟨by rw [B6.out.cell]; rfl, by rw [B6.out.cell]; rfl, by rw [B6.out.cell]; rfl, by rw [B6.out.cell]; rfl, by rw [B6.out.cell]; rfl, by rw [B6.out.cell]; rfl, by rw [B6.out.cell]; rfl, by rw [B6.out.cell]; rfl, by rw [B6.out.cell]; rfl, by rw [B6.out.cell]; rfl, by rw [B6.out.cell]; rfl, by rw [B6.out.cell]; rfl, by rw [B6.out.cell]; rfl, by rw [B6.out.cell]; rfl⟩ (fun hS => ?_)
        clear hJ J
        try simp only [Act.put, List.setIfInBounds_toArray, List.set_cons_zero, List.set_cons_succ]
        obtain ⟨va8, vc8, w8, hrun, ho8, m8⟩ := app_ent (x := x) O6.out X6.out (Nat.le_trans HNS.out.2.2.2 (by decide)) C6.out.lt
        have HRUN := Lib.hid hrun
        have lb : ∀ j, (Value.slice va7 xll vc7).ownBlock = some j → w.heap.size + 1 + 1 + 1 ≤ j := fun j hj => (O6.out.lt j hj).1
        have M7 := Lib.hid (M6.out.transIn m8 (fun b hb e => by have := lb _ e; omega))
        have A7 := Lib.hid (A6.out.mod m8 (fun e => by have := lb _ e; omega))
        have B7 := Lib.hid (B6.out.mod m8 (fun e => by have := lb _ e; omega))
        have C7 := Lib.hid (C6.out.mod m8 (fun e => by have := lb _ e; omega))
        have O7 := Lib.hid ho8
        clear hrun ho8 m8 lb
        refine wpAnyH_ready (rs := [6]) (by kernel_rfl) (by simp) (AllReadyH.cons rfl (fun J hJ => ?_) <| AllReadyH.nil)
        refine step_append_runI rfl (.tmp 45) (.tmp 47) 24 rfl _ _ _ rfl rfl HRUN.out ?_
        refine hJ.out _ _ ⟨by rw [B7.out.cell]; rfl, by rw [B7.out.cell]; rfl, by rw [B7.out.cell]; rfl, by rw [B7.out.cell]; rfl, by rw [B7.out.cell]; rfl, by rw [B7.out.cell]; rfl, by rw [B7.out.cell]; rfl, by rw [B7.out.cell]; rfl, by rw [B7.out.cell]; rfl, by rw [B7.out.cell]; rfl, by rw [B7.out.cell]; rfl, by rw [B7.out.cell]; rfl, by rw [B7.out.cell]; rfl, by rw [B7.out.cell]; rfl⟩ (fun hS => ?_)
        clear hJ J
        try simp only [Act.put, List.setIfInBounds_toArray, List.set_cons_zero, List.set_cons_succ]
        refine wpAnyH_take (i := 7) (v := .pointer (some ⟨w.heap.size, 4, none⟩)) rfl (by kernel_rfl) (by kernel_rfl) (by kernel_rfl) (fun _ _ _ h => h) (Or.inl ⟨by kernel_rfl, ?_⟩) hS ?_
        · rintro w' ⟨q0, q1, q2, q3, q4, q5, q6, q7, q8, q9, q10, q11, q12, q13⟩; go_simp
        try simp only [Act.put, List.setIfInBounds_toArray, List.set_cons_zero, List.set_cons_succ]
        have b0 := A7.out.cell 4
        simp only [List.getElem?_cons_zero, List.getElem?_cons_succ] at b0
        have f0 := A7.out.frozen 4
        have mS := (Mine.Mod.refl (one w.heap.size) w8).setCell ⟨w.heap.size, 4, none⟩ (fun _ => rfl) (.slice va8 (xll + 1) vc8)
        have B9 := Lib.hid (B7.out.mod mS (fun e => by have e' : w.heap.size + 1 = w.heap.size := e; omega))
        have HF := Lib.hid (show RAddMid w ⟨xba, xbl, xbc, xva, xvl, xvc, xfr, xnum, xla, xll, xlc⟩ E x _ from ⟨va8, vc8, A7.out.set 4 (.slice va8 (xll + 1) vc8), ownsRow_mod O7.out mS (fun k hk e => by have e' : k = w.heap.size := e; have := (O7.out.lt k hk).1; omega), M7.out.transIn mS (fun b hb e => by have e' : b = w.heap.size := e; omega), B9.out, C7.out.mod mS (fun e => by have e' : w.heap.size + 1 + 1 = w.heap.size := e; omega)⟩)
        clear mS
        refine wpAnyH_ready (rs := [8]) (by kernel_rfl) (by simp) (AllReadyH.cons rfl (fun J hJ => ?_) <| AllReadyH.nil)
        go_simp
        refine hJ.out _ _ ⟨by rw [B9.out.cell]; rfl, by rw [B9.out.cell]; rfl, by rw [B9.out.cell]; rfl, by rw [B9.out.cell]; rfl, by rw [B9.out.cell]; rfl, by rw [B9.out.cell]; rfl, by rw [B9.out.cell]; rfl, by rw [B9.out.cell]; rfl, by rw [B9.out.cell]; rfl, by rw [B9.out.cell]; rfl, by rw [B9.out.cell]; rfl, by rw [B9.out.cell]; rfl, by rw [B9.out.cell]; rfl, by rw [B9.out.cell]; rfl⟩ (fun hS => ?_)
        clear hJ J
        try simp only [Act.put, List.setIfInBounds_toArray, List.set_cons_zero, List.set_cons_succ]
        refine wpAnyH_done (by kernel_rfl) ?_ _
        try simp only [List.getElem_toArray, List.getElem_cons_succ, List.getElem_cons_zero]
        try simp only [Act.put, List.setIfInBounds_toArray, List.set_cons_zero, List.set_cons_succ]
        clear b0 f0
        go_wp2_with fail
        go_meet
        exact HF
  case rest =>
  obtain ⟨la, lc, dA, dO, mm, bB, cC⟩ := hcut.out
  dsimp only at dA dO
  have A6 := Lib.hid dA
  have O6 := Lib.hid dO
  have M6 := Lib.hid mm
  have B6 := Lib.hid bB
  have C6 := Lib.hid cC
  clear hcut dA dO mm bB cC
  have b2 := B6.out.cell 2
  simp only [List.getElem?_cons_zero, List.getElem?_cons_succ] at b2
  by_cases hz : x.o.num = 0
  · have HN := Lib.hid (show xnum = numP ⟨xba, xbl, xbc, xva, xvl, xvc, xfr, xnum, xla, xll, xlc⟩ x by unfold numP; rw [if_pos hz])
    have hzb : (x.o.num != 0) = false := by simp [hz]
    clear hz
    go_upto_region 12 with fail
    clear b2 hzb
    have HM2 := Lib.hid (rhmay_any wc ⟨xba, xbl, xbc, xva, xvl, xvc, xfr, xnum, la, xll + 1, lc⟩ B V (E ++ [x]) ⟨HH.out.b.grown M6.out, HH.out.v.grown M6.out, own_ents O6.out (fun y hy => by
      rcases List.mem_append.1 hy with hy | hy
      · exact ⟨(HH.out.e.ok y hy).1.grown M6.out, (HH.out.e.ok y hy).2.grown M6.out⟩
      · rw [List.mem_singleton] at hy; subst hy; exact ⟨HX.out.1.grown M6.out, HX.out.2.grown M6.out⟩), by have := HNS.out; dsimp only; omega, by have := HNS.out; have := HXI.out; dsimp only; omega⟩ hl)
    have hsame := like_may (h := HistV.plus ⟨xba, xbl, xbc, xva, xvl, xvc, xfr, xnum, xla, xll, xlc⟩ (numP ⟨xba, xbl, xbc, xva, xvl, xvc, xfr, xnum, xla, xll, xlc⟩ x)) (h' := ⟨xba, xbl, xbc, xva, xvl, xvc, xfr, xnum, la, xll + 1, lc⟩) (B := B) (V := V) (E := E ++ [x]) rfl rfl rfl HN.out (likeE.refl _)
    rw [hsame] at HM2
    clear hsame
    obtain ⟨RB, hRB⟩ : ∃ RB, RB = histOk (HistV.plus ⟨xba, xbl, xbc, xva, xvl, xvc, xfr, xnum, xla, xll, xlc⟩ (numP ⟨xba, xbl, xbc, xva, xvl, xvc, xfr, xnum, xla, xll, xlc⟩ x)) B V (E ++ [x]) := ⟨_, rfl⟩
    rw [← hRB] at HM2 HRE
    clear hRB
    have d0 := A6.out.cell 0
    have d1 := A6.out.cell 1
    have d2 := A6.out.cell 2
    have d3 := A6.out.cell 3
    have d4 := A6.out.cell 4
    simp only [List.getElem?_cons_zero, List.getElem?_cons_succ] at d0 d1 d2 d3 d4
    go_wp2_with fail
    refine HM2.out.mono ?_
    rintro e w9 ⟨rfl, m9⟩
    have M7 := Lib.hid (M6.out.trans m9)
    have C7 := Lib.hid (C6.out.mod m9 (fun e => e))
    have A7 := Lib.hid (A6.out.mod m9 (fun e => e))
    have O7 := Lib.hid (ownsRow_mod O6.out m9 (fun _ _ e => e))
    clear m9 HM2 d0 d1 d2 d3 d4
    cases RB
    · have HE := Lib.hid (show R = 1 from HRE.out)
      have d0 := C7.out.cell 0
      have d1 := C7.out.cell 1
      have d2 := C7.out.cell 2
      have d3 := C7.out.cell 3
      have d4 := C7.out.cell 4
      simp only [List.getElem?_cons_zero, List.getElem?_cons_succ] at d0 d1 d2 d3 d4
      have r0 := C7.out.frozen 0
      have r1 := C7.out.frozen 1
      have r2 := C7.out.frozen 2
      have r3 := C7.out.frozen 3
      have r4 := C7.out.frozen 4
      have KF := Lib.hid (((((C7.out.set 0 (.slice none 0 0)).set 1 (.slice none 0 0)).set 2 (.int .i64 0)).set 3 (.int .i64 0)).set 4 (.slice none 0 0))
      have mT := ((((((Mine.Mod.refl (one (w.heap.size + 1 + 1)) w9).setCell ⟨w.heap.size + 1 + 1, 0, none⟩ (fun _ => rfl) (.slice none 0 0)).setCell ⟨w.heap.size + 1 + 1, 1, none⟩ (fun _ => rfl) (.slice none 0 0)).setCell ⟨w.heap.size + 1 + 1, 2, none⟩ (fun _ => rfl) (.int .i64 0)).setCell ⟨w.heap.size + 1 + 1, 3, none⟩ (fun _ => rfl) (.int .i64 0)).setCell ⟨w.heap.size + 1 + 1, 4, none⟩ (fun _ => rfl) (.slice none 0 0))
      have MF := Lib.hid (M7.out.transIn mT (fun b hb e => by have e' : b = w.heap.size + 1 + 1 := e; omega))
      clear mT
      go_wp2_with fail
      exact bodyPost_ret (results_rht rfl _ _ (w.heap.size + 1 + 1) [.slice none 0 0, .slice none 0 0, .int .i64 0, .int .i64 0, .slice none 0 0] rfl rfl (blk_range KF.out)) rfl ⟨MF.out, fun _ => by rw [HE.out]; rfl, fun e => absurd (HE.out.symm.trans e) (by decide)⟩
    have HE := Lib.hid (show R = 0 from HRE.out)
    have d0 := A7.out.cell 0
    have d1 := A7.out.cell 1
    have d2 := A7.out.cell 2
    have d3 := A7.out.cell 3
    have d4 := A7.out.cell 4
    simp only [List.getElem?_cons_zero, List.getElem?_cons_succ] at d0 d1 d2 d3 d4
    have c0 := C7.out.cell 0
    have c1 := C7.out.cell 1
    have c2 := C7.out.cell 2
    have c3 := C7.out.cell 3
    have c4 := C7.out.cell 4
    simp only [List.getElem?_cons_zero, List.getElem?_cons_succ] at c0 c1 c2 c3 c4
    have r0 := C7.out.frozen 0
    have r1 := C7.out.frozen 1
    have r2 := C7.out.frozen 2
    have r3 := C7.out.frozen 3
    have r4 := C7.out.frozen 4
    have KF := Lib.hid (((((C7.out.set 0 (.slice xba xbl xbc)).set 1 (.slice xva xvl xvc)).set 2 (.int .i64 xfr)).set 3 (.int .i64 (xnum))).set 4 (.slice la (xll + 1) lc))
    have mT := ((((((Mine.Mod.refl (one (w.heap.size + 1 + 1)) w9).setCell ⟨w.heap.size + 1 + 1, 0, none⟩ (fun _ => rfl) (.slice xba xbl xbc)).setCell ⟨w.heap.size + 1 + 1, 1, none⟩ (fun _ => rfl) (.slice xva xvl xvc)).setCell ⟨w.heap.size + 1 + 1, 2, none⟩ (fun _ => rfl) (.int .i64 xfr)).setCell ⟨w.heap.size + 1 + 1, 3, none⟩ (fun _ => rfl) (.int .i64 (xnum))).setCell ⟨w.heap.size + 1 + 1, 4, none⟩ (fun _ => rfl) (.slice la (xll + 1) lc))
    have MF := Lib.hid (M7.out.transIn mT (fun b hb e => by have e' : b = w.heap.size + 1 + 1 := e; omega))
    have OF := Lib.hid (ownsRow_base (ownsRow_mod O7.out mT (fun k hk e => by have e' : k = w.heap.size + 1 + 1 := e; have := (O7.out.lt k hk).1; omega)) (show w.heap.size ≤ w.heap.size + 1 + 1 + 1 by omega))
    clear mT
    go_wp2_with fail
    exact bodyPost_ret (results_rht rfl _ _ (w.heap.size + 1 + 1) [.slice xba xbl xbc, .slice xva xvl xvc, .int .i64 xfr, .int .i64 (xnum), .slice la (xll + 1) lc] rfl rfl (blk_range KF.out)) rfl ⟨MF.out, fun e => absurd HE.out e, fun _ => ⟨la, lc, by rw [← HN.out]; rfl, OF.out⟩⟩
  · have HN := Lib.hid (show x.o.num = numP ⟨xba, xbl, xbc, xva, xvl, xvc, xfr, xnum, xla, xll, xlc⟩ x by unfold numP; rw [if_neg hz])
    have hzb : (x.o.num != 0) = true := by simp [hz]
    have b3 := A6.out.cell 3
    simp only [List.getElem?_cons_zero, List.getElem?_cons_succ] at b3
    have f3 := A6.out.frozen 3
    have mS := (Mine.Mod.refl (one w.heap.size) wc).setCell ⟨w.heap.size, 3, none⟩ (fun _ => rfl) (.int .i64 x.o.num)
    have A7 := Lib.hid (A6.out.set 3 (.int .i64 x.o.num))
    have C7 := Lib.hid (C6.out.mod mS (fun e => by have e' : w.heap.size + 1 + 1 = w.heap.size := e; omega))
    have M7 := Lib.hid (M6.out.transIn mS (fun b hb e => by have e' : b = w.heap.size := e; omega))
    have O7 := Lib.hid (ownsRow_mod O6.out mS (fun k hk e => by have e' : k = w.heap.size := e; have := (O6.out.lt k hk).1; omega))
    obtain ⟨w8, hw8⟩ : ∃ w8, wc.setCell ⟨w.heap.size, 3, none⟩ (.int .i64 x.o.num) = w8 := ⟨_, rfl⟩
    rw [hw8] at A7 C7 M7 O7
    dsimp only [List.set_cons_zero, List.set_cons_succ] at A7
    clear mS hz
    go_upto_region 12 with fail
    clear hw8 b2 b3 f3 hzb
    have HM2 := Lib.hid (rhmay_any w8 ⟨xba, xbl, xbc, xva, xvl, xvc, xfr, x.o.num, la, xll + 1, lc⟩ B V (E ++ [x]) ⟨HH.out.b.grown M7.out, HH.out.v.grown M7.out, own_ents O7.out (fun y hy => by
      rcases List.mem_append.1 hy with hy | hy
      · exact ⟨(HH.out.e.ok y hy).1.grown M7.out, (HH.out.e.ok y hy).2.grown M7.out⟩
      · rw [List.mem_singleton] at hy; subst hy; exact ⟨HX.out.1.grown M7.out, HX.out.2.grown M7.out⟩), by have := HNS.out; dsimp only; omega, by have := HNS.out; have := HXI.out; dsimp only; omega⟩ hl)
    have hsame := like_may (h := HistV.plus ⟨xba, xbl, xbc, xva, xvl, xvc, xfr, xnum, xla, xll, xlc⟩ (numP ⟨xba, xbl, xbc, xva, xvl, xvc, xfr, xnum, xla, xll, xlc⟩ x)) (h' := ⟨xba, xbl, xbc, xva, xvl, xvc, xfr, x.o.num, la, xll + 1, lc⟩) (B := B) (V := V) (E := E ++ [x]) rfl rfl rfl HN.out (likeE.refl _)
    rw [hsame] at HM2
    clear hsame
    obtain ⟨RB, hRB⟩ : ∃ RB, RB = histOk (HistV.plus ⟨xba, xbl, xbc, xva, xvl, xvc, xfr, xnum, xla, xll, xlc⟩ (numP ⟨xba, xbl, xbc, xva, xvl, xvc, xfr, xnum, xla, xll, xlc⟩ x)) B V (E ++ [x]) := ⟨_, rfl⟩
    rw [← hRB] at HM2 HRE
    clear hRB
    have d0 := A7.out.cell 0
    have d1 := A7.out.cell 1
    have d2 := A7.out.cell 2
    have d3 := A7.out.cell 3
    have d4 := A7.out.cell 4
    simp only [List.getElem?_cons_zero, List.getElem?_cons_succ] at d0 d1 d2 d3 d4
    go_wp2_with fail
    refine HM2.out.mono ?_
    rintro e w9 ⟨rfl, m9⟩
    have M8 := Lib.hid (M7.out.trans m9)
    have C8 := Lib.hid (C7.out.mod m9 (fun e => e))
    have A8 := Lib.hid (A7.out.mod m9 (fun e => e))
    have O8 := Lib.hid (ownsRow_mod O7.out m9 (fun _ _ e => e))
    clear m9 HM2 d0 d1 d2 d3 d4
    cases RB
    · have HE := Lib.hid (show R = 1 from HRE.out)
      have d0 := C8.out.cell 0
      have d1 := C8.out.cell 1
      have d2 := C8.out.cell 2
      have d3 := C8.out.cell 3
      have d4 := C8.out.cell 4
      simp only [List.getElem?_cons_zero, List.getElem?_cons_succ] at d0 d1 d2 d3 d4
      have r0 := C8.out.frozen 0
      have r1 := C8.out.frozen 1
      have r2 := C8.out.frozen 2
      have r3 := C8.out.frozen 3
      have r4 := C8.out.frozen 4
      have KF := Lib.hid (((((C8.out.set 0 (.slice none 0 0)).set 1 (.slice none 0 0)).set 2 (.int .i64 0)).set 3 (.int .i64 0)).set 4 (.slice none 0 0))
      have mT := ((((((Mine.Mod.refl (one (w.heap.size + 1 + 1)) w9).setCell ⟨w.heap.size + 1 + 1, 0, none⟩ (fun _ => rfl) (.slice none 0 0)).setCell ⟨w.heap.size + 1 + 1, 1, none⟩ (fun _ => rfl) (.slice none 0 0)).setCell ⟨w.heap.size + 1 + 1, 2, none⟩ (fun _ => rfl) (.int .i64 0)).setCell ⟨w.heap.size + 1 + 1, 3, none⟩ (fun _ => rfl) (.int .i64 0)).setCell ⟨w.heap.size + 1 + 1, 4, none⟩ (fun _ => rfl) (.slice none 0 0))
      have MF := Lib.hid (M8.out.transIn mT (fun b hb e => by have e' : b = w.heap.size + 1 + 1 := e; omega))
      clear mT
      go_wp2_with fail
      exact bodyPost_ret (results_rht rfl _ _ (w.heap.size + 1 + 1) [.slice none 0 0, .slice none 0 0, .int .i64 0, .int .i64 0, .slice none 0 0] rfl rfl (blk_range KF.out)) rfl ⟨MF.out, fun _ => by rw [HE.out]; rfl, fun e => absurd (HE.out.symm.trans e) (by decide)⟩
    have HE := Lib.hid (show R = 0 from HRE.out)
    have d0 := A8.out.cell 0
    have d1 := A8.out.cell 1
    have d2 := A8.out.cell 2
    have d3 := A8.out.cell 3
    have d4 := A8.out.cell 4
    simp only [List.getElem?_cons_zero, List.getElem?_cons_succ] at d0 d1 d2 d3 d4
    have c0 := C8.out.cell 0
    have c1 := C8.out.cell 1
    have c2 := C8.out.cell 2
    have c3 := C8.out.cell 3
    have c4 := C8.out.cell 4
    simp only [List.getElem?_cons_zero, List.getElem?_cons_succ] at c0 c1 c2 c3 c4
    have r0 := C8.out.frozen 0
    have r1 := C8.out.frozen 1
    have r2 := C8.out.frozen 2
    have r3 := C8.out.frozen 3
    have r4 := C8.out.frozen 4
    have KF := Lib.hid (((((C8.out.set 0 (.slice xba xbl xbc)).set 1 (.slice xva xvl xvc)).set 2 (.int .i64 xfr)).set 3 (.int .i64 (x.o.num))).set 4 (.slice la (xll + 1) lc))
    have mT := ((((((Mine.Mod.refl (one (w.heap.size + 1 + 1)) w9).setCell ⟨w.heap.size + 1 + 1, 0, none⟩ (fun _ => rfl) (.slice xba xbl xbc)).setCell ⟨w.heap.size + 1 + 1, 1, none⟩ (fun _ => rfl) (.slice xva xvl xvc)).setCell ⟨w.heap.size + 1 + 1, 2, none⟩ (fun _ => rfl) (.int .i64 xfr)).setCell ⟨w.heap.size + 1 + 1, 3, none⟩ (fun _ => rfl) (.int .i64 (x.o.num))).setCell ⟨w.heap.size + 1 + 1, 4, none⟩ (fun _ => rfl) (.slice la (xll + 1) lc))
    have MF := Lib.hid (M8.out.transIn mT (fun b hb e => by have e' : b = w.heap.size + 1 + 1 := e; omega))
    have OF := Lib.hid (ownsRow_base (ownsRow_mod O8.out mT (fun k hk e => by have e' : k = w.heap.size + 1 + 1 := e; have := (O8.out.lt k hk).1; omega)) (show w.heap.size ≤ w.heap.size + 1 + 1 + 1 by omega))
    clear mT
    go_wp2_with fail
    exact bodyPost_ret (results_rht rfl _ _ (w.heap.size + 1 + 1) [.slice xba xbl xbc, .slice xva xvl xvc, .int .i64 xfr, .int .i64 (x.o.num), .slice la (xll + 1) lc] rfl rfl (blk_range KF.out)) rfl ⟨MF.out, fun e => absurd HE.out e, fun _ => ⟨la, lc, by rw [← HN.out]; rfl, OF.out⟩⟩

end Go.Proofs.YtlidmajcdjlcnaaGreatDoor

namespace Go.Mine
open Go.RowKit Go.ChangeShapes Go.WideShapes Go.Deep

section
variable {H : Type} {enc : TypeId × Value → H} {P : Program} {w : World} {base : Nat} {spare : Nat → Bool} {held : Bool}

end
end Go.Mine

namespace Go.Proofs.YtlidmajcdjlcnaaGreatDoor
open Go.ChangeShapes Go.WideShapes Go.ChangeAt Go.RowKit Go.Mine Go.Deep

set_option maxRecDepth 100000
section
variable {H : Type} {enc : TypeId × Value → H} {w : World} {base : Nat} {sp : Nat → Bool} {held : Bool}

theorem szOp : Tryz.prog.cellsOf 31 = 7 := by kernel_rfl
theorem szCell : Tryz.prog.cellsOf 47 = 5 := by kernel_rfl
theorem szName : Tryz.prog.cellsOf 28 = 2 := by kernel_rfl
theorem szInt : Tryz.prog.cellsOf 3 = 1 := by kernel_rfl
theorem szRune : Tryz.prog.cellsOf 21 = 1 := by kernel_rfl
theorem szBool : Tryz.prog.cellsOf 4 = 1 := by kernel_rfl
theorem szString : Tryz.prog.cellsOf 9 = 1 := by kernel_rfl
theorem szSpans : Tryz.prog.cellsOf 29 = 1 := by kernel_rfl

theorem name_of {n : Nat} {a b : Value} {y : DataW H × List MemPlace} (h : DataW.trod enc Tryz.prog w base sp held n 28 [a, b] = some y) :
    ∃ s q : Int, a = .int .i64 s ∧ b = .int .i64 q ∧ (-9223372036854775808 ≤ s ∧ s ≤ 9223372036854775807) ∧ (-9223372036854775808 ≤ q ∧ q ≤ 9223372036854775807) := by
  obtain ⟨ys, m, _, _, _, hyl, hf⟩ := DataW.trod_struct Tryz.underlying28 h
  obtain ⟨y0, y1, rfl⟩ : ∃ y0 y1, ys = [y0, y1] := by
    match ys, (show ys.length = 2 from hyl) with
    | [y0, y1], _ => exact ⟨y0, y1, rfl⟩
  have h0 := hf 0 _ rfl
  have h1 := hf 1 _ rfl
  simp only [List.getElem_toArray, List.getElem_cons_zero, List.getElem_cons_succ, szInt, List.drop_zero, List.drop_succ_cons, List.take_succ_cons, List.take_zero, List.getElem?_cons_zero, List.getElem?_cons_succ] at h0 h1
  obtain ⟨s, e0, _, w0⟩ := DataW.trod_int Tryz.underlying3 h0
  obtain ⟨q, e1, _, w1⟩ := DataW.trod_int Tryz.underlying3 h1
  simp only [List.cons.injEq, and_true] at e0 e1
  exact ⟨s, q, e0, e1, bounds_i64 w0, bounds_i64 w1⟩

theorem cell_of {n : Nat} {cells : List Value} {y : DataW H × List MemPlace} (h : DataW.trod enc Tryz.prog w base sp held n 47 cells = some y) :
    ∃ c : CellV, cells = c.cs ∧ c.ok := by
  obtain ⟨ys, m, _, _, hl, hyl, hf⟩ := DataW.trod_struct Tryz.underlying47 h
  rw [szCell] at hl
  obtain ⟨a, b, c, d, e, rfl⟩ : ∃ a b c d e, cells = [a, b, c, d, e] := by
    match cells, hl with
    | [a, b, c, d, e], _ => exact ⟨a, b, c, d, e, rfl⟩
  obtain ⟨y0, y1, y2, y3, rfl⟩ : ∃ y0 y1 y2 y3, ys = [y0, y1, y2, y3] := by
    match ys, (show ys.length = 4 from hyl) with
    | [y0, y1, y2, y3], _ => exact ⟨y0, y1, y2, y3, rfl⟩
  have h0 := hf 0 _ rfl
  have h1 := hf 1 _ rfl
  have h2 := hf 2 _ rfl
  have h3 := hf 3 _ rfl
  simp only [List.getElem_toArray, List.getElem_cons_zero, List.getElem_cons_succ, szName, szInt, szRune, szBool, List.drop_zero, List.drop_succ_cons, List.take_succ_cons, List.take_zero, List.getElem?_cons_zero, List.getElem?_cons_succ] at h0 h1 h2 h3
  obtain ⟨s, q, rfl, rfl, hs, hq⟩ := name_of h0
  obtain ⟨f, e1, _, w1⟩ := DataW.trod_int Tryz.underlying3 h1
  obtain ⟨r, e2, _, w2⟩ := DataW.trod_int Tryz.underlying21 h2
  obtain ⟨g, e3, _⟩ := DataW.trod_bool Tryz.underlying4 h3
  simp only [List.cons.injEq, and_true] at e1 e2 e3
  subst e1 e2 e3
  exact ⟨⟨s, q, f, r, g⟩, rfl, hs, hq, bounds_i64 w1, bounds_i32 w2⟩

/-- A slice of structs of k cells: what each element's cells read as. -/
theorem slice_elems {t e : TypeId} {k fuel : Nat} {cs : List Value} {x : DataW H × List MemPlace} (ht : Tryz.prog.underlying t = some (.slice e)) (hk : Tryz.prog.cellsOf e = k) (h0k : 0 < k) (h : DataW.trod enc Tryz.prog w base sp held fuel t cs = some x) :
    ∃ (a : Option Addr) (len cap : Nat), cs = [.slice a len cap] ∧ len ≤ cap ∧ cap ≤ maxLen ∧
      ∀ i, i < len → ∃ (b off : Nat) (cells : List Value) (y : DataW H × List MemPlace) (n : Nat), a = some ⟨b, off, none⟩ ∧ cells.length = k ∧ w.rangeAt b (off + i * k) cells ∧ DataW.trod enc Tryz.prog w base sp held n e cells = some y := by
  rcases DataW.trod_slice ht h with ⟨h0, _⟩ | ⟨a, len, cap, elems, rest, n, _, hcs, _, _, hl, hm, hlen, hel, _, _⟩
  · exact ⟨none, 0, 0, h0, Nat.le_refl _, Nat.zero_le _, fun i hi => absurd hi (Nat.not_lt_zero _)⟩
  · rw [hk] at hel
    refine ⟨some a, len, cap, hcs, hl, hm, fun i hi => ?_⟩
    obtain ⟨b, off, spot⟩ := a
    have hspot : spot = none := by
      have h1 := hel 0 (by omega)
      rw [List.getElem?_eq_getElem (by omega)] at h1
      obtain ⟨cells, hc, hr⟩ := Option.bind_eq_some_iff.1 h1
      obtain ⟨_, hlen, hat⟩ := World.cells?_some hc
      have := hat 0 h0k
      rw [List.getElem?_eq_getElem (by omega)] at this
      have := World.cell?_spot this
      simpa [Addr.add] using this
    subst hspot
    have h1 := hel i hi
    rw [List.getElem?_eq_getElem (by omega)] at h1
    obtain ⟨cells, hc, hr⟩ := Option.bind_eq_some_iff.1 h1
    obtain ⟨_, hlen, hat⟩ := World.cells?_some hc
    refine ⟨b, off, cells, _, n, rfl, hlen, fun j v hv => ?_, hr⟩
    have hj : j < k := by have := (List.getElem?_eq_some_iff.1 hv).1; omega
    have := hat j hj
    rw [hv] at this
    simpa only [Addr.add_lit] using this

theorem read_cells {fuel : Nat} {a : Option Addr} {len cap : Nat} {x : DataW H × List MemPlace} (h : DataW.trod enc Tryz.prog w base sp held fuel 22 [.slice a len cap] = some x) : ∃ l, IsCells w a len cap l := by
  obtain ⟨a', len', cap', hcs, hl, hm, hf⟩ := slice_elems Tryz.underlying22 szCell (by decide) h
  simp only [List.cons.injEq, Value.slice.injEq, and_true] at hcs
  obtain ⟨rfl, rfl, rfl⟩ := hcs
  have key : ∀ i, i < len → ∃ c : CellV, c.ok ∧ ∃ b off, a = some ⟨b, off, none⟩ ∧ w.rangeAt b (off + i * 5) c.cs := by
    intro i hi
    obtain ⟨b, off, cells, y, n, e, _, hr, ht⟩ := hf i hi
    obtain ⟨c, rfl, hc⟩ := cell_of ht
    exact ⟨c, hc, b, off, e, hr⟩
  obtain ⟨f, hfk⟩ := Classical.axiomOfChoice (fun i : Fin len => key i.1 i.2)
  refine ⟨List.ofFn f, by simp, hl, hm, ?_, ?_⟩
  · intro y hy
    obtain ⟨i, rfl⟩ := List.mem_ofFn.1 hy
    exact (hfk i).1
  · intro i y hy
    have hi : i < len := by have := (List.getElem?_eq_some_iff.1 hy).1; simpa using this
    have : y = f ⟨i, hi⟩ := by
      rw [List.getElem?_eq_getElem (by simpa using hi)] at hy
      simp at hy; exact hy.symm
    subst this
    exact (hfk ⟨i, hi⟩).2

theorem szSpan : Tryz.prog.cellsOf 49 = 2 := by kernel_rfl
theorem read_spans {fuel : Nat} {a : Option Addr} {len cap : Nat} {x : DataW H × List MemPlace} (h : DataW.trod enc Tryz.prog w base sp held fuel 29 [.slice a len cap] = some x) : ∃ l, IsSpans w a len cap l := by
  obtain ⟨a', len', cap', hcs, hl, hm, hf⟩ := slice_elems Tryz.underlying29 szSpan (by decide) h
  simp only [List.cons.injEq, Value.slice.injEq, and_true] at hcs
  obtain ⟨rfl, rfl, rfl⟩ := hcs
  have key : ∀ i, i < len → ∃ y : Int × Int, ((-9223372036854775808 ≤ y.1 ∧ y.1 ≤ 9223372036854775807) ∧ (-9223372036854775808 ≤ y.2 ∧ y.2 ≤ 9223372036854775807)) ∧ ∃ b off, a = some ⟨b, off, none⟩ ∧ w.cell? ⟨b, off + i * 2, none⟩ = some (.int .i64 y.1) ∧ w.cell? ⟨b, off + i * 2 + 1, none⟩ = some (.int .i64 y.2) := by
    intro i hi
    obtain ⟨b, off, cells, y, n, e, hlen, hr, ht⟩ := hf i hi
    obtain ⟨u, v, rfl⟩ : ∃ u v, cells = [u, v] := by
      match cells, hlen with
      | [u, v], _ => exact ⟨u, v, rfl⟩
    obtain ⟨ys, m, _, _, _, hyl, hg⟩ := DataW.trod_struct Tryz.underlying49 ht
    obtain ⟨y0, y1, rfl⟩ : ∃ y0 y1, ys = [y0, y1] := by
      match ys, (show ys.length = 2 from hyl) with
      | [y0, y1], _ => exact ⟨y0, y1, rfl⟩
    have h0 := hg 0 _ rfl
    have h1 := hg 1 _ rfl
    simp only [List.getElem_toArray, List.getElem_cons_zero, List.getElem_cons_succ, szInt, List.drop_zero, List.drop_succ_cons, List.take_succ_cons, List.take_zero, List.getElem?_cons_zero, List.getElem?_cons_succ] at h0 h1
    obtain ⟨s, e0, _, w0⟩ := DataW.trod_int Tryz.underlying3 h0
    obtain ⟨q, e1, _, w1⟩ := DataW.trod_int Tryz.underlying3 h1
    simp only [List.cons.injEq, and_true] at e0 e1
    subst e0 e1
    exact ⟨(s, q), ⟨bounds_i64 w0, bounds_i64 w1⟩, b, off, e, hr 0 _ rfl, hr 1 _ rfl⟩
  obtain ⟨f, hfk⟩ := Classical.axiomOfChoice (fun i : Fin len => key i.1 i.2)
  refine ⟨List.ofFn f, by simp, hl, hm, ?_, ?_⟩
  · intro y hy
    obtain ⟨i, rfl⟩ := List.mem_ofFn.1 hy
    exact (hfk i).1
  · intro i y hy
    have hi : i < len := by have := (List.getElem?_eq_some_iff.1 hy).1; simpa using this
    have : y = f ⟨i, hi⟩ := by
      rw [List.getElem?_eq_getElem (by simpa using hi)] at hy
      simp at hy; exact hy.symm
    subst this
    exact (hfk ⟨i, hi⟩).2

theorem op_of {n : Nat} {cells : List Value} {y : DataW H × List MemPlace} (htab : tabsOk w) (h : DataW.trod enc Tryz.prog w base sp held n 31 cells = some y) :
    ∃ (o : OpV) (l : List (Int × Int)), cells = o.cs ∧ o.ok0 w l := by
  obtain ⟨ys, m, _, _, hl, hyl, hf⟩ := DataW.trod_struct Tryz.underlying31 h
  rw [szOp] at hl
  obtain ⟨c0, c1, c2, c3, c4, c5, c6, rfl⟩ : ∃ c0 c1 c2 c3 c4 c5 c6, cells = [c0, c1, c2, c3, c4, c5, c6] := by
    match cells, hl with
    | [c0, c1, c2, c3, c4, c5, c6], _ => exact ⟨c0, c1, c2, c3, c4, c5, c6, rfl⟩
  obtain ⟨y0, y1, y2, y3, y4, y5, rfl⟩ : ∃ y0 y1 y2 y3 y4 y5, ys = [y0, y1, y2, y3, y4, y5] := by
    match ys, (show ys.length = 6 from hyl) with
    | [y0, y1, y2, y3, y4, y5], _ => exact ⟨y0, y1, y2, y3, y4, y5, rfl⟩
  have h0 := hf 0 _ rfl
  have h1 := hf 1 _ rfl
  have h2 := hf 2 _ rfl
  have h3 := hf 3 _ rfl
  have h4 := hf 4 _ rfl
  have h5 := hf 5 _ rfl
  simp only [List.getElem_toArray, List.getElem_cons_zero, List.getElem_cons_succ, szName, szInt, szString, szSpans, List.drop_zero, List.drop_succ_cons, List.take_succ_cons, List.take_zero, List.getElem?_cons_zero, List.getElem?_cons_succ] at h0 h1 h2 h3 h4 h5
  obtain ⟨s, q, rfl, rfl, hs, hq⟩ := name_of h0
  obtain ⟨num, e1, _, w1⟩ := DataW.trod_int Tryz.underlying3 h1
  obtain ⟨kd, e2, _, w2⟩ := DataW.trod_int Tryz.underlying3 h2
  obtain ⟨at_, e3, _, w3⟩ := DataW.trod_int Tryz.underlying3 h3
  obtain ⟨tx, e4, _, w4⟩ := DataW.trod_string Tryz.underlying9 h4
  obtain ⟨a, len, cap, e5, _⟩ := slice_elems Tryz.underlying29 szSpan (by decide) h5
  simp only [List.cons.injEq, and_true] at e1 e2 e3 e4 e5
  subst e1 e2 e3 e4 e5
  obtain ⟨l, hsp⟩ := read_spans h5
  exact ⟨⟨s, q, num, kd, at_, tx, a, len, cap⟩, l, rfl, w4, hsp, fun hsz => { i1 := hs, i2 := hq, i3 := bounds_i64 w1, i4 := bounds_i64 w2, i5 := bounds_i64 w3, tx := .inl htab, sz := hsz, sp := hsp }⟩

end
end Go.Proofs.YtlidmajcdjlcnaaGreatDoor

namespace Go.Proofs.YtlidmajcdjlcnaaGreatDoor
open Go.RowKit Go.Shelf Go.Mine
open Classical

/-- An edit that came in. -/
structure EditV.ok0 (e : EditV) (w : World) : Prop where
  sz : e.text.size ≤ maxLen
  ok : e.text.size < 4611686018427387904 → e.ok w
theorem EditV.ok0.grown {e : EditV} {w w' : World} (h : e.ok0 w) (m : Mine.Mod none_ w w') : e.ok0 w' := ⟨h.sz, fun hs => (h.ok hs).grown m⟩
/-- Entries that came in, whatever long their texts are. -/
structure IsEnts0 (w : World) (a : Option Addr) (len cap : Nat) (l : List EntV) : Prop where
  n : l.length = len
  le : len ≤ cap
  big : cap ≤ maxLen
  ok : ∀ x ∈ l, x.o.ok0 w x.sp ∧ x.ed.ok0 w
  ents : ∀ (i : Nat) (x : EntV), l[i]? = some x → ∃ b off, a = some ⟨b, off, none⟩ ∧ w.rangeAt b (off + i * 14) x.cs
theorem IsEnts0.grown {w w' : World} {a : Option Addr} {len cap : Nat} {l : List EntV} (h : IsEnts0 w a len cap l) (m : Mine.Mod none_ w w') : IsEnts0 w' a len cap l :=
  ⟨h.n, h.le, h.big, fun x hx => ⟨(h.ok x hx).1.grown m, (h.ok x hx).2.grown m⟩, fun i c hc => by
    obtain ⟨b, off, e, hr⟩ := h.ents i c hc
    exact ⟨b, off, e, fun j v hv => m.cell (fun e => e) (hr j v hv)⟩⟩
/-- More than statements look at. -/
def bigEnt (x : EntV) : Bool := bigOp x.o || decide (1000 < (x.ed.text.size : Int))
theorem IsEnts0.small {w : World} {a : Option Addr} {len cap : Nat} {l : List EntV} (h : IsEnts0 w a len cap l) (hb : l.any bigEnt = false) : IsEnts w a len cap l := by
  refine ⟨h.n, h.le, h.big, fun x hx => ?_, h.ents⟩
  have hx0 : bigEnt x = false := by
    rw [List.any_eq_false] at hb
    simpa using hb x hx
  unfold bigEnt bigOp at hx0
  simp only [Bool.or_eq_false_iff, decide_eq_false_iff_not] at hx0
  obtain ⟨⟨_, h1⟩, h2⟩ := hx0
  exact ⟨(h.ok x hx).1.ok (by omega), (h.ok x hx).2.ok (by omega)⟩
def bigHist (h : HistV) (E : List EntV) : Bool := decide (60 < (h.bl : Int)) || decide (30 < (h.vl : Int)) || decide (14 < (h.ll : Int)) || E.any bigEnt

set_option maxHeartbeats 4000000 in
set_option maxRecDepth 1000000 in
theorem rgreatH_any (w : World) (h : HistV) (E : List EntV) (he : IsEnts0 w h.la h.ll h.lc E) :
    Calls Tryz.prog 9 #[h.v] w fun e w' => e = .returned (.bool (bigHist h E)) ∧ Mine.Mod none_ w w' := by
  obtain ⟨R, hR⟩ : ∃ R, R = bigHist h E := ⟨_, rfl⟩
  rw [← hR]
  have hle := he.le
  have hcap := he.big
  unfold maxLen at hcap
  obtain ⟨xba, xbl, xbc, xva, xvl, xvc, xfr, xnum, xla, xll, xlc⟩ := h
  dsimp only at hle hcap he
  have HR := Lib.hid (show R = (decide (60 < (xbl : Int)) || decide (30 < (xvl : Int)) || decide (14 < (xll : Int)) || E.any bigEnt) from hR)
  have H := Lib.hid he
  have HN := Lib.hid he.n
  clear he hR
  obtain ⟨W0, hW0⟩ : ∃ W0, w.alloc (.cells #[.slice xba xbl xbc, .slice xva xvl xvc, .int .i64 xfr, .int .i64 xnum, .slice xla xll xlc] 26) = W0 := ⟨_, rfl⟩
  obtain ⟨K, hK⟩ : ∃ K, w.heap.size = K := ⟨_, rfl⟩
  have m0 : Mine.Mod none_ w W0 := by rw [← hW0]; exact (Mine.Mod.refl none_ w).alloc _
  have k0 : Blk W0 K [.slice xba xbl xbc, .slice xva xvl xvc, .int .i64 xfr, .int .i64 xnum, .slice xla xll xlc] 26 := by rw [← hW0, ← hK]; exact Blk.new (w := w) (cs := [.slice xba xbl xbc, .slice xva xvl xvc, .int .i64 xfr, .int .i64 xnum, .slice xla xll xlc])
  obtain ⟨cs0, hcs0⟩ : ∃ cs0 : List Value, cs0 = [.slice xba xbl xbc, .slice xva xvl xvc, .int .i64 xfr, .int .i64 xnum, .slice xla xll xlc] := ⟨_, rfl⟩
  rw [← hcs0] at k0
  have HC0 := Lib.hid (show ∀ W, Blk W K cs0 26 → W.cell? ⟨K, 0, none⟩ = some (.slice xba xbl xbc) from fun W k => by rw [k.cell, hcs0]; rfl)
  have HC1 := Lib.hid (show ∀ W, Blk W K cs0 26 → W.cell? ⟨K, 1, none⟩ = some (.slice xva xvl xvc) from fun W k => by rw [k.cell, hcs0]; rfl)
  have HC4 := Lib.hid (show ∀ W, Blk W K cs0 26 → W.cell? ⟨K, 4, none⟩ = some (.slice xla xll xlc) from fun W k => by rw [k.cell, hcs0]; rfl)
  have M0 := Lib.hid m0
  have K0 := Lib.hid k0
  have hKw : w.heap.size ≤ K := by omega
  have c0 := HC0.out W0 k0
  have c1 := HC1.out W0 k0
  have c4 := HC4.out W0 k0
  clear m0 k0 hcs0
  go_enter Tryz.func9, Tryz.ntmps9
  go_upto_region 1 with fail
  clear hW0 hK
  cases q1 : decide (60 < (xbl : Int))
  case true =>
    have HE := Lib.hid (show R = true by rw [HR.out, q1]; simp)
    go_wp2_with fail
    go_ret
    exact ⟨by rw [HE.out]; rfl, M0.out⟩
  cases q2 : decide (30 < (xvl : Int))
  case true =>
    have HE := Lib.hid (show R = true by rw [HR.out, q1, q2]; simp)
    go_wp2_with fail
    go_ret
    exact ⟨by rw [HE.out]; rfl, M0.out⟩
  cases q3 : decide (14 < (xll : Int))
  case true =>
    have HE := Lib.hid (show R = true by rw [HR.out, q1, q2, q3]; simp)
    go_wp2_with fail
    go_ret
    exact ⟨by rw [HE.out]; rfl, M0.out⟩
  have HR2 := Lib.hid (show R = E.any bigEnt by rw [HR.out, q1, q2, q3]; rfl)
  go_wp2_with fail
  clear c0 c1 c4 q1 q2 q3
  go_loopg [3] xll (fun g s3 wx => ∃ k : Nat, g = xll - k ∧ s3 = .int .i64 k ∧ k ≤ xll ∧ Mine.Mod none_ w wx ∧ RowKit.Hid (Blk wx K cs0 26 ∧ (E.take k).any bigEnt = false))
  case atStart => exact ⟨0, rfl, rfl, Nat.zero_le _, M0.out, Lib.hid ⟨K0.out, rfl⟩⟩
  case round =>
    obtain ⟨k, rfl, rfl, hk, mx, hst⟩ := hrel
    obtain ⟨kx, hall⟩ := hst.out
    have MX := Lib.hid mx
    have KX := Lib.hid kx
    have d4 := HC4.out wr kx
    by_cases hlk : k < xll
    · obtain ⟨x, hx⟩ : ∃ x, E[k]? = some x := ⟨E[k]'(by rw [HN.out]; exact hlk), by simp⟩
      have HY := Lib.hid (fun (hb : bigEnt x = true) => show R = true by rw [HR2.out]; exact List.any_eq_true.2 ⟨x, List.mem_of_getElem? hx, hb⟩)
      have HG := Lib.hid (fun (hb : bigEnt x = false) => show (E.take (k + 1)).any bigEnt = false by rw [ents_snoc hx, List.any_append, hall]; simp [hb])
      have HSZ := ((H.out.grown mx).ok x (List.mem_of_getElem? hx)).2.sz
      unfold maxLen at HSZ
      have HM := Lib.hid (great_op x.o wr x.sp ((H.out.grown mx).ok x (List.mem_of_getElem? hx)).1)
      obtain ⟨b, off, rfl, hr⟩ := (H.out.grown mx).ents k x hx
      have c0 := hr 0 _ rfl
      have c1 := hr 1 _ rfl
      have c2 := hr 2 _ rfl
      have c3 := hr 3 _ rfl
      have c4 := hr 4 _ rfl
      have c5 := hr 5 _ rfl
      have c6 := hr 6 _ rfl
      have c7 := hr 7 _ rfl
      have c8 := hr 8 _ rfl
      have c9 := hr 9 _ rfl
      have c10 := hr 10 _ rfl
      have c11 := hr 11 _ rfl
      have c12 := hr 12 _ rfl
      have c13 := hr 13 _ rfl
      rw [Nat.add_zero] at c0
      have HRG := Lib.hid hr
      clear hx hall hst kx mx hr
      cases hb : bigOp x.o
      case true =>
        have HE := Lib.hid (HY.out (by unfold bigEnt; rw [hb]; rfl))
        rw [hb] at HM
        go_wp2_with fail
        refine HM.out.mono ?_
        rintro e w1 ⟨rfl, m1⟩
        have M1 := Lib.hid (MX.out.trans m1)
        clear m1
        go_wp2_with fail
        go_ret
        exact ⟨by rw [HE.out]; rfl, M1.out⟩
      rw [hb] at HM
      go_wp2_with fail
      refine HM.out.mono ?_
      rintro e w1 ⟨rfl, m1⟩
      have M1 := Lib.hid (MX.out.trans m1)
      have K1 := Lib.hid (KX.out.mod m1 (fun e => e))
      have e13 := m1.cell (fun e => e) c13
      have e4 := HC4.out w1 K1.out
      clear m1 d4 c0 c1 c2 c3 c4 c5 c6 c7 c8 c9 c10 c11 c12 c13
      cases hs : decide (1000 < (x.ed.text.size : Int))
      case true =>
        have HE := Lib.hid (HY.out (by unfold bigEnt; rw [hs, Bool.or_true]))
        go_wp2_with fail
        go_ret
        exact ⟨by rw [HE.out]; rfl, M1.out⟩
      have HG2 := Lib.hid (HG.out (by unfold bigEnt; rw [hb, hs]; rfl))
      go_wp2_with fail
      go_roundg (xll - (k + 1))
      all_goals first
        | omega
        | exact ⟨k + 1, rfl, by go_num, by omega, M1.out, Lib.hid ⟨K1.out, HG2.out⟩⟩
    · have hkl : xll = k := by omega
      subst hkl
      rw [List.take_of_length_le (by rw [HN.out]; omega)] at hall
      have HE := Lib.hid (show R = false by rw [HR2.out, hall])
      clear kx hall hst mx
      go_wp2_with fail
      go_ret
      exact ⟨by rw [HE.out]; rfl, MX.out⟩

end Go.Proofs.YtlidmajcdjlcnaaGreatDoor

namespace Go.Proofs.YtlidmajcdjlcnaaGreatDoor
open Go.ChangeShapes Go.WideShapes Go.ChangeAt Go.RowKit Go.Mine Go.Deep

set_option maxRecDepth 100000
/-- A history that came in. -/
structure HistIs0 (w : World) (h : HistV) (B : List CellV) (V : List Int) (E : List EntV) : Prop where
  b : IsCells w h.ba h.bl h.bc B
  v : IsVec w h.va h.vl h.vc V
  e : IsEnts0 w h.la h.ll h.lc E
  i1 : -9223372036854775808 ≤ h.from_ ∧ h.from_ ≤ 9223372036854775807
  i2 : -9223372036854775808 ≤ h.num ∧ h.num ≤ 9223372036854775807
theorem HistIs0.grown {w w' : World} {h : HistV} {B : List CellV} {V : List Int} {E : List EntV} (k : HistIs0 w h B V E) (m : Mine.Mod none_ w w') : HistIs0 w' h B V E := ⟨k.b.grown m, k.v.grown m, k.e.grown m, k.i1, k.i2⟩
theorem HistIs0.small {w : World} {h : HistV} {B : List CellV} {V : List Int} {E : List EntV} (k : HistIs0 w h B V E) (hb : bigHist h E = false) : HistIs w h B V E ∧ h.bl ≤ 60 ∧ h.vl ≤ 30 ∧ h.ll ≤ 14 ∧ ∀ y ∈ E, y.o.slen ≤ 40 := by
  unfold bigHist at hb
  simp only [Bool.or_eq_false_iff, decide_eq_false_iff_not] at hb
  obtain ⟨⟨⟨h1, h2⟩, h3⟩, h4⟩ := hb
  refine ⟨⟨k.b, k.v, k.e.small h4, k.i1, k.i2⟩, by omega, by omega, by omega, fun y hy => ?_⟩
  rw [List.any_eq_false] at h4
  have hx0 : bigEnt y = false := by simpa using h4 y hy
  unfold bigEnt bigOp at hx0
  simp only [Bool.or_eq_false_iff, decide_eq_false_iff_not] at hx0
  omega
section
variable {H : Type} {enc : TypeId × Value → H} {w : World} {base : Nat} {sp : Nat → Bool} {held : Bool}

theorem szEdit : Tryz.prog.cellsOf 33 = 7 := by kernel_rfl
theorem szEnt : Tryz.prog.cellsOf 35 = 14 := by kernel_rfl
theorem szCells : Tryz.prog.cellsOf 22 = 1 := by kernel_rfl
theorem szInts : Tryz.prog.cellsOf 23 = 1 := by kernel_rfl
theorem szEnts : Tryz.prog.cellsOf 24 = 1 := by kernel_rfl
theorem szRHist : Tryz.prog.cellsOf 26 = 5 := by kernel_rfl
theorem edit_of {n : Nat} {cells : List Value} {y : DataW H × List MemPlace} (htab : tabsOk w) (h : DataW.trod enc Tryz.prog w base sp held n 33 cells = some y) :
    ∃ e : EditV, cells = e.cs ∧ e.ok0 w := by
  obtain ⟨ys, m, _, _, hl, hyl, hf⟩ := DataW.trod_struct Tryz.underlying33 h
  rw [szEdit] at hl
  obtain ⟨c0, c1, c2, c3, c4, c5, c6, rfl⟩ : ∃ c0 c1 c2 c3 c4 c5 c6, cells = [c0, c1, c2, c3, c4, c5, c6] := by
    match cells, hl with
    | [c0, c1, c2, c3, c4, c5, c6], _ => exact ⟨c0, c1, c2, c3, c4, c5, c6, rfl⟩
  obtain ⟨y0, y1, y2, y3, y4, y5, rfl⟩ : ∃ y0 y1 y2 y3 y4 y5, ys = [y0, y1, y2, y3, y4, y5] := by
    match ys, (show ys.length = 6 from hyl) with
    | [y0, y1, y2, y3, y4, y5], _ => exact ⟨y0, y1, y2, y3, y4, y5, rfl⟩
  have h0 := hf 0 _ rfl
  have h1 := hf 1 _ rfl
  have h2 := hf 2 _ rfl
  have h3 := hf 3 _ rfl
  have h4 := hf 4 _ rfl
  have h5 := hf 5 _ rfl
  simp only [List.getElem_toArray, List.getElem_cons_zero, List.getElem_cons_succ, szName, szInt, szString, List.drop_zero, List.drop_succ_cons, List.take_succ_cons, List.take_zero, List.getElem?_cons_zero, List.getElem?_cons_succ] at h0 h1 h2 h3 h4 h5
  obtain ⟨s, q, rfl, rfl, _, _⟩ := name_of h0
  obtain ⟨cx, e1, _, _⟩ := DataW.trod_int Tryz.underlying3 h1
  obtain ⟨kd, e2, _, _⟩ := DataW.trod_int Tryz.underlying3 h2
  obtain ⟨at_, e3, _, _⟩ := DataW.trod_int Tryz.underlying3 h3
  obtain ⟨ln, e4, _, _⟩ := DataW.trod_int Tryz.underlying3 h4
  obtain ⟨tx, e5, _, w5⟩ := DataW.trod_string Tryz.underlying9 h5
  simp only [List.cons.injEq, and_true] at e1 e2 e3 e4 e5
  subst e1 e2 e3 e4 e5
  exact ⟨⟨s, q, cx, kd, at_, ln, tx⟩, rfl, w5, fun hsz => ⟨.inl htab, hsz⟩⟩
theorem entry_of {n : Nat} {cells : List Value} {y : DataW H × List MemPlace} (htab : tabsOk w) (h : DataW.trod enc Tryz.prog w base sp held n 35 cells = some y) :
    ∃ x : EntV, cells = x.cs ∧ x.o.ok0 w x.sp ∧ x.ed.ok0 w := by
  obtain ⟨ys, m, _, _, hl, hyl, hf⟩ := DataW.trod_struct Tryz.underlying35 h
  rw [szEnt] at hl
  obtain ⟨y0, y1, rfl⟩ : ∃ y0 y1, ys = [y0, y1] := by
    match ys, (show ys.length = 2 from hyl) with
    | [y0, y1], _ => exact ⟨y0, y1, rfl⟩
  have h0 := hf 0 _ rfl
  have h1 := hf 1 _ rfl
  simp only [List.getElem_toArray, List.getElem_cons_zero, List.getElem_cons_succ, szOp, szEdit, List.drop_zero, List.getElem?_cons_zero, List.getElem?_cons_succ] at h0 h1
  rw [List.take_of_length_le (by rw [List.length_drop]; omega)] at h1
  obtain ⟨o, l, e0, ho⟩ := op_of htab h0
  obtain ⟨ed, e1, he⟩ := edit_of htab h1
  refine ⟨⟨o, l, ed⟩, ?_, ho, he⟩
  rw [← List.take_append_drop 7 cells, e0, e1]
  rfl
theorem read_ents {fuel : Nat} {a : Option Addr} {len cap : Nat} {x : DataW H × List MemPlace} (htab : tabsOk w) (h : DataW.trod enc Tryz.prog w base sp held fuel 24 [.slice a len cap] = some x) : ∃ l, IsEnts0 w a len cap l := by
  obtain ⟨a', len', cap', hcs, hl, hm, hf⟩ := slice_elems Tryz.underlying24 szEnt (by decide) h
  simp only [List.cons.injEq, Value.slice.injEq, and_true] at hcs
  obtain ⟨rfl, rfl, rfl⟩ := hcs
  have key : ∀ i, i < len → ∃ c : EntV, (c.o.ok0 w c.sp ∧ c.ed.ok0 w) ∧ ∃ b off, a = some ⟨b, off, none⟩ ∧ w.rangeAt b (off + i * 14) c.cs := by
    intro i hi
    obtain ⟨b, off, cells, y, n, e, _, hr, ht⟩ := hf i hi
    obtain ⟨c, rfl, hc⟩ := entry_of htab ht
    exact ⟨c, hc, b, off, e, hr⟩
  obtain ⟨f, hfk⟩ := Classical.axiomOfChoice (fun i : Fin len => key i.1 i.2)
  refine ⟨List.ofFn f, by simp, hl, hm, ?_, ?_⟩
  · intro y hy
    obtain ⟨i, rfl⟩ := List.mem_ofFn.1 hy
    exact (hfk i).1
  · intro i y hy
    have hi : i < len := by have := (List.getElem?_eq_some_iff.1 hy).1; simpa using this
    have : y = f ⟨i, hi⟩ := by
      rw [List.getElem?_eq_getElem (by simpa using hi)] at hy
      simp at hy; exact hy.symm
    subst this
    exact (hfk ⟨i, hi⟩).2
theorem read_ints {fuel : Nat} {a : Option Addr} {len cap : Nat} {x : DataW H × List MemPlace} (h : DataW.trod enc Tryz.prog w base sp held fuel 23 [.slice a len cap] = some x) : ∃ l, IsVec w a len cap l := by
  obtain ⟨a', len', cap', hcs, hl, hm, hf⟩ := slice_elems Tryz.underlying23 szInt (by decide) h
  simp only [List.cons.injEq, Value.slice.injEq, and_true] at hcs
  obtain ⟨rfl, rfl, rfl⟩ := hcs
  have key : ∀ i, i < len → ∃ c : Int, (-9223372036854775808 ≤ c ∧ c ≤ 9223372036854775807) ∧ ∃ b off, a = some ⟨b, off, none⟩ ∧ w.cell? ⟨b, off + i, none⟩ = some (.int .i64 c) := by
    intro i hi
    obtain ⟨b, off, cells, y, n, e, hlen, hr, ht⟩ := hf i hi
    obtain ⟨c, e1, _, w1⟩ := DataW.trod_int Tryz.underlying3 ht
    subst e1
    have := hr 0 _ rfl
    rw [Nat.mul_one, Nat.add_zero] at this
    exact ⟨c, bounds_i64 w1, b, off, e, this⟩
  obtain ⟨f, hfk⟩ := Classical.axiomOfChoice (fun i : Fin len => key i.1 i.2)
  refine ⟨List.ofFn f, by simp, hl, hm, ?_, ?_⟩
  · intro y hy
    obtain ⟨i, rfl⟩ := List.mem_ofFn.1 hy
    exact (hfk i).1
  · intro i y hy
    have hi : i < len := by have := (List.getElem?_eq_some_iff.1 hy).1; simpa using this
    have : y = f ⟨i, hi⟩ := by
      rw [List.getElem?_eq_getElem (by simpa using hi)] at hy
      simp at hy; exact hy.symm
    subst this
    exact (hfk ⟨i, hi⟩).2
theorem read_hist {n : Nat} {cells : List Value} {y : DataW H × List MemPlace} (htab : tabsOk w) (h : DataW.trod enc Tryz.prog w base sp held n 26 cells = some y) :
    ∃ (h : HistV) (B : List CellV) (V : List Int) (E : List EntV), cells = h.cs ∧ HistIs0 w h B V E := by
  obtain ⟨ys, m, _, _, hl, hyl, hf⟩ := DataW.trod_struct Tryz.underlying26 h
  rw [szRHist] at hl
  obtain ⟨c0, c1, c2, c3, c4, rfl⟩ : ∃ c0 c1 c2 c3 c4, cells = [c0, c1, c2, c3, c4] := by
    match cells, hl with
    | [c0, c1, c2, c3, c4], _ => exact ⟨c0, c1, c2, c3, c4, rfl⟩
  obtain ⟨y0, y1, y2, y3, y4, rfl⟩ : ∃ y0 y1 y2 y3 y4, ys = [y0, y1, y2, y3, y4] := by
    match ys, (show ys.length = 5 from hyl) with
    | [y0, y1, y2, y3, y4], _ => exact ⟨y0, y1, y2, y3, y4, rfl⟩
  have h0 := hf 0 _ rfl
  have h1 := hf 1 _ rfl
  have h2 := hf 2 _ rfl
  have h3 := hf 3 _ rfl
  have h4 := hf 4 _ rfl
  simp only [List.getElem_toArray, List.getElem_cons_zero, List.getElem_cons_succ, szCells, szInts, szInt, szEnts, List.drop_zero, List.drop_succ_cons, List.take_succ_cons, List.take_zero, List.getElem?_cons_zero, List.getElem?_cons_succ] at h0 h1 h2 h3 h4
  obtain ⟨ba, bl, bc, e0, _⟩ := slice_elems Tryz.underlying22 szCell (by decide) h0
  obtain ⟨va, vl, vc, e1, _⟩ := slice_elems Tryz.underlying23 szInt (by decide) h1
  obtain ⟨fr, e2, _, w2⟩ := DataW.trod_int Tryz.underlying3 h2
  obtain ⟨nu, e3, _, w3⟩ := DataW.trod_int Tryz.underlying3 h3
  obtain ⟨la, ll, lc, e4, _⟩ := slice_elems Tryz.underlying24 szEnt (by decide) h4
  simp only [List.cons.injEq, and_true] at e0 e1 e2 e3 e4
  subst e0 e1 e2 e3 e4
  obtain ⟨B, hB⟩ := read_cells h0
  obtain ⟨V, hV⟩ := read_ints h1
  obtain ⟨E, hE⟩ := read_ents htab h4
  exact ⟨⟨ba, bl, bc, va, vl, vc, fr, nu, la, ll, lc⟩, B, V, E, rfl, hB, hV, hE, bounds_i64 w2, bounds_i64 w3⟩
end
theorem okWide_agg {P : Program} {w : World} {r : Reach} {b0 : Nat} {t : TypeId} {v : Value} {fs : Array Field} (ht : P.underlying t = some (.struct fs)) (h : Value.okWide P w r b0 t v) : ∃ cs : Array Value, v = .agg cs := by
  simp only [Value.okWide, ht] at h
  obtain ⟨cs, rfl, _⟩ := h
  exact ⟨cs, rfl⟩

end Go.Proofs.YtlidmajcdjlcnaaGreatDoor

namespace Go.Proofs.YtlidmajcdjlcnaaGreatDoor
open Go.RowKit Go.Shelf Go.Mine
open Classical

theorem likeE.symm {E E' : List EntV} (h : likeE E E') : likeE E' E := by
  refine ⟨h.1.symm, fun i y hy => ?_⟩
  have hi : i < E.length := by rw [← h.1]; exact (List.getElem?_eq_some_iff.1 hy).1
  obtain ⟨a, c, h2⟩ := h.2 i _ (List.getElem?_eq_getElem hi)
  rw [h2] at hy
  cases hy
  rw [List.getElem?_eq_getElem hi]
  exact ⟨E[i].o.sa, E[i].o.scap, rfl⟩
theorem numP_in {h : HistV} {x : EntV} (i2 : -9223372036854775808 ≤ h.num ∧ h.num ≤ 9223372036854775807) (i3 : -9223372036854775808 ≤ x.o.num ∧ x.o.num ≤ 9223372036854775807) : -9223372036854775808 ≤ numP h x ∧ numP h x ≤ 9223372036854775807 := by
  unfold numP
  split
  · exact i2
  · exact i3
theorem ents_and {w : World} {E : List EntV} {x : EntV} (he : ∀ y ∈ E, y.o.ok w y.sp ∧ y.ed.ok w) (hx : x.o.ok w x.sp ∧ x.ed.ok w) : ∀ y ∈ E ++ [x], y.o.ok w y.sp ∧ y.ed.ok w := by
  intro y hy
  rcases List.mem_append.1 hy with hy | hy
  · exact he y hy
  · rw [List.mem_singleton] at hy
    subst hy
    exact hx
/-- The box K holds what Add gave: nothing, or the history with the entry, all of it made since the block b0. -/
def AddSt (w : World) (b0 K : Nat) (R : Int) (h : HistV) (B : List CellV) (V : List Int) (E : List EntV) (x : EntV) (wx : World) : Prop :=
  ∃ (g : HistV) (BB : List CellV) (VV : List Int) (EE : List EntV), Blk wx K g.cs 39 ∧ (R ≠ 0 → g = zeroV ∧ BB = [] ∧ VV = [] ∧ EE = []) ∧ (R = 0 → BB = B ∧ VV = V ∧ g.bl = h.bl ∧ g.vl = h.vl ∧ g.ll = h.ll + 1 ∧ g.from_ = h.from_ ∧ g.num = numP h x ∧ likeE (E ++ [x]) EE ∧ Made b0 wx g B V EE) ∧ Mine.Mod none_ w wx
theorem AddSt.low {w : World} {b0 b1 K : Nat} {R : Int} {h : HistV} {B : List CellV} {V : List Int} {E : List EntV} {x : EntV} {wx : World} (k : AddSt w b0 K R h B V E x wx) (hb : b1 ≤ b0) : AddSt w b1 K R h B V E x wx := by
  obtain ⟨g, BB, VV, EE, h1, h2, h3, h4⟩ := k
  refine ⟨g, BB, VV, EE, h1, h2, fun e => ?_, h4⟩
  obtain ⟨q1, q2, q3, q4, q5, q6, q7, q8, q9⟩ := h3 e
  exact ⟨q1, q2, q3, q4, q5, q6, q7, q8, q9.low hb⟩
/-- The box K holds what the document's Add gave. -/
def RAddSt (w : World) (b0 K : Nat) (R : Int) (h : HistV) (E : List EntV) (x : EntV) (wx : World) : Prop :=
  ∃ g : HistV, Blk wx K g.cs 26 ∧ (R ≠ 0 → g = zeroV) ∧ (R = 0 → ∃ la lc, g = ⟨h.ba, h.bl, h.bc, h.va, h.vl, h.vc, h.from_, numP h x, la, h.ll + 1, lc⟩ ∧ wx.ownsRow b0 35 14 (.slice la (h.ll + 1) lc) (h.ll + 1) (flat EntV.cs (E ++ [x]))) ∧ Mine.Mod none_ w wx
/-- The two boxes hold histories alike. -/
theorem adds_alike {w w1 w2 wx : World} {b0 b1 K K' : Nat} {R : Int} {h : HistV} {B : List CellV} {V : List Int} {E : List EntV} {x : EntV} (hh : HistIs w h B V E) (hx : x.o.ok w x.sp ∧ x.ed.ok w) (ha : AddSt w b0 K R h B V E x w1) (hb : RAddSt w b1 K' R h E x w2) (m1 : Mine.Mod none_ w1 wx) (m2 : Mine.Mod none_ w2 wx) :
    ∃ (g g' : HistV) (BB : List CellV) (VV : List Int) (EE EE' : List EntV), Blk wx K g.cs 39 ∧ Blk wx K' g'.cs 26 ∧ HistIs wx g BB VV EE ∧ HistIs wx g' BB VV EE' ∧ g'.bl = g.bl ∧ g'.vl = g.vl ∧ g'.from_ = g.from_ ∧ g'.num = g.num ∧ g'.ll = g.ll ∧ likeE EE EE' := by
  obtain ⟨g, BB, VV, EE, k1, h2, h3, h4⟩ := ha
  obtain ⟨g', k1', h2', h3', h4'⟩ := hb
  by_cases hR : R = 0
  · obtain ⟨rfl, rfl, q3, q4, q5, q6, q7, q8, q9⟩ := h3 hR
    obtain ⟨la, lc, rfl, ho⟩ := h3' hR
    have hi := numP_in hh.i2 hx.1.i3
    have mx := h4.trans m1
    refine ⟨g, _, BB, VV, EE, E ++ [x], k1.mod m1 (fun e => e), k1'.mod m2 (fun e => e), (q9.grown m1).is2 hh.b.ok hh.v.ok (ents_and hh.e.ok hx) mx q8 (by rw [q6]; exact hh.i1) (by rw [q7]; exact hi), ⟨hh.b.grown mx, hh.v.grown mx, own_ents (ownsRow_mod ho m2 (fun _ _ e => e)) (fun y hy => ⟨(ents_and hh.e.ok hx y hy).1.grown mx, (ents_and hh.e.ok hx y hy).2.grown mx⟩), hh.i1, hi⟩, q3.symm, q4.symm, q6.symm, q7.symm, q5.symm, q8.symm⟩
  · obtain ⟨rfl, rfl, rfl, rfl⟩ := h2 hR
    obtain rfl := h2' hR
    exact ⟨zeroV, zeroV, [], [], [], [], k1.mod m1 (fun e => e), k1'.mod m2 (fun e => e), zeroV_is _, zeroV_is _, rfl, rfl, rfl, rfl, rfl, likeE.refl _⟩
theorem AddTo.open_ {w w0 w1 : World} {R : Int} {h : HistV} {B : List CellV} {V : List Int} {E : List EntV} {x : EntV} {e : Ending} (k : AddTo w0 R h B V E x e w1) :
    ∃ (g : HistV) (BB : List CellV) (VV : List Int) (EE : List EntV), e = .returned (.tuple #[g.v, .int .i64 R]) ∧ (R ≠ 0 → g = zeroV ∧ BB = [] ∧ VV = [] ∧ EE = []) ∧ (R = 0 → BB = B ∧ VV = V ∧ g.bl = h.bl ∧ g.vl = h.vl ∧ g.ll = h.ll + 1 ∧ g.from_ = h.from_ ∧ g.num = numP h x ∧ likeE (E ++ [x]) EE ∧ Made w0.heap.size w1 g B V EE) ∧ Mine.Mod none_ w0 w1 := by
  obtain ⟨m, hno, hyes⟩ := k
  by_cases hR : R = 0
  · obtain ⟨g, EE, rfl, h1, h2, h3, h4, h5, h6, h7⟩ := hyes hR
    exact ⟨g, B, V, EE, by rw [hR], fun e => absurd hR e, fun _ => ⟨rfl, rfl, h1, h2, h3, h4, h5, h6, h7⟩, m⟩
  · exact ⟨zeroV, [], [], [], hno hR, fun _ => ⟨rfl, rfl, rfl, rfl⟩, fun e => absurd e hR, m⟩
theorem RAddTo.open_ {w0 w1 : World} {R : Int} {h : HistV} {E : List EntV} {x : EntV} {e : Ending} (k : RAddTo w0 R h E x e w1) :
    ∃ g : HistV, e = .returned (.tuple #[g.v, .int .i64 R]) ∧ (R ≠ 0 → g = zeroV) ∧ (R = 0 → ∃ la lc, g = ⟨h.ba, h.bl, h.bc, h.va, h.vl, h.vc, h.from_, numP h x, la, h.ll + 1, lc⟩ ∧ w1.ownsRow w0.heap.size 35 14 (.slice la (h.ll + 1) lc) (h.ll + 1) (flat EntV.cs (E ++ [x]))) ∧ Mine.Mod none_ w0 w1 := by
  obtain ⟨m, hno, hyes⟩ := k
  by_cases hR : R = 0
  · obtain ⟨la, lc, rfl, ho⟩ := hyes hR
    exact ⟨⟨h.ba, h.bl, h.bc, h.va, h.vl, h.vc, h.from_, numP h x, la, h.ll + 1, lc⟩, by rw [hR], fun e => absurd hR e, fun _ => ⟨la, lc, rfl, ho⟩, m⟩
  · exact ⟨zeroV, hno hR, fun _ => rfl, fun e => absurd e hR, m⟩
/-- What Add's answer holds. -/
def AddP (b0 : Nat) (R : Int) (h : HistV) (B : List CellV) (V : List Int) (E : List EntV) (x : EntV) (g : HistV) (BB : List CellV) (VV : List Int) (EE : List EntV) (wx : World) : Prop :=
  (R ≠ 0 → g = zeroV ∧ BB = [] ∧ VV = [] ∧ EE = []) ∧ (R = 0 → BB = B ∧ VV = V ∧ g.bl = h.bl ∧ g.vl = h.vl ∧ g.ll = h.ll + 1 ∧ g.from_ = h.from_ ∧ g.num = numP h x ∧ likeE (E ++ [x]) EE ∧ Made b0 wx g B V EE)
theorem AddP.mod {S : Nat → Prop} {b0 : Nat} {R : Int} {h g : HistV} {B BB : List CellV} {V VV : List Int} {E EE : List EntV} {x : EntV} {w w' : World} (k : AddP b0 R h B V E x g BB VV EE w) (m : Mine.Mod S w w') (hs : ∀ j, S j → ∃ cs, Blk w j cs 39 ∨ Blk w j cs 26) : AddP b0 R h B V E x g BB VV EE w' :=
  ⟨k.1, fun e => by
    obtain ⟨q1, q2, q3, q4, q5, q6, q7, q8, q9⟩ := k.2 e
    exact ⟨q1, q2, q3, q4, q5, q6, q7, q8, q9.mod m hs⟩⟩
theorem AddP.low {b0 b1 : Nat} {R : Int} {h g : HistV} {B BB : List CellV} {V VV : List Int} {E EE : List EntV} {x : EntV} {w : World} (k : AddP b0 R h B V E x g BB VV EE w) (hb : b1 ≤ b0) : AddP b1 R h B V E x g BB VV EE w :=
  ⟨k.1, fun e => by
    obtain ⟨q1, q2, q3, q4, q5, q6, q7, q8, q9⟩ := k.2 e
    exact ⟨q1, q2, q3, q4, q5, q6, q7, q8, q9.low hb⟩⟩
theorem IsEnts.take {w : World} {a : Option Addr} {len cap : Nat} {l : List EntV} (h : IsEnts w a len cap l) (k : Nat) (hk : k ≤ len) : IsEnts w a k cap (l.take k) :=
  ⟨by rw [List.length_take, h.n]; omega, Nat.le_trans hk h.le, h.big, fun c hc => h.ok c (List.mem_of_mem_take hc), fun i c hc => h.ents i c (by
    rw [List.getElem?_take] at hc
    split at hc
    · exact hc
    · cases hc)⟩
theorem HistIs.up {w : World} {h : HistV} {B : List CellV} {V : List Int} {E : List EntV} (k : HistIs w h B V E) (n : Int) (hn : -9223372036854775808 ≤ n ∧ n ≤ 9223372036854775807) : HistIs w ⟨h.ba, h.bl, h.bc, h.va, h.vl, h.vc, h.from_, n, h.la, h.ll, h.lc⟩ B V E := ⟨k.b, k.v, k.e, k.i1, hn⟩

end Go.Proofs.YtlidmajcdjlcnaaGreatDoor

namespace Go.Proofs.YtlidmajcdjlcnaaGreatDoor
open Go.RowKit Go.Shelf Go.Mine
open Classical

/-- Numbers behind others: append. -/
theorem app_ints {W : World} {B n vc len cap : Nat} {va a : Option Addr} {xs l : List Int} (ho : W.ownsRow B 3 1 (.slice va n vc) n (intCs xs)) (h : IsVec W a len cap l) (hb : n + len ≤ 1099511627776) (hB : B ≤ W.heap.size) :
    ∃ va' vc' w', (Builtin.append_ #[23, 23] 23 #[.slice va n vc, .slice a len cap]).run Tryz.prog W = .ok (.slice va' (n + len) vc') w' ∧
      w'.ownsRow B 3 1 (.slice va' (n + len) vc') (n + len) (intCs (xs ++ l)) ∧ Mine.Mod (fun k => (Value.slice va n vc).ownBlock = some k) W w' := by
  obtain ⟨i0, hi0, hz0, hz1, hz2⟩ := info_parts infoInt
  by_cases hl0 : len = 0
  · subst hl0
    have hl : l = [] := List.eq_nil_of_length_eq_zero h.n
    subst hl
    have hle : n ≤ vc := by
      rcases ownsRow_blk ho with ⟨h1, h2, _⟩ | ⟨g, cap, more, h1, _, _, h2, _⟩
      · omega
      · cases h1; exact h2
    refine ⟨va, vc, W, ?_, by simpa using ho, Mine.Mod.refl _ _⟩
    have hs := src_zero (P := Tryz.prog) (size := i0.size) W Tryz.underlying23 a cap
    have := run_append_nothing (P := Tryz.prog) W 23 23 23 3 i0 Tryz.underlying23 hi0 va n vc hle _ hs
    simpa using this
  · obtain ⟨c, hc⟩ : ∃ x, l[0]? = some x := ⟨l[0]'(by rw [h.n]; omega), by simp⟩
    obtain ⟨b, off, rfl, _⟩ := h.cells 0 c hc
    have hr := h.row
    obtain ⟨v', w', hrun, hown, hgrow, _⟩ := run_append_own (P := Tryz.prog) W B 23 23 3 i0 _ 1 8 Tryz.underlying23 hi0 hz0 hz1 hz2 rfl (by decide) (.slice va n vc) n _ ho ⟨b, off, none⟩ len cap (intCs l) (by rw [List.length_map, h.n, Nat.mul_one]) (fun j u hj => by rw [Addr.add_lit]; exact hr j u hj) (intCs_ones l) (by unfold maxLen; omega) (by omega) hB
    obtain ⟨va', vc', rfl⟩ : ∃ va' vc', v' = .slice va' (n + len) vc' := by
      rcases ownsRow_blk hown with ⟨_, h0, _⟩ | ⟨g', c', _, rfl, _⟩
      · omega
      · exact ⟨_, c', rfl⟩
    refine ⟨va', vc', w', hrun, ?_, (Mine.Mod.refl _ _).grown hgrow (fun k e _ => e)⟩
    show w'.ownsRow B _ 1 _ _ (List.map _ _); rw [List.map_append]; exact hown
/-- Spans behind others: append. -/
theorem app_spans {W : World} {B n vc len cap : Nat} {va a : Option Addr} {xs l : List (Int × Int)} (ho : W.ownsRow B 49 2 (.slice va n vc) n (flat spC xs)) (h : IsSpans W a len cap l) (hb : n + len ≤ 1099511627776) (hB : B ≤ W.heap.size) :
    ∃ va' vc' w', (Builtin.append_ #[29, 29] 29 #[.slice va n vc, .slice a len cap]).run Tryz.prog W = .ok (.slice va' (n + len) vc') w' ∧
      w'.ownsRow B 49 2 (.slice va' (n + len) vc') (n + len) (flat spC (xs ++ l)) ∧ Mine.Mod (fun k => (Value.slice va n vc).ownBlock = some k) W w' := by
  obtain ⟨i0, hi0, hz0, hz1, hz2⟩ := info_parts infoSpanC
  by_cases hl0 : len = 0
  · subst hl0
    have hl : l = [] := List.eq_nil_of_length_eq_zero h.n
    subst hl
    have hle : n ≤ vc := by
      rcases ownsRow_blk ho with ⟨h1, h2, _⟩ | ⟨g, cap, more, h1, _, _, h2, _⟩
      · omega
      · cases h1; exact h2
    refine ⟨va, vc, W, ?_, by simpa using ho, Mine.Mod.refl _ _⟩
    have hs := src_zero (P := Tryz.prog) (size := i0.size) W Tryz.underlying29 a cap
    have := run_append_nothing (P := Tryz.prog) W 29 29 29 49 i0 Tryz.underlying29 hi0 va n vc hle _ hs
    simpa using this
  · obtain ⟨c, hc⟩ : ∃ x, l[0]? = some x := ⟨l[0]'(by rw [h.n]; omega), by simp⟩
    obtain ⟨b, off, rfl, _⟩ := h.cells 0 c hc
    have hr := h.row
    obtain ⟨v', w', hrun, hown, hgrow, _⟩ := run_append_own (P := Tryz.prog) W B 29 29 49 i0 _ 2 16 Tryz.underlying29 hi0 hz0 hz1 hz2 rfl (by decide) (.slice va n vc) n _ ho ⟨b, off, none⟩ len cap (flat spC l) (by rw [flat_length spC_len, h.n]) (fun j u hj => by rw [Addr.add_lit]; exact hr j u hj) (spC_ones l) (by unfold maxLen; omega) (by omega) hB
    obtain ⟨va', vc', rfl⟩ : ∃ va' vc', v' = .slice va' (n + len) vc' := by
      rcases ownsRow_blk hown with ⟨_, h0, _⟩ | ⟨g', c', _, rfl, _⟩
      · omega
      · exact ⟨_, c', rfl⟩
    refine ⟨va', vc', w', hrun, ?_, (Mine.Mod.refl _ _).grown hgrow (fun k e _ => e)⟩
    rw [flat_append]; exact hown

/-- What is known of a history while its numbers are written over: its bases' places, its entries' spans and places, are numbers. -/
structure Sh (wx : World) (g : HistV) (EE : List EntV) : Prop where
  b : ∀ i, i < g.bl → ∃ gb cs, g.ba = some ⟨gb, 0, none⟩ ∧ Blk wx gb cs 47 ∧ ∃ v : Int, cs[i * 5 + 2]? = some (.int .i64 v)
  e : ∀ (i : Nat) (x : EntV), EE[i]? = some x → ∃ gl cs, g.la = some ⟨gl, 0, none⟩ ∧ Blk wx gl cs 35 ∧ cs[i * 14 + 6]? = some (.slice x.o.sa x.o.slen x.o.scap) ∧ ∃ v : Int, cs[i * 14 + 11]? = some (.int .i64 v)
  s : ∀ x ∈ EE, ∀ k, k < x.o.slen → ∃ gs cs, x.o.sa = some ⟨gs, 0, none⟩ ∧ Blk wx gs cs 49 ∧ ∃ v : Int, cs[k * 2 + 1]? = some (.int .i64 v)
theorem set_int {cs : List Value} {p q : Nat} {v u : Int} (h : cs[q]? = some (.int .i64 u)) : ∃ y : Int, (cs.set p (.int .i64 v))[q]? = some (.int .i64 y) := by
  rw [List.getElem?_set]
  by_cases hp : p = q
  · subst hp
    have hq := (List.getElem?_eq_some_iff.1 h).1
    rw [if_pos rfl, if_pos hq]
    exact ⟨v, rfl⟩
  · rw [if_neg hp]
    exact ⟨u, h⟩
theorem blk_same {w : World} {b : Nat} {cs cs' : List Value} {t t' : TypeId} (h : Blk w b cs t) (h' : Blk w b cs' t') : cs = cs' ∧ t = t' := by
  have e := Option.some.inj (h.symm.trans h')
  injection e with e1 e2 _
  exact ⟨by simpa using e1, e2⟩
theorem Sh.set {wx : World} {g : HistV} {EE : List EntV} {b : Nat} {cs : List Value} {t : TypeId} (k : Sh wx g EE) (hb : Blk wx b cs t) (p : Nat) (v : Int) (hp : t = 35 → p % 14 = 11) : Sh (wx.setCell ⟨b, p, none⟩ (.int .i64 v)) g EE := by
  have mS := (Mine.Mod.refl (one b) wx).setCell ⟨b, p, none⟩ (fun _ => rfl) (.int .i64 v)
  have hn := hb.set p (.int .i64 v)
  refine ⟨fun i hi => ?_, fun i x hx => ?_, fun x hx j hj => ?_⟩
  · obtain ⟨gb, ds, h1, h2, u, h3⟩ := k.b i hi
    by_cases e : gb = b
    · subst e
      obtain ⟨rfl, rfl⟩ := blk_same h2 hb
      exact ⟨gb, _, h1, hn, set_int h3⟩
    · exact ⟨gb, ds, h1, h2.mod mS e, u, h3⟩
  · obtain ⟨gl, ds, h1, h2, h3, u, h4⟩ := k.e i x hx
    by_cases e : gl = b
    · subst e
      obtain ⟨rfl, rfl⟩ := blk_same h2 hb
      refine ⟨gl, _, h1, hn, ?_, set_int h4⟩
      have := hp rfl
      rw [List.getElem?_set, if_neg (by omega)]
      exact h3
    · exact ⟨gl, ds, h1, h2.mod mS e, h3, u, h4⟩
  · obtain ⟨gs, ds, h1, h2, u, h3⟩ := k.s x hx j hj
    by_cases e : gs = b
    · subst e
      obtain ⟨rfl, rfl⟩ := blk_same h2 hb
      exact ⟨gs, _, h1, hn, set_int h3⟩
    · exact ⟨gs, ds, h1, h2.mod mS e, u, h3⟩
theorem Sh.grown {w w' : World} {g : HistV} {EE : List EntV} (k : Sh w g EE) (m : Mine.Mod none_ w w') : Sh w' g EE :=
  ⟨fun i hi => by obtain ⟨gb, ds, h1, h2, u, h3⟩ := k.b i hi; exact ⟨gb, ds, h1, h2.mod m (fun e => e), u, h3⟩,
   fun i x hx => by obtain ⟨gl, ds, h1, h2, h3, u, h4⟩ := k.e i x hx; exact ⟨gl, ds, h1, h2.mod m (fun e => e), h3, u, h4⟩,
   fun x hx j hj => by obtain ⟨gs, ds, h1, h2, u, h3⟩ := k.s x hx j hj; exact ⟨gs, ds, h1, h2.mod m (fun e => e), u, h3⟩⟩
theorem own_some {w : World} {B e size n vc i : Nat} {va : Option Addr} {xs : List Value} (h : w.ownsRow B e size (.slice va n vc) n xs) (hi : i < n) : ∃ g more, va = some ⟨g, 0, none⟩ ∧ Blk w g (xs ++ more) e := by
  rcases ownsRow_blk h with ⟨h1, h2, _⟩ | ⟨g, cap, more, h1, _, hb, _⟩
  · omega
  · cases h1
    exact ⟨g, more, rfl, hb⟩
theorem Made.sh {b0 : Nat} {w : World} {g : HistV} {B : List CellV} {V : List Int} {EE : List EntV} (k : Made b0 w g B V EE) : Sh w g EE := by
  have hB := k.b.1
  rw [flat_length CellV.len] at hB
  have hE := k.e.1
  rw [flat_length EntV.len] at hE
  refine ⟨fun i hi => ?_, fun i x hx => ?_, fun x hx j hj => ?_⟩
  · obtain ⟨gb, more, h1, h2⟩ := own_some k.b hi
    have hi2 : i < B.length := by omega
    have := Blk.elem CellV.len h2 i 2 _ (List.getElem?_eq_getElem hi2) (by decide)
    rw [h2.cell] at this
    exact ⟨gb, _, h1, h2, _, this⟩
  · have hi2 := (List.getElem?_eq_some_iff.1 hx).1
    obtain ⟨gl, more, h1, h2⟩ := own_some k.e (i := i) (by omega)
    have q6 := Blk.elem EntV.len h2 i 6 x hx (by decide)
    have q11 := Blk.elem EntV.len h2 i 11 x hx (by decide)
    rw [h2.cell] at q6 q11
    exact ⟨gl, _, h1, h2, q6, _, q11⟩
  · have hs := k.s x hx
    have hl := hs.1
    rw [flat_length spC_len] at hl
    obtain ⟨gs, more, h1, h2⟩ := own_some hs hj
    have hj2 : j < x.sp.length := by omega
    have := Blk.elem spC_len h2 j 1 _ (List.getElem?_eq_getElem hj2) (by decide)
    rw [h2.cell] at this
    exact ⟨gs, _, h1, h2, _, this⟩
/-- Blocks below b1 may change: what was made since b1 stands. -/
theorem Made.above {S : Nat → Prop} {b1 : Nat} {w w' : World} {h : HistV} {B : List CellV} {V : List Int} {E : List EntV} (k : Made b1 w h B V E) (m : Mine.Mod S w w') (hs : ∀ j, S j → j < b1) : Made b1 w' h B V E := by
  have key : ∀ {e size n : Nat} {v : Value} {xs : List Value}, w.ownsRow b1 e size v n xs → ∀ j, v.ownBlock = some j → ¬ S j := fun ho j hj hS => by have := (ho.lt j hj).1; have := hs j hS; omega
  exact ⟨ownsRow_mod k.b m (key k.b), ownsRow_mod k.v m (key k.v), ownsRow_mod k.e m (key k.e), fun x hx => ownsRow_mod (k.s x hx) m (key (k.s x hx))⟩

end Go.Proofs.YtlidmajcdjlcnaaGreatDoor
