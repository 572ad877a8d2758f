/-
  Texts on which the claim rests, one behind the other: His27 RowK.
-/
import Derived.Test.YtlidmajcdjlcnaaGreatDoorAd6
import Derived.Test.YtlidmajcdjlcnaaGreatDoorRows
import Derived.Test.YtlidmajcdjlcnaaGreatDoorCards
import Derived.Test.YtlidmajcdjlcnaaGreatDoorTie
import Derived.ProofKit
import Derived.OpenShut
import Derived.LaidMore
import Derived.Lay
import Derived.SevenTiedAt
import Derived.Stop.Joined
import Derived.Lib.LaidU8T
import Derived.PinnedBridge
import Derived.Lib.SmallJoins

set_option linter.unusedSimpArgs false
set_option linter.unusedVariables false

namespace Go.Proofs.YtlidmajcdjlcnaaGreatDoor
open Go.RowKit Go.Shelf Go.Mine
open Classical

set_option maxHeartbeats 4000000 in
set_option maxRecDepth 1000000 in
theorem histAdds_any (w : World) (h : HistV) (B : List CellV) (V : List Int) (E : List EntV) (h0 : HistIs0 w h B V E) (x : EntV) (hx : x.o.ok0 w x.sp ∧ x.ed.ok0 w) :
    Calls Tryz.prog 4 #[h.v, x.v] w fun e w' => e = .returned (.bool true) ∧ Mine.Mod none_ w w' := by
  have HG := Lib.hid (fun W (m : Mine.Mod none_ w W) => rgreatH_any W h E (h0.e.grown m))
  have HGO := Lib.hid (fun W (m : Mine.Mod none_ w W) => great_op x.o W x.sp (hx.1.grown m))
  have HOF := Lib.hid (fun W => of_hist W h)
  obtain ⟨G, hG⟩ : ∃ G, G = bigHist h E := ⟨_, rfl⟩
  rw [← hG] at HG
  have HSM := Lib.hid (fun (e : G = false) => h0.small (hG ▸ e))
  obtain ⟨Bo, hBo⟩ : ∃ Bo, Bo = bigOp x.o := ⟨_, rfl⟩
  rw [← hBo] at HGO
  have hsz := hx.2.sz
  unfold maxLen at hsz
  have HXO := Lib.hid (fun (e : Bo = false) (e2 : decide (1000 < (x.ed.text.size : Int)) = false) => show (x.o.ok w x.sp ∧ x.ed.ok w) ∧ x.o.slen ≤ 40 from by
    rw [hBo] at e
    unfold bigOp at e
    simp only [Bool.or_eq_false_iff, decide_eq_false_iff_not] at e e2
    exact ⟨⟨hx.1.ok (by omega), hx.2.ok (by omega)⟩, by omega⟩)
  obtain ⟨R, hR⟩ : ∃ R, R = addE h B V E x := ⟨_, rfl⟩
  have HR := Lib.hid hR
  obtain ⟨R1, hR1⟩ : ∃ R1, R1 = histOk h B V E := ⟨_, rfl⟩
  have HR1 := Lib.hid hR1
  clear hG h0 hx hBo hR hR1
  obtain ⟨xba, xbl, xbc, xva, xvl, xvc, xfr, xnum, xla, xll, xlc⟩ := h
  obtain ⟨W0, hW0⟩ : ∃ W0, (w.alloc (.cells #[.slice xba xbl xbc, .slice xva xvl xvc, .int .i64 xfr, .int .i64 xnum, .slice xla xll xlc] 26)).alloc (.cells #[.int .i64 x.o.site, .int .i64 x.o.seq, .int .i64 x.o.num, .int .i64 x.o.kind, .int .i64 x.o.at_, .string x.o.text, .slice x.o.sa x.o.slen x.o.scap, .int .i64 x.ed.site, .int .i64 x.ed.seq, .int .i64 x.ed.ctx, .int .i64 x.ed.kind, .int .i64 x.ed.at_, .int .i64 x.ed.len, .string x.ed.text] 35) = W0 := ⟨_, rfl⟩
  have m0 : Mine.Mod none_ w W0 := by rw [← hW0]; exact ((Mine.Mod.refl none_ w).alloc _).alloc _
  have k0 : Blk W0 (w.heap.size) [.slice xba xbl xbc, .slice xva xvl xvc, .int .i64 xfr, .int .i64 xnum, .slice xla xll xlc] 26 := by
    have hb := Blk.new (w := w) (cs := [.slice xba xbl xbc, .slice xva xvl xvc, .int .i64 xfr, .int .i64 xnum, .slice xla xll xlc]) (t := 26)
    rw [← hW0]
    exact hb.mod ((Mine.Mod.refl none_ _).alloc _) (fun e => e)
  have k1 : Blk W0 (w.heap.size + 1) [.int .i64 x.o.site, .int .i64 x.o.seq, .int .i64 x.o.num, .int .i64 x.o.kind, .int .i64 x.o.at_, .string x.o.text, .slice x.o.sa x.o.slen x.o.scap, .int .i64 x.ed.site, .int .i64 x.ed.seq, .int .i64 x.ed.ctx, .int .i64 x.ed.kind, .int .i64 x.ed.at_, .int .i64 x.ed.len, .string x.ed.text] 35 := by
    have hb := Blk.new (w := (w.alloc (.cells #[.slice xba xbl xbc, .slice xva xvl xvc, .int .i64 xfr, .int .i64 xnum, .slice xla xll xlc] 26))) (cs := [.int .i64 x.o.site, .int .i64 x.o.seq, .int .i64 x.o.num, .int .i64 x.o.kind, .int .i64 x.o.at_, .string x.o.text, .slice x.o.sa x.o.slen x.o.scap, .int .i64 x.ed.site, .int .i64 x.ed.seq, .int .i64 x.ed.ctx, .int .i64 x.ed.kind, .int .i64 x.ed.at_, .int .i64 x.ed.len, .string x.ed.text]) (t := 35)
    simp only [World.size_alloc] at hb
    rw [← hW0]
    exact hb.mod (Mine.Mod.refl none_ _) (fun e => e)
  have hs0 : W0.heap.size = w.heap.size + 1 + 1 := by rw [← hW0]; simp only [World.size_alloc]
  have M0 := Lib.hid m0
  have A0 := Lib.hid k0
  have B0 := Lib.hid k1
  have HAL := Lib.hid (alive_any W0)
  clear m0 k0 k1 hs0
  go_enter Tryz.func4, Tryz.ntmps4
  go_upto_region 1 with fail
  clear hW0
  go_wp2_with fail
  refine HAL.out.mono ?_
  rintro e w1 ⟨rfl, m1⟩
  have M1 := Lib.hid (M0.out.trans m1)
  have A1 := Lib.hid (A0.out.mod m1 (fun e => e))
  have B1 := Lib.hid (B0.out.mod m1 (fun e => e))
  have HM := Lib.hid (HG.out w1 M1.out)
  have a0 := A1.out.cell 0
  have a1 := A1.out.cell 1
  have a2 := A1.out.cell 2
  have a3 := A1.out.cell 3
  have a4 := A1.out.cell 4
  simp only [List.getElem?_cons_zero, List.getElem?_cons_succ] at a0 a1 a2 a3 a4
  clear m1 HAL HG
  go_wp2_with fail
  refine HM.out.mono ?_
  rintro e w2 ⟨rfl, m2⟩
  have M2 := Lib.hid (M1.out.trans m2)
  have A2 := Lib.hid (A1.out.mod m2 (fun e => e))
  have B2 := Lib.hid (B1.out.mod m2 (fun e => e))
  clear m2 a0 a1 a2 a3 a4 HM
  cases G
  case true =>
    go_wp2_with fail
    go_ret
    exact ⟨rfl, M2.out⟩
  have HM := Lib.hid (HGO.out w2 M2.out)
  have b0 := B2.out.cell 0
  have b1 := B2.out.cell 1
  have b2 := B2.out.cell 2
  have b3 := B2.out.cell 3
  have b4 := B2.out.cell 4
  have b5 := B2.out.cell 5
  have b6 := B2.out.cell 6
  have b7 := B2.out.cell 7
  have b8 := B2.out.cell 8
  have b9 := B2.out.cell 9
  have b10 := B2.out.cell 10
  have b11 := B2.out.cell 11
  have b12 := B2.out.cell 12
  have b13 := B2.out.cell 13
  simp only [List.getElem?_cons_zero, List.getElem?_cons_succ] at b0 b1 b2 b3 b4 b5 b6 b7 b8 b9 b10 b11 b12 b13
  clear HGO
  go_wp2_with fail
  refine HM.out.mono ?_
  rintro e w4 ⟨rfl, m4⟩
  have M4 := Lib.hid (M2.out.trans m4)
  have A4 := Lib.hid (A2.out.mod m4 (fun e => e))
  have B4 := Lib.hid (B2.out.mod m4 (fun e => e))
  clear m4 b0 b1 b2 b3 b4 b5 b6 b7 b8 b9 b10 b11 b12 b13 HM
  cases Bo
  case true =>
    go_wp2_with fail
    go_ret
    exact ⟨rfl, M4.out⟩
  have b13 := B4.out.cell 13
  simp only [List.getElem?_cons_zero, List.getElem?_cons_succ] at b13
  cases hb13 : decide (1000 < (x.ed.text.size : Int))
  case true =>
    go_wp2_with fail
    go_ret
    exact ⟨rfl, M4.out⟩
  have HS := Lib.hid (HSM.out (by first | rfl | trivial))
  have hbl := HS.out.2.1
  have hvl := HS.out.2.2.1
  have hll := HS.out.2.2.2.1
  have HI := Lib.hid HS.out.1
  have HXX := Lib.hid (HXO.out (by first | rfl | trivial) hb13).1
  have HXL := Lib.hid (HXO.out (by first | rfl | trivial) hb13).2
  go_upto_region 5 with fail
  clear b13 hb13 HSM HXO
  have HADD := Lib.hid (fun W (m : Mine.Mod none_ w W) => add_any W ⟨xba, xbl, xbc, xva, xvl, xvc, xfr, xnum, xla, xll, xlc⟩ x B V E (HI.out.grown m) ⟨HXX.out.1.grown m, HXX.out.2.grown m⟩ (by dsimp only; omega) (by dsimp only; omega) (fun y hy => Nat.le_trans (HS.out.2.2.2.2 y hy) (by decide)) (Nat.le_trans HXL.out (by decide)))
  go_cut [5, 6] from 30 to 36 (fun s5 s6 wx => ∃ K5, s5 = .pointer (some ⟨K5, 0, none⟩) ∧ s6 = .int .i64 R ∧ RowKit.Hid (AddSt w (w.heap.size + 1 + 1) K5 R ⟨xba, xbl, xbc, xva, xvl, xvc, xfr, xnum, xla, xll, xlc⟩ B V E x wx ∧ Blk wx w.heap.size [.slice xba xbl xbc, .slice xva xvl xvc, .int .i64 xfr, .int .i64 xnum, .slice xla xll xlc] 26 ∧ Blk wx (w.heap.size + 1) [.int .i64 x.o.site, .int .i64 x.o.seq, .int .i64 x.o.num, .int .i64 x.o.kind, .int .i64 x.o.at_, .string x.o.text, .slice x.o.sa x.o.slen x.o.scap, .int .i64 x.ed.site, .int .i64 x.ed.seq, .int .i64 x.ed.ctx, .int .i64 x.ed.kind, .int .i64 x.ed.at_, .int .i64 x.ed.len, .string x.ed.text] 35 ∧ w.heap.size + 1 + 1 ≤ K5))
  case first =>
    have mD := Mine.Mod.drew (Mine.Mod.refl none_ w4)
    have M5 := Lib.hid (M4.out.trans mD)
    have A5 := Lib.hid (A4.out.mod mD (fun e => e))
    have B5 := Lib.hid (B4.out.mod mD (fun e => e))
    clear mD
    have f0 : w4.cell? ⟨w.heap.size, 0, none⟩ = some (.slice xba xbl xbc) := by rw [A4.out.cell]; rfl
    have f1 : w4.cell? ⟨w.heap.size, 1, none⟩ = some (.slice xva xvl xvc) := by rw [A4.out.cell]; rfl
    have f2 : w4.cell? ⟨w.heap.size, 2, none⟩ = some (.int .i64 xfr) := by rw [A4.out.cell]; rfl
    have f3 : w4.cell? ⟨w.heap.size, 3, none⟩ = some (.int .i64 xnum) := by rw [A4.out.cell]; rfl
    have f4 : w4.cell? ⟨w.heap.size, 4, none⟩ = some (.slice xla xll xlc) := by rw [A4.out.cell]; rfl
    have g0 : w4.cell? ⟨w.heap.size + 1, 0, none⟩ = some (.int .i64 x.o.site) := by rw [B4.out.cell]; rfl
    have g1 : w4.cell? ⟨w.heap.size + 1, 1, none⟩ = some (.int .i64 x.o.seq) := by rw [B4.out.cell]; rfl
    have g2 : w4.cell? ⟨w.heap.size + 1, 2, none⟩ = some (.int .i64 x.o.num) := by rw [B4.out.cell]; rfl
    have g3 : w4.cell? ⟨w.heap.size + 1, 3, none⟩ = some (.int .i64 x.o.kind) := by rw [B4.out.cell]; rfl
    have g4 : w4.cell? ⟨w.heap.size + 1, 4, none⟩ = some (.int .i64 x.o.at_) := by rw [B4.out.cell]; rfl
    have g5 : w4.cell? ⟨w.heap.size + 1, 5, none⟩ = some (.string x.o.text) := by rw [B4.out.cell]; rfl
    have g6 : w4.cell? ⟨w.heap.size + 1, 6, none⟩ = some (.slice x.o.sa x.o.slen x.o.scap) := by rw [B4.out.cell]; rfl
    have g7 : w4.cell? ⟨w.heap.size + 1, 7, none⟩ = some (.int .i64 x.ed.site) := by rw [B4.out.cell]; rfl
    have g8 : w4.cell? ⟨w.heap.size + 1, 8, none⟩ = some (.int .i64 x.ed.seq) := by rw [B4.out.cell]; rfl
    have g9 : w4.cell? ⟨w.heap.size + 1, 9, none⟩ = some (.int .i64 x.ed.ctx) := by rw [B4.out.cell]; rfl
    have g10 : w4.cell? ⟨w.heap.size + 1, 10, none⟩ = some (.int .i64 x.ed.kind) := by rw [B4.out.cell]; rfl
    have g11 : w4.cell? ⟨w.heap.size + 1, 11, none⟩ = some (.int .i64 x.ed.at_) := by rw [B4.out.cell]; rfl
    have g12 : w4.cell? ⟨w.heap.size + 1, 12, none⟩ = some (.int .i64 x.ed.len) := by rw [B4.out.cell]; rfl
    have g13 : w4.cell? ⟨w.heap.size + 1, 13, none⟩ = some (.string x.ed.text) := by rw [B4.out.cell]; rfl
    refine wp_region_held_drew (S := fun w' => w'.cell? ⟨w.heap.size, 0, none⟩ = some (.slice xba xbl xbc) ∧ w'.cell? ⟨w.heap.size, 1, none⟩ = some (.slice xva xvl xvc) ∧ w'.cell? ⟨w.heap.size, 2, none⟩ = some (.int .i64 xfr) ∧ w'.cell? ⟨w.heap.size, 3, none⟩ = some (.int .i64 xnum) ∧ w'.cell? ⟨w.heap.size, 4, none⟩ = some (.slice xla xll xlc) ∧ w'.cell? ⟨w.heap.size + 1, 0, none⟩ = some (.int .i64 x.o.site) ∧ w'.cell? ⟨w.heap.size + 1, 1, none⟩ = some (.int .i64 x.o.seq) ∧ w'.cell? ⟨w.heap.size + 1, 2, none⟩ = some (.int .i64 x.o.num) ∧ w'.cell? ⟨w.heap.size + 1, 3, none⟩ = some (.int .i64 x.o.kind) ∧ w'.cell? ⟨w.heap.size + 1, 4, none⟩ = some (.int .i64 x.o.at_) ∧ w'.cell? ⟨w.heap.size + 1, 5, none⟩ = some (.string x.o.text) ∧ w'.cell? ⟨w.heap.size + 1, 6, none⟩ = some (.slice x.o.sa x.o.slen x.o.scap) ∧ w'.cell? ⟨w.heap.size + 1, 7, none⟩ = some (.int .i64 x.ed.site) ∧ w'.cell? ⟨w.heap.size + 1, 8, none⟩ = some (.int .i64 x.ed.seq) ∧ w'.cell? ⟨w.heap.size + 1, 9, none⟩ = some (.int .i64 x.ed.ctx) ∧ w'.cell? ⟨w.heap.size + 1, 10, none⟩ = some (.int .i64 x.ed.kind) ∧ w'.cell? ⟨w.heap.size + 1, 11, none⟩ = some (.int .i64 x.ed.at_) ∧ w'.cell? ⟨w.heap.size + 1, 12, none⟩ = some (.int .i64 x.ed.len) ∧ w'.cell? ⟨w.heap.size + 1, 13, none⟩ = some (.string x.ed.text)) (by kernel_rfl) ⟨f0, f1, f2, f3, f4, g0, g1, g2, g3, g4, g5, g6, g7, g8, g9, g10, g11, g12, g13⟩ (fun hS => ?_)
    clear f0 f1 f2 f3 f4 g0 g1 g2 g3 g4 g5 g6 g7 g8 g9 g10 g11 g12 g13
    generalize w4.drew = wd at M5 A5 B5 hS ⊢
    refine wpAnyH_take (i := 0) (v := .agg #[.slice xba xbl xbc, .slice xva xvl xvc, .int .i64 xfr, .int .i64 xnum, .slice xla xll xlc]) rfl (by kernel_rfl) (by kernel_rfl) (by kernel_rfl) (fun _ _ _ h => h) (Or.inl ⟨by kernel_rfl, ?_⟩) hS ?_
    · rintro w' ⟨q0, q1, q2, q3, q4, q5, q6, q7, q8, q9, q10, q11, q12, q13, q14, q15, q16, q17, q18⟩; go_simp
    try simp only [Act.put, List.setIfInBounds_toArray, List.set_cons_zero, List.set_cons_succ]
    refine wpAnyH_take (i := 2) (v := .agg #[.int .i64 x.o.site, .int .i64 x.o.seq, .int .i64 x.o.num, .int .i64 x.o.kind, .int .i64 x.o.at_, .string x.o.text, .slice x.o.sa x.o.slen x.o.scap, .int .i64 x.ed.site, .int .i64 x.ed.seq, .int .i64 x.ed.ctx, .int .i64 x.ed.kind, .int .i64 x.ed.at_, .int .i64 x.ed.len, .string x.ed.text]) rfl (by kernel_rfl) (by kernel_rfl) (by kernel_rfl) (fun _ _ _ h => h) (Or.inl ⟨by kernel_rfl, ?_⟩) hS ?_
    · rintro w' ⟨q0, q1, q2, q3, q4, q5, q6, q7, q8, q9, q10, q11, q12, q13, q14, q15, q16, q17, q18⟩; go_simp
    try simp only [Act.put, List.setIfInBounds_toArray, List.set_cons_zero, List.set_cons_succ]
    refine wpAnyH_ready (rs := [1, 7]) (by kernel_rfl) (by simp) (AllReadyH.cons rfl (fun J hJ => ?_) <| AllReadyH.cons rfl (fun J hJ => ?_) <| AllReadyH.nil)
    · go_simp
      refine (HOF.out _).mono ?_
      rintro e w6 ⟨rfl, mq⟩
      have M6 := Lib.hid (M5.out.trans mq)
      have A6 := Lib.hid (A5.out.mod mq (fun e => e))
      have B6 := Lib.hid (B5.out.mod mq (fun e => e))
      refine hJ.out _ _ ⟨by rw [A6.out.cell]; rfl, by rw [A6.out.cell]; rfl, by rw [A6.out.cell]; rfl, by rw [A6.out.cell]; rfl, by rw [A6.out.cell]; rfl, by rw [B6.out.cell]; rfl, by rw [B6.out.cell]; rfl, by rw [B6.out.cell]; rfl, by rw [B6.out.cell]; rfl, by rw [B6.out.cell]; rfl, by rw [B6.out.cell]; rfl, by rw [B6.out.cell]; rfl, by rw [B6.out.cell]; rfl, by rw [B6.out.cell]; rfl, by rw [B6.out.cell]; rfl, by rw [B6.out.cell]; rfl, by rw [B6.out.cell]; rfl, by rw [B6.out.cell]; rfl, by rw [B6.out.cell]; rfl⟩ (fun hS => ?_)
      clear hJ J mq
      try simp only [Act.put, List.setIfInBounds_toArray, List.set_cons_zero, List.set_cons_succ]
      refine wpAnyH_ready (rs := [3, 7]) (by kernel_rfl) (by simp) (AllReadyH.cons rfl (fun J hJ => ?_) <| AllReadyH.cons rfl (fun J hJ => ?_) <| AllReadyH.nil)
      · go_simp
        refine (HADD.out _ M6.out).mono ?_
        rintro e w7 ha
        rw [← HR.out] at ha
        obtain ⟨⟨gba, gbl, gbc, gva, gvl, gvc, gfr, gnu, gla, gll, glc⟩, BB, VV, EE, rfl, ga1, ga2, mq⟩ := AddTo.open_ (w := w) ha
        have HB0 := Lib.hid (show w.heap.size + 1 + 1 ≤ w6.heap.size from B6.out.lt)
        have P7 := Lib.hid (show AddP _ R ⟨xba, xbl, xbc, xva, xvl, xvc, xfr, xnum, xla, xll, xlc⟩ B V E x ⟨gba, gbl, gbc, gva, gvl, gvc, gfr, gnu, gla, gll, glc⟩ BB VV EE w7 from ⟨ga1, ga2⟩)
        have M7 := Lib.hid (M6.out.trans mq)
        have A7 := Lib.hid (A6.out.mod mq (fun e => e))
        have B7 := Lib.hid (B6.out.mod mq (fun e => e))
        refine hJ.out _ _ ⟨by rw [A7.out.cell]; rfl, by rw [A7.out.cell]; rfl, by rw [A7.out.cell]; rfl, by rw [A7.out.cell]; rfl, by rw [A7.out.cell]; rfl, by rw [B7.out.cell]; rfl, by rw [B7.out.cell]; rfl, by rw [B7.out.cell]; rfl, by rw [B7.out.cell]; rfl, by rw [B7.out.cell]; rfl, by rw [B7.out.cell]; rfl, by rw [B7.out.cell]; rfl, by rw [B7.out.cell]; rfl, by rw [B7.out.cell]; rfl, by rw [B7.out.cell]; rfl, by rw [B7.out.cell]; rfl, by rw [B7.out.cell]; rfl, by rw [B7.out.cell]; rfl, by rw [B7.out.cell]; rfl⟩ (fun hS => ?_)
        clear hJ J mq ga1 ga2 ha
        try simp only [Act.put, List.setIfInBounds_toArray, List.set_cons_zero, List.set_cons_succ]
        try dsimp only [HistV.v]
        refine wpAnyH_take (i := 4) (v := .tuple #[.agg #[.slice gba gbl gbc, .slice gva gvl gvc, .int .i64 gfr, .int .i64 gnu, .slice gla gll glc], .int .i64 R]) rfl (by kernel_rfl) (by kernel_rfl) (by kernel_rfl) (fun _ _ _ h => h) (Or.inl ⟨by kernel_rfl, ?_⟩) hS ?_
        · rintro w' ⟨q0, q1, q2, q3, q4, q5, q6, q7, q8, q9, q10, q11, q12, q13, q14, q15, q16, q17, q18⟩; go_simp
        try simp only [Act.put, List.setIfInBounds_toArray, List.set_cons_zero, List.set_cons_succ]
        refine wpAnyH_take (i := 5) (v := .agg #[.slice gba gbl gbc, .slice gva gvl gvc, .int .i64 gfr, .int .i64 gnu, .slice gla gll glc]) rfl (by kernel_rfl) (by kernel_rfl) (by kernel_rfl) (fun _ _ _ h => h) (Or.inl ⟨by kernel_rfl, ?_⟩) hS ?_
        · rintro w' ⟨q0, q1, q2, q3, q4, q5, q6, q7, q8, q9, q10, q11, q12, q13, q14, q15, q16, q17, q18⟩; go_simp
        try simp only [Act.put, List.setIfInBounds_toArray, List.set_cons_zero, List.set_cons_succ]
        refine wpAnyH_take (i := 6) (v := .int .i64 R) rfl (by kernel_rfl) (by kernel_rfl) (by kernel_rfl) (fun _ _ _ h => h) (Or.inl ⟨by kernel_rfl, ?_⟩) hS ?_
        · rintro w' ⟨q0, q1, q2, q3, q4, q5, q6, q7, q8, q9, q10, q11, q12, q13, q14, q15, q16, q17, q18⟩; go_simp
        try simp only [Act.put, List.setIfInBounds_toArray, List.set_cons_zero, List.set_cons_succ]
        refine wpAnyH_ready (rs := [7]) (by kernel_rfl) (by simp) (AllReadyH.cons rfl (fun J hJ => ?_) <| AllReadyH.nil)
        have mA : Mine.Mod none_ w7 (w7.alloc (.cells #[.slice none 0 0, .slice none 0 0, .int .i64 0, .int .i64 0, .slice none 0 0] 39)) := (Mine.Mod.refl none_ _).alloc _
        have Z8 := Lib.hid (Blk.new (w := w7) (cs := [.slice none 0 0, .slice none 0 0, .int .i64 0, .int .i64 0, .slice none 0 0]) (t := 39))
        have HK := Lib.hid (show w.heap.size + 1 + 1 ≤ w7.heap.size from B7.out.lt)
        have M8 := Lib.hid (M7.out.trans mA)
        have A8 := Lib.hid (A7.out.mod mA (fun e => e))
        have B8 := Lib.hid (B7.out.mod mA (fun e => e))
        have P8 := Lib.hid (P7.out.mod mA (fun _ e => e.elim))
        clear mA
        go_simp
        refine hJ.out _ _ ⟨by rw [A8.out.cell]; rfl, by rw [A8.out.cell]; rfl, by rw [A8.out.cell]; rfl, by rw [A8.out.cell]; rfl, by rw [A8.out.cell]; rfl, by rw [B8.out.cell]; rfl, by rw [B8.out.cell]; rfl, by rw [B8.out.cell]; rfl, by rw [B8.out.cell]; rfl, by rw [B8.out.cell]; rfl, by rw [B8.out.cell]; rfl, by rw [B8.out.cell]; rfl, by rw [B8.out.cell]; rfl, by rw [B8.out.cell]; rfl, by rw [B8.out.cell]; rfl, by rw [B8.out.cell]; rfl, by rw [B8.out.cell]; rfl, by rw [B8.out.cell]; rfl, by rw [B8.out.cell]; rfl⟩ (fun hS => ?_)
        clear hJ J
        try simp only [Act.put, List.setIfInBounds_toArray, List.set_cons_zero, List.set_cons_succ]
        generalize w7.alloc (.cells #[.slice none 0 0, .slice none 0 0, .int .i64 0, .int .i64 0, .slice none 0 0] 39) = wa at M8 A8 B8 Z8 P8 hS ⊢
        generalize w7.heap.size = K5 at Z8 HK ⊢
        have d0 := Z8.out.cell 0
        have d1 := Z8.out.cell 1
        have d2 := Z8.out.cell 2
        have d3 := Z8.out.cell 3
        have d4 := Z8.out.cell 4
        simp only [List.getElem?_cons_zero, List.getElem?_cons_succ] at d0 d1 d2 d3 d4
        have r0 := Z8.out.frozen 0
        have r1 := Z8.out.frozen 1
        have r2 := Z8.out.frozen 2
        have r3 := Z8.out.frozen 3
        have r4 := Z8.out.frozen 4
        have KF := Lib.hid (((((Z8.out.set 0 (.slice gba gbl gbc)).set 1 (.slice gva gvl gvc)).set 2 (.int .i64 gfr)).set 3 (.int .i64 gnu)).set 4 (.slice gla gll glc))
        have mT := ((((((Mine.Mod.refl (one K5) wa).setCell ⟨K5, 0, none⟩ (fun _ => rfl) (.slice gba gbl gbc)).setCell ⟨K5, 1, none⟩ (fun _ => rfl) (.slice gva gvl gvc)).setCell ⟨K5, 2, none⟩ (fun _ => rfl) (.int .i64 gfr)).setCell ⟨K5, 3, none⟩ (fun _ => rfl) (.int .i64 gnu)).setCell ⟨K5, 4, none⟩ (fun _ => rfl) (.slice gla gll glc))
        have hK5 : w.heap.size + 1 + 1 ≤ K5 := HK.out
        have AF := Lib.hid (A8.out.mod mT (fun e => by have e' : w.heap.size = K5 := e; omega))
        have BF := Lib.hid (B8.out.mod mT (fun e => by have e' : w.heap.size + 1 = K5 := e; omega))
        have HF := Lib.hid (show AddSt w _ K5 R ⟨xba, xbl, xbc, xva, xvl, xvc, xfr, xnum, xla, xll, xlc⟩ B V E x _ from ⟨⟨gba, gbl, gbc, gva, gvl, gvc, gfr, gnu, gla, gll, glc⟩, BB, VV, EE, KF.out, P8.out.1, (P8.out.mod mT (fun j e => by have e' : j = K5 := e; subst e'; exact ⟨_, Or.inl Z8.out⟩)).2, M8.out.transIn mT (fun b hb e => by have e' : b = K5 := e; omega)⟩)
        clear mT
        refine wpAnyH_ready (rs := [8]) (by kernel_rfl) (by simp) (AllReadyH.cons rfl (fun J hJ => ?_) <| AllReadyH.nil)
        go_simp
        refine hJ.out _ _ ⟨by rw [AF.out.cell]; rfl, by rw [AF.out.cell]; rfl, by rw [AF.out.cell]; rfl, by rw [AF.out.cell]; rfl, by rw [AF.out.cell]; rfl, by rw [BF.out.cell]; rfl, by rw [BF.out.cell]; rfl, by rw [BF.out.cell]; rfl, by rw [BF.out.cell]; rfl, by rw [BF.out.cell]; rfl, by rw [BF.out.cell]; rfl, by rw [BF.out.cell]; rfl, by rw [BF.out.cell]; rfl, by rw [BF.out.cell]; rfl, by rw [BF.out.cell]; rfl, by rw [BF.out.cell]; rfl, by rw [BF.out.cell]; rfl, by rw [BF.out.cell]; rfl, by rw [BF.out.cell]; rfl⟩ (fun hS => ?_)
        clear hJ J
        try simp only [Act.put, List.setIfInBounds_toArray, List.set_cons_zero, List.set_cons_succ]
        refine wpAnyH_take (i := 9) (v := .int .i64 R) rfl (by kernel_rfl) (by kernel_rfl) (by kernel_rfl) (fun _ _ _ h => h) (Or.inl ⟨by kernel_rfl, ?_⟩) hS ?_
        · rintro w' ⟨q0, q1, q2, q3, q4, q5, q6, q7, q8, q9, q10, q11, q12, q13, q14, q15, q16, q17, q18⟩; go_simp
        try simp only [Act.put, List.setIfInBounds_toArray, List.set_cons_zero, List.set_cons_succ]
        refine wpAnyH_done (by kernel_rfl) ?_ _
        try simp only [List.getElem_toArray, List.getElem_cons_succ, List.getElem_cons_zero]
        try simp only [Act.put, List.setIfInBounds_toArray, List.set_cons_zero, List.set_cons_succ]
        clear d0 d1 d2 d3 d4 r0 r1 r2 r3 r4
        go_wp2_with fail
        go_meet
        exact ⟨K5, rfl, rfl, Lib.hid ⟨HF.out.low (by exact HB0.out), AF.out, BF.out, hK5⟩⟩
      · have mA : Mine.Mod none_ w6 (w6.alloc (.cells #[.slice none 0 0, .slice none 0 0, .int .i64 0, .int .i64 0, .slice none 0 0] 39)) := (Mine.Mod.refl none_ _).alloc _
        have Z7 := Lib.hid (Blk.new (w := w6) (cs := [.slice none 0 0, .slice none 0 0, .int .i64 0, .int .i64 0, .slice none 0 0]) (t := 39))
        have HK := Lib.hid (show w.heap.size + 1 + 1 ≤ w6.heap.size from B6.out.lt)
        have M7 := Lib.hid (M6.out.trans mA)
        have A7 := Lib.hid (A6.out.mod mA (fun e => e))
        have B7 := Lib.hid (B6.out.mod mA (fun e => e))
        clear mA
        go_simp
        refine hJ.out _ _ ⟨by rw [A7.out.cell]; rfl, by rw [A7.out.cell]; rfl, by rw [A7.out.cell]; rfl, by rw [A7.out.cell]; rfl, by rw [A7.out.cell]; rfl, by rw [B7.out.cell]; rfl, by rw [B7.out.cell]; rfl, by rw [B7.out.cell]; rfl, by rw [B7.out.cell]; rfl, by rw [B7.out.cell]; rfl, by rw [B7.out.cell]; rfl, by rw [B7.out.cell]; rfl, by rw [B7.out.cell]; rfl, by rw [B7.out.cell]; rfl, by rw [B7.out.cell]; rfl, by rw [B7.out.cell]; rfl, by rw [B7.out.cell]; rfl, by rw [B7.out.cell]; rfl, by rw [B7.out.cell]; rfl⟩ (fun hS => ?_)
        clear hJ J
        try simp only [Act.put, List.setIfInBounds_toArray, List.set_cons_zero, List.set_cons_succ]
        generalize w6.alloc (.cells #[.slice none 0 0, .slice none 0 0, .int .i64 0, .int .i64 0, .slice none 0 0] 39) = wa at M7 A7 B7 Z7 hS ⊢
        generalize w6.heap.size = K5 at Z7 HK ⊢
        refine wpAnyH_ready (rs := [3]) (by kernel_rfl) (by simp) (AllReadyH.cons rfl (fun J hJ => ?_) <| AllReadyH.nil)
        go_simp
        refine (HADD.out _ M7.out).mono ?_
        rintro e w8 ha
        rw [← HR.out] at ha
        obtain ⟨⟨gba, gbl, gbc, gva, gvl, gvc, gfr, gnu, gla, gll, glc⟩, BB, VV, EE, rfl, ga1, ga2, mq⟩ := AddTo.open_ (w := w) ha
        have HB0 := Lib.hid (show w.heap.size + 1 + 1 ≤ wa.heap.size from B7.out.lt)
        have P8 := Lib.hid (show AddP _ R ⟨xba, xbl, xbc, xva, xvl, xvc, xfr, xnum, xla, xll, xlc⟩ B V E x ⟨gba, gbl, gbc, gva, gvl, gvc, gfr, gnu, gla, gll, glc⟩ BB VV EE w8 from ⟨ga1, ga2⟩)
        have M8 := Lib.hid (M7.out.trans mq)
        have A8 := Lib.hid (A7.out.mod mq (fun e => e))
        have B8 := Lib.hid (B7.out.mod mq (fun e => e))
        have Z8 := Lib.hid (Z7.out.mod mq (fun e => e))
        refine hJ.out _ _ ⟨by rw [A8.out.cell]; rfl, by rw [A8.out.cell]; rfl, by rw [A8.out.cell]; rfl, by rw [A8.out.cell]; rfl, by rw [A8.out.cell]; rfl, by rw [B8.out.cell]; rfl, by rw [B8.out.cell]; rfl, by rw [B8.out.cell]; rfl, by rw [B8.out.cell]; rfl, by rw [B8.out.cell]; rfl, by rw [B8.out.cell]; rfl, by rw [B8.out.cell]; rfl, by rw [B8.out.cell]; rfl, by rw [B8.out.cell]; rfl, by rw [B8.out.cell]; rfl, by rw [B8.out.cell]; rfl, by rw [B8.out.cell]; rfl, by rw [B8.out.cell]; rfl, by rw [B8.out.cell]; rfl⟩ (fun hS => ?_)
        clear hJ J mq ga1 ga2 ha
        try simp only [Act.put, List.setIfInBounds_toArray, List.set_cons_zero, List.set_cons_succ]
        try dsimp only [HistV.v]
        refine wpAnyH_take (i := 4) (v := .tuple #[.agg #[.slice gba gbl gbc, .slice gva gvl gvc, .int .i64 gfr, .int .i64 gnu, .slice gla gll glc], .int .i64 R]) rfl (by kernel_rfl) (by kernel_rfl) (by kernel_rfl) (fun _ _ _ h => h) (Or.inl ⟨by kernel_rfl, ?_⟩) hS ?_
        · rintro w' ⟨q0, q1, q2, q3, q4, q5, q6, q7, q8, q9, q10, q11, q12, q13, q14, q15, q16, q17, q18⟩; go_simp
        try simp only [Act.put, List.setIfInBounds_toArray, List.set_cons_zero, List.set_cons_succ]
        refine wpAnyH_take (i := 5) (v := .agg #[.slice gba gbl gbc, .slice gva gvl gvc, .int .i64 gfr, .int .i64 gnu, .slice gla gll glc]) rfl (by kernel_rfl) (by kernel_rfl) (by kernel_rfl) (fun _ _ _ h => h) (Or.inl ⟨by kernel_rfl, ?_⟩) hS ?_
        · rintro w' ⟨q0, q1, q2, q3, q4, q5, q6, q7, q8, q9, q10, q11, q12, q13, q14, q15, q16, q17, q18⟩; go_simp
        try simp only [Act.put, List.setIfInBounds_toArray, List.set_cons_zero, List.set_cons_succ]
        refine wpAnyH_take (i := 6) (v := .int .i64 R) rfl (by kernel_rfl) (by kernel_rfl) (by kernel_rfl) (fun _ _ _ h => h) (Or.inl ⟨by kernel_rfl, ?_⟩) hS ?_
        · rintro w' ⟨q0, q1, q2, q3, q4, q5, q6, q7, q8, q9, q10, q11, q12, q13, q14, q15, q16, q17, q18⟩; go_simp
        try simp only [Act.put, List.setIfInBounds_toArray, List.set_cons_zero, List.set_cons_succ]
        have d0 := Z8.out.cell 0
        have d1 := Z8.out.cell 1
        have d2 := Z8.out.cell 2
        have d3 := Z8.out.cell 3
        have d4 := Z8.out.cell 4
        simp only [List.getElem?_cons_zero, List.getElem?_cons_succ] at d0 d1 d2 d3 d4
        have r0 := Z8.out.frozen 0
        have r1 := Z8.out.frozen 1
        have r2 := Z8.out.frozen 2
        have r3 := Z8.out.frozen 3
        have r4 := Z8.out.frozen 4
        have KF := Lib.hid (((((Z8.out.set 0 (.slice gba gbl gbc)).set 1 (.slice gva gvl gvc)).set 2 (.int .i64 gfr)).set 3 (.int .i64 gnu)).set 4 (.slice gla gll glc))
        have mT := ((((((Mine.Mod.refl (one K5) w8).setCell ⟨K5, 0, none⟩ (fun _ => rfl) (.slice gba gbl gbc)).setCell ⟨K5, 1, none⟩ (fun _ => rfl) (.slice gva gvl gvc)).setCell ⟨K5, 2, none⟩ (fun _ => rfl) (.int .i64 gfr)).setCell ⟨K5, 3, none⟩ (fun _ => rfl) (.int .i64 gnu)).setCell ⟨K5, 4, none⟩ (fun _ => rfl) (.slice gla gll glc))
        have hK5 : w.heap.size + 1 + 1 ≤ K5 := HK.out
        have AF := Lib.hid (A8.out.mod mT (fun e => by have e' : w.heap.size = K5 := e; omega))
        have BF := Lib.hid (B8.out.mod mT (fun e => by have e' : w.heap.size + 1 = K5 := e; omega))
        have HF := Lib.hid (show AddSt w _ K5 R ⟨xba, xbl, xbc, xva, xvl, xvc, xfr, xnum, xla, xll, xlc⟩ B V E x _ from ⟨⟨gba, gbl, gbc, gva, gvl, gvc, gfr, gnu, gla, gll, glc⟩, BB, VV, EE, KF.out, P8.out.1, (P8.out.mod mT (fun j e => by have e' : j = K5 := e; subst e'; exact ⟨_, Or.inl Z8.out⟩)).2, M8.out.transIn mT (fun b hb e => by have e' : b = K5 := e; omega)⟩)
        clear mT
        refine wpAnyH_ready (rs := [8]) (by kernel_rfl) (by simp) (AllReadyH.cons rfl (fun J hJ => ?_) <| AllReadyH.nil)
        go_simp
        refine hJ.out _ _ ⟨by rw [AF.out.cell]; rfl, by rw [AF.out.cell]; rfl, by rw [AF.out.cell]; rfl, by rw [AF.out.cell]; rfl, by rw [AF.out.cell]; rfl, by rw [BF.out.cell]; rfl, by rw [BF.out.cell]; rfl, by rw [BF.out.cell]; rfl, by rw [BF.out.cell]; rfl, by rw [BF.out.cell]; rfl, by rw [BF.out.cell]; rfl, by rw [BF.out.cell]; rfl, by rw [BF.out.cell]; rfl, by rw [BF.out.cell]; rfl, by rw [BF.out.cell]; rfl, by rw [BF.out.cell]; rfl, by rw [BF.out.cell]; rfl, by rw [BF.out.cell]; rfl, by rw [BF.out.cell]; rfl⟩ (fun hS => ?_)
        clear hJ J
        try simp only [Act.put, List.setIfInBounds_toArray, List.set_cons_zero, List.set_cons_succ]
        refine wpAnyH_take (i := 9) (v := .int .i64 R) rfl (by kernel_rfl) (by kernel_rfl) (by kernel_rfl) (fun _ _ _ h => h) (Or.inl ⟨by kernel_rfl, ?_⟩) hS ?_
        · rintro w' ⟨q0, q1, q2, q3, q4, q5, q6, q7, q8, q9, q10, q11, q12, q13, q14, q15, q16, q17, q18⟩; go_simp
        try simp only [Act.put, List.setIfInBounds_toArray, List.set_cons_zero, List.set_cons_succ]
        refine wpAnyH_done (by kernel_rfl) ?_ _
        try simp only [List.getElem_toArray, List.getElem_cons_succ, List.getElem_cons_zero]
        try simp only [Act.put, List.setIfInBounds_toArray, List.set_cons_zero, List.set_cons_succ]
        clear d0 d1 d2 d3 d4 r0 r1 r2 r3 r4
        go_wp2_with fail
        go_meet
        exact ⟨K5, rfl, rfl, Lib.hid ⟨HF.out.low (by exact HB0.out), AF.out, BF.out, hK5⟩⟩
    · have mA : Mine.Mod none_ wd (wd.alloc (.cells #[.slice none 0 0, .slice none 0 0, .int .i64 0, .int .i64 0, .slice none 0 0] 39)) := (Mine.Mod.refl none_ _).alloc _
      have Z6 := Lib.hid (Blk.new (w := wd) (cs := [.slice none 0 0, .slice none 0 0, .int .i64 0, .int .i64 0, .slice none 0 0]) (t := 39))
      have HK := Lib.hid (show w.heap.size + 1 + 1 ≤ wd.heap.size from B5.out.lt)
      have M6 := Lib.hid (M5.out.trans mA)
      have A6 := Lib.hid (A5.out.mod mA (fun e => e))
      have B6 := Lib.hid (B5.out.mod mA (fun e => e))
      clear mA
      go_simp
      refine hJ.out _ _ ⟨by rw [A6.out.cell]; rfl, by rw [A6.out.cell]; rfl, by rw [A6.out.cell]; rfl, by rw [A6.out.cell]; rfl, by rw [A6.out.cell]; rfl, by rw [B6.out.cell]; rfl, by rw [B6.out.cell]; rfl, by rw [B6.out.cell]; rfl, by rw [B6.out.cell]; rfl, by rw [B6.out.cell]; rfl, by rw [B6.out.cell]; rfl, by rw [B6.out.cell]; rfl, by rw [B6.out.cell]; rfl, by rw [B6.out.cell]; rfl, by rw [B6.out.cell]; rfl, by rw [B6.out.cell]; rfl, by rw [B6.out.cell]; rfl, by rw [B6.out.cell]; rfl, by rw [B6.out.cell]; rfl⟩ (fun hS => ?_)
      clear hJ J
      try simp only [Act.put, List.setIfInBounds_toArray, List.set_cons_zero, List.set_cons_succ]
      generalize wd.alloc (.cells #[.slice none 0 0, .slice none 0 0, .int .i64 0, .int .i64 0, .slice none 0 0] 39) = wa at M6 A6 B6 Z6 hS ⊢
      generalize wd.heap.size = K5 at Z6 HK ⊢
      refine wpAnyH_ready (rs := [1]) (by kernel_rfl) (by simp) (AllReadyH.cons rfl (fun J hJ => ?_) <| AllReadyH.nil)
      go_simp
      refine (HOF.out _).mono ?_
      rintro e w7 ⟨rfl, mq⟩
      have M7 := Lib.hid (M6.out.trans mq)
      have A7 := Lib.hid (A6.out.mod mq (fun e => e))
      have B7 := Lib.hid (B6.out.mod mq (fun e => e))
      have Z7 := Lib.hid (Z6.out.mod mq (fun e => e))
      refine hJ.out _ _ ⟨by rw [A7.out.cell]; rfl, by rw [A7.out.cell]; rfl, by rw [A7.out.cell]; rfl, by rw [A7.out.cell]; rfl, by rw [A7.out.cell]; rfl, by rw [B7.out.cell]; rfl, by rw [B7.out.cell]; rfl, by rw [B7.out.cell]; rfl, by rw [B7.out.cell]; rfl, by rw [B7.out.cell]; rfl, by rw [B7.out.cell]; rfl, by rw [B7.out.cell]; rfl, by rw [B7.out.cell]; rfl, by rw [B7.out.cell]; rfl, by rw [B7.out.cell]; rfl, by rw [B7.out.cell]; rfl, by rw [B7.out.cell]; rfl, by rw [B7.out.cell]; rfl, by rw [B7.out.cell]; rfl⟩ (fun hS => ?_)
      clear hJ J mq
      try simp only [Act.put, List.setIfInBounds_toArray, List.set_cons_zero, List.set_cons_succ]
      refine wpAnyH_ready (rs := [3]) (by kernel_rfl) (by simp) (AllReadyH.cons rfl (fun J hJ => ?_) <| AllReadyH.nil)
      go_simp
      refine (HADD.out _ M7.out).mono ?_
      rintro e w8 ha
      rw [← HR.out] at ha
      obtain ⟨⟨gba, gbl, gbc, gva, gvl, gvc, gfr, gnu, gla, gll, glc⟩, BB, VV, EE, rfl, ga1, ga2, mq⟩ := AddTo.open_ (w := w) ha
      have HB0 := Lib.hid (show w.heap.size + 1 + 1 ≤ w7.heap.size from B7.out.lt)
      have P8 := Lib.hid (show AddP _ R ⟨xba, xbl, xbc, xva, xvl, xvc, xfr, xnum, xla, xll, xlc⟩ B V E x ⟨gba, gbl, gbc, gva, gvl, gvc, gfr, gnu, gla, gll, glc⟩ BB VV EE w8 from ⟨ga1, ga2⟩)
      have M8 := Lib.hid (M7.out.trans mq)
      have A8 := Lib.hid (A7.out.mod mq (fun e => e))
      have B8 := Lib.hid (B7.out.mod mq (fun e => e))
      have Z8 := Lib.hid (Z7.out.mod mq (fun e => e))
      refine hJ.out _ _ ⟨by rw [A8.out.cell]; rfl, by rw [A8.out.cell]; rfl, by rw [A8.out.cell]; rfl, by rw [A8.out.cell]; rfl, by rw [A8.out.cell]; rfl, by rw [B8.out.cell]; rfl, by rw [B8.out.cell]; rfl, by rw [B8.out.cell]; rfl, by rw [B8.out.cell]; rfl, by rw [B8.out.cell]; rfl, by rw [B8.out.cell]; rfl, by rw [B8.out.cell]; rfl, by rw [B8.out.cell]; rfl, by rw [B8.out.cell]; rfl, by rw [B8.out.cell]; rfl, by rw [B8.out.cell]; rfl, by rw [B8.out.cell]; rfl, by rw [B8.out.cell]; rfl, by rw [B8.out.cell]; rfl⟩ (fun hS => ?_)
      clear hJ J mq ga1 ga2 ha
      try simp only [Act.put, List.setIfInBounds_toArray, List.set_cons_zero, List.set_cons_succ]
      try dsimp only [HistV.v]
      refine wpAnyH_take (i := 4) (v := .tuple #[.agg #[.slice gba gbl gbc, .slice gva gvl gvc, .int .i64 gfr, .int .i64 gnu, .slice gla gll glc], .int .i64 R]) rfl (by kernel_rfl) (by kernel_rfl) (by kernel_rfl) (fun _ _ _ h => h) (Or.inl ⟨by kernel_rfl, ?_⟩) hS ?_
      · rintro w' ⟨q0, q1, q2, q3, q4, q5, q6, q7, q8, q9, q10, q11, q12, q13, q14, q15, q16, q17, q18⟩; go_simp
      try simp only [Act.put, List.setIfInBounds_toArray, List.set_cons_zero, List.set_cons_succ]
      refine wpAnyH_take (i := 5) (v := .agg #[.slice gba gbl gbc, .slice gva gvl gvc, .int .i64 gfr, .int .i64 gnu, .slice gla gll glc]) rfl (by kernel_rfl) (by kernel_rfl) (by kernel_rfl) (fun _ _ _ h => h) (Or.inl ⟨by kernel_rfl, ?_⟩) hS ?_
      · rintro w' ⟨q0, q1, q2, q3, q4, q5, q6, q7, q8, q9, q10, q11, q12, q13, q14, q15, q16, q17, q18⟩; go_simp
      try simp only [Act.put, List.setIfInBounds_toArray, List.set_cons_zero, List.set_cons_succ]
      refine wpAnyH_take (i := 6) (v := .int .i64 R) rfl (by kernel_rfl) (by kernel_rfl) (by kernel_rfl) (fun _ _ _ h => h) (Or.inl ⟨by kernel_rfl, ?_⟩) hS ?_
      · rintro w' ⟨q0, q1, q2, q3, q4, q5, q6, q7, q8, q9, q10, q11, q12, q13, q14, q15, q16, q17, q18⟩; go_simp
      try simp only [Act.put, List.setIfInBounds_toArray, List.set_cons_zero, List.set_cons_succ]
      have d0 := Z8.out.cell 0
      have d1 := Z8.out.cell 1
      have d2 := Z8.out.cell 2
      have d3 := Z8.out.cell 3
      have d4 := Z8.out.cell 4
      simp only [List.getElem?_cons_zero, List.getElem?_cons_succ] at d0 d1 d2 d3 d4
      have r0 := Z8.out.frozen 0
      have r1 := Z8.out.frozen 1
      have r2 := Z8.out.frozen 2
      have r3 := Z8.out.frozen 3
      have r4 := Z8.out.frozen 4
      have KF := Lib.hid (((((Z8.out.set 0 (.slice gba gbl gbc)).set 1 (.slice gva gvl gvc)).set 2 (.int .i64 gfr)).set 3 (.int .i64 gnu)).set 4 (.slice gla gll glc))
      have mT := ((((((Mine.Mod.refl (one K5) w8).setCell ⟨K5, 0, none⟩ (fun _ => rfl) (.slice gba gbl gbc)).setCell ⟨K5, 1, none⟩ (fun _ => rfl) (.slice gva gvl gvc)).setCell ⟨K5, 2, none⟩ (fun _ => rfl) (.int .i64 gfr)).setCell ⟨K5, 3, none⟩ (fun _ => rfl) (.int .i64 gnu)).setCell ⟨K5, 4, none⟩ (fun _ => rfl) (.slice gla gll glc))
      have hK5 : w.heap.size + 1 + 1 ≤ K5 := HK.out
      have AF := Lib.hid (A8.out.mod mT (fun e => by have e' : w.heap.size = K5 := e; omega))
      have BF := Lib.hid (B8.out.mod mT (fun e => by have e' : w.heap.size + 1 = K5 := e; omega))
      have HF := Lib.hid (show AddSt w _ K5 R ⟨xba, xbl, xbc, xva, xvl, xvc, xfr, xnum, xla, xll, xlc⟩ B V E x _ from ⟨⟨gba, gbl, gbc, gva, gvl, gvc, gfr, gnu, gla, gll, glc⟩, BB, VV, EE, KF.out, P8.out.1, (P8.out.mod mT (fun j e => by have e' : j = K5 := e; subst e'; exact ⟨_, Or.inl Z8.out⟩)).2, M8.out.transIn mT (fun b hb e => by have e' : b = K5 := e; omega)⟩)
      clear mT
      refine wpAnyH_ready (rs := [8]) (by kernel_rfl) (by simp) (AllReadyH.cons rfl (fun J hJ => ?_) <| AllReadyH.nil)
      go_simp
      refine hJ.out _ _ ⟨by rw [AF.out.cell]; rfl, by rw [AF.out.cell]; rfl, by rw [AF.out.cell]; rfl, by rw [AF.out.cell]; rfl, by rw [AF.out.cell]; rfl, by rw [BF.out.cell]; rfl, by rw [BF.out.cell]; rfl, by rw [BF.out.cell]; rfl, by rw [BF.out.cell]; rfl, by rw [BF.out.cell]; rfl, by rw [BF.out.cell]; rfl, by rw [BF.out.cell]; rfl, by rw [BF.out.cell]; rfl, by rw [BF.out.cell]; rfl, by rw [BF.out.cell]; rfl, by rw [BF.out.cell]; rfl, by rw [BF.out.cell]; rfl, by rw [BF.out.cell]; rfl, by rw [BF.out.cell]; rfl⟩ (fun hS => ?_)
      clear hJ J
      try simp only [Act.put, List.setIfInBounds_toArray, List.set_cons_zero, List.set_cons_succ]
      refine wpAnyH_take (i := 9) (v := .int .i64 R) rfl (by kernel_rfl) (by kernel_rfl) (by kernel_rfl) (fun _ _ _ h => h) (Or.inl ⟨by kernel_rfl, ?_⟩) hS ?_
      · rintro w' ⟨q0, q1, q2, q3, q4, q5, q6, q7, q8, q9, q10, q11, q12, q13, q14, q15, q16, q17, q18⟩; go_simp
      try simp only [Act.put, List.setIfInBounds_toArray, List.set_cons_zero, List.set_cons_succ]
      refine wpAnyH_done (by kernel_rfl) ?_ _
      try simp only [List.getElem_toArray, List.getElem_cons_succ, List.getElem_cons_zero]
      try simp only [Act.put, List.setIfInBounds_toArray, List.set_cons_zero, List.set_cons_succ]
      clear d0 d1 d2 d3 d4 r0 r1 r2 r3 r4
      go_wp2_with fail
      go_meet
      exact ⟨K5, rfl, rfl, Lib.hid ⟨HF.out.low (by exact HB0.out), AF.out, BF.out, hK5⟩⟩
  case rest =>
  obtain ⟨K5, rfl, rfl, hst⟩ := hcut
  obtain ⟨w5, rfl⟩ : ∃ w5, w5 = wc := ⟨_, rfl⟩
  have AS5 := Lib.hid hst.out.1
  have M5 := Lib.hid hst.out.1.choose_spec.choose_spec.choose_spec.choose_spec.2.2.2
  have A5 := Lib.hid hst.out.2.1
  have B5 := Lib.hid hst.out.2.2.1
  clear hst HADD
  have HM := Lib.hid (radd_any w5 ⟨xba, xbl, xbc, xva, xvl, xvc, xfr, xnum, xla, xll, xlc⟩ x B V E (HI.out.grown M5.out) ⟨HXX.out.1.grown M5.out, HXX.out.2.grown M5.out⟩ (by dsimp only; omega))
  rw [← HR.out] at HM
  have a0 := A5.out.cell 0
  have a1 := A5.out.cell 1
  have a2 := A5.out.cell 2
  have a3 := A5.out.cell 3
  have a4 := A5.out.cell 4
  simp only [List.getElem?_cons_zero, List.getElem?_cons_succ] at a0 a1 a2 a3 a4
  have b0 := B5.out.cell 0
  have b1 := B5.out.cell 1
  have b2 := B5.out.cell 2
  have b3 := B5.out.cell 3
  have b4 := B5.out.cell 4
  have b5 := B5.out.cell 5
  have b6 := B5.out.cell 6
  have b7 := B5.out.cell 7
  have b8 := B5.out.cell 8
  have b9 := B5.out.cell 9
  have b10 := B5.out.cell 10
  have b11 := B5.out.cell 11
  have b12 := B5.out.cell 12
  have b13 := B5.out.cell 13
  simp only [List.getElem?_cons_zero, List.getElem?_cons_succ] at b0 b1 b2 b3 b4 b5 b6 b7 b8 b9 b10 b11 b12 b13
  go_wp2_with fail
  refine HM.out.mono ?_
  rintro e w6 ha
  obtain ⟨⟨hba, hbl, hbc, hva, hvl, hvc, hfr, hnu, hla, hll, hlc⟩, rfl, hb1, hb2, m6⟩ := RAddTo.open_ ha
  try dsimp only [HistV.v]
  have M6 := Lib.hid (M5.out.trans m6)
  have A6 := Lib.hid (A5.out.mod m6 (fun e => e))
  have B6 := Lib.hid (B5.out.mod m6 (fun e => e))
  have mA := (Mine.Mod.refl none_ w6).alloc (.cells #[.slice hba hbl hbc, .slice hva hvl hvc, .int .i64 hfr, .int .i64 hnu, .slice hla hll hlc] 26)
  have F7 := Lib.hid (Blk.new (w := w6) (cs := [.slice hba hbl hbc, .slice hva hvl hvc, .int .i64 hfr, .int .i64 hnu, .slice hla hll hlc]) (t := 26))
  have M7 := Lib.hid (M6.out.trans mA)
  have A7 := Lib.hid (A6.out.mod mA (fun e => e))
  have B7 := Lib.hid (B6.out.mod mA (fun e => e))
  have RS7 := Lib.hid (show RAddSt w _ _ R ⟨xba, xbl, xbc, xva, xvl, xvc, xfr, xnum, xla, xll, xlc⟩ E x _ from ⟨⟨hba, hbl, hbc, hva, hvl, hvc, hfr, hnu, hla, hll, hlc⟩, F7.out, hb1, fun e => by
    obtain ⟨la, lc, q1, q2⟩ := hb2 e
    exact ⟨la, lc, q1, ownsRow_mod q2 mA (fun _ _ e => e)⟩, M7.out⟩)
  have HAK := Lib.hid (adds_alike HI.out HXX.out AS5.out RS7.out (m6.trans mA) (Mine.Mod.refl none_ _))
  clear ha hb1 hb2 m6 mA HM a0 a1 a2 a3 a4 b0 b1 b2 b3 b4 b5 b6 b7 b8 b9 b10 b11 b12 b13 RS7 F7
  go_upto_region 7 with fail
  generalize w6.heap.size = K7 at HAK ⊢
  generalize w6.alloc (.cells #[.slice hba hbl hbc, .slice hva hvl hvc, .int .i64 hfr, .int .i64 hnu, .slice hla hll hlc] 26) = w7 at M7 A7 B7 HAK ⊢
  obtain ⟨⟨gba, gbl, gbc, gva, gvl, gvc, gfr, gnu, gla, gll, glc⟩, ⟨kba, kbl, kbc, kva, kvl, kvc, kfr, knu, kla, kll, klc⟩, BB, VV, EE, EE', k1, k2, i1, i2, e1, e2, e3, e4, e5, hlk⟩ := HAK.out
  dsimp only at e1 e2 e3 e4 e5
  subst e1 e2 e3 e4 e5
  have D7 := Lib.hid k1
  have F7 := Lib.hid k2
  have HS1 := Lib.hid i1
  have HS2 := Lib.hid i2
  have HLK := Lib.hid hlk
  clear k1 k2 i1 i2 hlk HAK
  have mD := Mine.Mod.drew (Mine.Mod.refl none_ w7)
  have M8 := Lib.hid (M7.out.trans mD)
  have A8 := Lib.hid (A7.out.mod mD (fun e => e))
  have B8 := Lib.hid (B7.out.mod mD (fun e => e))
  have D8 := Lib.hid (D7.out.mod mD (fun e => e))
  have F8 := Lib.hid (F7.out.mod mD (fun e => e))
  clear mD
  have f0 : w7.cell? ⟨K5, 0, none⟩ = some (.slice gba kbl gbc) := by rw [D7.out.cell]; rfl
  have f1 : w7.cell? ⟨K5, 1, none⟩ = some (.slice gva kvl gvc) := by rw [D7.out.cell]; rfl
  have f2 : w7.cell? ⟨K5, 2, none⟩ = some (.int .i64 kfr) := by rw [D7.out.cell]; rfl
  have f3 : w7.cell? ⟨K5, 3, none⟩ = some (.int .i64 knu) := by rw [D7.out.cell]; rfl
  have f4 : w7.cell? ⟨K5, 4, none⟩ = some (.slice gla kll glc) := by rw [D7.out.cell]; rfl
  have g0 : w7.cell? ⟨K7, 0, none⟩ = some (.slice kba kbl kbc) := by rw [F7.out.cell]; rfl
  have g1 : w7.cell? ⟨K7, 1, none⟩ = some (.slice kva kvl kvc) := by rw [F7.out.cell]; rfl
  have g2 : w7.cell? ⟨K7, 2, none⟩ = some (.int .i64 kfr) := by rw [F7.out.cell]; rfl
  have g3 : w7.cell? ⟨K7, 3, none⟩ = some (.int .i64 knu) := by rw [F7.out.cell]; rfl
  have g4 : w7.cell? ⟨K7, 4, none⟩ = some (.slice kla kll klc) := by rw [F7.out.cell]; rfl
  refine wp_region_held_drew (S := fun w' => w'.cell? ⟨K5, 0, none⟩ = some (.slice gba kbl gbc) ∧ w'.cell? ⟨K5, 1, none⟩ = some (.slice gva kvl gvc) ∧ w'.cell? ⟨K5, 2, none⟩ = some (.int .i64 kfr) ∧ w'.cell? ⟨K5, 3, none⟩ = some (.int .i64 knu) ∧ w'.cell? ⟨K5, 4, none⟩ = some (.slice gla kll glc) ∧ w'.cell? ⟨K7, 0, none⟩ = some (.slice kba kbl kbc) ∧ w'.cell? ⟨K7, 1, none⟩ = some (.slice kva kvl kvc) ∧ w'.cell? ⟨K7, 2, none⟩ = some (.int .i64 kfr) ∧ w'.cell? ⟨K7, 3, none⟩ = some (.int .i64 knu) ∧ w'.cell? ⟨K7, 4, none⟩ = some (.slice kla kll klc)) (by kernel_rfl) ⟨f0, f1, f2, f3, f4, g0, g1, g2, g3, g4⟩ (fun hS => ?_)
  clear f0 f1 f2 f3 f4 g0 g1 g2 g3 g4
  have HP := Lib.hid (fun W => plain_hist W ⟨gba, kbl, gbc, gva, kvl, gvc, kfr, knu, gla, kll, glc⟩)
  refine wpAnyH_take (i := 0) (v := .int .i64 R) rfl (by kernel_rfl) (by kernel_rfl) (by kernel_rfl) (fun _ _ _ h => h) (Or.inl ⟨by kernel_rfl, ?_⟩) hS ?_
  · rintro w' ⟨q0, q1, q2, q3, q4, q5, q6, q7, q8, q9⟩; go_simp
  try simp only [Act.put, List.setIfInBounds_toArray, List.set_cons_zero, List.set_cons_succ]
  refine wpAnyH_take (i := 1) (v := .int .i64 R) rfl (by kernel_rfl) (by kernel_rfl) (by kernel_rfl) (fun _ _ _ h => h) (Or.inl ⟨by kernel_rfl, ?_⟩) hS ?_
  · rintro w' ⟨q0, q1, q2, q3, q4, q5, q6, q7, q8, q9⟩; go_simp
  try simp only [Act.put, List.setIfInBounds_toArray, List.set_cons_zero, List.set_cons_succ]
  refine wpAnyH_take (i := 2) (v := .bool false) rfl (by kernel_rfl) (by kernel_rfl) (by kernel_rfl) (fun _ _ _ h => h) (Or.inl ⟨by kernel_rfl, ?_⟩) hS ?_
  · rintro w' ⟨q0, q1, q2, q3, q4, q5, q6, q7, q8, q9⟩; go_simp
  try simp only [Act.put, List.setIfInBounds_toArray, List.set_cons_zero, List.set_cons_succ]
  refine wpAnyH_take (i := 3) (v := .bool false) rfl (by kernel_rfl) (by kernel_rfl) (by kernel_rfl) (fun _ _ _ h => h) (Or.inl ⟨by kernel_rfl, ?_⟩) hS ?_
  · rintro w' ⟨q0, q1, q2, q3, q4, q5, q6, q7, q8, q9⟩; go_simp
  try simp only [Act.put, List.setIfInBounds_toArray, List.set_cons_zero, List.set_cons_succ]
  refine wpAnyH_take (i := 4) (v := .agg #[.slice gba kbl gbc, .slice gva kvl gvc, .int .i64 kfr, .int .i64 knu, .slice gla kll glc]) rfl (by kernel_rfl) (by kernel_rfl) (by kernel_rfl) (fun _ _ _ h => h) (Or.inl ⟨by kernel_rfl, ?_⟩) hS ?_
  · rintro w' ⟨q0, q1, q2, q3, q4, q5, q6, q7, q8, q9⟩; go_simp
  try simp only [Act.put, List.setIfInBounds_toArray, List.set_cons_zero, List.set_cons_succ]
  refine wpAnyH_take (i := 6) (v := .agg #[.slice kba kbl kbc, .slice kva kvl kvc, .int .i64 kfr, .int .i64 knu, .slice kla kll klc]) rfl (by kernel_rfl) (by kernel_rfl) (by kernel_rfl) (fun _ _ _ h => h) (Or.inl ⟨by kernel_rfl, ?_⟩) hS ?_
  · rintro w' ⟨q0, q1, q2, q3, q4, q5, q6, q7, q8, q9⟩; go_simp
  try simp only [Act.put, List.setIfInBounds_toArray, List.set_cons_zero, List.set_cons_succ]
  refine wpAnyH_ready (rs := [5]) (by kernel_rfl) (by simp) (AllReadyH.cons rfl (fun J hJ => ?_) <| AllReadyH.nil)
  rw [if_pos (by kernel_rfl)]
  go_simp
  refine (HP.out _).mono ?_
  rintro e w9 ⟨rfl, m9⟩
  try dsimp only [HistV.v]
  have M9 := Lib.hid (M8.out.trans m9)
  have A9 := Lib.hid (A8.out.mod m9 (fun e => e))
  have B9 := Lib.hid (B8.out.mod m9 (fun e => e))
  have D9 := Lib.hid (D8.out.mod m9 (fun e => e))
  have F9 := Lib.hid (F8.out.mod m9 (fun e => e))
  refine hJ.out _ _ ⟨by rw [D9.out.cell]; rfl, by rw [D9.out.cell]; rfl, by rw [D9.out.cell]; rfl, by rw [D9.out.cell]; rfl, by rw [D9.out.cell]; rfl, by rw [F9.out.cell]; rfl, by rw [F9.out.cell]; rfl, by rw [F9.out.cell]; rfl, by rw [F9.out.cell]; rfl, by rw [F9.out.cell]; rfl⟩ (fun hS => ?_)
  clear hJ J
  try simp only [Act.put, List.setIfInBounds_toArray, List.set_cons_zero, List.set_cons_succ]
  refine wpAnyH_ready (rs := [7]) (by kernel_rfl) (by simp) (AllReadyH.cons rfl (fun J hJ => ?_) <| AllReadyH.nil)
  rw [if_pos (by kernel_rfl)]
  go_simp
  refine (rhsame_any _ ⟨gba, kbl, gbc, gva, kvl, gvc, kfr, knu, gla, kll, glc⟩ ⟨kba, kbl, kbc, kva, kvl, kvc, kfr, knu, kla, kll, klc⟩ BB VV EE EE' (HS1.out.grown (((Mine.Mod.refl none_ w7).drew).trans m9)) (HS2.out.grown (((Mine.Mod.refl none_ w7).drew).trans m9)) rfl rfl rfl rfl rfl HLK.out).mono ?_
  rintro e w10 ⟨rfl, m10⟩
  try dsimp only [HistV.v]
  have M10 := Lib.hid (M9.out.trans m10)
  have A10 := Lib.hid (A9.out.mod m10 (fun e => e))
  have B10 := Lib.hid (B9.out.mod m10 (fun e => e))
  have D10 := Lib.hid (D9.out.mod m10 (fun e => e))
  have F10 := Lib.hid (F9.out.mod m10 (fun e => e))
  refine hJ.out _ _ ⟨by rw [D10.out.cell]; rfl, by rw [D10.out.cell]; rfl, by rw [D10.out.cell]; rfl, by rw [D10.out.cell]; rfl, by rw [D10.out.cell]; rfl, by rw [F10.out.cell]; rfl, by rw [F10.out.cell]; rfl, by rw [F10.out.cell]; rfl, by rw [F10.out.cell]; rfl, by rw [F10.out.cell]; rfl⟩ (fun hS => ?_)
  clear hJ J m9 m10
  try simp only [Act.put, List.setIfInBounds_toArray, List.set_cons_zero, List.set_cons_succ]
  refine wpAnyH_take (i := 8) (v := .bool false) rfl (by kernel_rfl) (by kernel_rfl) (by kernel_rfl) (fun _ _ _ h => h) (Or.inl ⟨by kernel_rfl, ?_⟩) hS ?_
  · rintro w' ⟨q0, q1, q2, q3, q4, q5, q6, q7, q8, q9⟩; go_simp
  try simp only [Act.put, List.setIfInBounds_toArray, List.set_cons_zero, List.set_cons_succ]
  refine wpAnyH_take (i := 9) (v := .bool false) rfl (by kernel_rfl) (by kernel_rfl) (by kernel_rfl) (fun _ _ _ h => h) (Or.inl ⟨by kernel_rfl, ?_⟩) hS ?_
  · rintro w' ⟨q0, q1, q2, q3, q4, q5, q6, q7, q8, q9⟩; go_simp
  try simp only [Act.put, List.setIfInBounds_toArray, List.set_cons_zero, List.set_cons_succ]
  refine wpAnyH_done (by kernel_rfl) ?_ _
  try simp only [List.getElem_toArray, List.getElem_cons_succ, List.getElem_cons_zero]
  try simp only [Act.put, List.setIfInBounds_toArray, List.set_cons_zero, List.set_cons_succ]
  clear D7 F7 D8 F8 D9 F9 D10 F10 HP HS1 HS2 HLK
  have HMAY := Lib.hid (show ∀ W, Mine.Mod none_ w W → Calls Tryz.prog 18 #[.agg #[.slice xba xbl xbc, .slice xva xvl xvc, .int .i64 xfr, .int .i64 xnum, .slice xla xll xlc]] W fun e w' => e = .returned (.bool R1) ∧ Mine.Mod none_ W w' from fun W m => by rw [HR1.out]; exact rhmay_any W ⟨xba, xbl, xbc, xva, xvl, xvc, xfr, xnum, xla, xll, xlc⟩ B V E (HI.out.grown m) (by dsimp only; omega))
  have HCUT := Lib.hid (fun W (m : Mine.Mod none_ w W) => cut_any W ⟨xba, xbl, xbc, xva, xvl, xvc, xfr, xnum, xla, xll, xlc⟩ B V E (HI.out.grown m) (by dsimp only; omega) (by dsimp only; omega) (fun y hy => Nat.le_trans (HS.out.2.2.2.2 y hy) (by decide)))
  have HPASS := Lib.hid (fun W (m : Mine.Mod none_ w W) => pass_any W ⟨xba, xbl, xbc, xva, xvl, xvc, xfr, xnum, xla, xll, xlc⟩ B V E (HI.out.grown m) (by dsimp only; omega) (by dsimp only; omega) (fun y hy => Nat.le_trans (HS.out.2.2.2.2 y hy) (by decide)))
  rw [← HR1.out] at HCUT
  go_upto_region 9 with fail
  cases R1
  case false =>
    have HPE := Lib.hid (show passE ⟨xba, xbl, xbc, xva, xvl, xvc, xfr, xnum, xla, xll, xlc⟩ B V E = 1 by unfold passE; rw [← HR1.out]; rfl)
    have a0 := A10.out.cell 0
    have a1 := A10.out.cell 1
    have a2 := A10.out.cell 2
    have a3 := A10.out.cell 3
    have a4 := A10.out.cell 4
    simp only [List.getElem?_cons_zero, List.getElem?_cons_succ] at a0 a1 a2 a3 a4
    go_wp2_with fail
    refine (HOF.out w10).mono ?_
    rintro e w11 ⟨rfl, m11⟩
    try dsimp only [HistV.v]
    have M11 := Lib.hid (M10.out.trans m11)
    have A11 := Lib.hid (A10.out.mod m11 (fun e => e))
    have B11 := Lib.hid (B10.out.mod m11 (fun e => e))
    clear m11
    clear a0 a1 a2 a3 a4
    go_wp2_with fail
    refine (HCUT.out w11 M11.out).mono ?_
    rintro e w12 ⟨m12, hno, -⟩
    obtain rfl := hno (by first | rfl | trivial)
    dsimp only [zeroH]
    have M12 := Lib.hid (M11.out.trans m12)
    have A12 := Lib.hid (A11.out.mod m12 (fun e => e))
    have B12 := Lib.hid (B11.out.mod m12 (fun e => e))
    clear hno m12
    have mA := (Mine.Mod.refl none_ w12).alloc (.cells #[.slice none 0 0, .slice none 0 0, .int .i64 0, .int .i64 0, .slice none 0 0] 39)
    have C13 := Lib.hid (Blk.new (w := w12) (cs := [.slice none 0 0, .slice none 0 0, .int .i64 0, .int .i64 0, .slice none 0 0]) (t := 39))
    have M13 := Lib.hid (M12.out.trans mA)
    have A13 := Lib.hid (A12.out.mod mA (fun e => e))
    have B13 := Lib.hid (B12.out.mod mA (fun e => e))
    clear mA
    go_upto_region 10 with fail
    generalize w12.heap.size = K9 at C13 ⊢
    generalize w12.alloc (.cells #[.slice none 0 0, .slice none 0 0, .int .i64 0, .int .i64 0, .slice none 0 0] 39) = w13 at M13 A13 B13 C13  ⊢
    have a0 := A13.out.cell 0
    have a1 := A13.out.cell 1
    have a2 := A13.out.cell 2
    have a3 := A13.out.cell 3
    have a4 := A13.out.cell 4
    simp only [List.getElem?_cons_zero, List.getElem?_cons_succ] at a0 a1 a2 a3 a4
    go_wp2_with fail
    refine (HOF.out w13).mono ?_
    rintro e w14 ⟨rfl, m14⟩
    try dsimp only [HistV.v]
    have M14 := Lib.hid (M13.out.trans m14)
    have A14 := Lib.hid (A13.out.mod m14 (fun e => e))
    have B14 := Lib.hid (B13.out.mod m14 (fun e => e))
    have C14 := Lib.hid (C13.out.mod m14 (fun e => e))
    clear m14
    clear a0 a1 a2 a3 a4
    have HM := Lib.hid (HPASS.out w14 M14.out)
    rw [HPE.out] at HM
    go_wp2_with fail
    refine HM.out.mono ?_
    rintro e w15 ⟨m15, hno, -⟩
    obtain rfl := hno (by decide)
    dsimp only [zeroH]
    have M15 := Lib.hid (M14.out.trans m15)
    have A15 := Lib.hid (A14.out.mod m15 (fun e => e))
    have B15 := Lib.hid (B14.out.mod m15 (fun e => e))
    have C15 := Lib.hid (C14.out.mod m15 (fun e => e))
    clear hno m15 HM
    have mA := (Mine.Mod.refl none_ w15).alloc (.cells #[.slice none 0 0, .slice none 0 0, .int .i64 0, .int .i64 0, .slice none 0 0] 39)
    have D16 := Lib.hid (Blk.new (w := w15) (cs := [.slice none 0 0, .slice none 0 0, .int .i64 0, .int .i64 0, .slice none 0 0]) (t := 39))
    have M16 := Lib.hid (M15.out.trans mA)
    have A16 := Lib.hid (A15.out.mod mA (fun e => e))
    have B16 := Lib.hid (B15.out.mod mA (fun e => e))
    have C16 := Lib.hid (C15.out.mod mA (fun e => e))
    clear mA
    go_upto_region 11 with fail
    generalize w15.heap.size = K10 at D16 ⊢
    generalize w15.alloc (.cells #[.slice none 0 0, .slice none 0 0, .int .i64 0, .int .i64 0, .slice none 0 0] 39) = w16 at M16 A16 B16 D16 C16 ⊢
    have a0 := A16.out.cell 0
    have a1 := A16.out.cell 1
    have a2 := A16.out.cell 2
    have a3 := A16.out.cell 3
    have a4 := A16.out.cell 4
    simp only [List.getElem?_cons_zero, List.getElem?_cons_succ] at a0 a1 a2 a3 a4
    go_wp2_with fail
    refine (HMAY.out w16 M16.out).mono ?_
    rintro e w17 ⟨rfl, m17⟩
    try dsimp only [HistV.v]
    have M17 := Lib.hid (M16.out.trans m17)
    have A17 := Lib.hid (A16.out.mod m17 (fun e => e))
    have B17 := Lib.hid (B16.out.mod m17 (fun e => e))
    have C17 := Lib.hid (C16.out.mod m17 (fun e => e))
    have D17 := Lib.hid (D16.out.mod m17 (fun e => e))
    clear m17
    clear a0 a1 a2 a3 a4
    have c0 := C17.out.cell 0
    have c1 := C17.out.cell 1
    have c2 := C17.out.cell 2
    have c3 := C17.out.cell 3
    have c4 := C17.out.cell 4
    simp only [List.getElem?_cons_zero, List.getElem?_cons_succ] at c0 c1 c2 c3 c4
    go_wp2_with fail
    refine (plain_hist w17 zeroV).mono ?_
    rintro e w18 ⟨rfl, m18⟩
    dsimp only [HistV.v, zeroV]
    have M18 := Lib.hid (M17.out.trans m18)
    have A18 := Lib.hid (A17.out.mod m18 (fun e => e))
    have B18 := Lib.hid (B17.out.mod m18 (fun e => e))
    have C18 := Lib.hid (C17.out.mod m18 (fun e => e))
    have D18 := Lib.hid (D17.out.mod m18 (fun e => e))
    clear m18
    clear c0 c1 c2 c3 c4
    go_wp2_with fail
    refine (rhsame_any w18 zeroV zeroV [] [] [] [] (zeroV_is _) (zeroV_is _) rfl rfl rfl rfl rfl (likeE.refl _)).mono ?_
    rintro e w19 ⟨rfl, m19⟩
    try dsimp only [HistV.v]
    have M19 := Lib.hid (M18.out.trans m19)
    have A19 := Lib.hid (A18.out.mod m19 (fun e => e))
    have B19 := Lib.hid (B18.out.mod m19 (fun e => e))
    have C19 := Lib.hid (C18.out.mod m19 (fun e => e))
    have D19 := Lib.hid (D18.out.mod m19 (fun e => e))
    clear m19
    have c0 := D19.out.cell 0
    have c1 := D19.out.cell 1
    have c2 := D19.out.cell 2
    have c3 := D19.out.cell 3
    have c4 := D19.out.cell 4
    simp only [List.getElem?_cons_zero, List.getElem?_cons_succ] at c0 c1 c2 c3 c4
    go_wp2_with fail
    refine (plain_hist w19 zeroV).mono ?_
    rintro e w20 ⟨rfl, m20⟩
    dsimp only [HistV.v, zeroV]
    have M20 := Lib.hid (M19.out.trans m20)
    have A20 := Lib.hid (A19.out.mod m20 (fun e => e))
    have B20 := Lib.hid (B19.out.mod m20 (fun e => e))
    have C20 := Lib.hid (C19.out.mod m20 (fun e => e))
    have D20 := Lib.hid (D19.out.mod m20 (fun e => e))
    clear m20
    clear c0 c1 c2 c3 c4
    go_wp2_with fail
    refine (rhsame_any w20 zeroV zeroV [] [] [] [] (zeroV_is _) (zeroV_is _) rfl rfl rfl rfl rfl (likeE.refl _)).mono ?_
    rintro e w21 ⟨rfl, m21⟩
    try dsimp only [HistV.v]
    have M21 := Lib.hid (M20.out.trans m21)
    have A21 := Lib.hid (A20.out.mod m21 (fun e => e))
    have B21 := Lib.hid (B20.out.mod m21 (fun e => e))
    have C21 := Lib.hid (C20.out.mod m21 (fun e => e))
    have D21 := Lib.hid (D20.out.mod m21 (fun e => e))
    clear m21
    go_wp2_with fail
    go_ret
    exact ⟨rfl, M21.out⟩
  have HNS := Lib.hid (histOk_nums HR1.out.symm)
  dsimp only at HNS
  have hnl : numN E ≤ xll := by have := numN_le E; rwa [HI.out.e.n] at this
  obtain ⟨nn, hnn⟩ : ∃ nn, nn = numN E := ⟨_, rfl⟩
  have HNN := Lib.hid hnn
  rw [← hnn] at hnl
  clear hnn
  have a0 := A10.out.cell 0
  have a1 := A10.out.cell 1
  have a2 := A10.out.cell 2
  have a3 := A10.out.cell 3
  have a4 := A10.out.cell 4
  simp only [List.getElem?_cons_zero, List.getElem?_cons_succ] at a0 a1 a2 a3 a4
  go_wp2_with fail
  refine (HOF.out w10).mono ?_
  rintro e w11 ⟨rfl, m11⟩
  try dsimp only [HistV.v]
  have M11 := Lib.hid (M10.out.trans m11)
  have A11 := Lib.hid (A10.out.mod m11 (fun e => e))
  have B11 := Lib.hid (B10.out.mod m11 (fun e => e))
  clear m11
  clear a0 a1 a2 a3 a4
  go_wp2_with fail
  refine (HCUT.out w11 M11.out).mono ?_
  rintro e w12 ⟨m12, -, hyes⟩
  obtain ⟨⟨cba, cbl, cbc, cva, cvl, cvc, cfr, cnu, cla, cll, clc⟩, E1, rfl, h1, h2, h3, h4, h5, hlk, hmd⟩ := hyes (by first | rfl | trivial)
  dsimp only at h1 h2 h3 h4 h5
  rw [← HNN.out] at h3 hlk
  have q1 := h1.symm
  have q2 := h2.symm
  have q3 := h3.symm
  have q4 := h4.symm
  have q5 := h5.symm
  clear h1 h2 h3 h4 h5
  subst q1 q2 q3 q4 q5
  try dsimp only [HistV.v]
  have HC1 := Lib.hid (show HistIs w12 ⟨cba, xbl, cbc, cva, xvl, cvc, xfr, xnum, cla, nn, clc⟩ B V E1 from hmd.is2 HI.out.b.ok HI.out.v.ok (fun y hy => HI.out.e.ok y (List.mem_of_mem_take hy)) (M11.out.trans m12) hlk HI.out.i1 HI.out.i2)
  have HLC := Lib.hid hlk
  have M12 := Lib.hid (M11.out.trans m12)
  have A12 := Lib.hid (A11.out.mod m12 (fun e => e))
  have B12 := Lib.hid (B11.out.mod m12 (fun e => e))
  clear hyes m12 hlk hmd
  have mA := (Mine.Mod.refl none_ w12).alloc (.cells #[.slice cba xbl cbc, .slice cva xvl cvc, .int .i64 xfr, .int .i64 xnum, .slice cla nn clc] 39)
  have C13 := Lib.hid (Blk.new (w := w12) (cs := [.slice cba xbl cbc, .slice cva xvl cvc, .int .i64 xfr, .int .i64 xnum, .slice cla nn clc]) (t := 39))
  have M13 := Lib.hid (M12.out.trans mA)
  have A13 := Lib.hid (A12.out.mod mA (fun e => e))
  have B13 := Lib.hid (B12.out.mod mA (fun e => e))
  have HC2 := Lib.hid (HC1.out.grown mA)
  clear mA
  go_upto_region 10 with fail
  generalize w12.heap.size = K9 at C13 ⊢
  generalize w12.alloc (.cells #[.slice cba xbl cbc, .slice cva xvl cvc, .int .i64 xfr, .int .i64 xnum, .slice cla nn clc] 39) = w13 at M13 A13 B13 C13 HC2 ⊢
  have a0 := A13.out.cell 0
  have a1 := A13.out.cell 1
  have a2 := A13.out.cell 2
  have a3 := A13.out.cell 3
  have a4 := A13.out.cell 4
  simp only [List.getElem?_cons_zero, List.getElem?_cons_succ] at a0 a1 a2 a3 a4
  go_wp2_with fail
  refine (HOF.out w13).mono ?_
  rintro e w14 ⟨rfl, m14⟩
  try dsimp only [HistV.v]
  have HC3 := Lib.hid (HC2.out.grown m14)
  have M14 := Lib.hid (M13.out.trans m14)
  have A14 := Lib.hid (A13.out.mod m14 (fun e => e))
  have B14 := Lib.hid (B13.out.mod m14 (fun e => e))
  have C14 := Lib.hid (C13.out.mod m14 (fun e => e))
  clear m14
  clear a0 a1 a2 a3 a4
  have HNUM := Lib.hid (show ∀ W, Mine.Mod none_ w W → Calls Tryz.prog 19 #[.agg #[.slice xba xbl xbc, .slice xva xvl xvc, .int .i64 xfr, .int .i64 xnum, .slice xla xll xlc]] W fun e w' => e = .returned (.int .i64 (nn : Int)) ∧ Mine.Mod none_ W w' from fun W m => by rw [HNN.out]; exact rnumbered_any W ⟨xba, xbl, xbc, xva, xvl, xvc, xfr, xnum, xla, xll, xlc⟩ E (HI.out.e.grown m))
  have HM := Lib.hid (HPASS.out w14 M14.out)
  by_cases hn : xnum = 1099511627776
  · have HPE := Lib.hid (show passE ⟨xba, xbl, xbc, xva, xvl, xvc, xfr, xnum, xla, xll, xlc⟩ B V E = 7 by unfold passE; rw [if_pos HR1.out.symm, if_pos hn])
    have q17 : (xnum == 1099511627776) = true := by simpa using hn
    rw [HPE.out] at HM
    clear hn
    go_wp2_with fail
    refine HM.out.mono ?_
    rintro e w15 ⟨m15, hno, -⟩
    obtain rfl := hno (by decide)
    dsimp only [zeroH]
    have M15 := Lib.hid (M14.out.trans m15)
    have A15 := Lib.hid (A14.out.mod m15 (fun e => e))
    have B15 := Lib.hid (B14.out.mod m15 (fun e => e))
    have C15 := Lib.hid (C14.out.mod m15 (fun e => e))
    have HC15 := Lib.hid (HC3.out.grown m15)
    clear hno m15 HM
    have mA := (Mine.Mod.refl none_ w15).alloc (.cells #[.slice none 0 0, .slice none 0 0, .int .i64 0, .int .i64 0, .slice none 0 0] 39)
    have D16 := Lib.hid (Blk.new (w := w15) (cs := [.slice none 0 0, .slice none 0 0, .int .i64 0, .int .i64 0, .slice none 0 0]) (t := 39))
    have M16 := Lib.hid (M15.out.trans mA)
    have A16 := Lib.hid (A15.out.mod mA (fun e => e))
    have B16 := Lib.hid (B15.out.mod mA (fun e => e))
    have C16 := Lib.hid (C15.out.mod mA (fun e => e))
    have HC4 := Lib.hid (HC15.out.grown mA)
    clear mA
    go_upto_region 11 with fail
    generalize w15.heap.size = K10 at D16 ⊢
    generalize w15.alloc (.cells #[.slice none 0 0, .slice none 0 0, .int .i64 0, .int .i64 0, .slice none 0 0] 39) = w16 at M16 A16 B16 D16 C16 HC4 ⊢
    have N16 := Lib.hid (Mine.Mod.refl none_ w16)
    have a0 := A16.out.cell 0
    have a1 := A16.out.cell 1
    have a2 := A16.out.cell 2
    have a3 := A16.out.cell 3
    have a4 := A16.out.cell 4
    simp only [List.getElem?_cons_zero, List.getElem?_cons_succ] at a0 a1 a2 a3 a4
    go_wp2_with fail
    refine (HMAY.out w16 M16.out).mono ?_
    rintro e w17 ⟨rfl, m17⟩
    try dsimp only [HistV.v]
    have M17 := Lib.hid (M16.out.trans m17)
    have A17 := Lib.hid (A16.out.mod m17 (fun e => e))
    have B17 := Lib.hid (B16.out.mod m17 (fun e => e))
    have C17 := Lib.hid (C16.out.mod m17 (fun e => e))
    have D17 := Lib.hid (D16.out.mod m17 (fun e => e))
    have N17 := Lib.hid (N16.out.trans m17)
    clear m17
    clear a0 a1 a2 a3 a4
    have a0 := A17.out.cell 0
    have a1 := A17.out.cell 1
    have a2 := A17.out.cell 2
    have a3 := A17.out.cell 3
    have a4 := A17.out.cell 4
    simp only [List.getElem?_cons_zero, List.getElem?_cons_succ] at a0 a1 a2 a3 a4
    go_upto_region 14 with fail
    have mA := (Mine.Mod.refl none_ w17).alloc (.cells #[.slice xba xbl xbc, .slice xva xvl xvc, .int .i64 xfr, .int .i64 xnum, .slice xla xll xlc] 26)
    have G18 := Lib.hid (Blk.new (w := w17) (cs := [.slice xba xbl xbc, .slice xva xvl xvc, .int .i64 xfr, .int .i64 xnum, .slice xla xll xlc]) (t := 26))
    have M18 := Lib.hid (M17.out.trans mA)
    have A18 := Lib.hid (A17.out.mod mA (fun e => e))
    have B18 := Lib.hid (B17.out.mod mA (fun e => e))
    have C18 := Lib.hid (C17.out.mod mA (fun e => e))
    have D18 := Lib.hid (D17.out.mod mA (fun e => e))
    have N18 := Lib.hid (N17.out.trans mA)
    have HK12 := Lib.hid (show w.heap.size + 1 + 1 ≤ w17.heap.size from B17.out.lt)
    have HKN := Lib.hid (show w16.heap.size ≤ w17.heap.size from N17.out.size)
    have HC9 := Lib.hid (show K9 < w17.heap.size from C17.out.lt)
    have HC10 := Lib.hid (show K10 < w17.heap.size from D17.out.lt)
    clear mA a0 a1 a2 a3 a4
    generalize w17.heap.size = K12 at G18 HK12 HKN HC9 HC10 ⊢
    generalize w17.alloc (.cells #[.slice xba xbl xbc, .slice xva xvl xvc, .int .i64 xfr, .int .i64 xnum, .slice xla xll xlc] 26) = w18 at M18 A18 B18 C18 D18 G18 N18 ⊢
    have hlc : xll ≤ xlc ∧ xlc ≤ 9223372036854775807 := ⟨HI.out.e.le, by have hbg := HI.out.e.big; unfold maxLen at hbg; exact hbg⟩
    have mD := Mine.Mod.drew (Mine.Mod.refl none_ w18)
    have M19 := Lib.hid (M18.out.trans mD)
    have A19 := Lib.hid (A18.out.mod mD (fun e => e))
    have B19 := Lib.hid (B18.out.mod mD (fun e => e))
    have C19 := Lib.hid (C18.out.mod mD (fun e => e))
    have D19 := Lib.hid (D18.out.mod mD (fun e => e))
    have G19 := Lib.hid (G18.out.mod mD (fun e => e))
    have N19 := Lib.hid (N18.out.trans mD)
    clear mD
    have f0 : w18.cell? ⟨w.heap.size, 0, none⟩ = some (.slice xba xbl xbc) := by rw [A18.out.cell]; rfl
    have f1 : w18.cell? ⟨w.heap.size, 1, none⟩ = some (.slice xva xvl xvc) := by rw [A18.out.cell]; rfl
    have f2 : w18.cell? ⟨w.heap.size, 2, none⟩ = some (.int .i64 xfr) := by rw [A18.out.cell]; rfl
    have f3 : w18.cell? ⟨w.heap.size, 3, none⟩ = some (.int .i64 xnum) := by rw [A18.out.cell]; rfl
    have f4 : w18.cell? ⟨w.heap.size, 4, none⟩ = some (.slice xla xll xlc) := by rw [A18.out.cell]; rfl
    refine wp_region_held_drew (S := fun w' => w'.cell? ⟨w.heap.size, 0, none⟩ = some (.slice xba xbl xbc) ∧ w'.cell? ⟨w.heap.size, 1, none⟩ = some (.slice xva xvl xvc) ∧ w'.cell? ⟨w.heap.size, 2, none⟩ = some (.int .i64 xfr) ∧ w'.cell? ⟨w.heap.size, 3, none⟩ = some (.int .i64 xnum) ∧ w'.cell? ⟨w.heap.size, 4, none⟩ = some (.slice xla xll xlc)) (by kernel_rfl) ⟨f0, f1, f2, f3, f4⟩ (fun hS => ?_)
    clear f0 f1 f2 f3 f4
    refine wpAnyH_take (i := 0) (v := .pointer (some ⟨w.heap.size, 4, none⟩)) rfl (by kernel_rfl) (by kernel_rfl) (by kernel_rfl) (fun _ _ _ h => h) (Or.inl ⟨by kernel_rfl, ?_⟩) hS ?_
    · rintro w' ⟨q0, q1, q2, q3, q4⟩; go_simp
    try simp only [Act.put, List.setIfInBounds_toArray, List.set_cons_zero, List.set_cons_succ]
    refine wpAnyH_take (i := 1) (v := .slice xla xll xlc) rfl (by kernel_rfl) (by kernel_rfl) (by kernel_rfl) (fun _ _ _ h => h) (Or.inl ⟨by kernel_rfl, ?_⟩) hS ?_
    · rintro w' ⟨q0, q1, q2, q3, q4⟩; go_simp
    try simp only [Act.put, List.setIfInBounds_toArray, List.set_cons_zero, List.set_cons_succ]
    refine wpAnyH_take (i := 2) (v := .agg #[.slice xba xbl xbc, .slice xva xvl xvc, .int .i64 xfr, .int .i64 xnum, .slice xla xll xlc]) rfl (by kernel_rfl) (by kernel_rfl) (by kernel_rfl) (fun _ _ _ h => h) (Or.inl ⟨by kernel_rfl, ?_⟩) hS ?_
    · rintro w' ⟨q0, q1, q2, q3, q4⟩; go_simp
    try simp only [Act.put, List.setIfInBounds_toArray, List.set_cons_zero, List.set_cons_succ]
    refine wpAnyH_ready (rs := [3]) (by kernel_rfl) (by simp) (AllReadyH.cons rfl (fun J hJ => ?_) <| AllReadyH.nil)
    go_simp
    refine (HNUM.out _ M19.out).mono ?_
    rintro e w20 ⟨rfl, m20⟩
    have M20 := Lib.hid (M19.out.trans m20)
    have A20 := Lib.hid (A19.out.mod m20 (fun e => e))
    have B20 := Lib.hid (B19.out.mod m20 (fun e => e))
    have C20 := Lib.hid (C19.out.mod m20 (fun e => e))
    have D20 := Lib.hid (D19.out.mod m20 (fun e => e))
    have G20 := Lib.hid (G19.out.mod m20 (fun e => e))
    have N20 := Lib.hid (N19.out.trans m20)
    refine hJ.out _ _ ⟨by rw [A20.out.cell]; rfl, by rw [A20.out.cell]; rfl, by rw [A20.out.cell]; rfl, by rw [A20.out.cell]; rfl, by rw [A20.out.cell]; rfl⟩ (fun hS => ?_)
    clear hJ J m20
    try simp only [Act.put, List.setIfInBounds_toArray, List.set_cons_zero, List.set_cons_succ]
    refine wpAnyH_take (i := 4) (v := .slice xla nn xlc) rfl (by kernel_rfl) (by kernel_rfl) (by kernel_rfl) (fun _ _ _ h => h) (Or.inl ⟨by kernel_rfl, ?_⟩) hS ?_
    · rintro w' ⟨q0, q1, q2, q3, q4⟩; first | (cases xla <;> (go_simp <;> (intros; omega))) | (cases xla <;> go_simp)
    try simp only [Act.put, List.setIfInBounds_toArray, List.set_cons_zero, List.set_cons_succ]
    refine wpAnyH_take (i := 5) (v := .pointer (some ⟨K12, 4, none⟩)) rfl (by kernel_rfl) (by kernel_rfl) (by kernel_rfl) (fun _ _ _ h => h) (Or.inl ⟨by kernel_rfl, ?_⟩) hS ?_
    · rintro w' ⟨q0, q1, q2, q3, q4⟩; go_simp
    try simp only [Act.put, List.setIfInBounds_toArray, List.set_cons_zero, List.set_cons_succ]
    have b0 := G20.out.cell 4
    simp only [List.getElem?_cons_zero, List.getElem?_cons_succ] at b0
    have f0 := G20.out.frozen 4
    have hK12 := HK12.out
    have h9 := HC9.out
    have h10 := HC10.out
    have mS := (Mine.Mod.refl (one K12) w20).setCell ⟨K12, 4, none⟩ (fun _ => rfl) (.slice xla nn xlc)
    have A21 := Lib.hid (A20.out.mod mS (fun e => by have e' : w.heap.size = K12 := e; omega))
    have B21 := Lib.hid (B20.out.mod mS (fun e => by have e' : w.heap.size + 1 = K12 := e; omega))
    have C21 := Lib.hid (C20.out.mod mS (fun e => by have e' : K9 = K12 := e; omega))
    have D21 := Lib.hid (D20.out.mod mS (fun e => by have e' : K10 = K12 := e; omega))
    have G21 := Lib.hid (G20.out.set 4 (.slice xla nn xlc))
    have M21 := Lib.hid (M20.out.transIn mS (fun b hb e => by have e' : b = K12 := e; omega))
    have hkn := HKN.out
    have N21 := Lib.hid (N20.out.transIn mS (fun b hb e => by have e' : b = K12 := e; omega))
    clear hkn
    dsimp only [List.set_cons_zero, List.set_cons_succ] at G21
    clear mS
    refine wpAnyH_ready (rs := [6]) (by kernel_rfl) (by simp) (AllReadyH.cons rfl (fun J hJ => ?_) <| AllReadyH.nil)
    go_simp
    refine hJ.out _ _ ⟨by rw [A21.out.cell]; rfl, by rw [A21.out.cell]; rfl, by rw [A21.out.cell]; rfl, by rw [A21.out.cell]; rfl, by rw [A21.out.cell]; rfl⟩ (fun hS => ?_)
    clear hJ J
    try simp only [Act.put, List.setIfInBounds_toArray, List.set_cons_zero, List.set_cons_succ]
    refine wpAnyH_done (by kernel_rfl) ?_ _
    try simp only [List.getElem_toArray, List.getElem_cons_succ, List.getElem_cons_zero]
    try simp only [Act.put, List.setIfInBounds_toArray, List.set_cons_zero, List.set_cons_succ]
    clear b0 f0 hK12 h9 h10 hlc
    go_upto_region 15 with fail
    generalize w20.setCell ⟨K12, 4, none⟩ (.slice xla nn xlc) = w21 at A21 B21 C21 D21 G21 M21 N21 ⊢
    have mD := Mine.Mod.drew (Mine.Mod.refl none_ w21)
    have M22 := Lib.hid (M21.out.trans mD)
    have A22 := Lib.hid (A21.out.mod mD (fun e => e))
    have B22 := Lib.hid (B21.out.mod mD (fun e => e))
    have C22 := Lib.hid (C21.out.mod mD (fun e => e))
    have D22 := Lib.hid (D21.out.mod mD (fun e => e))
    have G22 := Lib.hid (G21.out.mod mD (fun e => e))
    have N22 := Lib.hid (N21.out.trans mD)
    clear mD
    have f0 : w21.cell? ⟨K9, 0, none⟩ = some (.slice cba xbl cbc) := by rw [C21.out.cell]; rfl
    have f1 : w21.cell? ⟨K9, 1, none⟩ = some (.slice cva xvl cvc) := by rw [C21.out.cell]; rfl
    have f2 : w21.cell? ⟨K9, 2, none⟩ = some (.int .i64 xfr) := by rw [C21.out.cell]; rfl
    have f3 : w21.cell? ⟨K9, 3, none⟩ = some (.int .i64 xnum) := by rw [C21.out.cell]; rfl
    have f4 : w21.cell? ⟨K9, 4, none⟩ = some (.slice cla nn clc) := by rw [C21.out.cell]; rfl
    have g0 : w21.cell? ⟨K12, 0, none⟩ = some (.slice xba xbl xbc) := by rw [G21.out.cell]; rfl
    have g1 : w21.cell? ⟨K12, 1, none⟩ = some (.slice xva xvl xvc) := by rw [G21.out.cell]; rfl
    have g2 : w21.cell? ⟨K12, 2, none⟩ = some (.int .i64 xfr) := by rw [G21.out.cell]; rfl
    have g3 : w21.cell? ⟨K12, 3, none⟩ = some (.int .i64 xnum) := by rw [G21.out.cell]; rfl
    have g4 : w21.cell? ⟨K12, 4, none⟩ = some (.slice xla nn xlc) := by rw [G21.out.cell]; rfl
    refine wp_region_held_drew (S := fun w' => w'.cell? ⟨K9, 0, none⟩ = some (.slice cba xbl cbc) ∧ w'.cell? ⟨K9, 1, none⟩ = some (.slice cva xvl cvc) ∧ w'.cell? ⟨K9, 2, none⟩ = some (.int .i64 xfr) ∧ w'.cell? ⟨K9, 3, none⟩ = some (.int .i64 xnum) ∧ w'.cell? ⟨K9, 4, none⟩ = some (.slice cla nn clc) ∧ w'.cell? ⟨K12, 0, none⟩ = some (.slice xba xbl xbc) ∧ w'.cell? ⟨K12, 1, none⟩ = some (.slice xva xvl xvc) ∧ w'.cell? ⟨K12, 2, none⟩ = some (.int .i64 xfr) ∧ w'.cell? ⟨K12, 3, none⟩ = some (.int .i64 xnum) ∧ w'.cell? ⟨K12, 4, none⟩ = some (.slice xla nn xlc)) (by kernel_rfl) ⟨f0, f1, f2, f3, f4, g0, g1, g2, g3, g4⟩ (fun hS => ?_)
    clear f0 f1 f2 f3 f4 g0 g1 g2 g3 g4
    have HP := Lib.hid (fun W => plain_hist W ⟨cba, xbl, cbc, cva, xvl, cvc, xfr, xnum, cla, nn, clc⟩)
    refine wpAnyH_take (i := 0) (v := .agg #[.slice cba xbl cbc, .slice cva xvl cvc, .int .i64 xfr, .int .i64 xnum, .slice cla nn clc]) rfl (by kernel_rfl) (by kernel_rfl) (by kernel_rfl) (fun _ _ _ h => h) (Or.inl ⟨by kernel_rfl, ?_⟩) hS ?_
    · rintro w' ⟨q0, q1, q2, q3, q4, q5, q6, q7, q8, q9⟩; go_simp
    try simp only [Act.put, List.setIfInBounds_toArray, List.set_cons_zero, List.set_cons_succ]
    refine wpAnyH_take (i := 2) (v := .agg #[.slice xba xbl xbc, .slice xva xvl xvc, .int .i64 xfr, .int .i64 xnum, .slice xla nn xlc]) rfl (by kernel_rfl) (by kernel_rfl) (by kernel_rfl) (fun _ _ _ h => h) (Or.inl ⟨by kernel_rfl, ?_⟩) hS ?_
    · rintro w' ⟨q0, q1, q2, q3, q4, q5, q6, q7, q8, q9⟩; go_simp
    try simp only [Act.put, List.setIfInBounds_toArray, List.set_cons_zero, List.set_cons_succ]
    refine wpAnyH_ready (rs := [1]) (by kernel_rfl) (by simp) (AllReadyH.cons rfl (fun J hJ => ?_) <| AllReadyH.nil)
    go_simp
    refine (HP.out _).mono ?_
    rintro e w23 ⟨rfl, m23⟩
    try dsimp only [HistV.v]
    have M23 := Lib.hid (M22.out.trans m23)
    have A23 := Lib.hid (A22.out.mod m23 (fun e => e))
    have B23 := Lib.hid (B22.out.mod m23 (fun e => e))
    have C23 := Lib.hid (C22.out.mod m23 (fun e => e))
    have D23 := Lib.hid (D22.out.mod m23 (fun e => e))
    have G23 := Lib.hid (G22.out.mod m23 (fun e => e))
    have N23 := Lib.hid (N22.out.trans m23)
    refine hJ.out _ _ ⟨by rw [C23.out.cell]; rfl, by rw [C23.out.cell]; rfl, by rw [C23.out.cell]; rfl, by rw [C23.out.cell]; rfl, by rw [C23.out.cell]; rfl, by rw [G23.out.cell]; rfl, by rw [G23.out.cell]; rfl, by rw [G23.out.cell]; rfl, by rw [G23.out.cell]; rfl, by rw [G23.out.cell]; rfl⟩ (fun hS => ?_)
    clear hJ J m23
    try simp only [Act.put, List.setIfInBounds_toArray, List.set_cons_zero, List.set_cons_succ]
    refine wpAnyH_ready (rs := [3]) (by kernel_rfl) (by simp) (AllReadyH.cons rfl (fun J hJ => ?_) <| AllReadyH.nil)
    go_simp
    refine (rhsame_any _ ⟨cba, xbl, cbc, cva, xvl, cvc, xfr, xnum, cla, nn, clc⟩ ⟨xba, xbl, xbc, xva, xvl, xvc, xfr, xnum, xla, nn, xlc⟩ B V E1 (E.take nn) (HC4.out.grown N23.out) ((HI.out.grown M23.out).cut nn hnl) rfl rfl rfl rfl rfl HLC.out.symm).mono ?_
    rintro e w24 ⟨rfl, m24⟩
    try dsimp only [HistV.v]
    have M24 := Lib.hid (M23.out.trans m24)
    have A24 := Lib.hid (A23.out.mod m24 (fun e => e))
    have B24 := Lib.hid (B23.out.mod m24 (fun e => e))
    have C24 := Lib.hid (C23.out.mod m24 (fun e => e))
    have D24 := Lib.hid (D23.out.mod m24 (fun e => e))
    have G24 := Lib.hid (G23.out.mod m24 (fun e => e))
    have N24 := Lib.hid (N23.out.trans m24)
    refine hJ.out _ _ ⟨by rw [C24.out.cell]; rfl, by rw [C24.out.cell]; rfl, by rw [C24.out.cell]; rfl, by rw [C24.out.cell]; rfl, by rw [C24.out.cell]; rfl, by rw [G24.out.cell]; rfl, by rw [G24.out.cell]; rfl, by rw [G24.out.cell]; rfl, by rw [G24.out.cell]; rfl, by rw [G24.out.cell]; rfl⟩ (fun hS => ?_)
    clear hJ J m24
    try simp only [Act.put, List.setIfInBounds_toArray, List.set_cons_zero, List.set_cons_succ]
    refine wpAnyH_take (i := 4) (v := .bool false) rfl (by kernel_rfl) (by kernel_rfl) (by kernel_rfl) (fun _ _ _ h => h) (Or.inl ⟨by kernel_rfl, ?_⟩) hS ?_
    · rintro w' ⟨q0, q1, q2, q3, q4, q5, q6, q7, q8, q9⟩; go_simp
    try simp only [Act.put, List.setIfInBounds_toArray, List.set_cons_zero, List.set_cons_succ]
    refine wpAnyH_done (by kernel_rfl) ?_ _
    try simp only [List.getElem_toArray, List.getElem_cons_succ, List.getElem_cons_zero]
    try simp only [Act.put, List.setIfInBounds_toArray, List.set_cons_zero, List.set_cons_succ]
    clear HP
    have a0 := A24.out.cell 0
    have a1 := A24.out.cell 1
    have a2 := A24.out.cell 2
    have a3 := A24.out.cell 3
    have a4 := A24.out.cell 4
    simp only [List.getElem?_cons_zero, List.getElem?_cons_succ] at a0 a1 a2 a3 a4
    go_upto_region 18 with fail
    clear a0 a1 a2 a3 a4
    have c0 := D24.out.cell 0
    have c1 := D24.out.cell 1
    have c2 := D24.out.cell 2
    have c3 := D24.out.cell 3
    have c4 := D24.out.cell 4
    simp only [List.getElem?_cons_zero, List.getElem?_cons_succ] at c0 c1 c2 c3 c4
    go_wp2_with fail
    refine (plain_hist w24 zeroV).mono ?_
    rintro e w25 ⟨rfl, m25⟩
    dsimp only [HistV.v, zeroV]
    have M25 := Lib.hid (M24.out.trans m25)
    have A25 := Lib.hid (A24.out.mod m25 (fun e => e))
    have B25 := Lib.hid (B24.out.mod m25 (fun e => e))
    have C25 := Lib.hid (C24.out.mod m25 (fun e => e))
    have D25 := Lib.hid (D24.out.mod m25 (fun e => e))
    have N25 := Lib.hid (N24.out.trans m25)
    clear m25
    clear c0 c1 c2 c3 c4
    go_wp2_with fail
    refine (rhsame_any w25 zeroV zeroV [] [] [] [] (zeroV_is _) (zeroV_is _) rfl rfl rfl rfl rfl (likeE.refl _)).mono ?_
    rintro e w26 ⟨rfl, m26⟩
    try dsimp only [HistV.v]
    have M26 := Lib.hid (M25.out.trans m26)
    have A26 := Lib.hid (A25.out.mod m26 (fun e => e))
    have B26 := Lib.hid (B25.out.mod m26 (fun e => e))
    have C26 := Lib.hid (C25.out.mod m26 (fun e => e))
    have D26 := Lib.hid (D25.out.mod m26 (fun e => e))
    have N26 := Lib.hid (N25.out.trans m26)
    clear m26
    go_wp2_with fail
    go_ret
    exact ⟨rfl, M26.out⟩
  · have HPE := Lib.hid (show passE ⟨xba, xbl, xbc, xva, xvl, xvc, xfr, xnum, xla, xll, xlc⟩ B V E = 0 by unfold passE; rw [if_pos HR1.out.symm, if_neg hn])
    have q17 : (xnum == 1099511627776) = false := by simpa using hn
    rw [HPE.out] at HM
    clear hn
    go_wp2_with fail
    refine HM.out.mono ?_
    rintro e w15 ⟨m15, -, hyes⟩
    obtain ⟨⟨dba, dbl, dbc, dva, dvl, dvc, dfr, dnu, dla, dll, dlc⟩, E2, rfl, h1, h2, h3, h4, h5, hlk, hmd⟩ := hyes rfl
    dsimp only at h1 h2 h3 h4 h5
    have q1 := h1.symm
    have q2 := h2.symm
    have q3 := h3.symm
    have q4 := h4.symm
    clear h1 h2 h3 h4
    subst h5
    subst q1 q2 q3 q4
    try dsimp only [HistV.v]
    have HD1 := Lib.hid (show HistIs w15 ⟨dba, xbl, dbc, dva, xvl, dvc, xfr, xnum + 1, dla, xll, dlc⟩ B V E2 from hmd.is2 HI.out.b.ok HI.out.v.ok HI.out.e.ok (M14.out.trans m15) hlk HI.out.i1 (by have := HNS.out; dsimp only; omega))
    have HLD := Lib.hid hlk
    have M15 := Lib.hid (M14.out.trans m15)
    have A15 := Lib.hid (A14.out.mod m15 (fun e => e))
    have B15 := Lib.hid (B14.out.mod m15 (fun e => e))
    have C15 := Lib.hid (C14.out.mod m15 (fun e => e))
    have HC15 := Lib.hid (HC3.out.grown m15)
    clear hyes m15 HM hlk hmd
    have mA := (Mine.Mod.refl none_ w15).alloc (.cells #[.slice dba xbl dbc, .slice dva xvl dvc, .int .i64 xfr, .int .i64 (xnum + 1), .slice dla xll dlc] 39)
    have D16 := Lib.hid (Blk.new (w := w15) (cs := [.slice dba xbl dbc, .slice dva xvl dvc, .int .i64 xfr, .int .i64 (xnum + 1), .slice dla xll dlc]) (t := 39))
    have M16 := Lib.hid (M15.out.trans mA)
    have A16 := Lib.hid (A15.out.mod mA (fun e => e))
    have B16 := Lib.hid (B15.out.mod mA (fun e => e))
    have C16 := Lib.hid (C15.out.mod mA (fun e => e))
    have HC4 := Lib.hid (HC15.out.grown mA)
    have HD2 := Lib.hid (HD1.out.grown mA)
    clear mA
    go_upto_region 11 with fail
    generalize w15.heap.size = K10 at D16 ⊢
    generalize w15.alloc (.cells #[.slice dba xbl dbc, .slice dva xvl dvc, .int .i64 xfr, .int .i64 (xnum + 1), .slice dla xll dlc] 39) = w16 at M16 A16 B16 D16 C16 HC4 HD2 ⊢
    have N16 := Lib.hid (Mine.Mod.refl none_ w16)
    have a0 := A16.out.cell 0
    have a1 := A16.out.cell 1
    have a2 := A16.out.cell 2
    have a3 := A16.out.cell 3
    have a4 := A16.out.cell 4
    simp only [List.getElem?_cons_zero, List.getElem?_cons_succ] at a0 a1 a2 a3 a4
    go_wp2_with fail
    refine (HMAY.out w16 M16.out).mono ?_
    rintro e w17 ⟨rfl, m17⟩
    try dsimp only [HistV.v]
    have M17 := Lib.hid (M16.out.trans m17)
    have A17 := Lib.hid (A16.out.mod m17 (fun e => e))
    have B17 := Lib.hid (B16.out.mod m17 (fun e => e))
    have C17 := Lib.hid (C16.out.mod m17 (fun e => e))
    have D17 := Lib.hid (D16.out.mod m17 (fun e => e))
    have N17 := Lib.hid (N16.out.trans m17)
    clear m17
    clear a0 a1 a2 a3 a4
    have a0 := A17.out.cell 0
    have a1 := A17.out.cell 1
    have a2 := A17.out.cell 2
    have a3 := A17.out.cell 3
    have a4 := A17.out.cell 4
    simp only [List.getElem?_cons_zero, List.getElem?_cons_succ] at a0 a1 a2 a3 a4
    go_upto_region 14 with fail
    have mA := (Mine.Mod.refl none_ w17).alloc (.cells #[.slice xba xbl xbc, .slice xva xvl xvc, .int .i64 xfr, .int .i64 xnum, .slice xla xll xlc] 26)
    have G18 := Lib.hid (Blk.new (w := w17) (cs := [.slice xba xbl xbc, .slice xva xvl xvc, .int .i64 xfr, .int .i64 xnum, .slice xla xll xlc]) (t := 26))
    have M18 := Lib.hid (M17.out.trans mA)
    have A18 := Lib.hid (A17.out.mod mA (fun e => e))
    have B18 := Lib.hid (B17.out.mod mA (fun e => e))
    have C18 := Lib.hid (C17.out.mod mA (fun e => e))
    have D18 := Lib.hid (D17.out.mod mA (fun e => e))
    have N18 := Lib.hid (N17.out.trans mA)
    have HK12 := Lib.hid (show w.heap.size + 1 + 1 ≤ w17.heap.size from B17.out.lt)
    have HKN := Lib.hid (show w16.heap.size ≤ w17.heap.size from N17.out.size)
    have HC9 := Lib.hid (show K9 < w17.heap.size from C17.out.lt)
    have HC10 := Lib.hid (show K10 < w17.heap.size from D17.out.lt)
    clear mA a0 a1 a2 a3 a4
    generalize w17.heap.size = K12 at G18 HK12 HKN HC9 HC10 ⊢
    generalize w17.alloc (.cells #[.slice xba xbl xbc, .slice xva xvl xvc, .int .i64 xfr, .int .i64 xnum, .slice xla xll xlc] 26) = w18 at M18 A18 B18 C18 D18 G18 N18 ⊢
    have hlc : xll ≤ xlc ∧ xlc ≤ 9223372036854775807 := ⟨HI.out.e.le, by have hbg := HI.out.e.big; unfold maxLen at hbg; exact hbg⟩
    have mD := Mine.Mod.drew (Mine.Mod.refl none_ w18)
    have M19 := Lib.hid (M18.out.trans mD)
    have A19 := Lib.hid (A18.out.mod mD (fun e => e))
    have B19 := Lib.hid (B18.out.mod mD (fun e => e))
    have C19 := Lib.hid (C18.out.mod mD (fun e => e))
    have D19 := Lib.hid (D18.out.mod mD (fun e => e))
    have G19 := Lib.hid (G18.out.mod mD (fun e => e))
    have N19 := Lib.hid (N18.out.trans mD)
    clear mD
    have f0 : w18.cell? ⟨w.heap.size, 0, none⟩ = some (.slice xba xbl xbc) := by rw [A18.out.cell]; rfl
    have f1 : w18.cell? ⟨w.heap.size, 1, none⟩ = some (.slice xva xvl xvc) := by rw [A18.out.cell]; rfl
    have f2 : w18.cell? ⟨w.heap.size, 2, none⟩ = some (.int .i64 xfr) := by rw [A18.out.cell]; rfl
    have f3 : w18.cell? ⟨w.heap.size, 3, none⟩ = some (.int .i64 xnum) := by rw [A18.out.cell]; rfl
    have f4 : w18.cell? ⟨w.heap.size, 4, none⟩ = some (.slice xla xll xlc) := by rw [A18.out.cell]; rfl
    refine wp_region_held_drew (S := fun w' => w'.cell? ⟨w.heap.size, 0, none⟩ = some (.slice xba xbl xbc) ∧ w'.cell? ⟨w.heap.size, 1, none⟩ = some (.slice xva xvl xvc) ∧ w'.cell? ⟨w.heap.size, 2, none⟩ = some (.int .i64 xfr) ∧ w'.cell? ⟨w.heap.size, 3, none⟩ = some (.int .i64 xnum) ∧ w'.cell? ⟨w.heap.size, 4, none⟩ = some (.slice xla xll xlc)) (by kernel_rfl) ⟨f0, f1, f2, f3, f4⟩ (fun hS => ?_)
    clear f0 f1 f2 f3 f4
    refine wpAnyH_take (i := 0) (v := .pointer (some ⟨w.heap.size, 4, none⟩)) rfl (by kernel_rfl) (by kernel_rfl) (by kernel_rfl) (fun _ _ _ h => h) (Or.inl ⟨by kernel_rfl, ?_⟩) hS ?_
    · rintro w' ⟨q0, q1, q2, q3, q4⟩; go_simp
    try simp only [Act.put, List.setIfInBounds_toArray, List.set_cons_zero, List.set_cons_succ]
    refine wpAnyH_take (i := 1) (v := .slice xla xll xlc) rfl (by kernel_rfl) (by kernel_rfl) (by kernel_rfl) (fun _ _ _ h => h) (Or.inl ⟨by kernel_rfl, ?_⟩) hS ?_
    · rintro w' ⟨q0, q1, q2, q3, q4⟩; go_simp
    try simp only [Act.put, List.setIfInBounds_toArray, List.set_cons_zero, List.set_cons_succ]
    refine wpAnyH_take (i := 2) (v := .agg #[.slice xba xbl xbc, .slice xva xvl xvc, .int .i64 xfr, .int .i64 xnum, .slice xla xll xlc]) rfl (by kernel_rfl) (by kernel_rfl) (by kernel_rfl) (fun _ _ _ h => h) (Or.inl ⟨by kernel_rfl, ?_⟩) hS ?_
    · rintro w' ⟨q0, q1, q2, q3, q4⟩; go_simp
    try simp only [Act.put, List.setIfInBounds_toArray, List.set_cons_zero, List.set_cons_succ]
    refine wpAnyH_ready (rs := [3]) (by kernel_rfl) (by simp) (AllReadyH.cons rfl (fun J hJ => ?_) <| AllReadyH.nil)
    go_simp
    refine (HNUM.out _ M19.out).mono ?_
    rintro e w20 ⟨rfl, m20⟩
    have M20 := Lib.hid (M19.out.trans m20)
    have A20 := Lib.hid (A19.out.mod m20 (fun e => e))
    have B20 := Lib.hid (B19.out.mod m20 (fun e => e))
    have C20 := Lib.hid (C19.out.mod m20 (fun e => e))
    have D20 := Lib.hid (D19.out.mod m20 (fun e => e))
    have G20 := Lib.hid (G19.out.mod m20 (fun e => e))
    have N20 := Lib.hid (N19.out.trans m20)
    refine hJ.out _ _ ⟨by rw [A20.out.cell]; rfl, by rw [A20.out.cell]; rfl, by rw [A20.out.cell]; rfl, by rw [A20.out.cell]; rfl, by rw [A20.out.cell]; rfl⟩ (fun hS => ?_)
    clear hJ J m20
    try simp only [Act.put, List.setIfInBounds_toArray, List.set_cons_zero, List.set_cons_succ]
    refine wpAnyH_take (i := 4) (v := .slice xla nn xlc) rfl (by kernel_rfl) (by kernel_rfl) (by kernel_rfl) (fun _ _ _ h => h) (Or.inl ⟨by kernel_rfl, ?_⟩) hS ?_
    · rintro w' ⟨q0, q1, q2, q3, q4⟩; first | (cases xla <;> (go_simp <;> (intros; omega))) | (cases xla <;> go_simp)
    try simp only [Act.put, List.setIfInBounds_toArray, List.set_cons_zero, List.set_cons_succ]
    refine wpAnyH_take (i := 5) (v := .pointer (some ⟨K12, 4, none⟩)) rfl (by kernel_rfl) (by kernel_rfl) (by kernel_rfl) (fun _ _ _ h => h) (Or.inl ⟨by kernel_rfl, ?_⟩) hS ?_
    · rintro w' ⟨q0, q1, q2, q3, q4⟩; go_simp
    try simp only [Act.put, List.setIfInBounds_toArray, List.set_cons_zero, List.set_cons_succ]
    have b0 := G20.out.cell 4
    simp only [List.getElem?_cons_zero, List.getElem?_cons_succ] at b0
    have f0 := G20.out.frozen 4
    have hK12 := HK12.out
    have h9 := HC9.out
    have h10 := HC10.out
    have mS := (Mine.Mod.refl (one K12) w20).setCell ⟨K12, 4, none⟩ (fun _ => rfl) (.slice xla nn xlc)
    have A21 := Lib.hid (A20.out.mod mS (fun e => by have e' : w.heap.size = K12 := e; omega))
    have B21 := Lib.hid (B20.out.mod mS (fun e => by have e' : w.heap.size + 1 = K12 := e; omega))
    have C21 := Lib.hid (C20.out.mod mS (fun e => by have e' : K9 = K12 := e; omega))
    have D21 := Lib.hid (D20.out.mod mS (fun e => by have e' : K10 = K12 := e; omega))
    have G21 := Lib.hid (G20.out.set 4 (.slice xla nn xlc))
    have M21 := Lib.hid (M20.out.transIn mS (fun b hb e => by have e' : b = K12 := e; omega))
    have hkn := HKN.out
    have N21 := Lib.hid (N20.out.transIn mS (fun b hb e => by have e' : b = K12 := e; omega))
    clear hkn
    dsimp only [List.set_cons_zero, List.set_cons_succ] at G21
    clear mS
    refine wpAnyH_ready (rs := [6]) (by kernel_rfl) (by simp) (AllReadyH.cons rfl (fun J hJ => ?_) <| AllReadyH.nil)
    go_simp
    refine hJ.out _ _ ⟨by rw [A21.out.cell]; rfl, by rw [A21.out.cell]; rfl, by rw [A21.out.cell]; rfl, by rw [A21.out.cell]; rfl, by rw [A21.out.cell]; rfl⟩ (fun hS => ?_)
    clear hJ J
    try simp only [Act.put, List.setIfInBounds_toArray, List.set_cons_zero, List.set_cons_succ]
    refine wpAnyH_done (by kernel_rfl) ?_ _
    try simp only [List.getElem_toArray, List.getElem_cons_succ, List.getElem_cons_zero]
    try simp only [Act.put, List.setIfInBounds_toArray, List.set_cons_zero, List.set_cons_succ]
    clear b0 f0 hK12 h9 h10 hlc
    go_upto_region 15 with fail
    generalize w20.setCell ⟨K12, 4, none⟩ (.slice xla nn xlc) = w21 at A21 B21 C21 D21 G21 M21 N21 ⊢
    have mD := Mine.Mod.drew (Mine.Mod.refl none_ w21)
    have M22 := Lib.hid (M21.out.trans mD)
    have A22 := Lib.hid (A21.out.mod mD (fun e => e))
    have B22 := Lib.hid (B21.out.mod mD (fun e => e))
    have C22 := Lib.hid (C21.out.mod mD (fun e => e))
    have D22 := Lib.hid (D21.out.mod mD (fun e => e))
    have G22 := Lib.hid (G21.out.mod mD (fun e => e))
    have N22 := Lib.hid (N21.out.trans mD)
    clear mD
    have f0 : w21.cell? ⟨K9, 0, none⟩ = some (.slice cba xbl cbc) := by rw [C21.out.cell]; rfl
    have f1 : w21.cell? ⟨K9, 1, none⟩ = some (.slice cva xvl cvc) := by rw [C21.out.cell]; rfl
    have f2 : w21.cell? ⟨K9, 2, none⟩ = some (.int .i64 xfr) := by rw [C21.out.cell]; rfl
    have f3 : w21.cell? ⟨K9, 3, none⟩ = some (.int .i64 xnum) := by rw [C21.out.cell]; rfl
    have f4 : w21.cell? ⟨K9, 4, none⟩ = some (.slice cla nn clc) := by rw [C21.out.cell]; rfl
    have g0 : w21.cell? ⟨K12, 0, none⟩ = some (.slice xba xbl xbc) := by rw [G21.out.cell]; rfl
    have g1 : w21.cell? ⟨K12, 1, none⟩ = some (.slice xva xvl xvc) := by rw [G21.out.cell]; rfl
    have g2 : w21.cell? ⟨K12, 2, none⟩ = some (.int .i64 xfr) := by rw [G21.out.cell]; rfl
    have g3 : w21.cell? ⟨K12, 3, none⟩ = some (.int .i64 xnum) := by rw [G21.out.cell]; rfl
    have g4 : w21.cell? ⟨K12, 4, none⟩ = some (.slice xla nn xlc) := by rw [G21.out.cell]; rfl
    refine wp_region_held_drew (S := fun w' => w'.cell? ⟨K9, 0, none⟩ = some (.slice cba xbl cbc) ∧ w'.cell? ⟨K9, 1, none⟩ = some (.slice cva xvl cvc) ∧ w'.cell? ⟨K9, 2, none⟩ = some (.int .i64 xfr) ∧ w'.cell? ⟨K9, 3, none⟩ = some (.int .i64 xnum) ∧ w'.cell? ⟨K9, 4, none⟩ = some (.slice cla nn clc) ∧ w'.cell? ⟨K12, 0, none⟩ = some (.slice xba xbl xbc) ∧ w'.cell? ⟨K12, 1, none⟩ = some (.slice xva xvl xvc) ∧ w'.cell? ⟨K12, 2, none⟩ = some (.int .i64 xfr) ∧ w'.cell? ⟨K12, 3, none⟩ = some (.int .i64 xnum) ∧ w'.cell? ⟨K12, 4, none⟩ = some (.slice xla nn xlc)) (by kernel_rfl) ⟨f0, f1, f2, f3, f4, g0, g1, g2, g3, g4⟩ (fun hS => ?_)
    clear f0 f1 f2 f3 f4 g0 g1 g2 g3 g4
    have HP := Lib.hid (fun W => plain_hist W ⟨cba, xbl, cbc, cva, xvl, cvc, xfr, xnum, cla, nn, clc⟩)
    refine wpAnyH_take (i := 0) (v := .agg #[.slice cba xbl cbc, .slice cva xvl cvc, .int .i64 xfr, .int .i64 xnum, .slice cla nn clc]) rfl (by kernel_rfl) (by kernel_rfl) (by kernel_rfl) (fun _ _ _ h => h) (Or.inl ⟨by kernel_rfl, ?_⟩) hS ?_
    · rintro w' ⟨q0, q1, q2, q3, q4, q5, q6, q7, q8, q9⟩; go_simp
    try simp only [Act.put, List.setIfInBounds_toArray, List.set_cons_zero, List.set_cons_succ]
    refine wpAnyH_take (i := 2) (v := .agg #[.slice xba xbl xbc, .slice xva xvl xvc, .int .i64 xfr, .int .i64 xnum, .slice xla nn xlc]) rfl (by kernel_rfl) (by kernel_rfl) (by kernel_rfl) (fun _ _ _ h => h) (Or.inl ⟨by kernel_rfl, ?_⟩) hS ?_
    · rintro w' ⟨q0, q1, q2, q3, q4, q5, q6, q7, q8, q9⟩; go_simp
    try simp only [Act.put, List.setIfInBounds_toArray, List.set_cons_zero, List.set_cons_succ]
    refine wpAnyH_ready (rs := [1]) (by kernel_rfl) (by simp) (AllReadyH.cons rfl (fun J hJ => ?_) <| AllReadyH.nil)
    go_simp
    refine (HP.out _).mono ?_
    rintro e w23 ⟨rfl, m23⟩
    try dsimp only [HistV.v]
    have M23 := Lib.hid (M22.out.trans m23)
    have A23 := Lib.hid (A22.out.mod m23 (fun e => e))
    have B23 := Lib.hid (B22.out.mod m23 (fun e => e))
    have C23 := Lib.hid (C22.out.mod m23 (fun e => e))
    have D23 := Lib.hid (D22.out.mod m23 (fun e => e))
    have G23 := Lib.hid (G22.out.mod m23 (fun e => e))
    have N23 := Lib.hid (N22.out.trans m23)
    refine hJ.out _ _ ⟨by rw [C23.out.cell]; rfl, by rw [C23.out.cell]; rfl, by rw [C23.out.cell]; rfl, by rw [C23.out.cell]; rfl, by rw [C23.out.cell]; rfl, by rw [G23.out.cell]; rfl, by rw [G23.out.cell]; rfl, by rw [G23.out.cell]; rfl, by rw [G23.out.cell]; rfl, by rw [G23.out.cell]; rfl⟩ (fun hS => ?_)
    clear hJ J m23
    try simp only [Act.put, List.setIfInBounds_toArray, List.set_cons_zero, List.set_cons_succ]
    refine wpAnyH_ready (rs := [3]) (by kernel_rfl) (by simp) (AllReadyH.cons rfl (fun J hJ => ?_) <| AllReadyH.nil)
    go_simp
    refine (rhsame_any _ ⟨cba, xbl, cbc, cva, xvl, cvc, xfr, xnum, cla, nn, clc⟩ ⟨xba, xbl, xbc, xva, xvl, xvc, xfr, xnum, xla, nn, xlc⟩ B V E1 (E.take nn) (HC4.out.grown N23.out) ((HI.out.grown M23.out).cut nn hnl) rfl rfl rfl rfl rfl HLC.out.symm).mono ?_
    rintro e w24 ⟨rfl, m24⟩
    try dsimp only [HistV.v]
    have M24 := Lib.hid (M23.out.trans m24)
    have A24 := Lib.hid (A23.out.mod m24 (fun e => e))
    have B24 := Lib.hid (B23.out.mod m24 (fun e => e))
    have C24 := Lib.hid (C23.out.mod m24 (fun e => e))
    have D24 := Lib.hid (D23.out.mod m24 (fun e => e))
    have G24 := Lib.hid (G23.out.mod m24 (fun e => e))
    have N24 := Lib.hid (N23.out.trans m24)
    refine hJ.out _ _ ⟨by rw [C24.out.cell]; rfl, by rw [C24.out.cell]; rfl, by rw [C24.out.cell]; rfl, by rw [C24.out.cell]; rfl, by rw [C24.out.cell]; rfl, by rw [G24.out.cell]; rfl, by rw [G24.out.cell]; rfl, by rw [G24.out.cell]; rfl, by rw [G24.out.cell]; rfl, by rw [G24.out.cell]; rfl⟩ (fun hS => ?_)
    clear hJ J m24
    try simp only [Act.put, List.setIfInBounds_toArray, List.set_cons_zero, List.set_cons_succ]
    refine wpAnyH_take (i := 4) (v := .bool false) rfl (by kernel_rfl) (by kernel_rfl) (by kernel_rfl) (fun _ _ _ h => h) (Or.inl ⟨by kernel_rfl, ?_⟩) hS ?_
    · rintro w' ⟨q0, q1, q2, q3, q4, q5, q6, q7, q8, q9⟩; go_simp
    try simp only [Act.put, List.setIfInBounds_toArray, List.set_cons_zero, List.set_cons_succ]
    refine wpAnyH_done (by kernel_rfl) ?_ _
    try simp only [List.getElem_toArray, List.getElem_cons_succ, List.getElem_cons_zero]
    try simp only [Act.put, List.setIfInBounds_toArray, List.set_cons_zero, List.set_cons_succ]
    clear HP
    have a0 := A24.out.cell 0
    have a1 := A24.out.cell 1
    have a2 := A24.out.cell 2
    have a3 := A24.out.cell 3
    have a4 := A24.out.cell 4
    simp only [List.getElem?_cons_zero, List.getElem?_cons_succ] at a0 a1 a2 a3 a4
    go_upto_region 20 with fail
    have mA := (Mine.Mod.refl none_ w24).alloc (.cells #[.slice xba xbl xbc, .slice xva xvl xvc, .int .i64 xfr, .int .i64 xnum, .slice xla xll xlc] 26)
    have Y25 := Lib.hid (Blk.new (w := w24) (cs := [.slice xba xbl xbc, .slice xva xvl xvc, .int .i64 xfr, .int .i64 xnum, .slice xla xll xlc]) (t := 26))
    have M25 := Lib.hid (M24.out.trans mA)
    have A25 := Lib.hid (A24.out.mod mA (fun e => e))
    have B25 := Lib.hid (B24.out.mod mA (fun e => e))
    have D25 := Lib.hid (D24.out.mod mA (fun e => e))
    have N25 := Lib.hid (N24.out.trans mA)
    have HK13 := Lib.hid (show K10 < w24.heap.size from D24.out.lt)
    have HL13 := Lib.hid (show w.heap.size ≤ w24.heap.size from M24.out.size)
    have HN13 := Lib.hid (show w16.heap.size ≤ w24.heap.size from N24.out.size)
    clear mA a0 a1 a2 a3 a4 q17
    generalize w24.heap.size = K13 at Y25 HK13 HL13 HN13 ⊢
    generalize w24.alloc (.cells #[.slice xba xbl xbc, .slice xva xvl xvc, .int .i64 xfr, .int .i64 xnum, .slice xla xll xlc] 26) = w25 at M25 A25 B25 D25 Y25 N25 ⊢
    have b3 := Y25.out.cell 3
    simp only [List.getElem?_cons_zero, List.getElem?_cons_succ] at b3
    have f3 := Y25.out.frozen 3
    have hwr : IntKind.i64.wrap (xnum + 1) = xnum + 1 := by rw [IntKind.wrap_i64]; have := HNS.out; omega
    have h13 := HK13.out
    have l13 := HL13.out
    have mS := (Mine.Mod.refl (one K13) w25).setCell ⟨K13, 3, none⟩ (fun _ => rfl) (.int .i64 (xnum + 1))
    have D26 := Lib.hid (D25.out.mod mS (fun e => by have e' : K10 = K13 := e; omega))
    have Y26 := Lib.hid (Y25.out.set 3 (.int .i64 (xnum + 1)))
    have M26 := Lib.hid (M25.out.transIn mS (fun b hb e => by have e' : b = K13 := e; omega))
    have hkn := HN13.out
    have N26 := Lib.hid (N25.out.transIn mS (fun b hb e => by have e' : b = K13 := e; omega))
    clear hkn
    dsimp only [List.set_cons_zero, List.set_cons_succ] at Y26
    obtain ⟨w26, hw8⟩ : ∃ w', w25.setCell ⟨K13, 3, none⟩ (.int .i64 (xnum + 1)) = w' := ⟨_, rfl⟩
    rw [hw8] at D26 Y26 M26 N26
    clear mS h13 l13
    go_upto_region 21 with fail
    clear hw8 b3 f3 hwr
    have f0 : w26.cell? ⟨K10, 0, none⟩ = some (.slice dba xbl dbc) := by rw [D26.out.cell]; rfl
    have f1 : w26.cell? ⟨K10, 1, none⟩ = some (.slice dva xvl dvc) := by rw [D26.out.cell]; rfl
    have f2 : w26.cell? ⟨K10, 2, none⟩ = some (.int .i64 xfr) := by rw [D26.out.cell]; rfl
    have f3 : w26.cell? ⟨K10, 3, none⟩ = some (.int .i64 (xnum + 1)) := by rw [D26.out.cell]; rfl
    have f4 : w26.cell? ⟨K10, 4, none⟩ = some (.slice dla xll dlc) := by rw [D26.out.cell]; rfl
    have g0 : w26.cell? ⟨K13, 0, none⟩ = some (.slice xba xbl xbc) := by rw [Y26.out.cell]; rfl
    have g1 : w26.cell? ⟨K13, 1, none⟩ = some (.slice xva xvl xvc) := by rw [Y26.out.cell]; rfl
    have g2 : w26.cell? ⟨K13, 2, none⟩ = some (.int .i64 xfr) := by rw [Y26.out.cell]; rfl
    have g3 : w26.cell? ⟨K13, 3, none⟩ = some (.int .i64 (xnum + 1)) := by rw [Y26.out.cell]; rfl
    have g4 : w26.cell? ⟨K13, 4, none⟩ = some (.slice xla xll xlc) := by rw [Y26.out.cell]; rfl
    have mD := Mine.Mod.drew (Mine.Mod.refl none_ w26)
    have M27 := Lib.hid (M26.out.trans mD)
    have D27 := Lib.hid (D26.out.mod mD (fun e => e))
    have Y27 := Lib.hid (Y26.out.mod mD (fun e => e))
    have N27 := Lib.hid (N26.out.trans mD)
    clear mD
    refine wp_region_held_drew (S := fun w' => w'.cell? ⟨K10, 0, none⟩ = some (.slice dba xbl dbc) ∧ w'.cell? ⟨K10, 1, none⟩ = some (.slice dva xvl dvc) ∧ w'.cell? ⟨K10, 2, none⟩ = some (.int .i64 xfr) ∧ w'.cell? ⟨K10, 3, none⟩ = some (.int .i64 (xnum + 1)) ∧ w'.cell? ⟨K10, 4, none⟩ = some (.slice dla xll dlc) ∧ w'.cell? ⟨K13, 0, none⟩ = some (.slice xba xbl xbc) ∧ w'.cell? ⟨K13, 1, none⟩ = some (.slice xva xvl xvc) ∧ w'.cell? ⟨K13, 2, none⟩ = some (.int .i64 xfr) ∧ w'.cell? ⟨K13, 3, none⟩ = some (.int .i64 (xnum + 1)) ∧ w'.cell? ⟨K13, 4, none⟩ = some (.slice xla xll xlc)) (by kernel_rfl) ⟨f0, f1, f2, f3, f4, g0, g1, g2, g3, g4⟩ (fun hS => ?_)
    clear f0 f1 f2 f3 f4 g0 g1 g2 g3 g4
    refine wpAnyH_take (i := 0) (v := .int .i64 0) rfl (by kernel_rfl) (by kernel_rfl) (by kernel_rfl) (fun _ _ _ h => h) (Or.inl ⟨by kernel_rfl, ?_⟩) hS ?_
    · rintro w' ⟨q0, q1, q2, q3, q4, q5, q6, q7, q8, q9⟩; go_simp
    try simp only [Act.put, List.setIfInBounds_toArray, List.set_cons_zero, List.set_cons_succ]
    refine wpAnyH_take (i := 1) (v := .bool true) rfl (by kernel_rfl) (by kernel_rfl) (by kernel_rfl) (fun _ _ _ h => h) (Or.inl ⟨by kernel_rfl, ?_⟩) hS ?_
    · rintro w' ⟨q0, q1, q2, q3, q4, q5, q6, q7, q8, q9⟩; go_simp
    try simp only [Act.put, List.setIfInBounds_toArray, List.set_cons_zero, List.set_cons_succ]
    refine wpAnyH_take (i := 2) (v := .bool true) rfl (by kernel_rfl) (by kernel_rfl) (by kernel_rfl) (fun _ _ _ h => h) (Or.inl ⟨by kernel_rfl, ?_⟩) hS ?_
    · rintro w' ⟨q0, q1, q2, q3, q4, q5, q6, q7, q8, q9⟩; go_simp
    try simp only [Act.put, List.setIfInBounds_toArray, List.set_cons_zero, List.set_cons_succ]
    refine wpAnyH_take (i := 3) (v := .agg #[.slice dba xbl dbc, .slice dva xvl dvc, .int .i64 xfr, .int .i64 (xnum + 1), .slice dla xll dlc]) rfl (by kernel_rfl) (by kernel_rfl) (by kernel_rfl) (fun _ _ _ h => h) (Or.inl ⟨by kernel_rfl, ?_⟩) hS ?_
    · rintro w' ⟨q0, q1, q2, q3, q4, q5, q6, q7, q8, q9⟩; go_simp
    try simp only [Act.put, List.setIfInBounds_toArray, List.set_cons_zero, List.set_cons_succ]
    refine wpAnyH_take (i := 5) (v := .agg #[.slice xba xbl xbc, .slice xva xvl xvc, .int .i64 xfr, .int .i64 (xnum + 1), .slice xla xll xlc]) rfl (by kernel_rfl) (by kernel_rfl) (by kernel_rfl) (fun _ _ _ h => h) (Or.inl ⟨by kernel_rfl, ?_⟩) hS ?_
    · rintro w' ⟨q0, q1, q2, q3, q4, q5, q6, q7, q8, q9⟩; go_simp
    try simp only [Act.put, List.setIfInBounds_toArray, List.set_cons_zero, List.set_cons_succ]
    refine wpAnyH_ready (rs := [4]) (by kernel_rfl) (by simp) (AllReadyH.cons rfl (fun J hJ => ?_) <| AllReadyH.nil)
    rw [if_pos (by kernel_rfl)]
    go_simp
    refine (plain_hist _ ⟨dba, xbl, dbc, dva, xvl, dvc, xfr, xnum + 1, dla, xll, dlc⟩).mono ?_
    rintro e w28 ⟨rfl, m28⟩
    try dsimp only [HistV.v]
    have M28 := Lib.hid (M27.out.trans m28)
    have D28 := Lib.hid (D27.out.mod m28 (fun e => e))
    have Y28 := Lib.hid (Y27.out.mod m28 (fun e => e))
    have N28 := Lib.hid (N27.out.trans m28)
    refine hJ.out _ _ ⟨by rw [D28.out.cell]; rfl, by rw [D28.out.cell]; rfl, by rw [D28.out.cell]; rfl, by rw [D28.out.cell]; rfl, by rw [D28.out.cell]; rfl, by rw [Y28.out.cell]; rfl, by rw [Y28.out.cell]; rfl, by rw [Y28.out.cell]; rfl, by rw [Y28.out.cell]; rfl, by rw [Y28.out.cell]; rfl⟩ (fun hS => ?_)
    clear hJ J m28
    try simp only [Act.put, List.setIfInBounds_toArray, List.set_cons_zero, List.set_cons_succ]
    refine wpAnyH_ready (rs := [6]) (by kernel_rfl) (by simp) (AllReadyH.cons rfl (fun J hJ => ?_) <| AllReadyH.nil)
    rw [if_pos (by kernel_rfl)]
    go_simp
    refine (rhsame_any _ ⟨dba, xbl, dbc, dva, xvl, dvc, xfr, xnum + 1, dla, xll, dlc⟩ ⟨xba, xbl, xbc, xva, xvl, xvc, xfr, xnum + 1, xla, xll, xlc⟩ B V E2 E (HD2.out.grown N28.out) ((HI.out.grown M28.out).up (xnum + 1) (by have := HNS.out; omega)) rfl rfl rfl rfl rfl HLD.out.symm).mono ?_
    rintro e w29 ⟨rfl, m29⟩
    try dsimp only [HistV.v]
    have M29 := Lib.hid (M28.out.trans m29)
    have D29 := Lib.hid (D28.out.mod m29 (fun e => e))
    have Y29 := Lib.hid (Y28.out.mod m29 (fun e => e))
    have N29 := Lib.hid (N28.out.trans m29)
    refine hJ.out _ _ ⟨by rw [D29.out.cell]; rfl, by rw [D29.out.cell]; rfl, by rw [D29.out.cell]; rfl, by rw [D29.out.cell]; rfl, by rw [D29.out.cell]; rfl, by rw [Y29.out.cell]; rfl, by rw [Y29.out.cell]; rfl, by rw [Y29.out.cell]; rfl, by rw [Y29.out.cell]; rfl, by rw [Y29.out.cell]; rfl⟩ (fun hS => ?_)
    clear hJ J m29
    try simp only [Act.put, List.setIfInBounds_toArray, List.set_cons_zero, List.set_cons_succ]
    refine wpAnyH_take (i := 7) (v := .bool true) rfl (by kernel_rfl) (by kernel_rfl) (by kernel_rfl) (fun _ _ _ h => h) (Or.inl ⟨by kernel_rfl, ?_⟩) hS ?_
    · rintro w' ⟨q0, q1, q2, q3, q4, q5, q6, q7, q8, q9⟩; go_simp
    try simp only [Act.put, List.setIfInBounds_toArray, List.set_cons_zero, List.set_cons_succ]
    refine wpAnyH_take (i := 8) (v := .bool true) rfl (by kernel_rfl) (by kernel_rfl) (by kernel_rfl) (fun _ _ _ h => h) (Or.inl ⟨by kernel_rfl, ?_⟩) hS ?_
    · rintro w' ⟨q0, q1, q2, q3, q4, q5, q6, q7, q8, q9⟩; go_simp
    try simp only [Act.put, List.setIfInBounds_toArray, List.set_cons_zero, List.set_cons_succ]
    refine wpAnyH_done (by kernel_rfl) ?_ _
    try simp only [List.getElem_toArray, List.getElem_cons_succ, List.getElem_cons_zero]
    try simp only [Act.put, List.setIfInBounds_toArray, List.set_cons_zero, List.set_cons_succ]
    go_wp2_with fail
    go_ret
    exact ⟨rfl, M29.out⟩

end Go.Proofs.YtlidmajcdjlcnaaGreatDoor

namespace Go.Proofs.YtlidmajcdjlcnaaGreatDoor
open Go.ChangeShapes Go.WideShapes Go.ChangeAt Go.RowKit Go.Mine Go.Deep

theorem Tryz.own5 : ownKnob Tryz.prog.godebug = none := by kernel_rfl
theorem Tryz.laidOut5 : laidOutB Tryz.prog = true := by kernel_rfl

theorem accept_eq : (Rows.laid_unicode_utf8_acceptRanges : DataW Unit) = Lib.acceptData := by kernel_rfl
theorem u8types : U8Types Tryz.prog Tryz.lays197_ren := { Tryz.lays197 with }
theorem tabs_of {W : World} (h : laidMetH Tryz.prog [("unicode/utf8.acceptRanges", Rows.laid_unicode_utf8_acceptRanges), ("unicode/utf8.first", Rows.laid_unicode_utf8_first)] W) : tabsOk W := by
  rw [MakeChecks.laidMetH_plain _ _ _ (by kernel_rfl)] at h
  have h4 := Lib.laidMet.reads h (n := "unicode/utf8.acceptRanges") (.head _)
  have h3 := Lib.laidMet.reads h (n := "unicode/utf8.first") (.tail _ (.head _))
  rw [accept_eq] at h4
  have h3' : Lib.VarReads Tryz.prog W "unicode/utf8.first" Lib.firstData := by
    have := h3
    unfold Rows.laid_unicode_utf8_first at this
    rwa [Pinned.utf8First_eq] at this
  exact utf8Tabs_of_readsT u8types ⟨by kernel_rfl, by kernel_rfl, by kernel_rfl, by kernel_rfl, by kernel_rfl, by kernel_rfl, by kernel_rfl⟩ h3' h4
theorem okWide_three {P : Program} {w : World} {r : Reach} {b0 : Nat} {t e : TypeId} {v : Value} (ht : P.underlying t = some (.array 3 e)) (hC : P.cellsOf t = 3) (h : Value.okWide P w r b0 t v) : ∃ c0 c1 c2, v = .agg #[c0, c1, c2] := by
  simp only [Value.okWide, ht] at h
  obtain ⟨cs, rfl, h2, _⟩ := h
  obtain ⟨c0, c1, c2, rfl⟩ := Go.Joins.array3 (h2.trans hC)
  exact ⟨c0, c1, c2, rfl⟩
theorem okWide_two {P : Program} {w : World} {r : Reach} {b0 : Nat} {t e : TypeId} {v : Value} (ht : P.underlying t = some (.array 2 e)) (hC : P.cellsOf t = 2) (h : Value.okWide P w r b0 t v) : ∃ c0 c1, v = .agg #[c0, c1] := by
  simp only [Value.okWide, ht] at h
  obtain ⟨cs, rfl, h2, _⟩ := h
  obtain ⟨l⟩ := cs
  match l, h2.trans hC with
  | [c0, c1], _ => exact ⟨c0, c1, rfl⟩
theorem ints_two {H : Type} {enc : TypeId × Value → H} {P : Program} {w : World} {base : Nat} {sp : Nat → Bool} {held : Bool} {fuel : Nat} {t e : TypeId} {v0 v1 : Value} {x : DataW H × List MemPlace} (ht : P.underlying t = some (.array 2 e)) (he : P.underlying e = some (.int .i64)) (hC : P.cellsOf e = 1) (h : DataW.trod enc P w base sp held fuel t [v0, v1] = some x) :
    ∃ m0 m1 : Int, (-9223372036854775808 ≤ m0 ∧ m0 ≤ 9223372036854775807) ∧ (-9223372036854775808 ≤ m1 ∧ m1 ≤ 9223372036854775807) ∧ v0 = .int .i64 m0 ∧ v1 = .int .i64 m1 := by
  obtain ⟨ys, m, _, _, _, hyl, hg⟩ := DataW.trod_array ht h
  have h0 := hg 0 (by omega)
  have h1 := hg 1 (by omega)
  rw [hC] at h0 h1
  rw [List.getElem?_eq_getElem (by omega)] at h0 h1
  obtain ⟨m0, e0, _, w0⟩ := DataW.trod_int he h0
  obtain ⟨m1, e1, _, w1⟩ := DataW.trod_int he h1
  simp only [Nat.zero_mul, Nat.one_mul, List.drop_zero, List.drop_succ_cons, List.take_succ_cons, List.take_zero, List.cons.injEq, and_true] at e0 e1
  exact ⟨m0, m1, bounds_i64 w0, bounds_i64 w1, e0, e1⟩
theorem okWide_four {P : Program} {w : World} {r : Reach} {b0 : Nat} {t e : TypeId} {v : Value} (ht : P.underlying t = some (.array 4 e)) (hC : P.cellsOf t = 4) (h : Value.okWide P w r b0 t v) : ∃ c0 c1 c2 c3, v = .agg #[c0, c1, c2, c3] := by
  simp only [Value.okWide, ht] at h
  obtain ⟨cs, rfl, h2, _⟩ := h
  obtain ⟨l⟩ := cs
  match l, h2.trans hC with
  | [c0, c1, c2, c3], _ => exact ⟨c0, c1, c2, c3, rfl⟩
theorem ints_four {H : Type} {enc : TypeId × Value → H} {P : Program} {w : World} {base : Nat} {sp : Nat → Bool} {held : Bool} {fuel : Nat} {t e : TypeId} {v0 v1 v2 v3 : Value} {x : DataW H × List MemPlace} (ht : P.underlying t = some (.array 4 e)) (he : P.underlying e = some (.int .i64)) (hC : P.cellsOf e = 1) (h : DataW.trod enc P w base sp held fuel t [v0, v1, v2, v3] = some x) :
    ∃ m0 m1 m2 m3 : Int, (-9223372036854775808 ≤ m0 ∧ m0 ≤ 9223372036854775807) ∧ (-9223372036854775808 ≤ m3 ∧ m3 ≤ 9223372036854775807) ∧ v0 = .int .i64 m0 ∧ v1 = .int .i64 m1 ∧ v2 = .int .i64 m2 ∧ v3 = .int .i64 m3 := by
  obtain ⟨ys, m, _, _, _, hyl, hg⟩ := DataW.trod_array ht h
  have h0 := hg 0 (by omega)
  have h1 := hg 1 (by omega)
  have h2 := hg 2 (by omega)
  have h3 := hg 3 (by omega)
  rw [hC, List.getElem?_eq_getElem (by omega)] at h0 h1 h2 h3
  obtain ⟨m0, e0, _, w0⟩ := DataW.trod_int he h0
  obtain ⟨m1, e1, _, _⟩ := DataW.trod_int he h1
  obtain ⟨m2, e2, _, _⟩ := DataW.trod_int he h2
  obtain ⟨m3, e3, _, w3⟩ := DataW.trod_int he h3
  simp only [Nat.zero_mul, Nat.mul_one, List.drop_zero, List.drop_succ_cons, List.take_succ_cons, List.take_zero, List.cons.injEq, and_true] at e0 e1 e2 e3
  exact ⟨m0, m1, m2, m3, bounds_i64 w0, bounds_i64 w3, e0, e1, e2, e3⟩
end Go.Proofs.YtlidmajcdjlcnaaGreatDoor
