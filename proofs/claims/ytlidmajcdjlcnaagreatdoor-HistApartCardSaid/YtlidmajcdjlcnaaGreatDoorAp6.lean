/-
  Texts on which the claim rests, one behind the other: His29.
-/
import Derived.Test.YtlidmajcdjlcnaaGreatDoorAp5

set_option linter.unusedSimpArgs false
set_option linter.unusedVariables false

namespace Go.Proofs.YtlidmajcdjlcnaaGreatDoor
open Go.RowKit Go.Shelf Go.Mine
open Classical

/-- The blocks from a up to b. -/
def Between (a b : Nat) : Nat → Prop := fun j => a ≤ j ∧ j < b
/-- keep, as it is begun. -/
def KeepSt (w7 : World) (K9 : Nat) (h : HistV) (B : List CellV) (V : List Int) (wx : World) : Prop :=
  ∃ (ba : Option Addr) (bc : Nat) (va : Option Addr) (vc : Nat), Blk wx K9 [.slice ba h.bl bc, .slice va h.vl vc, .int .i64 h.from_, .int .i64 h.num, .slice none 0 0] 26 ∧ Made w7.heap.size wx ⟨ba, h.bl, bc, va, h.vl, vc, h.from_, h.num, none, 0, 0⟩ B V [] ∧ Mine.Mod none_ w7 wx ∧ w7.heap.size ≤ K9
/-- keep, while its list grows. -/
def KeepL (w7 : World) (K9 : Nat) (ba : Option Addr) (bl bc : Nat) (va : Option Addr) (vl vc : Nat) (fr nu : Int) (B : List CellV) (V : List Int) (E : List EntV) (k : Nat) (wx : World) : Prop :=
  ∃ (ka : Option Addr) (kc : Nat) (Q : List EntV), Blk wx K9 [.slice ba bl bc, .slice va vl vc, .int .i64 fr, .int .i64 nu, .slice ka k kc] 26 ∧ likeE (E.take k) Q ∧ Made w7.heap.size wx ⟨ba, bl, bc, va, vl, vc, fr, nu, ka, k, kc⟩ B V Q
theorem between_low {w w' : World} {a b : Nat} (m : Mine.Mod (Between a b) w w') {S : Nat → Prop} {w0 : World} (h : Mine.Mod S w0 w) (ha : w0.heap.size ≤ a) : Mine.Mod S w0 w' := h.transIn m (fun j hj e => absurd hj (by have := e.1; omega))

set_option maxHeartbeats 4000000 in
set_option maxRecDepth 1000000 in
theorem histApart_any (w : World) (h : HistV) (B : List CellV) (V : List Int) (E : List EntV) (h0 : HistIs0 w h B V E) (x : EntV) (hx : x.o.ok0 w x.sp ∧ x.ed.ok0 w) :
    Calls Tryz.prog 3 #[h.v, x.v] w fun e w' => e = .returned (.bool true) ∧ Mine.Mod none_ w w' := by
  have HG := Lib.hid (fun W (m : Mine.Mod none_ w W) => rgreatH_any W h E (h0.e.grown m))
  have HGO := Lib.hid (fun W (m : Mine.Mod none_ w W) => great_op x.o W x.sp (hx.1.grown m))
  have HOF := Lib.hid (fun W => of_hist W h)
  obtain ⟨G, hG⟩ : ∃ G, G = bigHist h E := ⟨_, rfl⟩
  rw [← hG] at HG
  have HSM := Lib.hid (fun (e : G = false) => h0.small (hG ▸ e))
  obtain ⟨Bo, hBo⟩ : ∃ Bo, Bo = bigOp x.o := ⟨_, rfl⟩
  rw [← hBo] at HGO
  have hsz := hx.2.sz
  unfold maxLen at hsz
  have HXO := Lib.hid (fun (e : Bo = false) (e2 : decide (1000 < (x.ed.text.size : Int)) = false) => show (x.o.ok w x.sp ∧ x.ed.ok w) ∧ x.o.slen ≤ 40 from by
    rw [hBo] at e
    unfold bigOp at e
    simp only [Bool.or_eq_false_iff, decide_eq_false_iff_not] at e e2
    exact ⟨⟨hx.1.ok (by omega), hx.2.ok (by omega)⟩, by omega⟩)
  obtain ⟨R, hR⟩ : ∃ R, R = addE h B V E x := ⟨_, rfl⟩
  have HR := Lib.hid hR
  obtain ⟨R1, hR1⟩ : ∃ R1, R1 = histOk h B V E := ⟨_, rfl⟩
  have HR1 := Lib.hid hR1
  clear hG h0 hx hBo hR hR1
  obtain ⟨xba, xbl, xbc, xva, xvl, xvc, xfr, xnum, xla, xll, xlc⟩ := h
  obtain ⟨W0, hW0⟩ : ∃ W0, (w.alloc (.cells #[.slice xba xbl xbc, .slice xva xvl xvc, .int .i64 xfr, .int .i64 xnum, .slice xla xll xlc] 26)).alloc (.cells #[.int .i64 x.o.site, .int .i64 x.o.seq, .int .i64 x.o.num, .int .i64 x.o.kind, .int .i64 x.o.at_, .string x.o.text, .slice x.o.sa x.o.slen x.o.scap, .int .i64 x.ed.site, .int .i64 x.ed.seq, .int .i64 x.ed.ctx, .int .i64 x.ed.kind, .int .i64 x.ed.at_, .int .i64 x.ed.len, .string x.ed.text] 35) = W0 := ⟨_, rfl⟩
  have m0 : Mine.Mod none_ w W0 := by rw [← hW0]; exact ((Mine.Mod.refl none_ w).alloc _).alloc _
  have k0 : Blk W0 (w.heap.size) [.slice xba xbl xbc, .slice xva xvl xvc, .int .i64 xfr, .int .i64 xnum, .slice xla xll xlc] 26 := by
    have hb := Blk.new (w := w) (cs := [.slice xba xbl xbc, .slice xva xvl xvc, .int .i64 xfr, .int .i64 xnum, .slice xla xll xlc]) (t := 26)
    rw [← hW0]
    exact hb.mod ((Mine.Mod.refl none_ _).alloc _) (fun e => e)
  have k1 : Blk W0 (w.heap.size + 1) [.int .i64 x.o.site, .int .i64 x.o.seq, .int .i64 x.o.num, .int .i64 x.o.kind, .int .i64 x.o.at_, .string x.o.text, .slice x.o.sa x.o.slen x.o.scap, .int .i64 x.ed.site, .int .i64 x.ed.seq, .int .i64 x.ed.ctx, .int .i64 x.ed.kind, .int .i64 x.ed.at_, .int .i64 x.ed.len, .string x.ed.text] 35 := by
    have hb := Blk.new (w := (w.alloc (.cells #[.slice xba xbl xbc, .slice xva xvl xvc, .int .i64 xfr, .int .i64 xnum, .slice xla xll xlc] 26))) (cs := [.int .i64 x.o.site, .int .i64 x.o.seq, .int .i64 x.o.num, .int .i64 x.o.kind, .int .i64 x.o.at_, .string x.o.text, .slice x.o.sa x.o.slen x.o.scap, .int .i64 x.ed.site, .int .i64 x.ed.seq, .int .i64 x.ed.ctx, .int .i64 x.ed.kind, .int .i64 x.ed.at_, .int .i64 x.ed.len, .string x.ed.text]) (t := 35)
    simp only [World.size_alloc] at hb
    rw [← hW0]
    exact hb.mod (Mine.Mod.refl none_ _) (fun e => e)
  have hs0 : W0.heap.size = w.heap.size + 1 + 1 := by rw [← hW0]; simp only [World.size_alloc]
  have M0 := Lib.hid m0
  have A0 := Lib.hid k0
  have B0 := Lib.hid k1
  have HAL := Lib.hid (alive_any W0)
  clear m0 k0 k1 hs0
  go_enter Tryz.func3, Tryz.ntmps3
  go_upto_region 1 with fail
  clear hW0
  go_wp2_with fail
  refine HAL.out.mono ?_
  rintro e w1 ⟨rfl, m1⟩
  have M1 := Lib.hid (M0.out.trans m1)
  have A1 := Lib.hid (A0.out.mod m1 (fun e => e))
  have B1 := Lib.hid (B0.out.mod m1 (fun e => e))
  have HM := Lib.hid (HG.out w1 M1.out)
  have a0 := A1.out.cell 0
  have a1 := A1.out.cell 1
  have a2 := A1.out.cell 2
  have a3 := A1.out.cell 3
  have a4 := A1.out.cell 4
  simp only [List.getElem?_cons_zero, List.getElem?_cons_succ] at a0 a1 a2 a3 a4
  clear m1 HAL HG
  go_wp2_with fail
  refine HM.out.mono ?_
  rintro e w2 ⟨rfl, m2⟩
  have M2 := Lib.hid (M1.out.trans m2)
  have A2 := Lib.hid (A1.out.mod m2 (fun e => e))
  have B2 := Lib.hid (B1.out.mod m2 (fun e => e))
  clear m2 a0 a1 a2 a3 a4 HM
  cases G
  case true =>
    go_wp2_with fail
    go_ret
    exact ⟨rfl, M2.out⟩
  have HM := Lib.hid (HGO.out w2 M2.out)
  have b0 := B2.out.cell 0
  have b1 := B2.out.cell 1
  have b2 := B2.out.cell 2
  have b3 := B2.out.cell 3
  have b4 := B2.out.cell 4
  have b5 := B2.out.cell 5
  have b6 := B2.out.cell 6
  have b7 := B2.out.cell 7
  have b8 := B2.out.cell 8
  have b9 := B2.out.cell 9
  have b10 := B2.out.cell 10
  have b11 := B2.out.cell 11
  have b12 := B2.out.cell 12
  have b13 := B2.out.cell 13
  simp only [List.getElem?_cons_zero, List.getElem?_cons_succ] at b0 b1 b2 b3 b4 b5 b6 b7 b8 b9 b10 b11 b12 b13
  clear HGO
  go_wp2_with fail
  refine HM.out.mono ?_
  rintro e w4 ⟨rfl, m4⟩
  have M4 := Lib.hid (M2.out.trans m4)
  have A4 := Lib.hid (A2.out.mod m4 (fun e => e))
  have B4 := Lib.hid (B2.out.mod m4 (fun e => e))
  clear m4 b0 b1 b2 b3 b4 b5 b6 b7 b8 b9 b10 b11 b12 b13 HM
  cases Bo
  case true =>
    go_wp2_with fail
    go_ret
    exact ⟨rfl, M4.out⟩
  have b13 := B4.out.cell 13
  simp only [List.getElem?_cons_zero, List.getElem?_cons_succ] at b13
  cases hb13 : decide (1000 < (x.ed.text.size : Int))
  case true =>
    go_wp2_with fail
    go_ret
    exact ⟨rfl, M4.out⟩
  have HS := Lib.hid (HSM.out (by first | rfl | trivial))
  have hbl := HS.out.2.1
  have hvl := HS.out.2.2.1
  have hll := HS.out.2.2.2.1
  have HI := Lib.hid HS.out.1
  have HXX := Lib.hid (HXO.out (by first | rfl | trivial) hb13).1
  have HXL := Lib.hid (HXO.out (by first | rfl | trivial) hb13).2
  go_upto_region 5 with fail
  clear b13 hb13 HSM HXO
  have HADD := Lib.hid (fun W (m : Mine.Mod none_ w W) => add_any W ⟨xba, xbl, xbc, xva, xvl, xvc, xfr, xnum, xla, xll, xlc⟩ x B V E (HI.out.grown m) ⟨HXX.out.1.grown m, HXX.out.2.grown m⟩ (by dsimp only; omega) (by dsimp only; omega) (fun y hy => Nat.le_trans (HS.out.2.2.2.2 y hy) (by decide)) (Nat.le_trans HXL.out (by decide)))
  go_cut [5, 6] from 33 to 39 (fun s5 s6 wx => ∃ K5, s5 = .pointer (some ⟨K5, 0, none⟩) ∧ s6 = .int .i64 R ∧ RowKit.Hid (AddSt w (w.heap.size + 1 + 1) K5 R ⟨xba, xbl, xbc, xva, xvl, xvc, xfr, xnum, xla, xll, xlc⟩ B V E x wx ∧ Blk wx w.heap.size [.slice xba xbl xbc, .slice xva xvl xvc, .int .i64 xfr, .int .i64 xnum, .slice xla xll xlc] 26 ∧ Blk wx (w.heap.size + 1) [.int .i64 x.o.site, .int .i64 x.o.seq, .int .i64 x.o.num, .int .i64 x.o.kind, .int .i64 x.o.at_, .string x.o.text, .slice x.o.sa x.o.slen x.o.scap, .int .i64 x.ed.site, .int .i64 x.ed.seq, .int .i64 x.ed.ctx, .int .i64 x.ed.kind, .int .i64 x.ed.at_, .int .i64 x.ed.len, .string x.ed.text] 35 ∧ w.heap.size + 1 + 1 ≤ K5))
  case first =>
    have mD := Mine.Mod.drew (Mine.Mod.refl none_ w4)
    have M5 := Lib.hid (M4.out.trans mD)
    have A5 := Lib.hid (A4.out.mod mD (fun e => e))
    have B5 := Lib.hid (B4.out.mod mD (fun e => e))
    clear mD
    have f0 : w4.cell? ⟨w.heap.size, 0, none⟩ = some (.slice xba xbl xbc) := by rw [A4.out.cell]; rfl
    have f1 : w4.cell? ⟨w.heap.size, 1, none⟩ = some (.slice xva xvl xvc) := by rw [A4.out.cell]; rfl
    have f2 : w4.cell? ⟨w.heap.size, 2, none⟩ = some (.int .i64 xfr) := by rw [A4.out.cell]; rfl
    have f3 : w4.cell? ⟨w.heap.size, 3, none⟩ = some (.int .i64 xnum) := by rw [A4.out.cell]; rfl
    have f4 : w4.cell? ⟨w.heap.size, 4, none⟩ = some (.slice xla xll xlc) := by rw [A4.out.cell]; rfl
    have g0 : w4.cell? ⟨w.heap.size + 1, 0, none⟩ = some (.int .i64 x.o.site) := by rw [B4.out.cell]; rfl
    have g1 : w4.cell? ⟨w.heap.size + 1, 1, none⟩ = some (.int .i64 x.o.seq) := by rw [B4.out.cell]; rfl
    have g2 : w4.cell? ⟨w.heap.size + 1, 2, none⟩ = some (.int .i64 x.o.num) := by rw [B4.out.cell]; rfl
    have g3 : w4.cell? ⟨w.heap.size + 1, 3, none⟩ = some (.int .i64 x.o.kind) := by rw [B4.out.cell]; rfl
    have g4 : w4.cell? ⟨w.heap.size + 1, 4, none⟩ = some (.int .i64 x.o.at_) := by rw [B4.out.cell]; rfl
    have g5 : w4.cell? ⟨w.heap.size + 1, 5, none⟩ = some (.string x.o.text) := by rw [B4.out.cell]; rfl
    have g6 : w4.cell? ⟨w.heap.size + 1, 6, none⟩ = some (.slice x.o.sa x.o.slen x.o.scap) := by rw [B4.out.cell]; rfl
    have g7 : w4.cell? ⟨w.heap.size + 1, 7, none⟩ = some (.int .i64 x.ed.site) := by rw [B4.out.cell]; rfl
    have g8 : w4.cell? ⟨w.heap.size + 1, 8, none⟩ = some (.int .i64 x.ed.seq) := by rw [B4.out.cell]; rfl
    have g9 : w4.cell? ⟨w.heap.size + 1, 9, none⟩ = some (.int .i64 x.ed.ctx) := by rw [B4.out.cell]; rfl
    have g10 : w4.cell? ⟨w.heap.size + 1, 10, none⟩ = some (.int .i64 x.ed.kind) := by rw [B4.out.cell]; rfl
    have g11 : w4.cell? ⟨w.heap.size + 1, 11, none⟩ = some (.int .i64 x.ed.at_) := by rw [B4.out.cell]; rfl
    have g12 : w4.cell? ⟨w.heap.size + 1, 12, none⟩ = some (.int .i64 x.ed.len) := by rw [B4.out.cell]; rfl
    have g13 : w4.cell? ⟨w.heap.size + 1, 13, none⟩ = some (.string x.ed.text) := by rw [B4.out.cell]; rfl
    refine wp_region_held_drew (S := fun w' => w'.cell? ⟨w.heap.size, 0, none⟩ = some (.slice xba xbl xbc) ∧ w'.cell? ⟨w.heap.size, 1, none⟩ = some (.slice xva xvl xvc) ∧ w'.cell? ⟨w.heap.size, 2, none⟩ = some (.int .i64 xfr) ∧ w'.cell? ⟨w.heap.size, 3, none⟩ = some (.int .i64 xnum) ∧ w'.cell? ⟨w.heap.size, 4, none⟩ = some (.slice xla xll xlc) ∧ w'.cell? ⟨w.heap.size + 1, 0, none⟩ = some (.int .i64 x.o.site) ∧ w'.cell? ⟨w.heap.size + 1, 1, none⟩ = some (.int .i64 x.o.seq) ∧ w'.cell? ⟨w.heap.size + 1, 2, none⟩ = some (.int .i64 x.o.num) ∧ w'.cell? ⟨w.heap.size + 1, 3, none⟩ = some (.int .i64 x.o.kind) ∧ w'.cell? ⟨w.heap.size + 1, 4, none⟩ = some (.int .i64 x.o.at_) ∧ w'.cell? ⟨w.heap.size + 1, 5, none⟩ = some (.string x.o.text) ∧ w'.cell? ⟨w.heap.size + 1, 6, none⟩ = some (.slice x.o.sa x.o.slen x.o.scap) ∧ w'.cell? ⟨w.heap.size + 1, 7, none⟩ = some (.int .i64 x.ed.site) ∧ w'.cell? ⟨w.heap.size + 1, 8, none⟩ = some (.int .i64 x.ed.seq) ∧ w'.cell? ⟨w.heap.size + 1, 9, none⟩ = some (.int .i64 x.ed.ctx) ∧ w'.cell? ⟨w.heap.size + 1, 10, none⟩ = some (.int .i64 x.ed.kind) ∧ w'.cell? ⟨w.heap.size + 1, 11, none⟩ = some (.int .i64 x.ed.at_) ∧ w'.cell? ⟨w.heap.size + 1, 12, none⟩ = some (.int .i64 x.ed.len) ∧ w'.cell? ⟨w.heap.size + 1, 13, none⟩ = some (.string x.ed.text)) (by kernel_rfl) ⟨f0, f1, f2, f3, f4, g0, g1, g2, g3, g4, g5, g6, g7, g8, g9, g10, g11, g12, g13⟩ (fun hS => ?_)
    clear f0 f1 f2 f3 f4 g0 g1 g2 g3 g4 g5 g6 g7 g8 g9 g10 g11 g12 g13
    generalize w4.drew = wd at M5 A5 B5 hS ⊢
    refine wpAnyH_take (i := 0) (v := .agg #[.slice xba xbl xbc, .slice xva xvl xvc, .int .i64 xfr, .int .i64 xnum, .slice xla xll xlc]) rfl (by kernel_rfl) (by kernel_rfl) (by kernel_rfl) (fun _ _ _ h => h) (Or.inl ⟨by kernel_rfl, ?_⟩) hS ?_
    · rintro w' ⟨q0, q1, q2, q3, q4, q5, q6, q7, q8, q9, q10, q11, q12, q13, q14, q15, q16, q17, q18⟩; go_simp
    try simp only [Act.put, List.setIfInBounds_toArray, List.set_cons_zero, List.set_cons_succ]
    refine wpAnyH_take (i := 2) (v := .agg #[.int .i64 x.o.site, .int .i64 x.o.seq, .int .i64 x.o.num, .int .i64 x.o.kind, .int .i64 x.o.at_, .string x.o.text, .slice x.o.sa x.o.slen x.o.scap, .int .i64 x.ed.site, .int .i64 x.ed.seq, .int .i64 x.ed.ctx, .int .i64 x.ed.kind, .int .i64 x.ed.at_, .int .i64 x.ed.len, .string x.ed.text]) rfl (by kernel_rfl) (by kernel_rfl) (by kernel_rfl) (fun _ _ _ h => h) (Or.inl ⟨by kernel_rfl, ?_⟩) hS ?_
    · rintro w' ⟨q0, q1, q2, q3, q4, q5, q6, q7, q8, q9, q10, q11, q12, q13, q14, q15, q16, q17, q18⟩; go_simp
    try simp only [Act.put, List.setIfInBounds_toArray, List.set_cons_zero, List.set_cons_succ]
    refine wpAnyH_ready (rs := [1, 7]) (by kernel_rfl) (by simp) (AllReadyH.cons rfl (fun J hJ => ?_) <| AllReadyH.cons rfl (fun J hJ => ?_) <| AllReadyH.nil)
    · go_simp
      refine (HOF.out _).mono ?_
      rintro e w6 ⟨rfl, mq⟩
      have M6 := Lib.hid (M5.out.trans mq)
      have A6 := Lib.hid (A5.out.mod mq (fun e => e))
      have B6 := Lib.hid (B5.out.mod mq (fun e => e))
      refine hJ.out _ _ ⟨by rw [A6.out.cell]; rfl, by rw [A6.out.cell]; rfl, by rw [A6.out.cell]; rfl, by rw [A6.out.cell]; rfl, by rw [A6.out.cell]; rfl, by rw [B6.out.cell]; rfl, by rw [B6.out.cell]; rfl, by rw [B6.out.cell]; rfl, by rw [B6.out.cell]; rfl, by rw [B6.out.cell]; rfl, by rw [B6.out.cell]; rfl, by rw [B6.out.cell]; rfl, by rw [B6.out.cell]; rfl, by rw [B6.out.cell]; rfl, by rw [B6.out.cell]; rfl, by rw [B6.out.cell]; rfl, by rw [B6.out.cell]; rfl, by rw [B6.out.cell]; rfl, by rw [B6.out.cell]; rfl⟩ (fun hS => ?_)
      clear hJ J mq
      try simp only [Act.put, List.setIfInBounds_toArray, List.set_cons_zero, List.set_cons_succ]
      refine wpAnyH_ready (rs := [3, 7]) (by kernel_rfl) (by simp) (AllReadyH.cons rfl (fun J hJ => ?_) <| AllReadyH.cons rfl (fun J hJ => ?_) <| AllReadyH.nil)
      · go_simp
        refine (HADD.out _ M6.out).mono ?_
        rintro e w7 ha
        rw [← HR.out] at ha
        obtain ⟨⟨gba, gbl, gbc, gva, gvl, gvc, gfr, gnu, gla, gll, glc⟩, BB, VV, EE, rfl, ga1, ga2, mq⟩ := AddTo.open_ (w := w) ha
        have HB0 := Lib.hid (show w.heap.size + 1 + 1 ≤ w6.heap.size from B6.out.lt)
        have P7 := Lib.hid (show AddP _ R ⟨xba, xbl, xbc, xva, xvl, xvc, xfr, xnum, xla, xll, xlc⟩ B V E x ⟨gba, gbl, gbc, gva, gvl, gvc, gfr, gnu, gla, gll, glc⟩ BB VV EE w7 from ⟨ga1, ga2⟩)
        have M7 := Lib.hid (M6.out.trans mq)
        have A7 := Lib.hid (A6.out.mod mq (fun e => e))
        have B7 := Lib.hid (B6.out.mod mq (fun e => e))
        refine hJ.out _ _ ⟨by rw [A7.out.cell]; rfl, by rw [A7.out.cell]; rfl, by rw [A7.out.cell]; rfl, by rw [A7.out.cell]; rfl, by rw [A7.out.cell]; rfl, by rw [B7.out.cell]; rfl, by rw [B7.out.cell]; rfl, by rw [B7.out.cell]; rfl, by rw [B7.out.cell]; rfl, by rw [B7.out.cell]; rfl, by rw [B7.out.cell]; rfl, by rw [B7.out.cell]; rfl, by rw [B7.out.cell]; rfl, by rw [B7.out.cell]; rfl, by rw [B7.out.cell]; rfl, by rw [B7.out.cell]; rfl, by rw [B7.out.cell]; rfl, by rw [B7.out.cell]; rfl, by rw [B7.out.cell]; rfl⟩ (fun hS => ?_)
        clear hJ J mq ga1 ga2 ha
        try simp only [Act.put, List.setIfInBounds_toArray, List.set_cons_zero, List.set_cons_succ]
        try dsimp only [HistV.v]
        refine wpAnyH_take (i := 4) (v := .tuple #[.agg #[.slice gba gbl gbc, .slice gva gvl gvc, .int .i64 gfr, .int .i64 gnu, .slice gla gll glc], .int .i64 R]) rfl (by kernel_rfl) (by kernel_rfl) (by kernel_rfl) (fun _ _ _ h => h) (Or.inl ⟨by kernel_rfl, ?_⟩) hS ?_
        · rintro w' ⟨q0, q1, q2, q3, q4, q5, q6, q7, q8, q9, q10, q11, q12, q13, q14, q15, q16, q17, q18⟩; go_simp
        try simp only [Act.put, List.setIfInBounds_toArray, List.set_cons_zero, List.set_cons_succ]
        refine wpAnyH_take (i := 5) (v := .agg #[.slice gba gbl gbc, .slice gva gvl gvc, .int .i64 gfr, .int .i64 gnu, .slice gla gll glc]) rfl (by kernel_rfl) (by kernel_rfl) (by kernel_rfl) (fun _ _ _ h => h) (Or.inl ⟨by kernel_rfl, ?_⟩) hS ?_
        · rintro w' ⟨q0, q1, q2, q3, q4, q5, q6, q7, q8, q9, q10, q11, q12, q13, q14, q15, q16, q17, q18⟩; go_simp
        try simp only [Act.put, List.setIfInBounds_toArray, List.set_cons_zero, List.set_cons_succ]
        refine wpAnyH_take (i := 6) (v := .int .i64 R) rfl (by kernel_rfl) (by kernel_rfl) (by kernel_rfl) (fun _ _ _ h => h) (Or.inl ⟨by kernel_rfl, ?_⟩) hS ?_
        · rintro w' ⟨q0, q1, q2, q3, q4, q5, q6, q7, q8, q9, q10, q11, q12, q13, q14, q15, q16, q17, q18⟩; go_simp
        try simp only [Act.put, List.setIfInBounds_toArray, List.set_cons_zero, List.set_cons_succ]
        refine wpAnyH_ready (rs := [7]) (by kernel_rfl) (by simp) (AllReadyH.cons rfl (fun J hJ => ?_) <| AllReadyH.nil)
        have mA : Mine.Mod none_ w7 (w7.alloc (.cells #[.slice none 0 0, .slice none 0 0, .int .i64 0, .int .i64 0, .slice none 0 0] 39)) := (Mine.Mod.refl none_ _).alloc _
        have Z8 := Lib.hid (Blk.new (w := w7) (cs := [.slice none 0 0, .slice none 0 0, .int .i64 0, .int .i64 0, .slice none 0 0]) (t := 39))
        have HK := Lib.hid (show w.heap.size + 1 + 1 ≤ w7.heap.size from B7.out.lt)
        have M8 := Lib.hid (M7.out.trans mA)
        have A8 := Lib.hid (A7.out.mod mA (fun e => e))
        have B8 := Lib.hid (B7.out.mod mA (fun e => e))
        have P8 := Lib.hid (P7.out.mod mA (fun _ e => e.elim))
        clear mA
        go_simp
        refine hJ.out _ _ ⟨by rw [A8.out.cell]; rfl, by rw [A8.out.cell]; rfl, by rw [A8.out.cell]; rfl, by rw [A8.out.cell]; rfl, by rw [A8.out.cell]; rfl, by rw [B8.out.cell]; rfl, by rw [B8.out.cell]; rfl, by rw [B8.out.cell]; rfl, by rw [B8.out.cell]; rfl, by rw [B8.out.cell]; rfl, by rw [B8.out.cell]; rfl, by rw [B8.out.cell]; rfl, by rw [B8.out.cell]; rfl, by rw [B8.out.cell]; rfl, by rw [B8.out.cell]; rfl, by rw [B8.out.cell]; rfl, by rw [B8.out.cell]; rfl, by rw [B8.out.cell]; rfl, by rw [B8.out.cell]; rfl⟩ (fun hS => ?_)
        clear hJ J
        try simp only [Act.put, List.setIfInBounds_toArray, List.set_cons_zero, List.set_cons_succ]
        generalize w7.alloc (.cells #[.slice none 0 0, .slice none 0 0, .int .i64 0, .int .i64 0, .slice none 0 0] 39) = wa at M8 A8 B8 Z8 P8 hS ⊢
        generalize w7.heap.size = K5 at Z8 HK ⊢
        have d0 := Z8.out.cell 0
        have d1 := Z8.out.cell 1
        have d2 := Z8.out.cell 2
        have d3 := Z8.out.cell 3
        have d4 := Z8.out.cell 4
        simp only [List.getElem?_cons_zero, List.getElem?_cons_succ] at d0 d1 d2 d3 d4
        have r0 := Z8.out.frozen 0
        have r1 := Z8.out.frozen 1
        have r2 := Z8.out.frozen 2
        have r3 := Z8.out.frozen 3
        have r4 := Z8.out.frozen 4
        have KF := Lib.hid (((((Z8.out.set 0 (.slice gba gbl gbc)).set 1 (.slice gva gvl gvc)).set 2 (.int .i64 gfr)).set 3 (.int .i64 gnu)).set 4 (.slice gla gll glc))
        have mT := ((((((Mine.Mod.refl (one K5) wa).setCell ⟨K5, 0, none⟩ (fun _ => rfl) (.slice gba gbl gbc)).setCell ⟨K5, 1, none⟩ (fun _ => rfl) (.slice gva gvl gvc)).setCell ⟨K5, 2, none⟩ (fun _ => rfl) (.int .i64 gfr)).setCell ⟨K5, 3, none⟩ (fun _ => rfl) (.int .i64 gnu)).setCell ⟨K5, 4, none⟩ (fun _ => rfl) (.slice gla gll glc))
        have hK5 : w.heap.size + 1 + 1 ≤ K5 := HK.out
        have AF := Lib.hid (A8.out.mod mT (fun e => by have e' : w.heap.size = K5 := e; omega))
        have BF := Lib.hid (B8.out.mod mT (fun e => by have e' : w.heap.size + 1 = K5 := e; omega))
        have HF := Lib.hid (show AddSt w _ K5 R ⟨xba, xbl, xbc, xva, xvl, xvc, xfr, xnum, xla, xll, xlc⟩ B V E x _ from ⟨⟨gba, gbl, gbc, gva, gvl, gvc, gfr, gnu, gla, gll, glc⟩, BB, VV, EE, KF.out, P8.out.1, (P8.out.mod mT (fun j e => by have e' : j = K5 := e; subst e'; exact ⟨_, Or.inl Z8.out⟩)).2, M8.out.transIn mT (fun b hb e => by have e' : b = K5 := e; omega)⟩)
        clear mT
        refine wpAnyH_ready (rs := [8]) (by kernel_rfl) (by simp) (AllReadyH.cons rfl (fun J hJ => ?_) <| AllReadyH.nil)
        go_simp
        refine hJ.out _ _ ⟨by rw [AF.out.cell]; rfl, by rw [AF.out.cell]; rfl, by rw [AF.out.cell]; rfl, by rw [AF.out.cell]; rfl, by rw [AF.out.cell]; rfl, by rw [BF.out.cell]; rfl, by rw [BF.out.cell]; rfl, by rw [BF.out.cell]; rfl, by rw [BF.out.cell]; rfl, by rw [BF.out.cell]; rfl, by rw [BF.out.cell]; rfl, by rw [BF.out.cell]; rfl, by rw [BF.out.cell]; rfl, by rw [BF.out.cell]; rfl, by rw [BF.out.cell]; rfl, by rw [BF.out.cell]; rfl, by rw [BF.out.cell]; rfl, by rw [BF.out.cell]; rfl, by rw [BF.out.cell]; rfl⟩ (fun hS => ?_)
        clear hJ J
        try simp only [Act.put, List.setIfInBounds_toArray, List.set_cons_zero, List.set_cons_succ]
        refine wpAnyH_take (i := 9) (v := .int .i64 R) rfl (by kernel_rfl) (by kernel_rfl) (by kernel_rfl) (fun _ _ _ h => h) (Or.inl ⟨by kernel_rfl, ?_⟩) hS ?_
        · rintro w' ⟨q0, q1, q2, q3, q4, q5, q6, q7, q8, q9, q10, q11, q12, q13, q14, q15, q16, q17, q18⟩; go_simp
        try simp only [Act.put, List.setIfInBounds_toArray, List.set_cons_zero, List.set_cons_succ]
        refine wpAnyH_done (by kernel_rfl) ?_ _
        try simp only [List.getElem_toArray, List.getElem_cons_succ, List.getElem_cons_zero]
        try simp only [Act.put, List.setIfInBounds_toArray, List.set_cons_zero, List.set_cons_succ]
        clear d0 d1 d2 d3 d4 r0 r1 r2 r3 r4
        go_wp2_with fail
        go_meet
        exact ⟨K5, rfl, rfl, Lib.hid ⟨HF.out.low (by exact HB0.out), AF.out, BF.out, hK5⟩⟩
      · have mA : Mine.Mod none_ w6 (w6.alloc (.cells #[.slice none 0 0, .slice none 0 0, .int .i64 0, .int .i64 0, .slice none 0 0] 39)) := (Mine.Mod.refl none_ _).alloc _
        have Z7 := Lib.hid (Blk.new (w := w6) (cs := [.slice none 0 0, .slice none 0 0, .int .i64 0, .int .i64 0, .slice none 0 0]) (t := 39))
        have HK := Lib.hid (show w.heap.size + 1 + 1 ≤ w6.heap.size from B6.out.lt)
        have M7 := Lib.hid (M6.out.trans mA)
        have A7 := Lib.hid (A6.out.mod mA (fun e => e))
        have B7 := Lib.hid (B6.out.mod mA (fun e => e))
        clear mA
        go_simp
        refine hJ.out _ _ ⟨by rw [A7.out.cell]; rfl, by rw [A7.out.cell]; rfl, by rw [A7.out.cell]; rfl, by rw [A7.out.cell]; rfl, by rw [A7.out.cell]; rfl, by rw [B7.out.cell]; rfl, by rw [B7.out.cell]; rfl, by rw [B7.out.cell]; rfl, by rw [B7.out.cell]; rfl, by rw [B7.out.cell]; rfl, by rw [B7.out.cell]; rfl, by rw [B7.out.cell]; rfl, by rw [B7.out.cell]; rfl, by rw [B7.out.cell]; rfl, by rw [B7.out.cell]; rfl, by rw [B7.out.cell]; rfl, by rw [B7.out.cell]; rfl, by rw [B7.out.cell]; rfl, by rw [B7.out.cell]; rfl⟩ (fun hS => ?_)
        clear hJ J
        try simp only [Act.put, List.setIfInBounds_toArray, List.set_cons_zero, List.set_cons_succ]
        generalize w6.alloc (.cells #[.slice none 0 0, .slice none 0 0, .int .i64 0, .int .i64 0, .slice none 0 0] 39) = wa at M7 A7 B7 Z7 hS ⊢
        generalize w6.heap.size = K5 at Z7 HK ⊢
        refine wpAnyH_ready (rs := [3]) (by kernel_rfl) (by simp) (AllReadyH.cons rfl (fun J hJ => ?_) <| AllReadyH.nil)
        go_simp
        refine (HADD.out _ M7.out).mono ?_
        rintro e w8 ha
        rw [← HR.out] at ha
        obtain ⟨⟨gba, gbl, gbc, gva, gvl, gvc, gfr, gnu, gla, gll, glc⟩, BB, VV, EE, rfl, ga1, ga2, mq⟩ := AddTo.open_ (w := w) ha
        have HB0 := Lib.hid (show w.heap.size + 1 + 1 ≤ wa.heap.size from B7.out.lt)
        have P8 := Lib.hid (show AddP _ R ⟨xba, xbl, xbc, xva, xvl, xvc, xfr, xnum, xla, xll, xlc⟩ B V E x ⟨gba, gbl, gbc, gva, gvl, gvc, gfr, gnu, gla, gll, glc⟩ BB VV EE w8 from ⟨ga1, ga2⟩)
        have M8 := Lib.hid (M7.out.trans mq)
        have A8 := Lib.hid (A7.out.mod mq (fun e => e))
        have B8 := Lib.hid (B7.out.mod mq (fun e => e))
        have Z8 := Lib.hid (Z7.out.mod mq (fun e => e))
        refine hJ.out _ _ ⟨by rw [A8.out.cell]; rfl, by rw [A8.out.cell]; rfl, by rw [A8.out.cell]; rfl, by rw [A8.out.cell]; rfl, by rw [A8.out.cell]; rfl, by rw [B8.out.cell]; rfl, by rw [B8.out.cell]; rfl, by rw [B8.out.cell]; rfl, by rw [B8.out.cell]; rfl, by rw [B8.out.cell]; rfl, by rw [B8.out.cell]; rfl, by rw [B8.out.cell]; rfl, by rw [B8.out.cell]; rfl, by rw [B8.out.cell]; rfl, by rw [B8.out.cell]; rfl, by rw [B8.out.cell]; rfl, by rw [B8.out.cell]; rfl, by rw [B8.out.cell]; rfl, by rw [B8.out.cell]; rfl⟩ (fun hS => ?_)
        clear hJ J mq ga1 ga2 ha
        try simp only [Act.put, List.setIfInBounds_toArray, List.set_cons_zero, List.set_cons_succ]
        try dsimp only [HistV.v]
        refine wpAnyH_take (i := 4) (v := .tuple #[.agg #[.slice gba gbl gbc, .slice gva gvl gvc, .int .i64 gfr, .int .i64 gnu, .slice gla gll glc], .int .i64 R]) rfl (by kernel_rfl) (by kernel_rfl) (by kernel_rfl) (fun _ _ _ h => h) (Or.inl ⟨by kernel_rfl, ?_⟩) hS ?_
        · rintro w' ⟨q0, q1, q2, q3, q4, q5, q6, q7, q8, q9, q10, q11, q12, q13, q14, q15, q16, q17, q18⟩; go_simp
        try simp only [Act.put, List.setIfInBounds_toArray, List.set_cons_zero, List.set_cons_succ]
        refine wpAnyH_take (i := 5) (v := .agg #[.slice gba gbl gbc, .slice gva gvl gvc, .int .i64 gfr, .int .i64 gnu, .slice gla gll glc]) rfl (by kernel_rfl) (by kernel_rfl) (by kernel_rfl) (fun _ _ _ h => h) (Or.inl ⟨by kernel_rfl, ?_⟩) hS ?_
        · rintro w' ⟨q0, q1, q2, q3, q4, q5, q6, q7, q8, q9, q10, q11, q12, q13, q14, q15, q16, q17, q18⟩; go_simp
        try simp only [Act.put, List.setIfInBounds_toArray, List.set_cons_zero, List.set_cons_succ]
        refine wpAnyH_take (i := 6) (v := .int .i64 R) rfl (by kernel_rfl) (by kernel_rfl) (by kernel_rfl) (fun _ _ _ h => h) (Or.inl ⟨by kernel_rfl, ?_⟩) hS ?_
        · rintro w' ⟨q0, q1, q2, q3, q4, q5, q6, q7, q8, q9, q10, q11, q12, q13, q14, q15, q16, q17, q18⟩; go_simp
        try simp only [Act.put, List.setIfInBounds_toArray, List.set_cons_zero, List.set_cons_succ]
        have d0 := Z8.out.cell 0
        have d1 := Z8.out.cell 1
        have d2 := Z8.out.cell 2
        have d3 := Z8.out.cell 3
        have d4 := Z8.out.cell 4
        simp only [List.getElem?_cons_zero, List.getElem?_cons_succ] at d0 d1 d2 d3 d4
        have r0 := Z8.out.frozen 0
        have r1 := Z8.out.frozen 1
        have r2 := Z8.out.frozen 2
        have r3 := Z8.out.frozen 3
        have r4 := Z8.out.frozen 4
        have KF := Lib.hid (((((Z8.out.set 0 (.slice gba gbl gbc)).set 1 (.slice gva gvl gvc)).set 2 (.int .i64 gfr)).set 3 (.int .i64 gnu)).set 4 (.slice gla gll glc))
        have mT := ((((((Mine.Mod.refl (one K5) w8).setCell ⟨K5, 0, none⟩ (fun _ => rfl) (.slice gba gbl gbc)).setCell ⟨K5, 1, none⟩ (fun _ => rfl) (.slice gva gvl gvc)).setCell ⟨K5, 2, none⟩ (fun _ => rfl) (.int .i64 gfr)).setCell ⟨K5, 3, none⟩ (fun _ => rfl) (.int .i64 gnu)).setCell ⟨K5, 4, none⟩ (fun _ => rfl) (.slice gla gll glc))
        have hK5 : w.heap.size + 1 + 1 ≤ K5 := HK.out
        have AF := Lib.hid (A8.out.mod mT (fun e => by have e' : w.heap.size = K5 := e; omega))
        have BF := Lib.hid (B8.out.mod mT (fun e => by have e' : w.heap.size + 1 = K5 := e; omega))
        have HF := Lib.hid (show AddSt w _ K5 R ⟨xba, xbl, xbc, xva, xvl, xvc, xfr, xnum, xla, xll, xlc⟩ B V E x _ from ⟨⟨gba, gbl, gbc, gva, gvl, gvc, gfr, gnu, gla, gll, glc⟩, BB, VV, EE, KF.out, P8.out.1, (P8.out.mod mT (fun j e => by have e' : j = K5 := e; subst e'; exact ⟨_, Or.inl Z8.out⟩)).2, M8.out.transIn mT (fun b hb e => by have e' : b = K5 := e; omega)⟩)
        clear mT
        refine wpAnyH_ready (rs := [8]) (by kernel_rfl) (by simp) (AllReadyH.cons rfl (fun J hJ => ?_) <| AllReadyH.nil)
        go_simp
        refine hJ.out _ _ ⟨by rw [AF.out.cell]; rfl, by rw [AF.out.cell]; rfl, by rw [AF.out.cell]; rfl, by rw [AF.out.cell]; rfl, by rw [AF.out.cell]; rfl, by rw [BF.out.cell]; rfl, by rw [BF.out.cell]; rfl, by rw [BF.out.cell]; rfl, by rw [BF.out.cell]; rfl, by rw [BF.out.cell]; rfl, by rw [BF.out.cell]; rfl, by rw [BF.out.cell]; rfl, by rw [BF.out.cell]; rfl, by rw [BF.out.cell]; rfl, by rw [BF.out.cell]; rfl, by rw [BF.out.cell]; rfl, by rw [BF.out.cell]; rfl, by rw [BF.out.cell]; rfl, by rw [BF.out.cell]; rfl⟩ (fun hS => ?_)
        clear hJ J
        try simp only [Act.put, List.setIfInBounds_toArray, List.set_cons_zero, List.set_cons_succ]
        refine wpAnyH_take (i := 9) (v := .int .i64 R) rfl (by kernel_rfl) (by kernel_rfl) (by kernel_rfl) (fun _ _ _ h => h) (Or.inl ⟨by kernel_rfl, ?_⟩) hS ?_
        · rintro w' ⟨q0, q1, q2, q3, q4, q5, q6, q7, q8, q9, q10, q11, q12, q13, q14, q15, q16, q17, q18⟩; go_simp
        try simp only [Act.put, List.setIfInBounds_toArray, List.set_cons_zero, List.set_cons_succ]
        refine wpAnyH_done (by kernel_rfl) ?_ _
        try simp only [List.getElem_toArray, List.getElem_cons_succ, List.getElem_cons_zero]
        try simp only [Act.put, List.setIfInBounds_toArray, List.set_cons_zero, List.set_cons_succ]
        clear d0 d1 d2 d3 d4 r0 r1 r2 r3 r4
        go_wp2_with fail
        go_meet
        exact ⟨K5, rfl, rfl, Lib.hid ⟨HF.out.low (by exact HB0.out), AF.out, BF.out, hK5⟩⟩
    · have mA : Mine.Mod none_ wd (wd.alloc (.cells #[.slice none 0 0, .slice none 0 0, .int .i64 0, .int .i64 0, .slice none 0 0] 39)) := (Mine.Mod.refl none_ _).alloc _
      have Z6 := Lib.hid (Blk.new (w := wd) (cs := [.slice none 0 0, .slice none 0 0, .int .i64 0, .int .i64 0, .slice none 0 0]) (t := 39))
      have HK := Lib.hid (show w.heap.size + 1 + 1 ≤ wd.heap.size from B5.out.lt)
      have M6 := Lib.hid (M5.out.trans mA)
      have A6 := Lib.hid (A5.out.mod mA (fun e => e))
      have B6 := Lib.hid (B5.out.mod mA (fun e => e))
      clear mA
      go_simp
      refine hJ.out _ _ ⟨by rw [A6.out.cell]; rfl, by rw [A6.out.cell]; rfl, by rw [A6.out.cell]; rfl, by rw [A6.out.cell]; rfl, by rw [A6.out.cell]; rfl, by rw [B6.out.cell]; rfl, by rw [B6.out.cell]; rfl, by rw [B6.out.cell]; rfl, by rw [B6.out.cell]; rfl, by rw [B6.out.cell]; rfl, by rw [B6.out.cell]; rfl, by rw [B6.out.cell]; rfl, by rw [B6.out.cell]; rfl, by rw [B6.out.cell]; rfl, by rw [B6.out.cell]; rfl, by rw [B6.out.cell]; rfl, by rw [B6.out.cell]; rfl, by rw [B6.out.cell]; rfl, by rw [B6.out.cell]; rfl⟩ (fun hS => ?_)
      clear hJ J
      try simp only [Act.put, List.setIfInBounds_toArray, List.set_cons_zero, List.set_cons_succ]
      generalize wd.alloc (.cells #[.slice none 0 0, .slice none 0 0, .int .i64 0, .int .i64 0, .slice none 0 0] 39) = wa at M6 A6 B6 Z6 hS ⊢
      generalize wd.heap.size = K5 at Z6 HK ⊢
      refine wpAnyH_ready (rs := [1]) (by kernel_rfl) (by simp) (AllReadyH.cons rfl (fun J hJ => ?_) <| AllReadyH.nil)
      go_simp
      refine (HOF.out _).mono ?_
      rintro e w7 ⟨rfl, mq⟩
      have M7 := Lib.hid (M6.out.trans mq)
      have A7 := Lib.hid (A6.out.mod mq (fun e => e))
      have B7 := Lib.hid (B6.out.mod mq (fun e => e))
      have Z7 := Lib.hid (Z6.out.mod mq (fun e => e))
      refine hJ.out _ _ ⟨by rw [A7.out.cell]; rfl, by rw [A7.out.cell]; rfl, by rw [A7.out.cell]; rfl, by rw [A7.out.cell]; rfl, by rw [A7.out.cell]; rfl, by rw [B7.out.cell]; rfl, by rw [B7.out.cell]; rfl, by rw [B7.out.cell]; rfl, by rw [B7.out.cell]; rfl, by rw [B7.out.cell]; rfl, by rw [B7.out.cell]; rfl, by rw [B7.out.cell]; rfl, by rw [B7.out.cell]; rfl, by rw [B7.out.cell]; rfl, by rw [B7.out.cell]; rfl, by rw [B7.out.cell]; rfl, by rw [B7.out.cell]; rfl, by rw [B7.out.cell]; rfl, by rw [B7.out.cell]; rfl⟩ (fun hS => ?_)
      clear hJ J mq
      try simp only [Act.put, List.setIfInBounds_toArray, List.set_cons_zero, List.set_cons_succ]
      refine wpAnyH_ready (rs := [3]) (by kernel_rfl) (by simp) (AllReadyH.cons rfl (fun J hJ => ?_) <| AllReadyH.nil)
      go_simp
      refine (HADD.out _ M7.out).mono ?_
      rintro e w8 ha
      rw [← HR.out] at ha
      obtain ⟨⟨gba, gbl, gbc, gva, gvl, gvc, gfr, gnu, gla, gll, glc⟩, BB, VV, EE, rfl, ga1, ga2, mq⟩ := AddTo.open_ (w := w) ha
      have HB0 := Lib.hid (show w.heap.size + 1 + 1 ≤ w7.heap.size from B7.out.lt)
      have P8 := Lib.hid (show AddP _ R ⟨xba, xbl, xbc, xva, xvl, xvc, xfr, xnum, xla, xll, xlc⟩ B V E x ⟨gba, gbl, gbc, gva, gvl, gvc, gfr, gnu, gla, gll, glc⟩ BB VV EE w8 from ⟨ga1, ga2⟩)
      have M8 := Lib.hid (M7.out.trans mq)
      have A8 := Lib.hid (A7.out.mod mq (fun e => e))
      have B8 := Lib.hid (B7.out.mod mq (fun e => e))
      have Z8 := Lib.hid (Z7.out.mod mq (fun e => e))
      refine hJ.out _ _ ⟨by rw [A8.out.cell]; rfl, by rw [A8.out.cell]; rfl, by rw [A8.out.cell]; rfl, by rw [A8.out.cell]; rfl, by rw [A8.out.cell]; rfl, by rw [B8.out.cell]; rfl, by rw [B8.out.cell]; rfl, by rw [B8.out.cell]; rfl, by rw [B8.out.cell]; rfl, by rw [B8.out.cell]; rfl, by rw [B8.out.cell]; rfl, by rw [B8.out.cell]; rfl, by rw [B8.out.cell]; rfl, by rw [B8.out.cell]; rfl, by rw [B8.out.cell]; rfl, by rw [B8.out.cell]; rfl, by rw [B8.out.cell]; rfl, by rw [B8.out.cell]; rfl, by rw [B8.out.cell]; rfl⟩ (fun hS => ?_)
      clear hJ J mq ga1 ga2 ha
      try simp only [Act.put, List.setIfInBounds_toArray, List.set_cons_zero, List.set_cons_succ]
      try dsimp only [HistV.v]
      refine wpAnyH_take (i := 4) (v := .tuple #[.agg #[.slice gba gbl gbc, .slice gva gvl gvc, .int .i64 gfr, .int .i64 gnu, .slice gla gll glc], .int .i64 R]) rfl (by kernel_rfl) (by kernel_rfl) (by kernel_rfl) (fun _ _ _ h => h) (Or.inl ⟨by kernel_rfl, ?_⟩) hS ?_
      · rintro w' ⟨q0, q1, q2, q3, q4, q5, q6, q7, q8, q9, q10, q11, q12, q13, q14, q15, q16, q17, q18⟩; go_simp
      try simp only [Act.put, List.setIfInBounds_toArray, List.set_cons_zero, List.set_cons_succ]
      refine wpAnyH_take (i := 5) (v := .agg #[.slice gba gbl gbc, .slice gva gvl gvc, .int .i64 gfr, .int .i64 gnu, .slice gla gll glc]) rfl (by kernel_rfl) (by kernel_rfl) (by kernel_rfl) (fun _ _ _ h => h) (Or.inl ⟨by kernel_rfl, ?_⟩) hS ?_
      · rintro w' ⟨q0, q1, q2, q3, q4, q5, q6, q7, q8, q9, q10, q11, q12, q13, q14, q15, q16, q17, q18⟩; go_simp
      try simp only [Act.put, List.setIfInBounds_toArray, List.set_cons_zero, List.set_cons_succ]
      refine wpAnyH_take (i := 6) (v := .int .i64 R) rfl (by kernel_rfl) (by kernel_rfl) (by kernel_rfl) (fun _ _ _ h => h) (Or.inl ⟨by kernel_rfl, ?_⟩) hS ?_
      · rintro w' ⟨q0, q1, q2, q3, q4, q5, q6, q7, q8, q9, q10, q11, q12, q13, q14, q15, q16, q17, q18⟩; go_simp
      try simp only [Act.put, List.setIfInBounds_toArray, List.set_cons_zero, List.set_cons_succ]
      have d0 := Z8.out.cell 0
      have d1 := Z8.out.cell 1
      have d2 := Z8.out.cell 2
      have d3 := Z8.out.cell 3
      have d4 := Z8.out.cell 4
      simp only [List.getElem?_cons_zero, List.getElem?_cons_succ] at d0 d1 d2 d3 d4
      have r0 := Z8.out.frozen 0
      have r1 := Z8.out.frozen 1
      have r2 := Z8.out.frozen 2
      have r3 := Z8.out.frozen 3
      have r4 := Z8.out.frozen 4
      have KF := Lib.hid (((((Z8.out.set 0 (.slice gba gbl gbc)).set 1 (.slice gva gvl gvc)).set 2 (.int .i64 gfr)).set 3 (.int .i64 gnu)).set 4 (.slice gla gll glc))
      have mT := ((((((Mine.Mod.refl (one K5) w8).setCell ⟨K5, 0, none⟩ (fun _ => rfl) (.slice gba gbl gbc)).setCell ⟨K5, 1, none⟩ (fun _ => rfl) (.slice gva gvl gvc)).setCell ⟨K5, 2, none⟩ (fun _ => rfl) (.int .i64 gfr)).setCell ⟨K5, 3, none⟩ (fun _ => rfl) (.int .i64 gnu)).setCell ⟨K5, 4, none⟩ (fun _ => rfl) (.slice gla gll glc))
      have hK5 : w.heap.size + 1 + 1 ≤ K5 := HK.out
      have AF := Lib.hid (A8.out.mod mT (fun e => by have e' : w.heap.size = K5 := e; omega))
      have BF := Lib.hid (B8.out.mod mT (fun e => by have e' : w.heap.size + 1 = K5 := e; omega))
      have HF := Lib.hid (show AddSt w _ K5 R ⟨xba, xbl, xbc, xva, xvl, xvc, xfr, xnum, xla, xll, xlc⟩ B V E x _ from ⟨⟨gba, gbl, gbc, gva, gvl, gvc, gfr, gnu, gla, gll, glc⟩, BB, VV, EE, KF.out, P8.out.1, (P8.out.mod mT (fun j e => by have e' : j = K5 := e; subst e'; exact ⟨_, Or.inl Z8.out⟩)).2, M8.out.transIn mT (fun b hb e => by have e' : b = K5 := e; omega)⟩)
      clear mT
      refine wpAnyH_ready (rs := [8]) (by kernel_rfl) (by simp) (AllReadyH.cons rfl (fun J hJ => ?_) <| AllReadyH.nil)
      go_simp
      refine hJ.out _ _ ⟨by rw [AF.out.cell]; rfl, by rw [AF.out.cell]; rfl, by rw [AF.out.cell]; rfl, by rw [AF.out.cell]; rfl, by rw [AF.out.cell]; rfl, by rw [BF.out.cell]; rfl, by rw [BF.out.cell]; rfl, by rw [BF.out.cell]; rfl, by rw [BF.out.cell]; rfl, by rw [BF.out.cell]; rfl, by rw [BF.out.cell]; rfl, by rw [BF.out.cell]; rfl, by rw [BF.out.cell]; rfl, by rw [BF.out.cell]; rfl, by rw [BF.out.cell]; rfl, by rw [BF.out.cell]; rfl, by rw [BF.out.cell]; rfl, by rw [BF.out.cell]; rfl, by rw [BF.out.cell]; rfl⟩ (fun hS => ?_)
      clear hJ J
      try simp only [Act.put, List.setIfInBounds_toArray, List.set_cons_zero, List.set_cons_succ]
      refine wpAnyH_take (i := 9) (v := .int .i64 R) rfl (by kernel_rfl) (by kernel_rfl) (by kernel_rfl) (fun _ _ _ h => h) (Or.inl ⟨by kernel_rfl, ?_⟩) hS ?_
      · rintro w' ⟨q0, q1, q2, q3, q4, q5, q6, q7, q8, q9, q10, q11, q12, q13, q14, q15, q16, q17, q18⟩; go_simp
      try simp only [Act.put, List.setIfInBounds_toArray, List.set_cons_zero, List.set_cons_succ]
      refine wpAnyH_done (by kernel_rfl) ?_ _
      try simp only [List.getElem_toArray, List.getElem_cons_succ, List.getElem_cons_zero]
      try simp only [Act.put, List.setIfInBounds_toArray, List.set_cons_zero, List.set_cons_succ]
      clear d0 d1 d2 d3 d4 r0 r1 r2 r3 r4
      go_wp2_with fail
      go_meet
      exact ⟨K5, rfl, rfl, Lib.hid ⟨HF.out.low (by exact HB0.out), AF.out, BF.out, hK5⟩⟩
  case rest =>
  obtain ⟨K5, rfl, rfl, hst⟩ := hcut
  obtain ⟨w5, rfl⟩ : ∃ w5, w5 = wc := ⟨_, rfl⟩
  have AS5 := Lib.hid hst.out.1
  have M5 := Lib.hid hst.out.1.choose_spec.choose_spec.choose_spec.choose_spec.2.2.2
  have A5 := Lib.hid hst.out.2.1
  have B5 := Lib.hid hst.out.2.2.1
  clear hst
  by_cases hR : R = 0
  case neg =>
    have q6 : (R != 0) = true := by simpa using hR
    clear hR
    go_wp2_with fail
    go_ret
    exact ⟨rfl, M5.out⟩
  have HR0 := Lib.hid (show addE ⟨xba, xbl, xbc, xva, xvl, xvc, xfr, xnum, xla, xll, xlc⟩ B V E x = 0 from HR.out.symm.trans hR)
  have HRQ := Lib.hid hR
  subst hR
  obtain ⟨⟨gba, gbl, gbc, gva, gvl, gvc, gfr, gnu, gla, gll, glc⟩, BB, VV, EE, k5, -, h3, -⟩ := AS5.out
  obtain ⟨rfl, rfl, q3, q4, q5, q6, q7, q8, q9⟩ := h3 rfl
  dsimp only at q3 q4 q5 q6 q7
  have e3 := q3.symm
  have e4 := q4.symm
  have e6 := q6.symm
  clear q3 q4 q6
  subst e3 e4 e6
  have D5 := Lib.hid k5
  have HMD := Lib.hid q9
  have HG5 := Lib.hid q5
  obtain ⟨Bd, hBd⟩ : ∃ Bd, Bd = w5.heap.size := ⟨_, rfl⟩
  have HBD := Lib.hid hBd
  have HLB := Lib.hid (show ∀ gb, gba = some ⟨gb, 0, none⟩ → Between (w.heap.size + 1 + 1) Bd gb from fun gb e => by subst e; exact ⟨(q9.b.lt gb rfl).1, by rw [hBd]; exact (q9.b.lt gb rfl).2⟩)
  have HLL := Lib.hid (show ∀ gl, gla = some ⟨gl, 0, none⟩ → Between (w.heap.size + 1 + 1) Bd gl from fun gl e => by subst e; exact ⟨(q9.e.lt gl rfl).1, by rw [hBd]; exact (q9.e.lt gl rfl).2⟩)
  have HLS := Lib.hid (show ∀ y ∈ EE, ∀ gs, y.o.sa = some ⟨gs, 0, none⟩ → Between (w.heap.size + 1 + 1) Bd gs from fun y hy gs e => by
    have ho := q9.s y hy
    have hob : (Value.slice y.o.sa y.o.slen y.o.scap).ownBlock = some gs := by rw [e]; rfl
    exact ⟨(ho.lt gs hob).1, by rw [hBd]; exact (ho.lt gs hob).2⟩)
  have HEL := Lib.hid (show EE.length = gll by rw [q8.1, List.length_append, HI.out.e.n, q5]; rfl)
  have hgll : gll ≤ 1000 := by rw [q5]; omega
  have HEO := Lib.hid (show ∀ y ∈ EE, y.o.slen ≤ y.o.scap ∧ y.o.scap ≤ 9223372036854775807 from fun y hy => by
    obtain ⟨z, hz, a, c, rfl⟩ := q8.back hy
    have hs := own_spans (q9.s _ hy) ((ents_and HI.out.e.ok HXX.out z hz).1.sp.ok)
    have h1 := hs.le
    have h2 := hs.big
    unfold maxLen at h2
    exact ⟨h1, h2⟩)
  have hgc : xbl ≤ gbc ∧ gbc ≤ 9223372036854775807 ∧ gll ≤ glc ∧ glc ≤ 9223372036854775807 := by
    have h1 := (own_cells q9.b HI.out.b.ok)
    have h2 := (own_ents q9.e (fun y hy => by
      obtain ⟨z, hz, a, c, rfl⟩ := q8.back hy
      exact EntV.at_ok (ents_and HI.out.e.ok HXX.out z hz) M5.out (q9.s _ hy)))
    have h3 := h1.le
    have h4 := h1.big
    have h5 := h2.le
    have h6 := h2.big
    unfold maxLen at h4 h6
    exact ⟨h3, h4, h5, h6⟩
  clear k5 h3 q5 q7 q8 q9 AS5 hBd
  have HM := Lib.hid (radd_any w5 ⟨xba, xbl, xbc, xva, xvl, xvc, xfr, xnum, xla, xll, xlc⟩ x BB VV E (HI.out.grown M5.out) ⟨HXX.out.1.grown M5.out, HXX.out.2.grown M5.out⟩ (by dsimp only; omega))
  rw [HR0.out] at HM
  have a0 := A5.out.cell 0
  have a1 := A5.out.cell 1
  have a2 := A5.out.cell 2
  have a3 := A5.out.cell 3
  have a4 := A5.out.cell 4
  simp only [List.getElem?_cons_zero, List.getElem?_cons_succ] at a0 a1 a2 a3 a4
  have b0 := B5.out.cell 0
  have b1 := B5.out.cell 1
  have b2 := B5.out.cell 2
  have b3 := B5.out.cell 3
  have b4 := B5.out.cell 4
  have b5 := B5.out.cell 5
  have b6 := B5.out.cell 6
  have b7 := B5.out.cell 7
  have b8 := B5.out.cell 8
  have b9 := B5.out.cell 9
  have b10 := B5.out.cell 10
  have b11 := B5.out.cell 11
  have b12 := B5.out.cell 12
  have b13 := B5.out.cell 13
  simp only [List.getElem?_cons_zero, List.getElem?_cons_succ] at b0 b1 b2 b3 b4 b5 b6 b7 b8 b9 b10 b11 b12 b13
  go_wp2_with fail
  refine HM.out.mono ?_
  rintro e w6 ha
  obtain ⟨⟨hba, hbl, hbc, hva, hvl, hvc, hfr, hnu, hla, hll, hlc⟩, rfl, hb1, hb2, m6⟩ := RAddTo.open_ ha
  try dsimp only [HistV.v]
  have M6 := Lib.hid (M5.out.trans m6)
  have A6 := Lib.hid (A5.out.mod m6 (fun e => e))
  have B6 := Lib.hid (B5.out.mod m6 (fun e => e))
  have D6 := Lib.hid (D5.out.mod m6 (fun e => e))
  have mA := (Mine.Mod.refl none_ w6).alloc (.cells #[.slice hba hbl hbc, .slice hva hvl hvc, .int .i64 hfr, .int .i64 hnu, .slice hla hll hlc] 26)
  have F7 := Lib.hid (Blk.new (w := w6) (cs := [.slice hba hbl hbc, .slice hva hvl hvc, .int .i64 hfr, .int .i64 hnu, .slice hla hll hlc]) (t := 26))
  have M7 := Lib.hid (M6.out.trans mA)
  have A7 := Lib.hid (A6.out.mod mA (fun e => e))
  have B7 := Lib.hid (B6.out.mod mA (fun e => e))
  have D7 := Lib.hid (D6.out.mod mA (fun e => e))
  have RS7 := Lib.hid (show RAddSt w w5.heap.size _ 0 ⟨xba, xbl, xbc, xva, xvl, xvc, xfr, xnum, xla, xll, xlc⟩ E x _ from ⟨⟨hba, hbl, hbc, hva, hvl, hvc, hfr, hnu, hla, hll, hlc⟩, F7.out, hb1, fun e => by
    obtain ⟨la, lc, q1, q2⟩ := hb2 e
    exact ⟨la, lc, q1, ownsRow_mod q2 mA (fun _ _ e => e)⟩, M7.out⟩)
  have HK7 := Lib.hid (show Bd ≤ w6.heap.size by rw [HBD.out]; exact m6.size)
  have SH7 := Lib.hid (HMD.out.sh.grown (m6.trans mA))
  have HB7 := Lib.hid (show Bd ≤ _ by rw [HBD.out]; exact (m6.trans mA).size)
  clear ha hb1 hb2 m6 mA HM a0 a1 a2 a3 a4 b0 b1 b2 b3 b4 b5 b6 b7 b8 b9 b10 b11 b12 b13 F7
  go_upto_region 9 with fail
  generalize w6.heap.size = K7 at RS7 HK7 ⊢
  generalize w6.alloc (.cells #[.slice hba hbl hbc, .slice hva hvl hvc, .int .i64 hfr, .int .i64 hnu, .slice hla hll hlc] 26) = w7 at M7 A7 B7 D7 RS7 SH7 HB7 ⊢
  go_cut [9] from 48 to 60 (fun s9 wx => ∃ K9, s9 = .pointer (some ⟨K9, 0, none⟩) ∧ RowKit.Hid (KeepSt w7 K9 ⟨xba, xbl, xbc, xva, xvl, xvc, xfr, xnum, xla, xll, xlc⟩ BB VV wx))
  case first =>
    have f0 : w7.cell? ⟨w.heap.size, 0, none⟩ = some (.slice xba xbl xbc) := by rw [A7.out.cell]; rfl
    have f1 : w7.cell? ⟨w.heap.size, 1, none⟩ = some (.slice xva xvl xvc) := by rw [A7.out.cell]; rfl
    have f2 : w7.cell? ⟨w.heap.size, 2, none⟩ = some (.int .i64 xfr) := by rw [A7.out.cell]; rfl
    have f3 : w7.cell? ⟨w.heap.size, 3, none⟩ = some (.int .i64 xnum) := by rw [A7.out.cell]; rfl
    have f4 : w7.cell? ⟨w.heap.size, 4, none⟩ = some (.slice xla xll xlc) := by rw [A7.out.cell]; rfl
    have N10 := Lib.hid (Mine.Mod.drew (Mine.Mod.refl none_ w7))
    refine wp_region_held_drew (S := fun w' => w'.cell? ⟨w.heap.size, 0, none⟩ = some (.slice xba xbl xbc) ∧ w'.cell? ⟨w.heap.size, 1, none⟩ = some (.slice xva xvl xvc) ∧ w'.cell? ⟨w.heap.size, 2, none⟩ = some (.int .i64 xfr) ∧ w'.cell? ⟨w.heap.size, 3, none⟩ = some (.int .i64 xnum) ∧ w'.cell? ⟨w.heap.size, 4, none⟩ = some (.slice xla xll xlc)) (by kernel_rfl) ⟨f0, f1, f2, f3, f4⟩ (fun hS => ?_)
    clear f0 f1 f2 f3 f4
    generalize w7.drew = w10 at N10 hS ⊢
    refine wpAnyH_take (i := 1) (v := .pointer (some ⟨w.heap.size, 0, none⟩)) rfl (by kernel_rfl) (by kernel_rfl) (by kernel_rfl) (fun _ _ _ h => h) (Or.inl ⟨by kernel_rfl, ?_⟩) hS ?_
    · rintro w' ⟨q0, q1, q2, q3, q4⟩; go_simp
    try simp only [Act.put, List.setIfInBounds_toArray, List.set_cons_zero, List.set_cons_succ]
    refine wpAnyH_take (i := 2) (v := .slice xba xbl xbc) rfl (by kernel_rfl) (by kernel_rfl) (by kernel_rfl) (fun _ _ _ h => h) (Or.inl ⟨by kernel_rfl, ?_⟩) hS ?_
    · rintro w' ⟨q0, q1, q2, q3, q4⟩; go_simp
    try simp only [Act.put, List.setIfInBounds_toArray, List.set_cons_zero, List.set_cons_succ]
    refine wpAnyH_take (i := 5) (v := .pointer (some ⟨w.heap.size, 1, none⟩)) rfl (by kernel_rfl) (by kernel_rfl) (by kernel_rfl) (fun _ _ _ h => h) (Or.inl ⟨by kernel_rfl, ?_⟩) hS ?_
    · rintro w' ⟨q0, q1, q2, q3, q4⟩; go_simp
    try simp only [Act.put, List.setIfInBounds_toArray, List.set_cons_zero, List.set_cons_succ]
    refine wpAnyH_take (i := 6) (v := .slice xva xvl xvc) rfl (by kernel_rfl) (by kernel_rfl) (by kernel_rfl) (fun _ _ _ h => h) (Or.inl ⟨by kernel_rfl, ?_⟩) hS ?_
    · rintro w' ⟨q0, q1, q2, q3, q4⟩; go_simp
    try simp only [Act.put, List.setIfInBounds_toArray, List.set_cons_zero, List.set_cons_succ]
    refine wpAnyH_take (i := 8) (v := .pointer (some ⟨w.heap.size, 2, none⟩)) rfl (by kernel_rfl) (by kernel_rfl) (by kernel_rfl) (fun _ _ _ h => h) (Or.inl ⟨by kernel_rfl, ?_⟩) hS ?_
    · rintro w' ⟨q0, q1, q2, q3, q4⟩; go_simp
    try simp only [Act.put, List.setIfInBounds_toArray, List.set_cons_zero, List.set_cons_succ]
    refine wpAnyH_take (i := 9) (v := .int .i64 xfr) rfl (by kernel_rfl) (by kernel_rfl) (by kernel_rfl) (fun _ _ _ h => h) (Or.inl ⟨by kernel_rfl, ?_⟩) hS ?_
    · rintro w' ⟨q0, q1, q2, q3, q4⟩; go_simp
    try simp only [Act.put, List.setIfInBounds_toArray, List.set_cons_zero, List.set_cons_succ]
    refine wpAnyH_take (i := 10) (v := .pointer (some ⟨w.heap.size, 3, none⟩)) rfl (by kernel_rfl) (by kernel_rfl) (by kernel_rfl) (fun _ _ _ h => h) (Or.inl ⟨by kernel_rfl, ?_⟩) hS ?_
    · rintro w' ⟨q0, q1, q2, q3, q4⟩; go_simp
    try simp only [Act.put, List.setIfInBounds_toArray, List.set_cons_zero, List.set_cons_succ]
    refine wpAnyH_take (i := 11) (v := .int .i64 xnum) rfl (by kernel_rfl) (by kernel_rfl) (by kernel_rfl) (fun _ _ _ h => h) (Or.inl ⟨by kernel_rfl, ?_⟩) hS ?_
    · rintro w' ⟨q0, q1, q2, q3, q4⟩; go_simp
    try simp only [Act.put, List.setIfInBounds_toArray, List.set_cons_zero, List.set_cons_succ]
    refine wpAnyH_ready (rs := [0, 4, 13]) (by kernel_rfl) (by simp) (AllReadyH.cons rfl (fun J hJ => ?_) <| AllReadyH.cons rfl (fun J hJ => ?_) <| AllReadyH.cons rfl (fun J hJ => ?_) <| AllReadyH.nil)
    · have mA : Mine.Mod none_ w10 (w10.alloc (.cells #[] 47)) := (Mine.Mod.refl none_ _).alloc _
      have OB11 := Lib.hid (show (w10.alloc (.cells #[] 47)).ownsRow w7.heap.size 47 5 (.slice (some ⟨w10.heap.size, 0, none⟩) 0 0) 0 (flat CellV.cs []) from World.ownsRow_made (base := w7.heap.size) (e := 47) (size := 5) w10 #[] 0 N10.out.size (by unfold maxLen; omega) rfl)
      have N11 := Lib.hid (N10.out.trans mA)
      clear mA
      go_simp
      refine hJ.out _ _ ⟨by rw [(A7.out.mod N11.out (fun e => e)).cell]; rfl, by rw [(A7.out.mod N11.out (fun e => e)).cell]; rfl, by rw [(A7.out.mod N11.out (fun e => e)).cell]; rfl, by rw [(A7.out.mod N11.out (fun e => e)).cell]; rfl, by rw [(A7.out.mod N11.out (fun e => e)).cell]; rfl⟩ (fun hS => ?_)
      clear hJ J
      try simp only [Act.put, List.setIfInBounds_toArray, List.set_cons_zero, List.set_cons_succ]
      generalize w10.alloc (.cells #[] 47) = w11 at N11  OB11 hS ⊢
      generalize w10.heap.size = XB at OB11 ⊢
      refine wpAnyH_ready (rs := [3, 4, 13]) (by kernel_rfl) (by simp) (AllReadyH.cons rfl (fun J hJ => ?_) <| AllReadyH.cons rfl (fun J hJ => ?_) <| AllReadyH.cons rfl (fun J hJ => ?_) <| AllReadyH.nil)
      · obtain ⟨va3, vc3, w12, hrun, ho, m7⟩ := app_cells OB11.out (HI.out.b.grown (M7.out.trans N11.out)) (show 0 + xbl ≤ 1099511627776 by omega) N11.out.size
        dsimp only at hrun ho
        rw [Nat.zero_add] at hrun ho
        rw [List.nil_append] at ho
        have HRUN := Lib.hid hrun
        have N12 := Lib.hid (N11.out.transIn m7 (fun b hb e => by have := (OB11.out.lt _ e).1; omega))
        have OB12 := Lib.hid ho
        clear hrun ho m7
        refine step_append_runI rfl (.tmp 48) (.tmp 50) 22 rfl _ _ _ rfl rfl HRUN.out ?_
        refine hJ.out _ _ ⟨by rw [(A7.out.mod N12.out (fun e => e)).cell]; rfl, by rw [(A7.out.mod N12.out (fun e => e)).cell]; rfl, by rw [(A7.out.mod N12.out (fun e => e)).cell]; rfl, by rw [(A7.out.mod N12.out (fun e => e)).cell]; rfl, by rw [(A7.out.mod N12.out (fun e => e)).cell]; rfl⟩ (fun hS => ?_)
        clear hJ J
        try simp only [Act.put, List.setIfInBounds_toArray, List.set_cons_zero, List.set_cons_succ]
        refine wpAnyH_ready (rs := [4, 13]) (by kernel_rfl) (by simp) (AllReadyH.cons rfl (fun J hJ => ?_) <| AllReadyH.cons rfl (fun J hJ => ?_) <| AllReadyH.nil)
        · have mA : Mine.Mod none_ w12 (w12.alloc (.cells #[] 3)) := (Mine.Mod.refl none_ _).alloc _
          have OV13 := Lib.hid (show (w12.alloc (.cells #[] 3)).ownsRow w7.heap.size 3 1 (.slice (some ⟨w12.heap.size, 0, none⟩) 0 0) 0 (intCs []) from World.ownsRow_made (base := w7.heap.size) (e := 3) (size := 1) w12 #[] 0 N12.out.size (by unfold maxLen; omega) rfl)
          have N13 := Lib.hid (N12.out.trans mA)
          have OB13 := Lib.hid (ownsRow_mod OB12.out mA (fun _ _ e => e))
          clear mA
          go_simp
          refine hJ.out _ _ ⟨by rw [(A7.out.mod N13.out (fun e => e)).cell]; rfl, by rw [(A7.out.mod N13.out (fun e => e)).cell]; rfl, by rw [(A7.out.mod N13.out (fun e => e)).cell]; rfl, by rw [(A7.out.mod N13.out (fun e => e)).cell]; rfl, by rw [(A7.out.mod N13.out (fun e => e)).cell]; rfl⟩ (fun hS => ?_)
          clear hJ J
          try simp only [Act.put, List.setIfInBounds_toArray, List.set_cons_zero, List.set_cons_succ]
          generalize w12.alloc (.cells #[] 3) = w13 at N13 OB13 OV13 hS ⊢
          generalize w12.heap.size = XV at OV13 ⊢
          refine wpAnyH_ready (rs := [7, 13]) (by kernel_rfl) (by simp) (AllReadyH.cons rfl (fun J hJ => ?_) <| AllReadyH.cons rfl (fun J hJ => ?_) <| AllReadyH.nil)
          · obtain ⟨va7, vc7, w14, hrun, ho, m7⟩ := app_ints OV13.out (HI.out.v.grown (M7.out.trans N13.out)) (show 0 + xvl ≤ 1099511627776 by omega) N13.out.size
            dsimp only at hrun ho
            rw [Nat.zero_add] at hrun ho
            rw [List.nil_append] at ho
            have HRUN := Lib.hid hrun
            have N14 := Lib.hid (N13.out.transIn m7 (fun b hb e => by have := (OV13.out.lt _ e).1; omega))
            have OB14 := Lib.hid (ownsRow_mod OB13.out m7 (fun j hj => own_own OB13.out OV13.out (by decide) hj))
            have OV14 := Lib.hid ho
            clear hrun ho m7
            refine step_append_runI rfl (.tmp 52) (.tmp 54) 23 rfl _ _ _ rfl rfl HRUN.out ?_
            refine hJ.out _ _ ⟨by rw [(A7.out.mod N14.out (fun e => e)).cell]; rfl, by rw [(A7.out.mod N14.out (fun e => e)).cell]; rfl, by rw [(A7.out.mod N14.out (fun e => e)).cell]; rfl, by rw [(A7.out.mod N14.out (fun e => e)).cell]; rfl, by rw [(A7.out.mod N14.out (fun e => e)).cell]; rfl⟩ (fun hS => ?_)
            clear hJ J
            try simp only [Act.put, List.setIfInBounds_toArray, List.set_cons_zero, List.set_cons_succ]
            refine wpAnyH_take (i := 12) (v := .agg #[.slice va3 xbl vc3, .slice va7 xvl vc7, .int .i64 xfr, .int .i64 xnum, .slice none 0 0]) rfl (by kernel_rfl) (by kernel_rfl) (by kernel_rfl) (fun _ _ _ h => h) (Or.inl ⟨by kernel_rfl, ?_⟩) hS ?_
            · rintro w' ⟨q0, q1, q2, q3, q4⟩; go_simp
            try simp only [Act.put, List.setIfInBounds_toArray, List.set_cons_zero, List.set_cons_succ]
            refine wpAnyH_ready (rs := [13]) (by kernel_rfl) (by simp) (AllReadyH.cons rfl (fun J hJ => ?_) <| AllReadyH.nil)
            have mA : Mine.Mod none_ w14 (w14.alloc (.cells #[.slice none 0 0, .slice none 0 0, .int .i64 0, .int .i64 0, .slice none 0 0] 26)) := (Mine.Mod.refl none_ _).alloc _
            have Z15 := Lib.hid (Blk.new (w := w14) (cs := [.slice none 0 0, .slice none 0 0, .int .i64 0, .int .i64 0, .slice none 0 0]) (t := 26))
            have HK9 := Lib.hid (show w7.heap.size ≤ w14.heap.size from N14.out.size)
            have N15 := Lib.hid (N14.out.trans mA)
            have OB15 := Lib.hid (ownsRow_mod OB14.out mA (fun _ _ e => e))
            have OV15 := Lib.hid (ownsRow_mod OV14.out mA (fun _ _ e => e))
            clear mA
            go_simp
            refine hJ.out _ _ ⟨by rw [(A7.out.mod N15.out (fun e => e)).cell]; rfl, by rw [(A7.out.mod N15.out (fun e => e)).cell]; rfl, by rw [(A7.out.mod N15.out (fun e => e)).cell]; rfl, by rw [(A7.out.mod N15.out (fun e => e)).cell]; rfl, by rw [(A7.out.mod N15.out (fun e => e)).cell]; rfl⟩ (fun hS => ?_)
            clear hJ J
            try simp only [Act.put, List.setIfInBounds_toArray, List.set_cons_zero, List.set_cons_succ]
            generalize w14.alloc (.cells #[.slice none 0 0, .slice none 0 0, .int .i64 0, .int .i64 0, .slice none 0 0] 26) = w15 at N15 OB15 OV15 Z15 hS ⊢
            generalize w14.heap.size = K9 at Z15 HK9 ⊢
            have d0 := Z15.out.cell 0
            have d1 := Z15.out.cell 1
            have d2 := Z15.out.cell 2
            have d3 := Z15.out.cell 3
            have d4 := Z15.out.cell 4
            simp only [List.getElem?_cons_zero, List.getElem?_cons_succ] at d0 d1 d2 d3 d4
            have r0 := Z15.out.frozen 0
            have r1 := Z15.out.frozen 1
            have r2 := Z15.out.frozen 2
            have r3 := Z15.out.frozen 3
            have r4 := Z15.out.frozen 4
            have mT := ((((((Mine.Mod.refl (one K9) w15).setCell ⟨K9, 0, none⟩ (fun _ => rfl) (.slice va3 xbl vc3)).setCell ⟨K9, 1, none⟩ (fun _ => rfl) (.slice va7 xvl vc7)).setCell ⟨K9, 2, none⟩ (fun _ => rfl) (.int .i64 xfr)).setCell ⟨K9, 3, none⟩ (fun _ => rfl) (.int .i64 xnum)).setCell ⟨K9, 4, none⟩ (fun _ => rfl) (.slice none 0 0))
            have hK9 := HK9.out
            have NF := Lib.hid (N15.out.transIn mT (fun b hb e => by have e' : b = K9 := e; omega))
            have HF := Lib.hid (show KeepSt w7 K9 ⟨xba, xbl, xbc, xva, xvl, xvc, xfr, xnum, xla, xll, xlc⟩ BB VV _ from ⟨va3, vc3, va7, vc7, (((((Z15.out.set 0 (.slice va3 xbl vc3)).set 1 (.slice va7 xvl vc7)).set 2 (.int .i64 xfr)).set 3 (.int .i64 xnum)).set 4 (.slice none 0 0)), ⟨ownsRow_mod OB15.out mT (fun j hj e => by have e' : j = K9 := e; subst e'; exact own_other OB15.out Z15.out (by decide) hj), ownsRow_mod OV15.out mT (fun j hj e => by have e' : j = K9 := e; subst e'; exact own_other OV15.out Z15.out (by decide) hj), ⟨rfl, .inl ⟨rfl, rfl⟩⟩, fun x hx => by simp at hx⟩, NF.out, hK9⟩)
            clear mT
            refine wpAnyH_ready (rs := [14]) (by kernel_rfl) (by simp) (AllReadyH.cons rfl (fun J hJ => ?_) <| AllReadyH.nil)
            go_simp
            refine hJ.out _ _ ⟨by rw [(A7.out.mod NF.out (fun e => e)).cell]; rfl, by rw [(A7.out.mod NF.out (fun e => e)).cell]; rfl, by rw [(A7.out.mod NF.out (fun e => e)).cell]; rfl, by rw [(A7.out.mod NF.out (fun e => e)).cell]; rfl, by rw [(A7.out.mod NF.out (fun e => e)).cell]; rfl⟩ (fun hS => ?_)
            clear hJ J
            try simp only [Act.put, List.setIfInBounds_toArray, List.set_cons_zero, List.set_cons_succ]
            refine wpAnyH_done (by kernel_rfl) ?_ _
            try simp only [List.getElem_toArray, List.getElem_cons_succ, List.getElem_cons_zero]
            try simp only [Act.put, List.setIfInBounds_toArray, List.set_cons_zero, List.set_cons_succ]
            clear d0 d1 d2 d3 d4 r0 r1 r2 r3 r4 hK9
            go_wp2_with fail
            go_meet
            exact ⟨K9, rfl, HF⟩
          · have mA : Mine.Mod none_ w13 (w13.alloc (.cells #[.slice none 0 0, .slice none 0 0, .int .i64 0, .int .i64 0, .slice none 0 0] 26)) := (Mine.Mod.refl none_ _).alloc _
            have Z14 := Lib.hid (Blk.new (w := w13) (cs := [.slice none 0 0, .slice none 0 0, .int .i64 0, .int .i64 0, .slice none 0 0]) (t := 26))
            have HK9 := Lib.hid (show w7.heap.size ≤ w13.heap.size from N13.out.size)
            have N14 := Lib.hid (N13.out.trans mA)
            have OB14 := Lib.hid (ownsRow_mod OB13.out mA (fun _ _ e => e))
            have OV14 := Lib.hid (ownsRow_mod OV13.out mA (fun _ _ e => e))
            clear mA
            go_simp
            refine hJ.out _ _ ⟨by rw [(A7.out.mod N14.out (fun e => e)).cell]; rfl, by rw [(A7.out.mod N14.out (fun e => e)).cell]; rfl, by rw [(A7.out.mod N14.out (fun e => e)).cell]; rfl, by rw [(A7.out.mod N14.out (fun e => e)).cell]; rfl, by rw [(A7.out.mod N14.out (fun e => e)).cell]; rfl⟩ (fun hS => ?_)
            clear hJ J
            try simp only [Act.put, List.setIfInBounds_toArray, List.set_cons_zero, List.set_cons_succ]
            generalize w13.alloc (.cells #[.slice none 0 0, .slice none 0 0, .int .i64 0, .int .i64 0, .slice none 0 0] 26) = w14 at N14 OB14 OV14 Z14 hS ⊢
            generalize w13.heap.size = K9 at Z14 HK9 ⊢
            refine wpAnyH_ready (rs := [7]) (by kernel_rfl) (by simp) (AllReadyH.cons rfl (fun J hJ => ?_) <| AllReadyH.nil)
            obtain ⟨va7, vc7, w15, hrun, ho, m7⟩ := app_ints OV14.out (HI.out.v.grown (M7.out.trans N14.out)) (show 0 + xvl ≤ 1099511627776 by omega) N14.out.size
            dsimp only at hrun ho
            rw [Nat.zero_add] at hrun ho
            rw [List.nil_append] at ho
            have HRUN := Lib.hid hrun
            have N15 := Lib.hid (N14.out.transIn m7 (fun b hb e => by have := (OV14.out.lt _ e).1; omega))
            have OB15 := Lib.hid (ownsRow_mod OB14.out m7 (fun j hj => own_own OB14.out OV14.out (by decide) hj))
            have Z15 := Lib.hid (Z14.out.mod m7 (own_other OV14.out Z14.out (by decide)))
            have OV15 := Lib.hid ho
            clear hrun ho m7
            refine step_append_runI rfl (.tmp 52) (.tmp 54) 23 rfl _ _ _ rfl rfl HRUN.out ?_
            refine hJ.out _ _ ⟨by rw [(A7.out.mod N15.out (fun e => e)).cell]; rfl, by rw [(A7.out.mod N15.out (fun e => e)).cell]; rfl, by rw [(A7.out.mod N15.out (fun e => e)).cell]; rfl, by rw [(A7.out.mod N15.out (fun e => e)).cell]; rfl, by rw [(A7.out.mod N15.out (fun e => e)).cell]; rfl⟩ (fun hS => ?_)
            clear hJ J
            try simp only [Act.put, List.setIfInBounds_toArray, List.set_cons_zero, List.set_cons_succ]
            refine wpAnyH_take (i := 12) (v := .agg #[.slice va3 xbl vc3, .slice va7 xvl vc7, .int .i64 xfr, .int .i64 xnum, .slice none 0 0]) rfl (by kernel_rfl) (by kernel_rfl) (by kernel_rfl) (fun _ _ _ h => h) (Or.inl ⟨by kernel_rfl, ?_⟩) hS ?_
            · rintro w' ⟨q0, q1, q2, q3, q4⟩; go_simp
            try simp only [Act.put, List.setIfInBounds_toArray, List.set_cons_zero, List.set_cons_succ]
            have d0 := Z15.out.cell 0
            have d1 := Z15.out.cell 1
            have d2 := Z15.out.cell 2
            have d3 := Z15.out.cell 3
            have d4 := Z15.out.cell 4
            simp only [List.getElem?_cons_zero, List.getElem?_cons_succ] at d0 d1 d2 d3 d4
            have r0 := Z15.out.frozen 0
            have r1 := Z15.out.frozen 1
            have r2 := Z15.out.frozen 2
            have r3 := Z15.out.frozen 3
            have r4 := Z15.out.frozen 4
            have mT := ((((((Mine.Mod.refl (one K9) w15).setCell ⟨K9, 0, none⟩ (fun _ => rfl) (.slice va3 xbl vc3)).setCell ⟨K9, 1, none⟩ (fun _ => rfl) (.slice va7 xvl vc7)).setCell ⟨K9, 2, none⟩ (fun _ => rfl) (.int .i64 xfr)).setCell ⟨K9, 3, none⟩ (fun _ => rfl) (.int .i64 xnum)).setCell ⟨K9, 4, none⟩ (fun _ => rfl) (.slice none 0 0))
            have hK9 := HK9.out
            have NF := Lib.hid (N15.out.transIn mT (fun b hb e => by have e' : b = K9 := e; omega))
            have HF := Lib.hid (show KeepSt w7 K9 ⟨xba, xbl, xbc, xva, xvl, xvc, xfr, xnum, xla, xll, xlc⟩ BB VV _ from ⟨va3, vc3, va7, vc7, (((((Z15.out.set 0 (.slice va3 xbl vc3)).set 1 (.slice va7 xvl vc7)).set 2 (.int .i64 xfr)).set 3 (.int .i64 xnum)).set 4 (.slice none 0 0)), ⟨ownsRow_mod OB15.out mT (fun j hj e => by have e' : j = K9 := e; subst e'; exact own_other OB15.out Z15.out (by decide) hj), ownsRow_mod OV15.out mT (fun j hj e => by have e' : j = K9 := e; subst e'; exact own_other OV15.out Z15.out (by decide) hj), ⟨rfl, .inl ⟨rfl, rfl⟩⟩, fun x hx => by simp at hx⟩, NF.out, hK9⟩)
            clear mT
            refine wpAnyH_ready (rs := [14]) (by kernel_rfl) (by simp) (AllReadyH.cons rfl (fun J hJ => ?_) <| AllReadyH.nil)
            go_simp
            refine hJ.out _ _ ⟨by rw [(A7.out.mod NF.out (fun e => e)).cell]; rfl, by rw [(A7.out.mod NF.out (fun e => e)).cell]; rfl, by rw [(A7.out.mod NF.out (fun e => e)).cell]; rfl, by rw [(A7.out.mod NF.out (fun e => e)).cell]; rfl, by rw [(A7.out.mod NF.out (fun e => e)).cell]; rfl⟩ (fun hS => ?_)
            clear hJ J
            try simp only [Act.put, List.setIfInBounds_toArray, List.set_cons_zero, List.set_cons_succ]
            refine wpAnyH_done (by kernel_rfl) ?_ _
            try simp only [List.getElem_toArray, List.getElem_cons_succ, List.getElem_cons_zero]
            try simp only [Act.put, List.setIfInBounds_toArray, List.set_cons_zero, List.set_cons_succ]
            clear d0 d1 d2 d3 d4 r0 r1 r2 r3 r4 hK9
            go_wp2_with fail
            go_meet
            exact ⟨K9, rfl, HF⟩
        · have mA : Mine.Mod none_ w12 (w12.alloc (.cells #[.slice none 0 0, .slice none 0 0, .int .i64 0, .int .i64 0, .slice none 0 0] 26)) := (Mine.Mod.refl none_ _).alloc _
          have Z13 := Lib.hid (Blk.new (w := w12) (cs := [.slice none 0 0, .slice none 0 0, .int .i64 0, .int .i64 0, .slice none 0 0]) (t := 26))
          have HK9 := Lib.hid (show w7.heap.size ≤ w12.heap.size from N12.out.size)
          have N13 := Lib.hid (N12.out.trans mA)
          have OB13 := Lib.hid (ownsRow_mod OB12.out mA (fun _ _ e => e))
          clear mA
          go_simp
          refine hJ.out _ _ ⟨by rw [(A7.out.mod N13.out (fun e => e)).cell]; rfl, by rw [(A7.out.mod N13.out (fun e => e)).cell]; rfl, by rw [(A7.out.mod N13.out (fun e => e)).cell]; rfl, by rw [(A7.out.mod N13.out (fun e => e)).cell]; rfl, by rw [(A7.out.mod N13.out (fun e => e)).cell]; rfl⟩ (fun hS => ?_)
          clear hJ J
          try simp only [Act.put, List.setIfInBounds_toArray, List.set_cons_zero, List.set_cons_succ]
          generalize w12.alloc (.cells #[.slice none 0 0, .slice none 0 0, .int .i64 0, .int .i64 0, .slice none 0 0] 26) = w13 at N13 OB13 Z13 hS ⊢
          generalize w12.heap.size = K9 at Z13 HK9 ⊢
          refine wpAnyH_ready (rs := [4]) (by kernel_rfl) (by simp) (AllReadyH.cons rfl (fun J hJ => ?_) <| AllReadyH.nil)
          have mA : Mine.Mod none_ w13 (w13.alloc (.cells #[] 3)) := (Mine.Mod.refl none_ _).alloc _
          have OV14 := Lib.hid (show (w13.alloc (.cells #[] 3)).ownsRow w7.heap.size 3 1 (.slice (some ⟨w13.heap.size, 0, none⟩) 0 0) 0 (intCs []) from World.ownsRow_made (base := w7.heap.size) (e := 3) (size := 1) w13 #[] 0 N13.out.size (by unfold maxLen; omega) rfl)
          have N14 := Lib.hid (N13.out.trans mA)
          have OB14 := Lib.hid (ownsRow_mod OB13.out mA (fun _ _ e => e))
          have Z14 := Lib.hid (Z13.out.mod mA (fun e => e))
          clear mA
          go_simp
          refine hJ.out _ _ ⟨by rw [(A7.out.mod N14.out (fun e => e)).cell]; rfl, by rw [(A7.out.mod N14.out (fun e => e)).cell]; rfl, by rw [(A7.out.mod N14.out (fun e => e)).cell]; rfl, by rw [(A7.out.mod N14.out (fun e => e)).cell]; rfl, by rw [(A7.out.mod N14.out (fun e => e)).cell]; rfl⟩ (fun hS => ?_)
          clear hJ J
          try simp only [Act.put, List.setIfInBounds_toArray, List.set_cons_zero, List.set_cons_succ]
          generalize w13.alloc (.cells #[] 3) = w14 at N14 OB14 Z14 OV14 hS ⊢
          generalize w13.heap.size = XV at OV14 ⊢
          refine wpAnyH_ready (rs := [7]) (by kernel_rfl) (by simp) (AllReadyH.cons rfl (fun J hJ => ?_) <| AllReadyH.nil)
          obtain ⟨va7, vc7, w15, hrun, ho, m7⟩ := app_ints OV14.out (HI.out.v.grown (M7.out.trans N14.out)) (show 0 + xvl ≤ 1099511627776 by omega) N14.out.size
          dsimp only at hrun ho
          rw [Nat.zero_add] at hrun ho
          rw [List.nil_append] at ho
          have HRUN := Lib.hid hrun
          have N15 := Lib.hid (N14.out.transIn m7 (fun b hb e => by have := (OV14.out.lt _ e).1; omega))
          have OB15 := Lib.hid (ownsRow_mod OB14.out m7 (fun j hj => own_own OB14.out OV14.out (by decide) hj))
          have Z15 := Lib.hid (Z14.out.mod m7 (own_other OV14.out Z14.out (by decide)))
          have OV15 := Lib.hid ho
          clear hrun ho m7
          refine step_append_runI rfl (.tmp 52) (.tmp 54) 23 rfl _ _ _ rfl rfl HRUN.out ?_
          refine hJ.out _ _ ⟨by rw [(A7.out.mod N15.out (fun e => e)).cell]; rfl, by rw [(A7.out.mod N15.out (fun e => e)).cell]; rfl, by rw [(A7.out.mod N15.out (fun e => e)).cell]; rfl, by rw [(A7.out.mod N15.out (fun e => e)).cell]; rfl, by rw [(A7.out.mod N15.out (fun e => e)).cell]; rfl⟩ (fun hS => ?_)
          clear hJ J
          try simp only [Act.put, List.setIfInBounds_toArray, List.set_cons_zero, List.set_cons_succ]
          refine wpAnyH_take (i := 12) (v := .agg #[.slice va3 xbl vc3, .slice va7 xvl vc7, .int .i64 xfr, .int .i64 xnum, .slice none 0 0]) rfl (by kernel_rfl) (by kernel_rfl) (by kernel_rfl) (fun _ _ _ h => h) (Or.inl ⟨by kernel_rfl, ?_⟩) hS ?_
          · rintro w' ⟨q0, q1, q2, q3, q4⟩; go_simp
          try simp only [Act.put, List.setIfInBounds_toArray, List.set_cons_zero, List.set_cons_succ]
          have d0 := Z15.out.cell 0
          have d1 := Z15.out.cell 1
          have d2 := Z15.out.cell 2
          have d3 := Z15.out.cell 3
          have d4 := Z15.out.cell 4
          simp only [List.getElem?_cons_zero, List.getElem?_cons_succ] at d0 d1 d2 d3 d4
          have r0 := Z15.out.frozen 0
          have r1 := Z15.out.frozen 1
          have r2 := Z15.out.frozen 2
          have r3 := Z15.out.frozen 3
          have r4 := Z15.out.frozen 4
          have mT := ((((((Mine.Mod.refl (one K9) w15).setCell ⟨K9, 0, none⟩ (fun _ => rfl) (.slice va3 xbl vc3)).setCell ⟨K9, 1, none⟩ (fun _ => rfl) (.slice va7 xvl vc7)).setCell ⟨K9, 2, none⟩ (fun _ => rfl) (.int .i64 xfr)).setCell ⟨K9, 3, none⟩ (fun _ => rfl) (.int .i64 xnum)).setCell ⟨K9, 4, none⟩ (fun _ => rfl) (.slice none 0 0))
          have hK9 := HK9.out
          have NF := Lib.hid (N15.out.transIn mT (fun b hb e => by have e' : b = K9 := e; omega))
          have HF := Lib.hid (show KeepSt w7 K9 ⟨xba, xbl, xbc, xva, xvl, xvc, xfr, xnum, xla, xll, xlc⟩ BB VV _ from ⟨va3, vc3, va7, vc7, (((((Z15.out.set 0 (.slice va3 xbl vc3)).set 1 (.slice va7 xvl vc7)).set 2 (.int .i64 xfr)).set 3 (.int .i64 xnum)).set 4 (.slice none 0 0)), ⟨ownsRow_mod OB15.out mT (fun j hj e => by have e' : j = K9 := e; subst e'; exact own_other OB15.out Z15.out (by decide) hj), ownsRow_mod OV15.out mT (fun j hj e => by have e' : j = K9 := e; subst e'; exact own_other OV15.out Z15.out (by decide) hj), ⟨rfl, .inl ⟨rfl, rfl⟩⟩, fun x hx => by simp at hx⟩, NF.out, hK9⟩)
          clear mT
          refine wpAnyH_ready (rs := [14]) (by kernel_rfl) (by simp) (AllReadyH.cons rfl (fun J hJ => ?_) <| AllReadyH.nil)
          go_simp
          refine hJ.out _ _ ⟨by rw [(A7.out.mod NF.out (fun e => e)).cell]; rfl, by rw [(A7.out.mod NF.out (fun e => e)).cell]; rfl, by rw [(A7.out.mod NF.out (fun e => e)).cell]; rfl, by rw [(A7.out.mod NF.out (fun e => e)).cell]; rfl, by rw [(A7.out.mod NF.out (fun e => e)).cell]; rfl⟩ (fun hS => ?_)
          clear hJ J
          try simp only [Act.put, List.setIfInBounds_toArray, List.set_cons_zero, List.set_cons_succ]
          refine wpAnyH_done (by kernel_rfl) ?_ _
          try simp only [List.getElem_toArray, List.getElem_cons_succ, List.getElem_cons_zero]
          try simp only [Act.put, List.setIfInBounds_toArray, List.set_cons_zero, List.set_cons_succ]
          clear d0 d1 d2 d3 d4 r0 r1 r2 r3 r4 hK9
          go_wp2_with fail
          go_meet
          exact ⟨K9, rfl, HF⟩
      · have mA : Mine.Mod none_ w11 (w11.alloc (.cells #[] 3)) := (Mine.Mod.refl none_ _).alloc _
        have OV12 := Lib.hid (show (w11.alloc (.cells #[] 3)).ownsRow w7.heap.size 3 1 (.slice (some ⟨w11.heap.size, 0, none⟩) 0 0) 0 (intCs []) from World.ownsRow_made (base := w7.heap.size) (e := 3) (size := 1) w11 #[] 0 N11.out.size (by unfold maxLen; omega) rfl)
        have N12 := Lib.hid (N11.out.trans mA)
        have OB12 := Lib.hid (ownsRow_mod OB11.out mA (fun _ _ e => e))
        clear mA
        go_simp
        refine hJ.out _ _ ⟨by rw [(A7.out.mod N12.out (fun e => e)).cell]; rfl, by rw [(A7.out.mod N12.out (fun e => e)).cell]; rfl, by rw [(A7.out.mod N12.out (fun e => e)).cell]; rfl, by rw [(A7.out.mod N12.out (fun e => e)).cell]; rfl, by rw [(A7.out.mod N12.out (fun e => e)).cell]; rfl⟩ (fun hS => ?_)
        clear hJ J
        try simp only [Act.put, List.setIfInBounds_toArray, List.set_cons_zero, List.set_cons_succ]
        generalize w11.alloc (.cells #[] 3) = w12 at N12 OB12 OV12 hS ⊢
        generalize w11.heap.size = XV at OV12 ⊢
        refine wpAnyH_ready (rs := [3, 13]) (by kernel_rfl) (by simp) (AllReadyH.cons rfl (fun J hJ => ?_) <| AllReadyH.cons rfl (fun J hJ => ?_) <| AllReadyH.nil)
        · obtain ⟨va3, vc3, w13, hrun, ho, m7⟩ := app_cells OB12.out (HI.out.b.grown (M7.out.trans N12.out)) (show 0 + xbl ≤ 1099511627776 by omega) N12.out.size
          dsimp only at hrun ho
          rw [Nat.zero_add] at hrun ho
          rw [List.nil_append] at ho
          have HRUN := Lib.hid hrun
          have N13 := Lib.hid (N12.out.transIn m7 (fun b hb e => by have := (OB12.out.lt _ e).1; omega))
          have OV13 := Lib.hid (ownsRow_mod OV12.out m7 (fun j hj => own_own OV12.out OB12.out (by decide) hj))
          have OB13 := Lib.hid ho
          clear hrun ho m7
          refine step_append_runI rfl (.tmp 48) (.tmp 50) 22 rfl _ _ _ rfl rfl HRUN.out ?_
          refine hJ.out _ _ ⟨by rw [(A7.out.mod N13.out (fun e => e)).cell]; rfl, by rw [(A7.out.mod N13.out (fun e => e)).cell]; rfl, by rw [(A7.out.mod N13.out (fun e => e)).cell]; rfl, by rw [(A7.out.mod N13.out (fun e => e)).cell]; rfl, by rw [(A7.out.mod N13.out (fun e => e)).cell]; rfl⟩ (fun hS => ?_)
          clear hJ J
          try simp only [Act.put, List.setIfInBounds_toArray, List.set_cons_zero, List.set_cons_succ]
          refine wpAnyH_ready (rs := [7, 13]) (by kernel_rfl) (by simp) (AllReadyH.cons rfl (fun J hJ => ?_) <| AllReadyH.cons rfl (fun J hJ => ?_) <| AllReadyH.nil)
          · obtain ⟨va7, vc7, w14, hrun, ho, m7⟩ := app_ints OV13.out (HI.out.v.grown (M7.out.trans N13.out)) (show 0 + xvl ≤ 1099511627776 by omega) N13.out.size
            dsimp only at hrun ho
            rw [Nat.zero_add] at hrun ho
            rw [List.nil_append] at ho
            have HRUN := Lib.hid hrun
            have N14 := Lib.hid (N13.out.transIn m7 (fun b hb e => by have := (OV13.out.lt _ e).1; omega))
            have OB14 := Lib.hid (ownsRow_mod OB13.out m7 (fun j hj => own_own OB13.out OV13.out (by decide) hj))
            have OV14 := Lib.hid ho
            clear hrun ho m7
            refine step_append_runI rfl (.tmp 52) (.tmp 54) 23 rfl _ _ _ rfl rfl HRUN.out ?_
            refine hJ.out _ _ ⟨by rw [(A7.out.mod N14.out (fun e => e)).cell]; rfl, by rw [(A7.out.mod N14.out (fun e => e)).cell]; rfl, by rw [(A7.out.mod N14.out (fun e => e)).cell]; rfl, by rw [(A7.out.mod N14.out (fun e => e)).cell]; rfl, by rw [(A7.out.mod N14.out (fun e => e)).cell]; rfl⟩ (fun hS => ?_)
            clear hJ J
            try simp only [Act.put, List.setIfInBounds_toArray, List.set_cons_zero, List.set_cons_succ]
            refine wpAnyH_take (i := 12) (v := .agg #[.slice va3 xbl vc3, .slice va7 xvl vc7, .int .i64 xfr, .int .i64 xnum, .slice none 0 0]) rfl (by kernel_rfl) (by kernel_rfl) (by kernel_rfl) (fun _ _ _ h => h) (Or.inl ⟨by kernel_rfl, ?_⟩) hS ?_
            · rintro w' ⟨q0, q1, q2, q3, q4⟩; go_simp
            try simp only [Act.put, List.setIfInBounds_toArray, List.set_cons_zero, List.set_cons_succ]
            refine wpAnyH_ready (rs := [13]) (by kernel_rfl) (by simp) (AllReadyH.cons rfl (fun J hJ => ?_) <| AllReadyH.nil)
            have mA : Mine.Mod none_ w14 (w14.alloc (.cells #[.slice none 0 0, .slice none 0 0, .int .i64 0, .int .i64 0, .slice none 0 0] 26)) := (Mine.Mod.refl none_ _).alloc _
            have Z15 := Lib.hid (Blk.new (w := w14) (cs := [.slice none 0 0, .slice none 0 0, .int .i64 0, .int .i64 0, .slice none 0 0]) (t := 26))
            have HK9 := Lib.hid (show w7.heap.size ≤ w14.heap.size from N14.out.size)
            have N15 := Lib.hid (N14.out.trans mA)
            have OB15 := Lib.hid (ownsRow_mod OB14.out mA (fun _ _ e => e))
            have OV15 := Lib.hid (ownsRow_mod OV14.out mA (fun _ _ e => e))
            clear mA
            go_simp
            refine hJ.out _ _ ⟨by rw [(A7.out.mod N15.out (fun e => e)).cell]; rfl, by rw [(A7.out.mod N15.out (fun e => e)).cell]; rfl, by rw [(A7.out.mod N15.out (fun e => e)).cell]; rfl, by rw [(A7.out.mod N15.out (fun e => e)).cell]; rfl, by rw [(A7.out.mod N15.out (fun e => e)).cell]; rfl⟩ (fun hS => ?_)
            clear hJ J
            try simp only [Act.put, List.setIfInBounds_toArray, List.set_cons_zero, List.set_cons_succ]
            generalize w14.alloc (.cells #[.slice none 0 0, .slice none 0 0, .int .i64 0, .int .i64 0, .slice none 0 0] 26) = w15 at N15 OB15 OV15 Z15 hS ⊢
            generalize w14.heap.size = K9 at Z15 HK9 ⊢
            have d0 := Z15.out.cell 0
            have d1 := Z15.out.cell 1
            have d2 := Z15.out.cell 2
            have d3 := Z15.out.cell 3
            have d4 := Z15.out.cell 4
            simp only [List.getElem?_cons_zero, List.getElem?_cons_succ] at d0 d1 d2 d3 d4
            have r0 := Z15.out.frozen 0
            have r1 := Z15.out.frozen 1
            have r2 := Z15.out.frozen 2
            have r3 := Z15.out.frozen 3
            have r4 := Z15.out.frozen 4
            have mT := ((((((Mine.Mod.refl (one K9) w15).setCell ⟨K9, 0, none⟩ (fun _ => rfl) (.slice va3 xbl vc3)).setCell ⟨K9, 1, none⟩ (fun _ => rfl) (.slice va7 xvl vc7)).setCell ⟨K9, 2, none⟩ (fun _ => rfl) (.int .i64 xfr)).setCell ⟨K9, 3, none⟩ (fun _ => rfl) (.int .i64 xnum)).setCell ⟨K9, 4, none⟩ (fun _ => rfl) (.slice none 0 0))
            have hK9 := HK9.out
            have NF := Lib.hid (N15.out.transIn mT (fun b hb e => by have e' : b = K9 := e; omega))
            have HF := Lib.hid (show KeepSt w7 K9 ⟨xba, xbl, xbc, xva, xvl, xvc, xfr, xnum, xla, xll, xlc⟩ BB VV _ from ⟨va3, vc3, va7, vc7, (((((Z15.out.set 0 (.slice va3 xbl vc3)).set 1 (.slice va7 xvl vc7)).set 2 (.int .i64 xfr)).set 3 (.int .i64 xnum)).set 4 (.slice none 0 0)), ⟨ownsRow_mod OB15.out mT (fun j hj e => by have e' : j = K9 := e; subst e'; exact own_other OB15.out Z15.out (by decide) hj), ownsRow_mod OV15.out mT (fun j hj e => by have e' : j = K9 := e; subst e'; exact own_other OV15.out Z15.out (by decide) hj), ⟨rfl, .inl ⟨rfl, rfl⟩⟩, fun x hx => by simp at hx⟩, NF.out, hK9⟩)
            clear mT
            refine wpAnyH_ready (rs := [14]) (by kernel_rfl) (by simp) (AllReadyH.cons rfl (fun J hJ => ?_) <| AllReadyH.nil)
            go_simp
            refine hJ.out _ _ ⟨by rw [(A7.out.mod NF.out (fun e => e)).cell]; rfl, by rw [(A7.out.mod NF.out (fun e => e)).cell]; rfl, by rw [(A7.out.mod NF.out (fun e => e)).cell]; rfl, by rw [(A7.out.mod NF.out (fun e => e)).cell]; rfl, by rw [(A7.out.mod NF.out (fun e => e)).cell]; rfl⟩ (fun hS => ?_)
            clear hJ J
            try simp only [Act.put, List.setIfInBounds_toArray, List.set_cons_zero, List.set_cons_succ]
            refine wpAnyH_done (by kernel_rfl) ?_ _
            try simp only [List.getElem_toArray, List.getElem_cons_succ, List.getElem_cons_zero]
            try simp only [Act.put, List.setIfInBounds_toArray, List.set_cons_zero, List.set_cons_succ]
            clear d0 d1 d2 d3 d4 r0 r1 r2 r3 r4 hK9
            go_wp2_with fail
            go_meet
            exact ⟨K9, rfl, HF⟩
          · have mA : Mine.Mod none_ w13 (w13.alloc (.cells #[.slice none 0 0, .slice none 0 0, .int .i64 0, .int .i64 0, .slice none 0 0] 26)) := (Mine.Mod.refl none_ _).alloc _
            have Z14 := Lib.hid (Blk.new (w := w13) (cs := [.slice none 0 0, .slice none 0 0, .int .i64 0, .int .i64 0, .slice none 0 0]) (t := 26))
            have HK9 := Lib.hid (show w7.heap.size ≤ w13.heap.size from N13.out.size)
            have N14 := Lib.hid (N13.out.trans mA)
            have OB14 := Lib.hid (ownsRow_mod OB13.out mA (fun _ _ e => e))
            have OV14 := Lib.hid (ownsRow_mod OV13.out mA (fun _ _ e => e))
            clear mA
            go_simp
            refine hJ.out _ _ ⟨by rw [(A7.out.mod N14.out (fun e => e)).cell]; rfl, by rw [(A7.out.mod N14.out (fun e => e)).cell]; rfl, by rw [(A7.out.mod N14.out (fun e => e)).cell]; rfl, by rw [(A7.out.mod N14.out (fun e => e)).cell]; rfl, by rw [(A7.out.mod N14.out (fun e => e)).cell]; rfl⟩ (fun hS => ?_)
            clear hJ J
            try simp only [Act.put, List.setIfInBounds_toArray, List.set_cons_zero, List.set_cons_succ]
            generalize w13.alloc (.cells #[.slice none 0 0, .slice none 0 0, .int .i64 0, .int .i64 0, .slice none 0 0] 26) = w14 at N14 OB14 OV14 Z14 hS ⊢
            generalize w13.heap.size = K9 at Z14 HK9 ⊢
            refine wpAnyH_ready (rs := [7]) (by kernel_rfl) (by simp) (AllReadyH.cons rfl (fun J hJ => ?_) <| AllReadyH.nil)
            obtain ⟨va7, vc7, w15, hrun, ho, m7⟩ := app_ints OV14.out (HI.out.v.grown (M7.out.trans N14.out)) (show 0 + xvl ≤ 1099511627776 by omega) N14.out.size
            dsimp only at hrun ho
            rw [Nat.zero_add] at hrun ho
            rw [List.nil_append] at ho
            have HRUN := Lib.hid hrun
            have N15 := Lib.hid (N14.out.transIn m7 (fun b hb e => by have := (OV14.out.lt _ e).1; omega))
            have OB15 := Lib.hid (ownsRow_mod OB14.out m7 (fun j hj => own_own OB14.out OV14.out (by decide) hj))
            have Z15 := Lib.hid (Z14.out.mod m7 (own_other OV14.out Z14.out (by decide)))
            have OV15 := Lib.hid ho
            clear hrun ho m7
            refine step_append_runI rfl (.tmp 52) (.tmp 54) 23 rfl _ _ _ rfl rfl HRUN.out ?_
            refine hJ.out _ _ ⟨by rw [(A7.out.mod N15.out (fun e => e)).cell]; rfl, by rw [(A7.out.mod N15.out (fun e => e)).cell]; rfl, by rw [(A7.out.mod N15.out (fun e => e)).cell]; rfl, by rw [(A7.out.mod N15.out (fun e => e)).cell]; rfl, by rw [(A7.out.mod N15.out (fun e => e)).cell]; rfl⟩ (fun hS => ?_)
            clear hJ J
            try simp only [Act.put, List.setIfInBounds_toArray, List.set_cons_zero, List.set_cons_succ]
            refine wpAnyH_take (i := 12) (v := .agg #[.slice va3 xbl vc3, .slice va7 xvl vc7, .int .i64 xfr, .int .i64 xnum, .slice none 0 0]) rfl (by kernel_rfl) (by kernel_rfl) (by kernel_rfl) (fun _ _ _ h => h) (Or.inl ⟨by kernel_rfl, ?_⟩) hS ?_
            · rintro w' ⟨q0, q1, q2, q3, q4⟩; go_simp
            try simp only [Act.put, List.setIfInBounds_toArray, List.set_cons_zero, List.set_cons_succ]
            have d0 := Z15.out.cell 0
            have d1 := Z15.out.cell 1
            have d2 := Z15.out.cell 2
            have d3 := Z15.out.cell 3
            have d4 := Z15.out.cell 4
            simp only [List.getElem?_cons_zero, List.getElem?_cons_succ] at d0 d1 d2 d3 d4
            have r0 := Z15.out.frozen 0
            have r1 := Z15.out.frozen 1
            have r2 := Z15.out.frozen 2
            have r3 := Z15.out.frozen 3
            have r4 := Z15.out.frozen 4
            have mT := ((((((Mine.Mod.refl (one K9) w15).setCell ⟨K9, 0, none⟩ (fun _ => rfl) (.slice va3 xbl vc3)).setCell ⟨K9, 1, none⟩ (fun _ => rfl) (.slice va7 xvl vc7)).setCell ⟨K9, 2, none⟩ (fun _ => rfl) (.int .i64 xfr)).setCell ⟨K9, 3, none⟩ (fun _ => rfl) (.int .i64 xnum)).setCell ⟨K9, 4, none⟩ (fun _ => rfl) (.slice none 0 0))
            have hK9 := HK9.out
            have NF := Lib.hid (N15.out.transIn mT (fun b hb e => by have e' : b = K9 := e; omega))
            have HF := Lib.hid (show KeepSt w7 K9 ⟨xba, xbl, xbc, xva, xvl, xvc, xfr, xnum, xla, xll, xlc⟩ BB VV _ from ⟨va3, vc3, va7, vc7, (((((Z15.out.set 0 (.slice va3 xbl vc3)).set 1 (.slice va7 xvl vc7)).set 2 (.int .i64 xfr)).set 3 (.int .i64 xnum)).set 4 (.slice none 0 0)), ⟨ownsRow_mod OB15.out mT (fun j hj e => by have e' : j = K9 := e; subst e'; exact own_other OB15.out Z15.out (by decide) hj), ownsRow_mod OV15.out mT (fun j hj e => by have e' : j = K9 := e; subst e'; exact own_other OV15.out Z15.out (by decide) hj), ⟨rfl, .inl ⟨rfl, rfl⟩⟩, fun x hx => by simp at hx⟩, NF.out, hK9⟩)
            clear mT
            refine wpAnyH_ready (rs := [14]) (by kernel_rfl) (by simp) (AllReadyH.cons rfl (fun J hJ => ?_) <| AllReadyH.nil)
            go_simp
            refine hJ.out _ _ ⟨by rw [(A7.out.mod NF.out (fun e => e)).cell]; rfl, by rw [(A7.out.mod NF.out (fun e => e)).cell]; rfl, by rw [(A7.out.mod NF.out (fun e => e)).cell]; rfl, by rw [(A7.out.mod NF.out (fun e => e)).cell]; rfl, by rw [(A7.out.mod NF.out (fun e => e)).cell]; rfl⟩ (fun hS => ?_)
            clear hJ J
            try simp only [Act.put, List.setIfInBounds_toArray, List.set_cons_zero, List.set_cons_succ]
            refine wpAnyH_done (by kernel_rfl) ?_ _
            try simp only [List.getElem_toArray, List.getElem_cons_succ, List.getElem_cons_zero]
            try simp only [Act.put, List.setIfInBounds_toArray, List.set_cons_zero, List.set_cons_succ]
            clear d0 d1 d2 d3 d4 r0 r1 r2 r3 r4 hK9
            go_wp2_with fail
            go_meet
            exact ⟨K9, rfl, HF⟩
        · have mA : Mine.Mod none_ w12 (w12.alloc (.cells #[.slice none 0 0, .slice none 0 0, .int .i64 0, .int .i64 0, .slice none 0 0] 26)) := (Mine.Mod.refl none_ _).alloc _
          have Z13 := Lib.hid (Blk.new (w := w12) (cs := [.slice none 0 0, .slice none 0 0, .int .i64 0, .int .i64 0, .slice none 0 0]) (t := 26))
          have HK9 := Lib.hid (show w7.heap.size ≤ w12.heap.size from N12.out.size)
          have N13 := Lib.hid (N12.out.trans mA)
          have OB13 := Lib.hid (ownsRow_mod OB12.out mA (fun _ _ e => e))
          have OV13 := Lib.hid (ownsRow_mod OV12.out mA (fun _ _ e => e))
          clear mA
          go_simp
          refine hJ.out _ _ ⟨by rw [(A7.out.mod N13.out (fun e => e)).cell]; rfl, by rw [(A7.out.mod N13.out (fun e => e)).cell]; rfl, by rw [(A7.out.mod N13.out (fun e => e)).cell]; rfl, by rw [(A7.out.mod N13.out (fun e => e)).cell]; rfl, by rw [(A7.out.mod N13.out (fun e => e)).cell]; rfl⟩ (fun hS => ?_)
          clear hJ J
          try simp only [Act.put, List.setIfInBounds_toArray, List.set_cons_zero, List.set_cons_succ]
          generalize w12.alloc (.cells #[.slice none 0 0, .slice none 0 0, .int .i64 0, .int .i64 0, .slice none 0 0] 26) = w13 at N13 OB13 OV13 Z13 hS ⊢
          generalize w12.heap.size = K9 at Z13 HK9 ⊢
          refine wpAnyH_ready (rs := [3]) (by kernel_rfl) (by simp) (AllReadyH.cons rfl (fun J hJ => ?_) <| AllReadyH.nil)
          obtain ⟨va3, vc3, w14, hrun, ho, m7⟩ := app_cells OB13.out (HI.out.b.grown (M7.out.trans N13.out)) (show 0 + xbl ≤ 1099511627776 by omega) N13.out.size
          dsimp only at hrun ho
          rw [Nat.zero_add] at hrun ho
          rw [List.nil_append] at ho
          have HRUN := Lib.hid hrun
          have N14 := Lib.hid (N13.out.transIn m7 (fun b hb e => by have := (OB13.out.lt _ e).1; omega))
          have OV14 := Lib.hid (ownsRow_mod OV13.out m7 (fun j hj => own_own OV13.out OB13.out (by decide) hj))
          have Z14 := Lib.hid (Z13.out.mod m7 (own_other OB13.out Z13.out (by decide)))
          have OB14 := Lib.hid ho
          clear hrun ho m7
          refine step_append_runI rfl (.tmp 48) (.tmp 50) 22 rfl _ _ _ rfl rfl HRUN.out ?_
          refine hJ.out _ _ ⟨by rw [(A7.out.mod N14.out (fun e => e)).cell]; rfl, by rw [(A7.out.mod N14.out (fun e => e)).cell]; rfl, by rw [(A7.out.mod N14.out (fun e => e)).cell]; rfl, by rw [(A7.out.mod N14.out (fun e => e)).cell]; rfl, by rw [(A7.out.mod N14.out (fun e => e)).cell]; rfl⟩ (fun hS => ?_)
          clear hJ J
          try simp only [Act.put, List.setIfInBounds_toArray, List.set_cons_zero, List.set_cons_succ]
          refine wpAnyH_ready (rs := [7]) (by kernel_rfl) (by simp) (AllReadyH.cons rfl (fun J hJ => ?_) <| AllReadyH.nil)
          obtain ⟨va7, vc7, w15, hrun, ho, m7⟩ := app_ints OV14.out (HI.out.v.grown (M7.out.trans N14.out)) (show 0 + xvl ≤ 1099511627776 by omega) N14.out.size
          dsimp only at hrun ho
          rw [Nat.zero_add] at hrun ho
          rw [List.nil_append] at ho
          have HRUN := Lib.hid hrun
          have N15 := Lib.hid (N14.out.transIn m7 (fun b hb e => by have := (OV14.out.lt _ e).1; omega))
          have OB15 := Lib.hid (ownsRow_mod OB14.out m7 (fun j hj => own_own OB14.out OV14.out (by decide) hj))
          have Z15 := Lib.hid (Z14.out.mod m7 (own_other OV14.out Z14.out (by decide)))
          have OV15 := Lib.hid ho
          clear hrun ho m7
          refine step_append_runI rfl (.tmp 52) (.tmp 54) 23 rfl _ _ _ rfl rfl HRUN.out ?_
          refine hJ.out _ _ ⟨by rw [(A7.out.mod N15.out (fun e => e)).cell]; rfl, by rw [(A7.out.mod N15.out (fun e => e)).cell]; rfl, by rw [(A7.out.mod N15.out (fun e => e)).cell]; rfl, by rw [(A7.out.mod N15.out (fun e => e)).cell]; rfl, by rw [(A7.out.mod N15.out (fun e => e)).cell]; rfl⟩ (fun hS => ?_)
          clear hJ J
          try simp only [Act.put, List.setIfInBounds_toArray, List.set_cons_zero, List.set_cons_succ]
          refine wpAnyH_take (i := 12) (v := .agg #[.slice va3 xbl vc3, .slice va7 xvl vc7, .int .i64 xfr, .int .i64 xnum, .slice none 0 0]) rfl (by kernel_rfl) (by kernel_rfl) (by kernel_rfl) (fun _ _ _ h => h) (Or.inl ⟨by kernel_rfl, ?_⟩) hS ?_
          · rintro w' ⟨q0, q1, q2, q3, q4⟩; go_simp
          try simp only [Act.put, List.setIfInBounds_toArray, List.set_cons_zero, List.set_cons_succ]
          have d0 := Z15.out.cell 0
          have d1 := Z15.out.cell 1
          have d2 := Z15.out.cell 2
          have d3 := Z15.out.cell 3
          have d4 := Z15.out.cell 4
          simp only [List.getElem?_cons_zero, List.getElem?_cons_succ] at d0 d1 d2 d3 d4
          have r0 := Z15.out.frozen 0
          have r1 := Z15.out.frozen 1
          have r2 := Z15.out.frozen 2
          have r3 := Z15.out.frozen 3
          have r4 := Z15.out.frozen 4
          have mT := ((((((Mine.Mod.refl (one K9) w15).setCell ⟨K9, 0, none⟩ (fun _ => rfl) (.slice va3 xbl vc3)).setCell ⟨K9, 1, none⟩ (fun _ => rfl) (.slice va7 xvl vc7)).setCell ⟨K9, 2, none⟩ (fun _ => rfl) (.int .i64 xfr)).setCell ⟨K9, 3, none⟩ (fun _ => rfl) (.int .i64 xnum)).setCell ⟨K9, 4, none⟩ (fun _ => rfl) (.slice none 0 0))
          have hK9 := HK9.out
          have NF := Lib.hid (N15.out.transIn mT (fun b hb e => by have e' : b = K9 := e; omega))
          have HF := Lib.hid (show KeepSt w7 K9 ⟨xba, xbl, xbc, xva, xvl, xvc, xfr, xnum, xla, xll, xlc⟩ BB VV _ from ⟨va3, vc3, va7, vc7, (((((Z15.out.set 0 (.slice va3 xbl vc3)).set 1 (.slice va7 xvl vc7)).set 2 (.int .i64 xfr)).set 3 (.int .i64 xnum)).set 4 (.slice none 0 0)), ⟨ownsRow_mod OB15.out mT (fun j hj e => by have e' : j = K9 := e; subst e'; exact own_other OB15.out Z15.out (by decide) hj), ownsRow_mod OV15.out mT (fun j hj e => by have e' : j = K9 := e; subst e'; exact own_other OV15.out Z15.out (by decide) hj), ⟨rfl, .inl ⟨rfl, rfl⟩⟩, fun x hx => by simp at hx⟩, NF.out, hK9⟩)
          clear mT
          refine wpAnyH_ready (rs := [14]) (by kernel_rfl) (by simp) (AllReadyH.cons rfl (fun J hJ => ?_) <| AllReadyH.nil)
          go_simp
          refine hJ.out _ _ ⟨by rw [(A7.out.mod NF.out (fun e => e)).cell]; rfl, by rw [(A7.out.mod NF.out (fun e => e)).cell]; rfl, by rw [(A7.out.mod NF.out (fun e => e)).cell]; rfl, by rw [(A7.out.mod NF.out (fun e => e)).cell]; rfl, by rw [(A7.out.mod NF.out (fun e => e)).cell]; rfl⟩ (fun hS => ?_)
          clear hJ J
          try simp only [Act.put, List.setIfInBounds_toArray, List.set_cons_zero, List.set_cons_succ]
          refine wpAnyH_done (by kernel_rfl) ?_ _
          try simp only [List.getElem_toArray, List.getElem_cons_succ, List.getElem_cons_zero]
          try simp only [Act.put, List.setIfInBounds_toArray, List.set_cons_zero, List.set_cons_succ]
          clear d0 d1 d2 d3 d4 r0 r1 r2 r3 r4 hK9
          go_wp2_with fail
          go_meet
          exact ⟨K9, rfl, HF⟩
      · have mA : Mine.Mod none_ w11 (w11.alloc (.cells #[.slice none 0 0, .slice none 0 0, .int .i64 0, .int .i64 0, .slice none 0 0] 26)) := (Mine.Mod.refl none_ _).alloc _
        have Z12 := Lib.hid (Blk.new (w := w11) (cs := [.slice none 0 0, .slice none 0 0, .int .i64 0, .int .i64 0, .slice none 0 0]) (t := 26))
        have HK9 := Lib.hid (show w7.heap.size ≤ w11.heap.size from N11.out.size)
        have N12 := Lib.hid (N11.out.trans mA)
        have OB12 := Lib.hid (ownsRow_mod OB11.out mA (fun _ _ e => e))
        clear mA
        go_simp
        refine hJ.out _ _ ⟨by rw [(A7.out.mod N12.out (fun e => e)).cell]; rfl, by rw [(A7.out.mod N12.out (fun e => e)).cell]; rfl, by rw [(A7.out.mod N12.out (fun e => e)).cell]; rfl, by rw [(A7.out.mod N12.out (fun e => e)).cell]; rfl, by rw [(A7.out.mod N12.out (fun e => e)).cell]; rfl⟩ (fun hS => ?_)
        clear hJ J
        try simp only [Act.put, List.setIfInBounds_toArray, List.set_cons_zero, List.set_cons_succ]
        generalize w11.alloc (.cells #[.slice none 0 0, .slice none 0 0, .int .i64 0, .int .i64 0, .slice none 0 0] 26) = w12 at N12 OB12 Z12 hS ⊢
        generalize w11.heap.size = K9 at Z12 HK9 ⊢
        refine wpAnyH_ready (rs := [3, 4]) (by kernel_rfl) (by simp) (AllReadyH.cons rfl (fun J hJ => ?_) <| AllReadyH.cons rfl (fun J hJ => ?_) <| AllReadyH.nil)
        · obtain ⟨va3, vc3, w13, hrun, ho, m7⟩ := app_cells OB12.out (HI.out.b.grown (M7.out.trans N12.out)) (show 0 + xbl ≤ 1099511627776 by omega) N12.out.size
          dsimp only at hrun ho
          rw [Nat.zero_add] at hrun ho
          rw [List.nil_append] at ho
          have HRUN := Lib.hid hrun
          have N13 := Lib.hid (N12.out.transIn m7 (fun b hb e => by have := (OB12.out.lt _ e).1; omega))
          have Z13 := Lib.hid (Z12.out.mod m7 (own_other OB12.out Z12.out (by decide)))
          have OB13 := Lib.hid ho
          clear hrun ho m7
          refine step_append_runI rfl (.tmp 48) (.tmp 50) 22 rfl _ _ _ rfl rfl HRUN.out ?_
          refine hJ.out _ _ ⟨by rw [(A7.out.mod N13.out (fun e => e)).cell]; rfl, by rw [(A7.out.mod N13.out (fun e => e)).cell]; rfl, by rw [(A7.out.mod N13.out (fun e => e)).cell]; rfl, by rw [(A7.out.mod N13.out (fun e => e)).cell]; rfl, by rw [(A7.out.mod N13.out (fun e => e)).cell]; rfl⟩ (fun hS => ?_)
          clear hJ J
          try simp only [Act.put, List.setIfInBounds_toArray, List.set_cons_zero, List.set_cons_succ]
          refine wpAnyH_ready (rs := [4]) (by kernel_rfl) (by simp) (AllReadyH.cons rfl (fun J hJ => ?_) <| AllReadyH.nil)
          have mA : Mine.Mod none_ w13 (w13.alloc (.cells #[] 3)) := (Mine.Mod.refl none_ _).alloc _
          have OV14 := Lib.hid (show (w13.alloc (.cells #[] 3)).ownsRow w7.heap.size 3 1 (.slice (some ⟨w13.heap.size, 0, none⟩) 0 0) 0 (intCs []) from World.ownsRow_made (base := w7.heap.size) (e := 3) (size := 1) w13 #[] 0 N13.out.size (by unfold maxLen; omega) rfl)
          have N14 := Lib.hid (N13.out.trans mA)
          have OB14 := Lib.hid (ownsRow_mod OB13.out mA (fun _ _ e => e))
          have Z14 := Lib.hid (Z13.out.mod mA (fun e => e))
          clear mA
          go_simp
          refine hJ.out _ _ ⟨by rw [(A7.out.mod N14.out (fun e => e)).cell]; rfl, by rw [(A7.out.mod N14.out (fun e => e)).cell]; rfl, by rw [(A7.out.mod N14.out (fun e => e)).cell]; rfl, by rw [(A7.out.mod N14.out (fun e => e)).cell]; rfl, by rw [(A7.out.mod N14.out (fun e => e)).cell]; rfl⟩ (fun hS => ?_)
          clear hJ J
          try simp only [Act.put, List.setIfInBounds_toArray, List.set_cons_zero, List.set_cons_succ]
          generalize w13.alloc (.cells #[] 3) = w14 at N14 OB14 Z14 OV14 hS ⊢
          generalize w13.heap.size = XV at OV14 ⊢
          refine wpAnyH_ready (rs := [7]) (by kernel_rfl) (by simp) (AllReadyH.cons rfl (fun J hJ => ?_) <| AllReadyH.nil)
          obtain ⟨va7, vc7, w15, hrun, ho, m7⟩ := app_ints OV14.out (HI.out.v.grown (M7.out.trans N14.out)) (show 0 + xvl ≤ 1099511627776 by omega) N14.out.size
          dsimp only at hrun ho
          rw [Nat.zero_add] at hrun ho
          rw [List.nil_append] at ho
          have HRUN := Lib.hid hrun
          have N15 := Lib.hid (N14.out.transIn m7 (fun b hb e => by have := (OV14.out.lt _ e).1; omega))
          have OB15 := Lib.hid (ownsRow_mod OB14.out m7 (fun j hj => own_own OB14.out OV14.out (by decide) hj))
          have Z15 := Lib.hid (Z14.out.mod m7 (own_other OV14.out Z14.out (by decide)))
          have OV15 := Lib.hid ho
          clear hrun ho m7
          refine step_append_runI rfl (.tmp 52) (.tmp 54) 23 rfl _ _ _ rfl rfl HRUN.out ?_
          refine hJ.out _ _ ⟨by rw [(A7.out.mod N15.out (fun e => e)).cell]; rfl, by rw [(A7.out.mod N15.out (fun e => e)).cell]; rfl, by rw [(A7.out.mod N15.out (fun e => e)).cell]; rfl, by rw [(A7.out.mod N15.out (fun e => e)).cell]; rfl, by rw [(A7.out.mod N15.out (fun e => e)).cell]; rfl⟩ (fun hS => ?_)
          clear hJ J
          try simp only [Act.put, List.setIfInBounds_toArray, List.set_cons_zero, List.set_cons_succ]
          refine wpAnyH_take (i := 12) (v := .agg #[.slice va3 xbl vc3, .slice va7 xvl vc7, .int .i64 xfr, .int .i64 xnum, .slice none 0 0]) rfl (by kernel_rfl) (by kernel_rfl) (by kernel_rfl) (fun _ _ _ h => h) (Or.inl ⟨by kernel_rfl, ?_⟩) hS ?_
          · rintro w' ⟨q0, q1, q2, q3, q4⟩; go_simp
          try simp only [Act.put, List.setIfInBounds_toArray, List.set_cons_zero, List.set_cons_succ]
          have d0 := Z15.out.cell 0
          have d1 := Z15.out.cell 1
          have d2 := Z15.out.cell 2
          have d3 := Z15.out.cell 3
          have d4 := Z15.out.cell 4
          simp only [List.getElem?_cons_zero, List.getElem?_cons_succ] at d0 d1 d2 d3 d4
          have r0 := Z15.out.frozen 0
          have r1 := Z15.out.frozen 1
          have r2 := Z15.out.frozen 2
          have r3 := Z15.out.frozen 3
          have r4 := Z15.out.frozen 4
          have mT := ((((((Mine.Mod.refl (one K9) w15).setCell ⟨K9, 0, none⟩ (fun _ => rfl) (.slice va3 xbl vc3)).setCell ⟨K9, 1, none⟩ (fun _ => rfl) (.slice va7 xvl vc7)).setCell ⟨K9, 2, none⟩ (fun _ => rfl) (.int .i64 xfr)).setCell ⟨K9, 3, none⟩ (fun _ => rfl) (.int .i64 xnum)).setCell ⟨K9, 4, none⟩ (fun _ => rfl) (.slice none 0 0))
          have hK9 := HK9.out
          have NF := Lib.hid (N15.out.transIn mT (fun b hb e => by have e' : b = K9 := e; omega))
          have HF := Lib.hid (show KeepSt w7 K9 ⟨xba, xbl, xbc, xva, xvl, xvc, xfr, xnum, xla, xll, xlc⟩ BB VV _ from ⟨va3, vc3, va7, vc7, (((((Z15.out.set 0 (.slice va3 xbl vc3)).set 1 (.slice va7 xvl vc7)).set 2 (.int .i64 xfr)).set 3 (.int .i64 xnum)).set 4 (.slice none 0 0)), ⟨ownsRow_mod OB15.out mT (fun j hj e => by have e' : j = K9 := e; subst e'; exact own_other OB15.out Z15.out (by decide) hj), ownsRow_mod OV15.out mT (fun j hj e => by have e' : j = K9 := e; subst e'; exact own_other OV15.out Z15.out (by decide) hj), ⟨rfl, .inl ⟨rfl, rfl⟩⟩, fun x hx => by simp at hx⟩, NF.out, hK9⟩)
          clear mT
          refine wpAnyH_ready (rs := [14]) (by kernel_rfl) (by simp) (AllReadyH.cons rfl (fun J hJ => ?_) <| AllReadyH.nil)
          go_simp
          refine hJ.out _ _ ⟨by rw [(A7.out.mod NF.out (fun e => e)).cell]; rfl, by rw [(A7.out.mod NF.out (fun e => e)).cell]; rfl, by rw [(A7.out.mod NF.out (fun e => e)).cell]; rfl, by rw [(A7.out.mod NF.out (fun e => e)).cell]; rfl, by rw [(A7.out.mod NF.out (fun e => e)).cell]; rfl⟩ (fun hS => ?_)
          clear hJ J
          try simp only [Act.put, List.setIfInBounds_toArray, List.set_cons_zero, List.set_cons_succ]
          refine wpAnyH_done (by kernel_rfl) ?_ _
          try simp only [List.getElem_toArray, List.getElem_cons_succ, List.getElem_cons_zero]
          try simp only [Act.put, List.setIfInBounds_toArray, List.set_cons_zero, List.set_cons_succ]
          clear d0 d1 d2 d3 d4 r0 r1 r2 r3 r4 hK9
          go_wp2_with fail
          go_meet
          exact ⟨K9, rfl, HF⟩
        · have mA : Mine.Mod none_ w12 (w12.alloc (.cells #[] 3)) := (Mine.Mod.refl none_ _).alloc _
          have OV13 := Lib.hid (show (w12.alloc (.cells #[] 3)).ownsRow w7.heap.size 3 1 (.slice (some ⟨w12.heap.size, 0, none⟩) 0 0) 0 (intCs []) from World.ownsRow_made (base := w7.heap.size) (e := 3) (size := 1) w12 #[] 0 N12.out.size (by unfold maxLen; omega) rfl)
          have N13 := Lib.hid (N12.out.trans mA)
          have OB13 := Lib.hid (ownsRow_mod OB12.out mA (fun _ _ e => e))
          have Z13 := Lib.hid (Z12.out.mod mA (fun e => e))
          clear mA
          go_simp
          refine hJ.out _ _ ⟨by rw [(A7.out.mod N13.out (fun e => e)).cell]; rfl, by rw [(A7.out.mod N13.out (fun e => e)).cell]; rfl, by rw [(A7.out.mod N13.out (fun e => e)).cell]; rfl, by rw [(A7.out.mod N13.out (fun e => e)).cell]; rfl, by rw [(A7.out.mod N13.out (fun e => e)).cell]; rfl⟩ (fun hS => ?_)
          clear hJ J
          try simp only [Act.put, List.setIfInBounds_toArray, List.set_cons_zero, List.set_cons_succ]
          generalize w12.alloc (.cells #[] 3) = w13 at N13 OB13 Z13 OV13 hS ⊢
          generalize w12.heap.size = XV at OV13 ⊢
          refine wpAnyH_ready (rs := [3]) (by kernel_rfl) (by simp) (AllReadyH.cons rfl (fun J hJ => ?_) <| AllReadyH.nil)
          obtain ⟨va3, vc3, w14, hrun, ho, m7⟩ := app_cells OB13.out (HI.out.b.grown (M7.out.trans N13.out)) (show 0 + xbl ≤ 1099511627776 by omega) N13.out.size
          dsimp only at hrun ho
          rw [Nat.zero_add] at hrun ho
          rw [List.nil_append] at ho
          have HRUN := Lib.hid hrun
          have N14 := Lib.hid (N13.out.transIn m7 (fun b hb e => by have := (OB13.out.lt _ e).1; omega))
          have Z14 := Lib.hid (Z13.out.mod m7 (own_other OB13.out Z13.out (by decide)))
          have OV14 := Lib.hid (ownsRow_mod OV13.out m7 (fun j hj => own_own OV13.out OB13.out (by decide) hj))
          have OB14 := Lib.hid ho
          clear hrun ho m7
          refine step_append_runI rfl (.tmp 48) (.tmp 50) 22 rfl _ _ _ rfl rfl HRUN.out ?_
          refine hJ.out _ _ ⟨by rw [(A7.out.mod N14.out (fun e => e)).cell]; rfl, by rw [(A7.out.mod N14.out (fun e => e)).cell]; rfl, by rw [(A7.out.mod N14.out (fun e => e)).cell]; rfl, by rw [(A7.out.mod N14.out (fun e => e)).cell]; rfl, by rw [(A7.out.mod N14.out (fun e => e)).cell]; rfl⟩ (fun hS => ?_)
          clear hJ J
          try simp only [Act.put, List.setIfInBounds_toArray, List.set_cons_zero, List.set_cons_succ]
          refine wpAnyH_ready (rs := [7]) (by kernel_rfl) (by simp) (AllReadyH.cons rfl (fun J hJ => ?_) <| AllReadyH.nil)
          obtain ⟨va7, vc7, w15, hrun, ho, m7⟩ := app_ints OV14.out (HI.out.v.grown (M7.out.trans N14.out)) (show 0 + xvl ≤ 1099511627776 by omega) N14.out.size
          dsimp only at hrun ho
          rw [Nat.zero_add] at hrun ho
          rw [List.nil_append] at ho
          have HRUN := Lib.hid hrun
          have N15 := Lib.hid (N14.out.transIn m7 (fun b hb e => by have := (OV14.out.lt _ e).1; omega))
          have OB15 := Lib.hid (ownsRow_mod OB14.out m7 (fun j hj => own_own OB14.out OV14.out (by decide) hj))
          have Z15 := Lib.hid (Z14.out.mod m7 (own_other OV14.out Z14.out (by decide)))
          have OV15 := Lib.hid ho
          clear hrun ho m7
          refine step_append_runI rfl (.tmp 52) (.tmp 54) 23 rfl _ _ _ rfl rfl HRUN.out ?_
          refine hJ.out _ _ ⟨by rw [(A7.out.mod N15.out (fun e => e)).cell]; rfl, by rw [(A7.out.mod N15.out (fun e => e)).cell]; rfl, by rw [(A7.out.mod N15.out (fun e => e)).cell]; rfl, by rw [(A7.out.mod N15.out (fun e => e)).cell]; rfl, by rw [(A7.out.mod N15.out (fun e => e)).cell]; rfl⟩ (fun hS => ?_)
          clear hJ J
          try simp only [Act.put, List.setIfInBounds_toArray, List.set_cons_zero, List.set_cons_succ]
          refine wpAnyH_take (i := 12) (v := .agg #[.slice va3 xbl vc3, .slice va7 xvl vc7, .int .i64 xfr, .int .i64 xnum, .slice none 0 0]) rfl (by kernel_rfl) (by kernel_rfl) (by kernel_rfl) (fun _ _ _ h => h) (Or.inl ⟨by kernel_rfl, ?_⟩) hS ?_
          · rintro w' ⟨q0, q1, q2, q3, q4⟩; go_simp
          try simp only [Act.put, List.setIfInBounds_toArray, List.set_cons_zero, List.set_cons_succ]
          have d0 := Z15.out.cell 0
          have d1 := Z15.out.cell 1
          have d2 := Z15.out.cell 2
          have d3 := Z15.out.cell 3
          have d4 := Z15.out.cell 4
          simp only [List.getElem?_cons_zero, List.getElem?_cons_succ] at d0 d1 d2 d3 d4
          have r0 := Z15.out.frozen 0
          have r1 := Z15.out.frozen 1
          have r2 := Z15.out.frozen 2
          have r3 := Z15.out.frozen 3
          have r4 := Z15.out.frozen 4
          have mT := ((((((Mine.Mod.refl (one K9) w15).setCell ⟨K9, 0, none⟩ (fun _ => rfl) (.slice va3 xbl vc3)).setCell ⟨K9, 1, none⟩ (fun _ => rfl) (.slice va7 xvl vc7)).setCell ⟨K9, 2, none⟩ (fun _ => rfl) (.int .i64 xfr)).setCell ⟨K9, 3, none⟩ (fun _ => rfl) (.int .i64 xnum)).setCell ⟨K9, 4, none⟩ (fun _ => rfl) (.slice none 0 0))
          have hK9 := HK9.out
          have NF := Lib.hid (N15.out.transIn mT (fun b hb e => by have e' : b = K9 := e; omega))
          have HF := Lib.hid (show KeepSt w7 K9 ⟨xba, xbl, xbc, xva, xvl, xvc, xfr, xnum, xla, xll, xlc⟩ BB VV _ from ⟨va3, vc3, va7, vc7, (((((Z15.out.set 0 (.slice va3 xbl vc3)).set 1 (.slice va7 xvl vc7)).set 2 (.int .i64 xfr)).set 3 (.int .i64 xnum)).set 4 (.slice none 0 0)), ⟨ownsRow_mod OB15.out mT (fun j hj e => by have e' : j = K9 := e; subst e'; exact own_other OB15.out Z15.out (by decide) hj), ownsRow_mod OV15.out mT (fun j hj e => by have e' : j = K9 := e; subst e'; exact own_other OV15.out Z15.out (by decide) hj), ⟨rfl, .inl ⟨rfl, rfl⟩⟩, fun x hx => by simp at hx⟩, NF.out, hK9⟩)
          clear mT
          refine wpAnyH_ready (rs := [14]) (by kernel_rfl) (by simp) (AllReadyH.cons rfl (fun J hJ => ?_) <| AllReadyH.nil)
          go_simp
          refine hJ.out _ _ ⟨by rw [(A7.out.mod NF.out (fun e => e)).cell]; rfl, by rw [(A7.out.mod NF.out (fun e => e)).cell]; rfl, by rw [(A7.out.mod NF.out (fun e => e)).cell]; rfl, by rw [(A7.out.mod NF.out (fun e => e)).cell]; rfl, by rw [(A7.out.mod NF.out (fun e => e)).cell]; rfl⟩ (fun hS => ?_)
          clear hJ J
          try simp only [Act.put, List.setIfInBounds_toArray, List.set_cons_zero, List.set_cons_succ]
          refine wpAnyH_done (by kernel_rfl) ?_ _
          try simp only [List.getElem_toArray, List.getElem_cons_succ, List.getElem_cons_zero]
          try simp only [Act.put, List.setIfInBounds_toArray, List.set_cons_zero, List.set_cons_succ]
          clear d0 d1 d2 d3 d4 r0 r1 r2 r3 r4 hK9
          go_wp2_with fail
          go_meet
          exact ⟨K9, rfl, HF⟩
    · have mA : Mine.Mod none_ w10 (w10.alloc (.cells #[] 3)) := (Mine.Mod.refl none_ _).alloc _
      have OV11 := Lib.hid (show (w10.alloc (.cells #[] 3)).ownsRow w7.heap.size 3 1 (.slice (some ⟨w10.heap.size, 0, none⟩) 0 0) 0 (intCs []) from World.ownsRow_made (base := w7.heap.size) (e := 3) (size := 1) w10 #[] 0 N10.out.size (by unfold maxLen; omega) rfl)
      have N11 := Lib.hid (N10.out.trans mA)
      clear mA
      go_simp
      refine hJ.out _ _ ⟨by rw [(A7.out.mod N11.out (fun e => e)).cell]; rfl, by rw [(A7.out.mod N11.out (fun e => e)).cell]; rfl, by rw [(A7.out.mod N11.out (fun e => e)).cell]; rfl, by rw [(A7.out.mod N11.out (fun e => e)).cell]; rfl, by rw [(A7.out.mod N11.out (fun e => e)).cell]; rfl⟩ (fun hS => ?_)
      clear hJ J
      try simp only [Act.put, List.setIfInBounds_toArray, List.set_cons_zero, List.set_cons_succ]
      generalize w10.alloc (.cells #[] 3) = w11 at N11  OV11 hS ⊢
      generalize w10.heap.size = XV at OV11 ⊢
      refine wpAnyH_ready (rs := [0, 13]) (by kernel_rfl) (by simp) (AllReadyH.cons rfl (fun J hJ => ?_) <| AllReadyH.cons rfl (fun J hJ => ?_) <| AllReadyH.nil)
      · have mA : Mine.Mod none_ w11 (w11.alloc (.cells #[] 47)) := (Mine.Mod.refl none_ _).alloc _
        have OB12 := Lib.hid (show (w11.alloc (.cells #[] 47)).ownsRow w7.heap.size 47 5 (.slice (some ⟨w11.heap.size, 0, none⟩) 0 0) 0 (flat CellV.cs []) from World.ownsRow_made (base := w7.heap.size) (e := 47) (size := 5) w11 #[] 0 N11.out.size (by unfold maxLen; omega) rfl)
        have N12 := Lib.hid (N11.out.trans mA)
        have OV12 := Lib.hid (ownsRow_mod OV11.out mA (fun _ _ e => e))
        clear mA
        go_simp
        refine hJ.out _ _ ⟨by rw [(A7.out.mod N12.out (fun e => e)).cell]; rfl, by rw [(A7.out.mod N12.out (fun e => e)).cell]; rfl, by rw [(A7.out.mod N12.out (fun e => e)).cell]; rfl, by rw [(A7.out.mod N12.out (fun e => e)).cell]; rfl, by rw [(A7.out.mod N12.out (fun e => e)).cell]; rfl⟩ (fun hS => ?_)
        clear hJ J
        try simp only [Act.put, List.setIfInBounds_toArray, List.set_cons_zero, List.set_cons_succ]
        generalize w11.alloc (.cells #[] 47) = w12 at N12 OV12 OB12 hS ⊢
        generalize w11.heap.size = XB at OB12 ⊢
        refine wpAnyH_ready (rs := [3, 13]) (by kernel_rfl) (by simp) (AllReadyH.cons rfl (fun J hJ => ?_) <| AllReadyH.cons rfl (fun J hJ => ?_) <| AllReadyH.nil)
        · obtain ⟨va3, vc3, w13, hrun, ho, m7⟩ := app_cells OB12.out (HI.out.b.grown (M7.out.trans N12.out)) (show 0 + xbl ≤ 1099511627776 by omega) N12.out.size
          dsimp only at hrun ho
          rw [Nat.zero_add] at hrun ho
          rw [List.nil_append] at ho
          have HRUN := Lib.hid hrun
          have N13 := Lib.hid (N12.out.transIn m7 (fun b hb e => by have := (OB12.out.lt _ e).1; omega))
          have OV13 := Lib.hid (ownsRow_mod OV12.out m7 (fun j hj => own_own OV12.out OB12.out (by decide) hj))
          have OB13 := Lib.hid ho
          clear hrun ho m7
          refine step_append_runI rfl (.tmp 48) (.tmp 50) 22 rfl _ _ _ rfl rfl HRUN.out ?_
          refine hJ.out _ _ ⟨by rw [(A7.out.mod N13.out (fun e => e)).cell]; rfl, by rw [(A7.out.mod N13.out (fun e => e)).cell]; rfl, by rw [(A7.out.mod N13.out (fun e => e)).cell]; rfl, by rw [(A7.out.mod N13.out (fun e => e)).cell]; rfl, by rw [(A7.out.mod N13.out (fun e => e)).cell]; rfl⟩ (fun hS => ?_)
          clear hJ J
          try simp only [Act.put, List.setIfInBounds_toArray, List.set_cons_zero, List.set_cons_succ]
          refine wpAnyH_ready (rs := [7, 13]) (by kernel_rfl) (by simp) (AllReadyH.cons rfl (fun J hJ => ?_) <| AllReadyH.cons rfl (fun J hJ => ?_) <| AllReadyH.nil)
          · obtain ⟨va7, vc7, w14, hrun, ho, m7⟩ := app_ints OV13.out (HI.out.v.grown (M7.out.trans N13.out)) (show 0 + xvl ≤ 1099511627776 by omega) N13.out.size
            dsimp only at hrun ho
            rw [Nat.zero_add] at hrun ho
            rw [List.nil_append] at ho
            have HRUN := Lib.hid hrun
            have N14 := Lib.hid (N13.out.transIn m7 (fun b hb e => by have := (OV13.out.lt _ e).1; omega))
            have OB14 := Lib.hid (ownsRow_mod OB13.out m7 (fun j hj => own_own OB13.out OV13.out (by decide) hj))
            have OV14 := Lib.hid ho
            clear hrun ho m7
            refine step_append_runI rfl (.tmp 52) (.tmp 54) 23 rfl _ _ _ rfl rfl HRUN.out ?_
            refine hJ.out _ _ ⟨by rw [(A7.out.mod N14.out (fun e => e)).cell]; rfl, by rw [(A7.out.mod N14.out (fun e => e)).cell]; rfl, by rw [(A7.out.mod N14.out (fun e => e)).cell]; rfl, by rw [(A7.out.mod N14.out (fun e => e)).cell]; rfl, by rw [(A7.out.mod N14.out (fun e => e)).cell]; rfl⟩ (fun hS => ?_)
            clear hJ J
            try simp only [Act.put, List.setIfInBounds_toArray, List.set_cons_zero, List.set_cons_succ]
            refine wpAnyH_take (i := 12) (v := .agg #[.slice va3 xbl vc3, .slice va7 xvl vc7, .int .i64 xfr, .int .i64 xnum, .slice none 0 0]) rfl (by kernel_rfl) (by kernel_rfl) (by kernel_rfl) (fun _ _ _ h => h) (Or.inl ⟨by kernel_rfl, ?_⟩) hS ?_
            · rintro w' ⟨q0, q1, q2, q3, q4⟩; go_simp
            try simp only [Act.put, List.setIfInBounds_toArray, List.set_cons_zero, List.set_cons_succ]
            refine wpAnyH_ready (rs := [13]) (by kernel_rfl) (by simp) (AllReadyH.cons rfl (fun J hJ => ?_) <| AllReadyH.nil)
            have mA : Mine.Mod none_ w14 (w14.alloc (.cells #[.slice none 0 0, .slice none 0 0, .int .i64 0, .int .i64 0, .slice none 0 0] 26)) := (Mine.Mod.refl none_ _).alloc _
            have Z15 := Lib.hid (Blk.new (w := w14) (cs := [.slice none 0 0, .slice none 0 0, .int .i64 0, .int .i64 0, .slice none 0 0]) (t := 26))
            have HK9 := Lib.hid (show w7.heap.size ≤ w14.heap.size from N14.out.size)
            have N15 := Lib.hid (N14.out.trans mA)
            have OV15 := Lib.hid (ownsRow_mod OV14.out mA (fun _ _ e => e))
            have OB15 := Lib.hid (ownsRow_mod OB14.out mA (fun _ _ e => e))
            clear mA
            go_simp
            refine hJ.out _ _ ⟨by rw [(A7.out.mod N15.out (fun e => e)).cell]; rfl, by rw [(A7.out.mod N15.out (fun e => e)).cell]; rfl, by rw [(A7.out.mod N15.out (fun e => e)).cell]; rfl, by rw [(A7.out.mod N15.out (fun e => e)).cell]; rfl, by rw [(A7.out.mod N15.out (fun e => e)).cell]; rfl⟩ (fun hS => ?_)
            clear hJ J
            try simp only [Act.put, List.setIfInBounds_toArray, List.set_cons_zero, List.set_cons_succ]
            generalize w14.alloc (.cells #[.slice none 0 0, .slice none 0 0, .int .i64 0, .int .i64 0, .slice none 0 0] 26) = w15 at N15 OV15 OB15 Z15 hS ⊢
            generalize w14.heap.size = K9 at Z15 HK9 ⊢
            have d0 := Z15.out.cell 0
            have d1 := Z15.out.cell 1
            have d2 := Z15.out.cell 2
            have d3 := Z15.out.cell 3
            have d4 := Z15.out.cell 4
            simp only [List.getElem?_cons_zero, List.getElem?_cons_succ] at d0 d1 d2 d3 d4
            have r0 := Z15.out.frozen 0
            have r1 := Z15.out.frozen 1
            have r2 := Z15.out.frozen 2
            have r3 := Z15.out.frozen 3
            have r4 := Z15.out.frozen 4
            have mT := ((((((Mine.Mod.refl (one K9) w15).setCell ⟨K9, 0, none⟩ (fun _ => rfl) (.slice va3 xbl vc3)).setCell ⟨K9, 1, none⟩ (fun _ => rfl) (.slice va7 xvl vc7)).setCell ⟨K9, 2, none⟩ (fun _ => rfl) (.int .i64 xfr)).setCell ⟨K9, 3, none⟩ (fun _ => rfl) (.int .i64 xnum)).setCell ⟨K9, 4, none⟩ (fun _ => rfl) (.slice none 0 0))
            have hK9 := HK9.out
            have NF := Lib.hid (N15.out.transIn mT (fun b hb e => by have e' : b = K9 := e; omega))
            have HF := Lib.hid (show KeepSt w7 K9 ⟨xba, xbl, xbc, xva, xvl, xvc, xfr, xnum, xla, xll, xlc⟩ BB VV _ from ⟨va3, vc3, va7, vc7, (((((Z15.out.set 0 (.slice va3 xbl vc3)).set 1 (.slice va7 xvl vc7)).set 2 (.int .i64 xfr)).set 3 (.int .i64 xnum)).set 4 (.slice none 0 0)), ⟨ownsRow_mod OB15.out mT (fun j hj e => by have e' : j = K9 := e; subst e'; exact own_other OB15.out Z15.out (by decide) hj), ownsRow_mod OV15.out mT (fun j hj e => by have e' : j = K9 := e; subst e'; exact own_other OV15.out Z15.out (by decide) hj), ⟨rfl, .inl ⟨rfl, rfl⟩⟩, fun x hx => by simp at hx⟩, NF.out, hK9⟩)
            clear mT
            refine wpAnyH_ready (rs := [14]) (by kernel_rfl) (by simp) (AllReadyH.cons rfl (fun J hJ => ?_) <| AllReadyH.nil)
            go_simp
            refine hJ.out _ _ ⟨by rw [(A7.out.mod NF.out (fun e => e)).cell]; rfl, by rw [(A7.out.mod NF.out (fun e => e)).cell]; rfl, by rw [(A7.out.mod NF.out (fun e => e)).cell]; rfl, by rw [(A7.out.mod NF.out (fun e => e)).cell]; rfl, by rw [(A7.out.mod NF.out (fun e => e)).cell]; rfl⟩ (fun hS => ?_)
            clear hJ J
            try simp only [Act.put, List.setIfInBounds_toArray, List.set_cons_zero, List.set_cons_succ]
            refine wpAnyH_done (by kernel_rfl) ?_ _
            try simp only [List.getElem_toArray, List.getElem_cons_succ, List.getElem_cons_zero]
            try simp only [Act.put, List.setIfInBounds_toArray, List.set_cons_zero, List.set_cons_succ]
            clear d0 d1 d2 d3 d4 r0 r1 r2 r3 r4 hK9
            go_wp2_with fail
            go_meet
            exact ⟨K9, rfl, HF⟩
          · have mA : Mine.Mod none_ w13 (w13.alloc (.cells #[.slice none 0 0, .slice none 0 0, .int .i64 0, .int .i64 0, .slice none 0 0] 26)) := (Mine.Mod.refl none_ _).alloc _
            have Z14 := Lib.hid (Blk.new (w := w13) (cs := [.slice none 0 0, .slice none 0 0, .int .i64 0, .int .i64 0, .slice none 0 0]) (t := 26))
            have HK9 := Lib.hid (show w7.heap.size ≤ w13.heap.size from N13.out.size)
            have N14 := Lib.hid (N13.out.trans mA)
            have OV14 := Lib.hid (ownsRow_mod OV13.out mA (fun _ _ e => e))
            have OB14 := Lib.hid (ownsRow_mod OB13.out mA (fun _ _ e => e))
            clear mA
            go_simp
            refine hJ.out _ _ ⟨by rw [(A7.out.mod N14.out (fun e => e)).cell]; rfl, by rw [(A7.out.mod N14.out (fun e => e)).cell]; rfl, by rw [(A7.out.mod N14.out (fun e => e)).cell]; rfl, by rw [(A7.out.mod N14.out (fun e => e)).cell]; rfl, by rw [(A7.out.mod N14.out (fun e => e)).cell]; rfl⟩ (fun hS => ?_)
            clear hJ J
            try simp only [Act.put, List.setIfInBounds_toArray, List.set_cons_zero, List.set_cons_succ]
            generalize w13.alloc (.cells #[.slice none 0 0, .slice none 0 0, .int .i64 0, .int .i64 0, .slice none 0 0] 26) = w14 at N14 OV14 OB14 Z14 hS ⊢
            generalize w13.heap.size = K9 at Z14 HK9 ⊢
            refine wpAnyH_ready (rs := [7]) (by kernel_rfl) (by simp) (AllReadyH.cons rfl (fun J hJ => ?_) <| AllReadyH.nil)
            obtain ⟨va7, vc7, w15, hrun, ho, m7⟩ := app_ints OV14.out (HI.out.v.grown (M7.out.trans N14.out)) (show 0 + xvl ≤ 1099511627776 by omega) N14.out.size
            dsimp only at hrun ho
            rw [Nat.zero_add] at hrun ho
            rw [List.nil_append] at ho
            have HRUN := Lib.hid hrun
            have N15 := Lib.hid (N14.out.transIn m7 (fun b hb e => by have := (OV14.out.lt _ e).1; omega))
            have OB15 := Lib.hid (ownsRow_mod OB14.out m7 (fun j hj => own_own OB14.out OV14.out (by decide) hj))
            have Z15 := Lib.hid (Z14.out.mod m7 (own_other OV14.out Z14.out (by decide)))
            have OV15 := Lib.hid ho
            clear hrun ho m7
            refine step_append_runI rfl (.tmp 52) (.tmp 54) 23 rfl _ _ _ rfl rfl HRUN.out ?_
            refine hJ.out _ _ ⟨by rw [(A7.out.mod N15.out (fun e => e)).cell]; rfl, by rw [(A7.out.mod N15.out (fun e => e)).cell]; rfl, by rw [(A7.out.mod N15.out (fun e => e)).cell]; rfl, by rw [(A7.out.mod N15.out (fun e => e)).cell]; rfl, by rw [(A7.out.mod N15.out (fun e => e)).cell]; rfl⟩ (fun hS => ?_)
            clear hJ J
            try simp only [Act.put, List.setIfInBounds_toArray, List.set_cons_zero, List.set_cons_succ]
            refine wpAnyH_take (i := 12) (v := .agg #[.slice va3 xbl vc3, .slice va7 xvl vc7, .int .i64 xfr, .int .i64 xnum, .slice none 0 0]) rfl (by kernel_rfl) (by kernel_rfl) (by kernel_rfl) (fun _ _ _ h => h) (Or.inl ⟨by kernel_rfl, ?_⟩) hS ?_
            · rintro w' ⟨q0, q1, q2, q3, q4⟩; go_simp
            try simp only [Act.put, List.setIfInBounds_toArray, List.set_cons_zero, List.set_cons_succ]
            have d0 := Z15.out.cell 0
            have d1 := Z15.out.cell 1
            have d2 := Z15.out.cell 2
            have d3 := Z15.out.cell 3
            have d4 := Z15.out.cell 4
            simp only [List.getElem?_cons_zero, List.getElem?_cons_succ] at d0 d1 d2 d3 d4
            have r0 := Z15.out.frozen 0
            have r1 := Z15.out.frozen 1
            have r2 := Z15.out.frozen 2
            have r3 := Z15.out.frozen 3
            have r4 := Z15.out.frozen 4
            have mT := ((((((Mine.Mod.refl (one K9) w15).setCell ⟨K9, 0, none⟩ (fun _ => rfl) (.slice va3 xbl vc3)).setCell ⟨K9, 1, none⟩ (fun _ => rfl) (.slice va7 xvl vc7)).setCell ⟨K9, 2, none⟩ (fun _ => rfl) (.int .i64 xfr)).setCell ⟨K9, 3, none⟩ (fun _ => rfl) (.int .i64 xnum)).setCell ⟨K9, 4, none⟩ (fun _ => rfl) (.slice none 0 0))
            have hK9 := HK9.out
            have NF := Lib.hid (N15.out.transIn mT (fun b hb e => by have e' : b = K9 := e; omega))
            have HF := Lib.hid (show KeepSt w7 K9 ⟨xba, xbl, xbc, xva, xvl, xvc, xfr, xnum, xla, xll, xlc⟩ BB VV _ from ⟨va3, vc3, va7, vc7, (((((Z15.out.set 0 (.slice va3 xbl vc3)).set 1 (.slice va7 xvl vc7)).set 2 (.int .i64 xfr)).set 3 (.int .i64 xnum)).set 4 (.slice none 0 0)), ⟨ownsRow_mod OB15.out mT (fun j hj e => by have e' : j = K9 := e; subst e'; exact own_other OB15.out Z15.out (by decide) hj), ownsRow_mod OV15.out mT (fun j hj e => by have e' : j = K9 := e; subst e'; exact own_other OV15.out Z15.out (by decide) hj), ⟨rfl, .inl ⟨rfl, rfl⟩⟩, fun x hx => by simp at hx⟩, NF.out, hK9⟩)
            clear mT
            refine wpAnyH_ready (rs := [14]) (by kernel_rfl) (by simp) (AllReadyH.cons rfl (fun J hJ => ?_) <| AllReadyH.nil)
            go_simp
            refine hJ.out _ _ ⟨by rw [(A7.out.mod NF.out (fun e => e)).cell]; rfl, by rw [(A7.out.mod NF.out (fun e => e)).cell]; rfl, by rw [(A7.out.mod NF.out (fun e => e)).cell]; rfl, by rw [(A7.out.mod NF.out (fun e => e)).cell]; rfl, by rw [(A7.out.mod NF.out (fun e => e)).cell]; rfl⟩ (fun hS => ?_)
            clear hJ J
            try simp only [Act.put, List.setIfInBounds_toArray, List.set_cons_zero, List.set_cons_succ]
            refine wpAnyH_done (by kernel_rfl) ?_ _
            try simp only [List.getElem_toArray, List.getElem_cons_succ, List.getElem_cons_zero]
            try simp only [Act.put, List.setIfInBounds_toArray, List.set_cons_zero, List.set_cons_succ]
            clear d0 d1 d2 d3 d4 r0 r1 r2 r3 r4 hK9
            go_wp2_with fail
            go_meet
            exact ⟨K9, rfl, HF⟩
        · have mA : Mine.Mod none_ w12 (w12.alloc (.cells #[.slice none 0 0, .slice none 0 0, .int .i64 0, .int .i64 0, .slice none 0 0] 26)) := (Mine.Mod.refl none_ _).alloc _
          have Z13 := Lib.hid (Blk.new (w := w12) (cs := [.slice none 0 0, .slice none 0 0, .int .i64 0, .int .i64 0, .slice none 0 0]) (t := 26))
          have HK9 := Lib.hid (show w7.heap.size ≤ w12.heap.size from N12.out.size)
          have N13 := Lib.hid (N12.out.trans mA)
          have OV13 := Lib.hid (ownsRow_mod OV12.out mA (fun _ _ e => e))
          have OB13 := Lib.hid (ownsRow_mod OB12.out mA (fun _ _ e => e))
          clear mA
          go_simp
          refine hJ.out _ _ ⟨by rw [(A7.out.mod N13.out (fun e => e)).cell]; rfl, by rw [(A7.out.mod N13.out (fun e => e)).cell]; rfl, by rw [(A7.out.mod N13.out (fun e => e)).cell]; rfl, by rw [(A7.out.mod N13.out (fun e => e)).cell]; rfl, by rw [(A7.out.mod N13.out (fun e => e)).cell]; rfl⟩ (fun hS => ?_)
          clear hJ J
          try simp only [Act.put, List.setIfInBounds_toArray, List.set_cons_zero, List.set_cons_succ]
          generalize w12.alloc (.cells #[.slice none 0 0, .slice none 0 0, .int .i64 0, .int .i64 0, .slice none 0 0] 26) = w13 at N13 OV13 OB13 Z13 hS ⊢
          generalize w12.heap.size = K9 at Z13 HK9 ⊢
          refine wpAnyH_ready (rs := [3]) (by kernel_rfl) (by simp) (AllReadyH.cons rfl (fun J hJ => ?_) <| AllReadyH.nil)
          obtain ⟨va3, vc3, w14, hrun, ho, m7⟩ := app_cells OB13.out (HI.out.b.grown (M7.out.trans N13.out)) (show 0 + xbl ≤ 1099511627776 by omega) N13.out.size
          dsimp only at hrun ho
          rw [Nat.zero_add] at hrun ho
          rw [List.nil_append] at ho
          have HRUN := Lib.hid hrun
          have N14 := Lib.hid (N13.out.transIn m7 (fun b hb e => by have := (OB13.out.lt _ e).1; omega))
          have OV14 := Lib.hid (ownsRow_mod OV13.out m7 (fun j hj => own_own OV13.out OB13.out (by decide) hj))
          have Z14 := Lib.hid (Z13.out.mod m7 (own_other OB13.out Z13.out (by decide)))
          have OB14 := Lib.hid ho
          clear hrun ho m7
          refine step_append_runI rfl (.tmp 48) (.tmp 50) 22 rfl _ _ _ rfl rfl HRUN.out ?_
          refine hJ.out _ _ ⟨by rw [(A7.out.mod N14.out (fun e => e)).cell]; rfl, by rw [(A7.out.mod N14.out (fun e => e)).cell]; rfl, by rw [(A7.out.mod N14.out (fun e => e)).cell]; rfl, by rw [(A7.out.mod N14.out (fun e => e)).cell]; rfl, by rw [(A7.out.mod N14.out (fun e => e)).cell]; rfl⟩ (fun hS => ?_)
          clear hJ J
          try simp only [Act.put, List.setIfInBounds_toArray, List.set_cons_zero, List.set_cons_succ]
          refine wpAnyH_ready (rs := [7]) (by kernel_rfl) (by simp) (AllReadyH.cons rfl (fun J hJ => ?_) <| AllReadyH.nil)
          obtain ⟨va7, vc7, w15, hrun, ho, m7⟩ := app_ints OV14.out (HI.out.v.grown (M7.out.trans N14.out)) (show 0 + xvl ≤ 1099511627776 by omega) N14.out.size
          dsimp only at hrun ho
          rw [Nat.zero_add] at hrun ho
          rw [List.nil_append] at ho
          have HRUN := Lib.hid hrun
          have N15 := Lib.hid (N14.out.transIn m7 (fun b hb e => by have := (OV14.out.lt _ e).1; omega))
          have OB15 := Lib.hid (ownsRow_mod OB14.out m7 (fun j hj => own_own OB14.out OV14.out (by decide) hj))
          have Z15 := Lib.hid (Z14.out.mod m7 (own_other OV14.out Z14.out (by decide)))
          have OV15 := Lib.hid ho
          clear hrun ho m7
          refine step_append_runI rfl (.tmp 52) (.tmp 54) 23 rfl _ _ _ rfl rfl HRUN.out ?_
          refine hJ.out _ _ ⟨by rw [(A7.out.mod N15.out (fun e => e)).cell]; rfl, by rw [(A7.out.mod N15.out (fun e => e)).cell]; rfl, by rw [(A7.out.mod N15.out (fun e => e)).cell]; rfl, by rw [(A7.out.mod N15.out (fun e => e)).cell]; rfl, by rw [(A7.out.mod N15.out (fun e => e)).cell]; rfl⟩ (fun hS => ?_)
          clear hJ J
          try simp only [Act.put, List.setIfInBounds_toArray, List.set_cons_zero, List.set_cons_succ]
          refine wpAnyH_take (i := 12) (v := .agg #[.slice va3 xbl vc3, .slice va7 xvl vc7, .int .i64 xfr, .int .i64 xnum, .slice none 0 0]) rfl (by kernel_rfl) (by kernel_rfl) (by kernel_rfl) (fun _ _ _ h => h) (Or.inl ⟨by kernel_rfl, ?_⟩) hS ?_
          · rintro w' ⟨q0, q1, q2, q3, q4⟩; go_simp
          try simp only [Act.put, List.setIfInBounds_toArray, List.set_cons_zero, List.set_cons_succ]
          have d0 := Z15.out.cell 0
          have d1 := Z15.out.cell 1
          have d2 := Z15.out.cell 2
          have d3 := Z15.out.cell 3
          have d4 := Z15.out.cell 4
          simp only [List.getElem?_cons_zero, List.getElem?_cons_succ] at d0 d1 d2 d3 d4
          have r0 := Z15.out.frozen 0
          have r1 := Z15.out.frozen 1
          have r2 := Z15.out.frozen 2
          have r3 := Z15.out.frozen 3
          have r4 := Z15.out.frozen 4
          have mT := ((((((Mine.Mod.refl (one K9) w15).setCell ⟨K9, 0, none⟩ (fun _ => rfl) (.slice va3 xbl vc3)).setCell ⟨K9, 1, none⟩ (fun _ => rfl) (.slice va7 xvl vc7)).setCell ⟨K9, 2, none⟩ (fun _ => rfl) (.int .i64 xfr)).setCell ⟨K9, 3, none⟩ (fun _ => rfl) (.int .i64 xnum)).setCell ⟨K9, 4, none⟩ (fun _ => rfl) (.slice none 0 0))
          have hK9 := HK9.out
          have NF := Lib.hid (N15.out.transIn mT (fun b hb e => by have e' : b = K9 := e; omega))
          have HF := Lib.hid (show KeepSt w7 K9 ⟨xba, xbl, xbc, xva, xvl, xvc, xfr, xnum, xla, xll, xlc⟩ BB VV _ from ⟨va3, vc3, va7, vc7, (((((Z15.out.set 0 (.slice va3 xbl vc3)).set 1 (.slice va7 xvl vc7)).set 2 (.int .i64 xfr)).set 3 (.int .i64 xnum)).set 4 (.slice none 0 0)), ⟨ownsRow_mod OB15.out mT (fun j hj e => by have e' : j = K9 := e; subst e'; exact own_other OB15.out Z15.out (by decide) hj), ownsRow_mod OV15.out mT (fun j hj e => by have e' : j = K9 := e; subst e'; exact own_other OV15.out Z15.out (by decide) hj), ⟨rfl, .inl ⟨rfl, rfl⟩⟩, fun x hx => by simp at hx⟩, NF.out, hK9⟩)
          clear mT
          refine wpAnyH_ready (rs := [14]) (by kernel_rfl) (by simp) (AllReadyH.cons rfl (fun J hJ => ?_) <| AllReadyH.nil)
          go_simp
          refine hJ.out _ _ ⟨by rw [(A7.out.mod NF.out (fun e => e)).cell]; rfl, by rw [(A7.out.mod NF.out (fun e => e)).cell]; rfl, by rw [(A7.out.mod NF.out (fun e => e)).cell]; rfl, by rw [(A7.out.mod NF.out (fun e => e)).cell]; rfl, by rw [(A7.out.mod NF.out (fun e => e)).cell]; rfl⟩ (fun hS => ?_)
          clear hJ J
          try simp only [Act.put, List.setIfInBounds_toArray, List.set_cons_zero, List.set_cons_succ]
          refine wpAnyH_done (by kernel_rfl) ?_ _
          try simp only [List.getElem_toArray, List.getElem_cons_succ, List.getElem_cons_zero]
          try simp only [Act.put, List.setIfInBounds_toArray, List.set_cons_zero, List.set_cons_succ]
          clear d0 d1 d2 d3 d4 r0 r1 r2 r3 r4 hK9
          go_wp2_with fail
          go_meet
          exact ⟨K9, rfl, HF⟩
      · have mA : Mine.Mod none_ w11 (w11.alloc (.cells #[.slice none 0 0, .slice none 0 0, .int .i64 0, .int .i64 0, .slice none 0 0] 26)) := (Mine.Mod.refl none_ _).alloc _
        have Z12 := Lib.hid (Blk.new (w := w11) (cs := [.slice none 0 0, .slice none 0 0, .int .i64 0, .int .i64 0, .slice none 0 0]) (t := 26))
        have HK9 := Lib.hid (show w7.heap.size ≤ w11.heap.size from N11.out.size)
        have N12 := Lib.hid (N11.out.trans mA)
        have OV12 := Lib.hid (ownsRow_mod OV11.out mA (fun _ _ e => e))
        clear mA
        go_simp
        refine hJ.out _ _ ⟨by rw [(A7.out.mod N12.out (fun e => e)).cell]; rfl, by rw [(A7.out.mod N12.out (fun e => e)).cell]; rfl, by rw [(A7.out.mod N12.out (fun e => e)).cell]; rfl, by rw [(A7.out.mod N12.out (fun e => e)).cell]; rfl, by rw [(A7.out.mod N12.out (fun e => e)).cell]; rfl⟩ (fun hS => ?_)
        clear hJ J
        try simp only [Act.put, List.setIfInBounds_toArray, List.set_cons_zero, List.set_cons_succ]
        generalize w11.alloc (.cells #[.slice none 0 0, .slice none 0 0, .int .i64 0, .int .i64 0, .slice none 0 0] 26) = w12 at N12 OV12 Z12 hS ⊢
        generalize w11.heap.size = K9 at Z12 HK9 ⊢
        refine wpAnyH_ready (rs := [0]) (by kernel_rfl) (by simp) (AllReadyH.cons rfl (fun J hJ => ?_) <| AllReadyH.nil)
        have mA : Mine.Mod none_ w12 (w12.alloc (.cells #[] 47)) := (Mine.Mod.refl none_ _).alloc _
        have OB13 := Lib.hid (show (w12.alloc (.cells #[] 47)).ownsRow w7.heap.size 47 5 (.slice (some ⟨w12.heap.size, 0, none⟩) 0 0) 0 (flat CellV.cs []) from World.ownsRow_made (base := w7.heap.size) (e := 47) (size := 5) w12 #[] 0 N12.out.size (by unfold maxLen; omega) rfl)
        have N13 := Lib.hid (N12.out.trans mA)
        have OV13 := Lib.hid (ownsRow_mod OV12.out mA (fun _ _ e => e))
        have Z13 := Lib.hid (Z12.out.mod mA (fun e => e))
        clear mA
        go_simp
        refine hJ.out _ _ ⟨by rw [(A7.out.mod N13.out (fun e => e)).cell]; rfl, by rw [(A7.out.mod N13.out (fun e => e)).cell]; rfl, by rw [(A7.out.mod N13.out (fun e => e)).cell]; rfl, by rw [(A7.out.mod N13.out (fun e => e)).cell]; rfl, by rw [(A7.out.mod N13.out (fun e => e)).cell]; rfl⟩ (fun hS => ?_)
        clear hJ J
        try simp only [Act.put, List.setIfInBounds_toArray, List.set_cons_zero, List.set_cons_succ]
        generalize w12.alloc (.cells #[] 47) = w13 at N13 OV13 Z13 OB13 hS ⊢
        generalize w12.heap.size = XB at OB13 ⊢
        refine wpAnyH_ready (rs := [3]) (by kernel_rfl) (by simp) (AllReadyH.cons rfl (fun J hJ => ?_) <| AllReadyH.nil)
        obtain ⟨va3, vc3, w14, hrun, ho, m7⟩ := app_cells OB13.out (HI.out.b.grown (M7.out.trans N13.out)) (show 0 + xbl ≤ 1099511627776 by omega) N13.out.size
        dsimp only at hrun ho
        rw [Nat.zero_add] at hrun ho
        rw [List.nil_append] at ho
        have HRUN := Lib.hid hrun
        have N14 := Lib.hid (N13.out.transIn m7 (fun b hb e => by have := (OB13.out.lt _ e).1; omega))
        have OV14 := Lib.hid (ownsRow_mod OV13.out m7 (fun j hj => own_own OV13.out OB13.out (by decide) hj))
        have Z14 := Lib.hid (Z13.out.mod m7 (own_other OB13.out Z13.out (by decide)))
        have OB14 := Lib.hid ho
        clear hrun ho m7
        refine step_append_runI rfl (.tmp 48) (.tmp 50) 22 rfl _ _ _ rfl rfl HRUN.out ?_
        refine hJ.out _ _ ⟨by rw [(A7.out.mod N14.out (fun e => e)).cell]; rfl, by rw [(A7.out.mod N14.out (fun e => e)).cell]; rfl, by rw [(A7.out.mod N14.out (fun e => e)).cell]; rfl, by rw [(A7.out.mod N14.out (fun e => e)).cell]; rfl, by rw [(A7.out.mod N14.out (fun e => e)).cell]; rfl⟩ (fun hS => ?_)
        clear hJ J
        try simp only [Act.put, List.setIfInBounds_toArray, List.set_cons_zero, List.set_cons_succ]
        refine wpAnyH_ready (rs := [7]) (by kernel_rfl) (by simp) (AllReadyH.cons rfl (fun J hJ => ?_) <| AllReadyH.nil)
        obtain ⟨va7, vc7, w15, hrun, ho, m7⟩ := app_ints OV14.out (HI.out.v.grown (M7.out.trans N14.out)) (show 0 + xvl ≤ 1099511627776 by omega) N14.out.size
        dsimp only at hrun ho
        rw [Nat.zero_add] at hrun ho
        rw [List.nil_append] at ho
        have HRUN := Lib.hid hrun
        have N15 := Lib.hid (N14.out.transIn m7 (fun b hb e => by have := (OV14.out.lt _ e).1; omega))
        have Z15 := Lib.hid (Z14.out.mod m7 (own_other OV14.out Z14.out (by decide)))
        have OB15 := Lib.hid (ownsRow_mod OB14.out m7 (fun j hj => own_own OB14.out OV14.out (by decide) hj))
        have OV15 := Lib.hid ho
        clear hrun ho m7
        refine step_append_runI rfl (.tmp 52) (.tmp 54) 23 rfl _ _ _ rfl rfl HRUN.out ?_
        refine hJ.out _ _ ⟨by rw [(A7.out.mod N15.out (fun e => e)).cell]; rfl, by rw [(A7.out.mod N15.out (fun e => e)).cell]; rfl, by rw [(A7.out.mod N15.out (fun e => e)).cell]; rfl, by rw [(A7.out.mod N15.out (fun e => e)).cell]; rfl, by rw [(A7.out.mod N15.out (fun e => e)).cell]; rfl⟩ (fun hS => ?_)
        clear hJ J
        try simp only [Act.put, List.setIfInBounds_toArray, List.set_cons_zero, List.set_cons_succ]
        refine wpAnyH_take (i := 12) (v := .agg #[.slice va3 xbl vc3, .slice va7 xvl vc7, .int .i64 xfr, .int .i64 xnum, .slice none 0 0]) rfl (by kernel_rfl) (by kernel_rfl) (by kernel_rfl) (fun _ _ _ h => h) (Or.inl ⟨by kernel_rfl, ?_⟩) hS ?_
        · rintro w' ⟨q0, q1, q2, q3, q4⟩; go_simp
        try simp only [Act.put, List.setIfInBounds_toArray, List.set_cons_zero, List.set_cons_succ]
        have d0 := Z15.out.cell 0
        have d1 := Z15.out.cell 1
        have d2 := Z15.out.cell 2
        have d3 := Z15.out.cell 3
        have d4 := Z15.out.cell 4
        simp only [List.getElem?_cons_zero, List.getElem?_cons_succ] at d0 d1 d2 d3 d4
        have r0 := Z15.out.frozen 0
        have r1 := Z15.out.frozen 1
        have r2 := Z15.out.frozen 2
        have r3 := Z15.out.frozen 3
        have r4 := Z15.out.frozen 4
        have mT := ((((((Mine.Mod.refl (one K9) w15).setCell ⟨K9, 0, none⟩ (fun _ => rfl) (.slice va3 xbl vc3)).setCell ⟨K9, 1, none⟩ (fun _ => rfl) (.slice va7 xvl vc7)).setCell ⟨K9, 2, none⟩ (fun _ => rfl) (.int .i64 xfr)).setCell ⟨K9, 3, none⟩ (fun _ => rfl) (.int .i64 xnum)).setCell ⟨K9, 4, none⟩ (fun _ => rfl) (.slice none 0 0))
        have hK9 := HK9.out
        have NF := Lib.hid (N15.out.transIn mT (fun b hb e => by have e' : b = K9 := e; omega))
        have HF := Lib.hid (show KeepSt w7 K9 ⟨xba, xbl, xbc, xva, xvl, xvc, xfr, xnum, xla, xll, xlc⟩ BB VV _ from ⟨va3, vc3, va7, vc7, (((((Z15.out.set 0 (.slice va3 xbl vc3)).set 1 (.slice va7 xvl vc7)).set 2 (.int .i64 xfr)).set 3 (.int .i64 xnum)).set 4 (.slice none 0 0)), ⟨ownsRow_mod OB15.out mT (fun j hj e => by have e' : j = K9 := e; subst e'; exact own_other OB15.out Z15.out (by decide) hj), ownsRow_mod OV15.out mT (fun j hj e => by have e' : j = K9 := e; subst e'; exact own_other OV15.out Z15.out (by decide) hj), ⟨rfl, .inl ⟨rfl, rfl⟩⟩, fun x hx => by simp at hx⟩, NF.out, hK9⟩)
        clear mT
        refine wpAnyH_ready (rs := [14]) (by kernel_rfl) (by simp) (AllReadyH.cons rfl (fun J hJ => ?_) <| AllReadyH.nil)
        go_simp
        refine hJ.out _ _ ⟨by rw [(A7.out.mod NF.out (fun e => e)).cell]; rfl, by rw [(A7.out.mod NF.out (fun e => e)).cell]; rfl, by rw [(A7.out.mod NF.out (fun e => e)).cell]; rfl, by rw [(A7.out.mod NF.out (fun e => e)).cell]; rfl, by rw [(A7.out.mod NF.out (fun e => e)).cell]; rfl⟩ (fun hS => ?_)
        clear hJ J
        try simp only [Act.put, List.setIfInBounds_toArray, List.set_cons_zero, List.set_cons_succ]
        refine wpAnyH_done (by kernel_rfl) ?_ _
        try simp only [List.getElem_toArray, List.getElem_cons_succ, List.getElem_cons_zero]
        try simp only [Act.put, List.setIfInBounds_toArray, List.set_cons_zero, List.set_cons_succ]
        clear d0 d1 d2 d3 d4 r0 r1 r2 r3 r4 hK9
        go_wp2_with fail
        go_meet
        exact ⟨K9, rfl, HF⟩
    · have mA : Mine.Mod none_ w10 (w10.alloc (.cells #[.slice none 0 0, .slice none 0 0, .int .i64 0, .int .i64 0, .slice none 0 0] 26)) := (Mine.Mod.refl none_ _).alloc _
      have Z11 := Lib.hid (Blk.new (w := w10) (cs := [.slice none 0 0, .slice none 0 0, .int .i64 0, .int .i64 0, .slice none 0 0]) (t := 26))
      have HK9 := Lib.hid (show w7.heap.size ≤ w10.heap.size from N10.out.size)
      have N11 := Lib.hid (N10.out.trans mA)
      clear mA
      go_simp
      refine hJ.out _ _ ⟨by rw [(A7.out.mod N11.out (fun e => e)).cell]; rfl, by rw [(A7.out.mod N11.out (fun e => e)).cell]; rfl, by rw [(A7.out.mod N11.out (fun e => e)).cell]; rfl, by rw [(A7.out.mod N11.out (fun e => e)).cell]; rfl, by rw [(A7.out.mod N11.out (fun e => e)).cell]; rfl⟩ (fun hS => ?_)
      clear hJ J
      try simp only [Act.put, List.setIfInBounds_toArray, List.set_cons_zero, List.set_cons_succ]
      generalize w10.alloc (.cells #[.slice none 0 0, .slice none 0 0, .int .i64 0, .int .i64 0, .slice none 0 0] 26) = w11 at N11  Z11 hS ⊢
      generalize w10.heap.size = K9 at Z11 HK9 ⊢
      refine wpAnyH_ready (rs := [0, 4]) (by kernel_rfl) (by simp) (AllReadyH.cons rfl (fun J hJ => ?_) <| AllReadyH.cons rfl (fun J hJ => ?_) <| AllReadyH.nil)
      · have mA : Mine.Mod none_ w11 (w11.alloc (.cells #[] 47)) := (Mine.Mod.refl none_ _).alloc _
        have OB12 := Lib.hid (show (w11.alloc (.cells #[] 47)).ownsRow w7.heap.size 47 5 (.slice (some ⟨w11.heap.size, 0, none⟩) 0 0) 0 (flat CellV.cs []) from World.ownsRow_made (base := w7.heap.size) (e := 47) (size := 5) w11 #[] 0 N11.out.size (by unfold maxLen; omega) rfl)
        have N12 := Lib.hid (N11.out.trans mA)
        have Z12 := Lib.hid (Z11.out.mod mA (fun e => e))
        clear mA
        go_simp
        refine hJ.out _ _ ⟨by rw [(A7.out.mod N12.out (fun e => e)).cell]; rfl, by rw [(A7.out.mod N12.out (fun e => e)).cell]; rfl, by rw [(A7.out.mod N12.out (fun e => e)).cell]; rfl, by rw [(A7.out.mod N12.out (fun e => e)).cell]; rfl, by rw [(A7.out.mod N12.out (fun e => e)).cell]; rfl⟩ (fun hS => ?_)
        clear hJ J
        try simp only [Act.put, List.setIfInBounds_toArray, List.set_cons_zero, List.set_cons_succ]
        generalize w11.alloc (.cells #[] 47) = w12 at N12 Z12 OB12 hS ⊢
        generalize w11.heap.size = XB at OB12 ⊢
        refine wpAnyH_ready (rs := [3, 4]) (by kernel_rfl) (by simp) (AllReadyH.cons rfl (fun J hJ => ?_) <| AllReadyH.cons rfl (fun J hJ => ?_) <| AllReadyH.nil)
        · obtain ⟨va3, vc3, w13, hrun, ho, m7⟩ := app_cells OB12.out (HI.out.b.grown (M7.out.trans N12.out)) (show 0 + xbl ≤ 1099511627776 by omega) N12.out.size
          dsimp only at hrun ho
          rw [Nat.zero_add] at hrun ho
          rw [List.nil_append] at ho
          have HRUN := Lib.hid hrun
          have N13 := Lib.hid (N12.out.transIn m7 (fun b hb e => by have := (OB12.out.lt _ e).1; omega))
          have Z13 := Lib.hid (Z12.out.mod m7 (own_other OB12.out Z12.out (by decide)))
          have OB13 := Lib.hid ho
          clear hrun ho m7
          refine step_append_runI rfl (.tmp 48) (.tmp 50) 22 rfl _ _ _ rfl rfl HRUN.out ?_
          refine hJ.out _ _ ⟨by rw [(A7.out.mod N13.out (fun e => e)).cell]; rfl, by rw [(A7.out.mod N13.out (fun e => e)).cell]; rfl, by rw [(A7.out.mod N13.out (fun e => e)).cell]; rfl, by rw [(A7.out.mod N13.out (fun e => e)).cell]; rfl, by rw [(A7.out.mod N13.out (fun e => e)).cell]; rfl⟩ (fun hS => ?_)
          clear hJ J
          try simp only [Act.put, List.setIfInBounds_toArray, List.set_cons_zero, List.set_cons_succ]
          refine wpAnyH_ready (rs := [4]) (by kernel_rfl) (by simp) (AllReadyH.cons rfl (fun J hJ => ?_) <| AllReadyH.nil)
          have mA : Mine.Mod none_ w13 (w13.alloc (.cells #[] 3)) := (Mine.Mod.refl none_ _).alloc _
          have OV14 := Lib.hid (show (w13.alloc (.cells #[] 3)).ownsRow w7.heap.size 3 1 (.slice (some ⟨w13.heap.size, 0, none⟩) 0 0) 0 (intCs []) from World.ownsRow_made (base := w7.heap.size) (e := 3) (size := 1) w13 #[] 0 N13.out.size (by unfold maxLen; omega) rfl)
          have N14 := Lib.hid (N13.out.trans mA)
          have Z14 := Lib.hid (Z13.out.mod mA (fun e => e))
          have OB14 := Lib.hid (ownsRow_mod OB13.out mA (fun _ _ e => e))
          clear mA
          go_simp
          refine hJ.out _ _ ⟨by rw [(A7.out.mod N14.out (fun e => e)).cell]; rfl, by rw [(A7.out.mod N14.out (fun e => e)).cell]; rfl, by rw [(A7.out.mod N14.out (fun e => e)).cell]; rfl, by rw [(A7.out.mod N14.out (fun e => e)).cell]; rfl, by rw [(A7.out.mod N14.out (fun e => e)).cell]; rfl⟩ (fun hS => ?_)
          clear hJ J
          try simp only [Act.put, List.setIfInBounds_toArray, List.set_cons_zero, List.set_cons_succ]
          generalize w13.alloc (.cells #[] 3) = w14 at N14 Z14 OB14 OV14 hS ⊢
          generalize w13.heap.size = XV at OV14 ⊢
          refine wpAnyH_ready (rs := [7]) (by kernel_rfl) (by simp) (AllReadyH.cons rfl (fun J hJ => ?_) <| AllReadyH.nil)
          obtain ⟨va7, vc7, w15, hrun, ho, m7⟩ := app_ints OV14.out (HI.out.v.grown (M7.out.trans N14.out)) (show 0 + xvl ≤ 1099511627776 by omega) N14.out.size
          dsimp only at hrun ho
          rw [Nat.zero_add] at hrun ho
          rw [List.nil_append] at ho
          have HRUN := Lib.hid hrun
          have N15 := Lib.hid (N14.out.transIn m7 (fun b hb e => by have := (OV14.out.lt _ e).1; omega))
          have Z15 := Lib.hid (Z14.out.mod m7 (own_other OV14.out Z14.out (by decide)))
          have OB15 := Lib.hid (ownsRow_mod OB14.out m7 (fun j hj => own_own OB14.out OV14.out (by decide) hj))
          have OV15 := Lib.hid ho
          clear hrun ho m7
          refine step_append_runI rfl (.tmp 52) (.tmp 54) 23 rfl _ _ _ rfl rfl HRUN.out ?_
          refine hJ.out _ _ ⟨by rw [(A7.out.mod N15.out (fun e => e)).cell]; rfl, by rw [(A7.out.mod N15.out (fun e => e)).cell]; rfl, by rw [(A7.out.mod N15.out (fun e => e)).cell]; rfl, by rw [(A7.out.mod N15.out (fun e => e)).cell]; rfl, by rw [(A7.out.mod N15.out (fun e => e)).cell]; rfl⟩ (fun hS => ?_)
          clear hJ J
          try simp only [Act.put, List.setIfInBounds_toArray, List.set_cons_zero, List.set_cons_succ]
          refine wpAnyH_take (i := 12) (v := .agg #[.slice va3 xbl vc3, .slice va7 xvl vc7, .int .i64 xfr, .int .i64 xnum, .slice none 0 0]) rfl (by kernel_rfl) (by kernel_rfl) (by kernel_rfl) (fun _ _ _ h => h) (Or.inl ⟨by kernel_rfl, ?_⟩) hS ?_
          · rintro w' ⟨q0, q1, q2, q3, q4⟩; go_simp
          try simp only [Act.put, List.setIfInBounds_toArray, List.set_cons_zero, List.set_cons_succ]
          have d0 := Z15.out.cell 0
          have d1 := Z15.out.cell 1
          have d2 := Z15.out.cell 2
          have d3 := Z15.out.cell 3
          have d4 := Z15.out.cell 4
          simp only [List.getElem?_cons_zero, List.getElem?_cons_succ] at d0 d1 d2 d3 d4
          have r0 := Z15.out.frozen 0
          have r1 := Z15.out.frozen 1
          have r2 := Z15.out.frozen 2
          have r3 := Z15.out.frozen 3
          have r4 := Z15.out.frozen 4
          have mT := ((((((Mine.Mod.refl (one K9) w15).setCell ⟨K9, 0, none⟩ (fun _ => rfl) (.slice va3 xbl vc3)).setCell ⟨K9, 1, none⟩ (fun _ => rfl) (.slice va7 xvl vc7)).setCell ⟨K9, 2, none⟩ (fun _ => rfl) (.int .i64 xfr)).setCell ⟨K9, 3, none⟩ (fun _ => rfl) (.int .i64 xnum)).setCell ⟨K9, 4, none⟩ (fun _ => rfl) (.slice none 0 0))
          have hK9 := HK9.out
          have NF := Lib.hid (N15.out.transIn mT (fun b hb e => by have e' : b = K9 := e; omega))
          have HF := Lib.hid (show KeepSt w7 K9 ⟨xba, xbl, xbc, xva, xvl, xvc, xfr, xnum, xla, xll, xlc⟩ BB VV _ from ⟨va3, vc3, va7, vc7, (((((Z15.out.set 0 (.slice va3 xbl vc3)).set 1 (.slice va7 xvl vc7)).set 2 (.int .i64 xfr)).set 3 (.int .i64 xnum)).set 4 (.slice none 0 0)), ⟨ownsRow_mod OB15.out mT (fun j hj e => by have e' : j = K9 := e; subst e'; exact own_other OB15.out Z15.out (by decide) hj), ownsRow_mod OV15.out mT (fun j hj e => by have e' : j = K9 := e; subst e'; exact own_other OV15.out Z15.out (by decide) hj), ⟨rfl, .inl ⟨rfl, rfl⟩⟩, fun x hx => by simp at hx⟩, NF.out, hK9⟩)
          clear mT
          refine wpAnyH_ready (rs := [14]) (by kernel_rfl) (by simp) (AllReadyH.cons rfl (fun J hJ => ?_) <| AllReadyH.nil)
          go_simp
          refine hJ.out _ _ ⟨by rw [(A7.out.mod NF.out (fun e => e)).cell]; rfl, by rw [(A7.out.mod NF.out (fun e => e)).cell]; rfl, by rw [(A7.out.mod NF.out (fun e => e)).cell]; rfl, by rw [(A7.out.mod NF.out (fun e => e)).cell]; rfl, by rw [(A7.out.mod NF.out (fun e => e)).cell]; rfl⟩ (fun hS => ?_)
          clear hJ J
          try simp only [Act.put, List.setIfInBounds_toArray, List.set_cons_zero, List.set_cons_succ]
          refine wpAnyH_done (by kernel_rfl) ?_ _
          try simp only [List.getElem_toArray, List.getElem_cons_succ, List.getElem_cons_zero]
          try simp only [Act.put, List.setIfInBounds_toArray, List.set_cons_zero, List.set_cons_succ]
          clear d0 d1 d2 d3 d4 r0 r1 r2 r3 r4 hK9
          go_wp2_with fail
          go_meet
          exact ⟨K9, rfl, HF⟩
        · have mA : Mine.Mod none_ w12 (w12.alloc (.cells #[] 3)) := (Mine.Mod.refl none_ _).alloc _
          have OV13 := Lib.hid (show (w12.alloc (.cells #[] 3)).ownsRow w7.heap.size 3 1 (.slice (some ⟨w12.heap.size, 0, none⟩) 0 0) 0 (intCs []) from World.ownsRow_made (base := w7.heap.size) (e := 3) (size := 1) w12 #[] 0 N12.out.size (by unfold maxLen; omega) rfl)
          have N13 := Lib.hid (N12.out.trans mA)
          have Z13 := Lib.hid (Z12.out.mod mA (fun e => e))
          have OB13 := Lib.hid (ownsRow_mod OB12.out mA (fun _ _ e => e))
          clear mA
          go_simp
          refine hJ.out _ _ ⟨by rw [(A7.out.mod N13.out (fun e => e)).cell]; rfl, by rw [(A7.out.mod N13.out (fun e => e)).cell]; rfl, by rw [(A7.out.mod N13.out (fun e => e)).cell]; rfl, by rw [(A7.out.mod N13.out (fun e => e)).cell]; rfl, by rw [(A7.out.mod N13.out (fun e => e)).cell]; rfl⟩ (fun hS => ?_)
          clear hJ J
          try simp only [Act.put, List.setIfInBounds_toArray, List.set_cons_zero, List.set_cons_succ]
          generalize w12.alloc (.cells #[] 3) = w13 at N13 Z13 OB13 OV13 hS ⊢
          generalize w12.heap.size = XV at OV13 ⊢
          refine wpAnyH_ready (rs := [3]) (by kernel_rfl) (by simp) (AllReadyH.cons rfl (fun J hJ => ?_) <| AllReadyH.nil)
          obtain ⟨va3, vc3, w14, hrun, ho, m7⟩ := app_cells OB13.out (HI.out.b.grown (M7.out.trans N13.out)) (show 0 + xbl ≤ 1099511627776 by omega) N13.out.size
          dsimp only at hrun ho
          rw [Nat.zero_add] at hrun ho
          rw [List.nil_append] at ho
          have HRUN := Lib.hid hrun
          have N14 := Lib.hid (N13.out.transIn m7 (fun b hb e => by have := (OB13.out.lt _ e).1; omega))
          have Z14 := Lib.hid (Z13.out.mod m7 (own_other OB13.out Z13.out (by decide)))
          have OV14 := Lib.hid (ownsRow_mod OV13.out m7 (fun j hj => own_own OV13.out OB13.out (by decide) hj))
          have OB14 := Lib.hid ho
          clear hrun ho m7
          refine step_append_runI rfl (.tmp 48) (.tmp 50) 22 rfl _ _ _ rfl rfl HRUN.out ?_
          refine hJ.out _ _ ⟨by rw [(A7.out.mod N14.out (fun e => e)).cell]; rfl, by rw [(A7.out.mod N14.out (fun e => e)).cell]; rfl, by rw [(A7.out.mod N14.out (fun e => e)).cell]; rfl, by rw [(A7.out.mod N14.out (fun e => e)).cell]; rfl, by rw [(A7.out.mod N14.out (fun e => e)).cell]; rfl⟩ (fun hS => ?_)
          clear hJ J
          try simp only [Act.put, List.setIfInBounds_toArray, List.set_cons_zero, List.set_cons_succ]
          refine wpAnyH_ready (rs := [7]) (by kernel_rfl) (by simp) (AllReadyH.cons rfl (fun J hJ => ?_) <| AllReadyH.nil)
          obtain ⟨va7, vc7, w15, hrun, ho, m7⟩ := app_ints OV14.out (HI.out.v.grown (M7.out.trans N14.out)) (show 0 + xvl ≤ 1099511627776 by omega) N14.out.size
          dsimp only at hrun ho
          rw [Nat.zero_add] at hrun ho
          rw [List.nil_append] at ho
          have HRUN := Lib.hid hrun
          have N15 := Lib.hid (N14.out.transIn m7 (fun b hb e => by have := (OV14.out.lt _ e).1; omega))
          have Z15 := Lib.hid (Z14.out.mod m7 (own_other OV14.out Z14.out (by decide)))
          have OB15 := Lib.hid (ownsRow_mod OB14.out m7 (fun j hj => own_own OB14.out OV14.out (by decide) hj))
          have OV15 := Lib.hid ho
          clear hrun ho m7
          refine step_append_runI rfl (.tmp 52) (.tmp 54) 23 rfl _ _ _ rfl rfl HRUN.out ?_
          refine hJ.out _ _ ⟨by rw [(A7.out.mod N15.out (fun e => e)).cell]; rfl, by rw [(A7.out.mod N15.out (fun e => e)).cell]; rfl, by rw [(A7.out.mod N15.out (fun e => e)).cell]; rfl, by rw [(A7.out.mod N15.out (fun e => e)).cell]; rfl, by rw [(A7.out.mod N15.out (fun e => e)).cell]; rfl⟩ (fun hS => ?_)
          clear hJ J
          try simp only [Act.put, List.setIfInBounds_toArray, List.set_cons_zero, List.set_cons_succ]
          refine wpAnyH_take (i := 12) (v := .agg #[.slice va3 xbl vc3, .slice va7 xvl vc7, .int .i64 xfr, .int .i64 xnum, .slice none 0 0]) rfl (by kernel_rfl) (by kernel_rfl) (by kernel_rfl) (fun _ _ _ h => h) (Or.inl ⟨by kernel_rfl, ?_⟩) hS ?_
          · rintro w' ⟨q0, q1, q2, q3, q4⟩; go_simp
          try simp only [Act.put, List.setIfInBounds_toArray, List.set_cons_zero, List.set_cons_succ]
          have d0 := Z15.out.cell 0
          have d1 := Z15.out.cell 1
          have d2 := Z15.out.cell 2
          have d3 := Z15.out.cell 3
          have d4 := Z15.out.cell 4
          simp only [List.getElem?_cons_zero, List.getElem?_cons_succ] at d0 d1 d2 d3 d4
          have r0 := Z15.out.frozen 0
          have r1 := Z15.out.frozen 1
          have r2 := Z15.out.frozen 2
          have r3 := Z15.out.frozen 3
          have r4 := Z15.out.frozen 4
          have mT := ((((((Mine.Mod.refl (one K9) w15).setCell ⟨K9, 0, none⟩ (fun _ => rfl) (.slice va3 xbl vc3)).setCell ⟨K9, 1, none⟩ (fun _ => rfl) (.slice va7 xvl vc7)).setCell ⟨K9, 2, none⟩ (fun _ => rfl) (.int .i64 xfr)).setCell ⟨K9, 3, none⟩ (fun _ => rfl) (.int .i64 xnum)).setCell ⟨K9, 4, none⟩ (fun _ => rfl) (.slice none 0 0))
          have hK9 := HK9.out
          have NF := Lib.hid (N15.out.transIn mT (fun b hb e => by have e' : b = K9 := e; omega))
          have HF := Lib.hid (show KeepSt w7 K9 ⟨xba, xbl, xbc, xva, xvl, xvc, xfr, xnum, xla, xll, xlc⟩ BB VV _ from ⟨va3, vc3, va7, vc7, (((((Z15.out.set 0 (.slice va3 xbl vc3)).set 1 (.slice va7 xvl vc7)).set 2 (.int .i64 xfr)).set 3 (.int .i64 xnum)).set 4 (.slice none 0 0)), ⟨ownsRow_mod OB15.out mT (fun j hj e => by have e' : j = K9 := e; subst e'; exact own_other OB15.out Z15.out (by decide) hj), ownsRow_mod OV15.out mT (fun j hj e => by have e' : j = K9 := e; subst e'; exact own_other OV15.out Z15.out (by decide) hj), ⟨rfl, .inl ⟨rfl, rfl⟩⟩, fun x hx => by simp at hx⟩, NF.out, hK9⟩)
          clear mT
          refine wpAnyH_ready (rs := [14]) (by kernel_rfl) (by simp) (AllReadyH.cons rfl (fun J hJ => ?_) <| AllReadyH.nil)
          go_simp
          refine hJ.out _ _ ⟨by rw [(A7.out.mod NF.out (fun e => e)).cell]; rfl, by rw [(A7.out.mod NF.out (fun e => e)).cell]; rfl, by rw [(A7.out.mod NF.out (fun e => e)).cell]; rfl, by rw [(A7.out.mod NF.out (fun e => e)).cell]; rfl, by rw [(A7.out.mod NF.out (fun e => e)).cell]; rfl⟩ (fun hS => ?_)
          clear hJ J
          try simp only [Act.put, List.setIfInBounds_toArray, List.set_cons_zero, List.set_cons_succ]
          refine wpAnyH_done (by kernel_rfl) ?_ _
          try simp only [List.getElem_toArray, List.getElem_cons_succ, List.getElem_cons_zero]
          try simp only [Act.put, List.setIfInBounds_toArray, List.set_cons_zero, List.set_cons_succ]
          clear d0 d1 d2 d3 d4 r0 r1 r2 r3 r4 hK9
          go_wp2_with fail
          go_meet
          exact ⟨K9, rfl, HF⟩
      · have mA : Mine.Mod none_ w11 (w11.alloc (.cells #[] 3)) := (Mine.Mod.refl none_ _).alloc _
        have OV12 := Lib.hid (show (w11.alloc (.cells #[] 3)).ownsRow w7.heap.size 3 1 (.slice (some ⟨w11.heap.size, 0, none⟩) 0 0) 0 (intCs []) from World.ownsRow_made (base := w7.heap.size) (e := 3) (size := 1) w11 #[] 0 N11.out.size (by unfold maxLen; omega) rfl)
        have N12 := Lib.hid (N11.out.trans mA)
        have Z12 := Lib.hid (Z11.out.mod mA (fun e => e))
        clear mA
        go_simp
        refine hJ.out _ _ ⟨by rw [(A7.out.mod N12.out (fun e => e)).cell]; rfl, by rw [(A7.out.mod N12.out (fun e => e)).cell]; rfl, by rw [(A7.out.mod N12.out (fun e => e)).cell]; rfl, by rw [(A7.out.mod N12.out (fun e => e)).cell]; rfl, by rw [(A7.out.mod N12.out (fun e => e)).cell]; rfl⟩ (fun hS => ?_)
        clear hJ J
        try simp only [Act.put, List.setIfInBounds_toArray, List.set_cons_zero, List.set_cons_succ]
        generalize w11.alloc (.cells #[] 3) = w12 at N12 Z12 OV12 hS ⊢
        generalize w11.heap.size = XV at OV12 ⊢
        refine wpAnyH_ready (rs := [0]) (by kernel_rfl) (by simp) (AllReadyH.cons rfl (fun J hJ => ?_) <| AllReadyH.nil)
        have mA : Mine.Mod none_ w12 (w12.alloc (.cells #[] 47)) := (Mine.Mod.refl none_ _).alloc _
        have OB13 := Lib.hid (show (w12.alloc (.cells #[] 47)).ownsRow w7.heap.size 47 5 (.slice (some ⟨w12.heap.size, 0, none⟩) 0 0) 0 (flat CellV.cs []) from World.ownsRow_made (base := w7.heap.size) (e := 47) (size := 5) w12 #[] 0 N12.out.size (by unfold maxLen; omega) rfl)
        have N13 := Lib.hid (N12.out.trans mA)
        have Z13 := Lib.hid (Z12.out.mod mA (fun e => e))
        have OV13 := Lib.hid (ownsRow_mod OV12.out mA (fun _ _ e => e))
        clear mA
        go_simp
        refine hJ.out _ _ ⟨by rw [(A7.out.mod N13.out (fun e => e)).cell]; rfl, by rw [(A7.out.mod N13.out (fun e => e)).cell]; rfl, by rw [(A7.out.mod N13.out (fun e => e)).cell]; rfl, by rw [(A7.out.mod N13.out (fun e => e)).cell]; rfl, by rw [(A7.out.mod N13.out (fun e => e)).cell]; rfl⟩ (fun hS => ?_)
        clear hJ J
        try simp only [Act.put, List.setIfInBounds_toArray, List.set_cons_zero, List.set_cons_succ]
        generalize w12.alloc (.cells #[] 47) = w13 at N13 Z13 OV13 OB13 hS ⊢
        generalize w12.heap.size = XB at OB13 ⊢
        refine wpAnyH_ready (rs := [3]) (by kernel_rfl) (by simp) (AllReadyH.cons rfl (fun J hJ => ?_) <| AllReadyH.nil)
        obtain ⟨va3, vc3, w14, hrun, ho, m7⟩ := app_cells OB13.out (HI.out.b.grown (M7.out.trans N13.out)) (show 0 + xbl ≤ 1099511627776 by omega) N13.out.size
        dsimp only at hrun ho
        rw [Nat.zero_add] at hrun ho
        rw [List.nil_append] at ho
        have HRUN := Lib.hid hrun
        have N14 := Lib.hid (N13.out.transIn m7 (fun b hb e => by have := (OB13.out.lt _ e).1; omega))
        have Z14 := Lib.hid (Z13.out.mod m7 (own_other OB13.out Z13.out (by decide)))
        have OV14 := Lib.hid (ownsRow_mod OV13.out m7 (fun j hj => own_own OV13.out OB13.out (by decide) hj))
        have OB14 := Lib.hid ho
        clear hrun ho m7
        refine step_append_runI rfl (.tmp 48) (.tmp 50) 22 rfl _ _ _ rfl rfl HRUN.out ?_
        refine hJ.out _ _ ⟨by rw [(A7.out.mod N14.out (fun e => e)).cell]; rfl, by rw [(A7.out.mod N14.out (fun e => e)).cell]; rfl, by rw [(A7.out.mod N14.out (fun e => e)).cell]; rfl, by rw [(A7.out.mod N14.out (fun e => e)).cell]; rfl, by rw [(A7.out.mod N14.out (fun e => e)).cell]; rfl⟩ (fun hS => ?_)
        clear hJ J
        try simp only [Act.put, List.setIfInBounds_toArray, List.set_cons_zero, List.set_cons_succ]
        refine wpAnyH_ready (rs := [7]) (by kernel_rfl) (by simp) (AllReadyH.cons rfl (fun J hJ => ?_) <| AllReadyH.nil)
        obtain ⟨va7, vc7, w15, hrun, ho, m7⟩ := app_ints OV14.out (HI.out.v.grown (M7.out.trans N14.out)) (show 0 + xvl ≤ 1099511627776 by omega) N14.out.size
        dsimp only at hrun ho
        rw [Nat.zero_add] at hrun ho
        rw [List.nil_append] at ho
        have HRUN := Lib.hid hrun
        have N15 := Lib.hid (N14.out.transIn m7 (fun b hb e => by have := (OV14.out.lt _ e).1; omega))
        have Z15 := Lib.hid (Z14.out.mod m7 (own_other OV14.out Z14.out (by decide)))
        have OB15 := Lib.hid (ownsRow_mod OB14.out m7 (fun j hj => own_own OB14.out OV14.out (by decide) hj))
        have OV15 := Lib.hid ho
        clear hrun ho m7
        refine step_append_runI rfl (.tmp 52) (.tmp 54) 23 rfl _ _ _ rfl rfl HRUN.out ?_
        refine hJ.out _ _ ⟨by rw [(A7.out.mod N15.out (fun e => e)).cell]; rfl, by rw [(A7.out.mod N15.out (fun e => e)).cell]; rfl, by rw [(A7.out.mod N15.out (fun e => e)).cell]; rfl, by rw [(A7.out.mod N15.out (fun e => e)).cell]; rfl, by rw [(A7.out.mod N15.out (fun e => e)).cell]; rfl⟩ (fun hS => ?_)
        clear hJ J
        try simp only [Act.put, List.setIfInBounds_toArray, List.set_cons_zero, List.set_cons_succ]
        refine wpAnyH_take (i := 12) (v := .agg #[.slice va3 xbl vc3, .slice va7 xvl vc7, .int .i64 xfr, .int .i64 xnum, .slice none 0 0]) rfl (by kernel_rfl) (by kernel_rfl) (by kernel_rfl) (fun _ _ _ h => h) (Or.inl ⟨by kernel_rfl, ?_⟩) hS ?_
        · rintro w' ⟨q0, q1, q2, q3, q4⟩; go_simp
        try simp only [Act.put, List.setIfInBounds_toArray, List.set_cons_zero, List.set_cons_succ]
        have d0 := Z15.out.cell 0
        have d1 := Z15.out.cell 1
        have d2 := Z15.out.cell 2
        have d3 := Z15.out.cell 3
        have d4 := Z15.out.cell 4
        simp only [List.getElem?_cons_zero, List.getElem?_cons_succ] at d0 d1 d2 d3 d4
        have r0 := Z15.out.frozen 0
        have r1 := Z15.out.frozen 1
        have r2 := Z15.out.frozen 2
        have r3 := Z15.out.frozen 3
        have r4 := Z15.out.frozen 4
        have mT := ((((((Mine.Mod.refl (one K9) w15).setCell ⟨K9, 0, none⟩ (fun _ => rfl) (.slice va3 xbl vc3)).setCell ⟨K9, 1, none⟩ (fun _ => rfl) (.slice va7 xvl vc7)).setCell ⟨K9, 2, none⟩ (fun _ => rfl) (.int .i64 xfr)).setCell ⟨K9, 3, none⟩ (fun _ => rfl) (.int .i64 xnum)).setCell ⟨K9, 4, none⟩ (fun _ => rfl) (.slice none 0 0))
        have hK9 := HK9.out
        have NF := Lib.hid (N15.out.transIn mT (fun b hb e => by have e' : b = K9 := e; omega))
        have HF := Lib.hid (show KeepSt w7 K9 ⟨xba, xbl, xbc, xva, xvl, xvc, xfr, xnum, xla, xll, xlc⟩ BB VV _ from ⟨va3, vc3, va7, vc7, (((((Z15.out.set 0 (.slice va3 xbl vc3)).set 1 (.slice va7 xvl vc7)).set 2 (.int .i64 xfr)).set 3 (.int .i64 xnum)).set 4 (.slice none 0 0)), ⟨ownsRow_mod OB15.out mT (fun j hj e => by have e' : j = K9 := e; subst e'; exact own_other OB15.out Z15.out (by decide) hj), ownsRow_mod OV15.out mT (fun j hj e => by have e' : j = K9 := e; subst e'; exact own_other OV15.out Z15.out (by decide) hj), ⟨rfl, .inl ⟨rfl, rfl⟩⟩, fun x hx => by simp at hx⟩, NF.out, hK9⟩)
        clear mT
        refine wpAnyH_ready (rs := [14]) (by kernel_rfl) (by simp) (AllReadyH.cons rfl (fun J hJ => ?_) <| AllReadyH.nil)
        go_simp
        refine hJ.out _ _ ⟨by rw [(A7.out.mod NF.out (fun e => e)).cell]; rfl, by rw [(A7.out.mod NF.out (fun e => e)).cell]; rfl, by rw [(A7.out.mod NF.out (fun e => e)).cell]; rfl, by rw [(A7.out.mod NF.out (fun e => e)).cell]; rfl, by rw [(A7.out.mod NF.out (fun e => e)).cell]; rfl⟩ (fun hS => ?_)
        clear hJ J
        try simp only [Act.put, List.setIfInBounds_toArray, List.set_cons_zero, List.set_cons_succ]
        refine wpAnyH_done (by kernel_rfl) ?_ _
        try simp only [List.getElem_toArray, List.getElem_cons_succ, List.getElem_cons_zero]
        try simp only [Act.put, List.setIfInBounds_toArray, List.set_cons_zero, List.set_cons_succ]
        clear d0 d1 d2 d3 d4 r0 r1 r2 r3 r4 hK9
        go_wp2_with fail
        go_meet
        exact ⟨K9, rfl, HF⟩
  case rest =>
  obtain ⟨K9, rfl, hst⟩ := hcut
  obtain ⟨w8, rfl⟩ : ∃ w8, w8 = wc := ⟨_, rfl⟩
  obtain ⟨kba, kbc, kva, kvc, z, mk, n8, hk9⟩ := hst.out
  dsimp only at z mk
  have N8 := Lib.hid n8
  have HK9 := Lib.hid hk9
  have HKL := Lib.hid (show KeepL w7 K9 kba xbl kbc kva xvl kvc xfr xnum BB VV E 0 w8 from ⟨none, 0, [], z, by rw [List.take_zero]; exact likeE.nil, mk⟩)
  clear hst z mk n8 hk9
  go_wp2_with fail
  go_loopg [10] xll (fun g s10 wx => ∃ k : Nat, g = xll - k ∧ s10 = .int .i64 k ∧ k ≤ xll ∧ Mine.Mod none_ w7 wx ∧ RowKit.Hid (KeepL w7 K9 kba xbl kbc kva xvl kvc xfr xnum BB VV E k wx))
  case atStart => exact ⟨0, rfl, rfl, Nat.zero_le _, N8.out, HKL⟩
  case round =>
    obtain ⟨k, rfl, rfl, hk, nx, hst⟩ := hrel
    have AX := Lib.hid (A7.out.mod nx (fun e => e))
    have a4 := AX.out.cell 4
    simp only [List.getElem?_cons_zero, List.getElem?_cons_succ] at a4
    by_cases hlt : k < xll
    · obtain ⟨x, hx⟩ : ∃ x, E[k]? = some x := ⟨E[k]'(by rw [HI.out.e.n]; exact hlt), by simp⟩
      have mw := M7.out.trans nx
      have hxo := HI.out.e.ok x (List.mem_of_getElem? hx)
      have HXO := Lib.hid (hxo.1.grown mw)
      have HSL := Lib.hid (HS.out.2.2.2.2 x (List.mem_of_getElem? hx))
      obtain ⟨b, off, rfl, hr⟩ := (HI.out.e.grown mw).ents k x hx
      have c0 := hr 0 _ rfl
      have c1 := hr 1 _ rfl
      have c2 := hr 2 _ rfl
      have c3 := hr 3 _ rfl
      have c4 := hr 4 _ rfl
      have c5 := hr 5 _ rfl
      have c6 := hr 6 _ rfl
      have c7 := hr 7 _ rfl
      have c8 := hr 8 _ rfl
      have c9 := hr 9 _ rfl
      have c10 := hr 10 _ rfl
      have c11 := hr 11 _ rfl
      have c12 := hr 12 _ rfl
      have c13 := hr 13 _ rfl
      rw [Nat.add_zero] at c0
      have NX := Lib.hid nx
      have HX0 := Lib.hid hx
      have HKX := Lib.hid hst.out
      have mA : Mine.Mod none_ wr (wr.alloc (.cells x.cs.toArray 35)) := (Mine.Mod.refl none_ wr).alloc _
      have kA := Blk.new (w := wr) (cs := x.cs) (t := 35)
      dsimp only [EntV.cs] at mA kA
      have MA := Lib.hid mA
      have YA := Lib.hid kA
      clear nx hst mw hxo hx hr mA kA
      go_upto_region 14 with fail
      generalize wr.alloc (.cells #[.int .i64 x.o.site, .int .i64 x.o.seq, .int .i64 x.o.num, .int .i64 x.o.kind, .int .i64 x.o.at_, .string x.o.text, .slice x.o.sa x.o.slen x.o.scap, .int .i64 x.ed.site, .int .i64 x.ed.seq, .int .i64 x.ed.ctx, .int .i64 x.ed.kind, .int .i64 x.ed.at_, .int .i64 x.ed.len, .string x.ed.text] 35) = wA at MA YA ⊢
      clear c0 c1 c2 c3 c4 c5 c6 c7 c8 c9 c10 c11 c12 c13 a4
      have hKY := YA.out.lt
      obtain ⟨KY, hKYe⟩ : ∃ KY, KY = wr.heap.size := ⟨_, rfl⟩
      have HKY := Lib.hid hKYe
      rw [← hKYe] at YA hKY ⊢
      clear hKYe
      have y6 := YA.out.cell 6
      simp only [List.getElem?_cons_zero, List.getElem?_cons_succ] at y6
      have m1 : Mine.Mod none_ wA (wA.alloc (.cells #[] 49)) := (Mine.Mod.refl none_ wA).alloc _
      have O1 : (wA.alloc (.cells #[] 49)).ownsRow wA.heap.size 49 2 (.slice (some ⟨wA.heap.size, 0, none⟩) 0 0) 0 (flat spC []) := World.ownsRow_made (base := wA.heap.size) (e := 49) (size := 2) wA #[] 0 (Nat.le_refl _) (by unfold maxLen; omega) rfl
      obtain ⟨va, vc, w2, hrun, ho, m2⟩ := app_spans O1 ((HXO.out.sp.grown MA.out).grown m1) (show 0 + x.o.slen ≤ 1099511627776 by have := HSL.out; omega) m1.size
      rw [Nat.zero_add] at hrun ho
      rw [List.nil_append] at ho
      have HRUN := Lib.hid hrun
      have m12 : Mine.Mod none_ wA w2 := m1.transIn m2 (fun j hj e => by have := (O1.lt _ e).1; omega)
      have Y2 := YA.out.mod m12 (fun e => e)
      have b6 := Y2.cell 6
      simp only [List.getElem?_cons_zero, List.getElem?_cons_succ] at b6
      have f6 := Y2.frozen 6
      have mS := (Mine.Mod.refl (one KY) w2).setCell ⟨KY, 6, none⟩ (fun _ => rfl) (.slice va x.o.slen vc)
      have Y3 := Lib.hid (Y2.set 6 (.slice va x.o.slen vc))
      dsimp only [List.set_cons_zero, List.set_cons_succ] at Y3
      have M3 := Lib.hid ((MA.out.trans m12).transIn mS (fun j hj e => by have e' : j = KY := e; have := HKY.out; omega))
      have HO3 := Lib.hid (show ownSp (w2.setCell ⟨KY, 6, none⟩ (.slice va x.o.slen vc)) w7.heap.size (x.at va vc) from ownsRow_base (ownsRow_mod ho mS (fun j hj e => by have e' : j = KY := e; have := (ho.lt j hj).1; omega)) (Nat.le_trans NX.out.size MA.out.size))
      clear hrun ho m1 m2 O1 m12 Y2 mS
      go_upto_region 15 with (at_builtin; refine Lib.wpList_append_run _ rfl (.tmp 73) (.tmp 76) 29 29 rfl _ _ rfl rfl _ _ HRUN.out ?_)
      generalize w2.setCell ⟨KY, 6, none⟩ (.slice va x.o.slen vc) = w3 at Y3 M3 HO3 ⊢
      clear y6 b6 f6 hKY HRUN
      obtain ⟨ka, kc, Q, z, hlk, hmd⟩ := HKX.out
      have z3 := z.mod M3.out (fun e => e)
      have md3 := hmd.grown M3.out
      have z4 := z3.cell 4
      simp only [List.getElem?_cons_zero, List.getElem?_cons_succ] at z4
      have y0 := Y3.out.cell 0
      have y1 := Y3.out.cell 1
      have y2 := Y3.out.cell 2
      have y3 := Y3.out.cell 3
      have y4 := Y3.out.cell 4
      have y5 := Y3.out.cell 5
      have y6 := Y3.out.cell 6
      have y7 := Y3.out.cell 7
      have y8 := Y3.out.cell 8
      have y9 := Y3.out.cell 9
      have y10 := Y3.out.cell 10
      have y11 := Y3.out.cell 11
      have y12 := Y3.out.cell 12
      have y13 := Y3.out.cell 13
      simp only [List.getElem?_cons_zero, List.getElem?_cons_succ] at y0 y1 y2 y3 y4 y5 y6 y7 y8 y9 y10 y11 y12 y13
      have mB : Mine.Mod none_ w3 (w3.alloc (.cells (x.at va vc).cs.toArray 35)) := (Mine.Mod.refl none_ w3).alloc _
      have kB := Blk.new (w := w3) (cs := (x.at va vc).cs) (t := 35)
      have hz9 : K9 < w3.heap.size := z3.lt
      have hzY : KY < w3.heap.size := Y3.out.lt
      obtain ⟨va5, vc5, w5', hrun, hmd5, m5⟩ := (md3.grown mB).add (ownsRow_mod HO3.out mB (fun _ _ e => e)) kB (show k ≤ 1000000 by omega) (Nat.le_trans NX.out.size (Nat.le_trans M3.out.size mB.size))
      have mdB := md3.grown mB
      have lbB : ∀ j, (Value.slice ka k kc).ownBlock = some j → w7.heap.size ≤ j := fun j hj => (mdB.e.lt j hj).1
      dsimp only at m5
      dsimp only [EntV.cs] at hrun mB kB
      have HRUN := Lib.hid hrun
      have z5 := (z3.mod mB (fun e => e)).mod m5 (own_other mdB.e (z3.mod mB (fun e => e)) (by decide))
      have b4 := z5.cell 4
      simp only [List.getElem?_cons_zero, List.getElem?_cons_succ] at b4
      have f4 := z5.frozen 4
      have mT := (Mine.Mod.refl (one K9) w5').setCell ⟨K9, 4, none⟩ (fun _ => rfl) (.slice va5 (k + 1) vc5)
      have hk9 := HK9.out
      have N6 := Lib.hid (((NX.out.trans (M3.out.trans mB)).transIn m5 (fun j hj e => by have := lbB j e; omega)).transIn mT (fun j hj e => by have e' : j = K9 := e; omega))
      have HK6 := Lib.hid (show KeepL w7 K9 kba xbl kbc kva xvl kvc xfr xnum BB VV E (k + 1) (w5'.setCell ⟨K9, 4, none⟩ (.slice va5 (k + 1) vc5)) from ⟨va5, vc5, Q ++ [x.at va vc], z5.set 4 (.slice va5 (k + 1) vc5), by rw [ents_snoc HX0.out]; exact hlk.snoc x va vc, hmd5.mod mT (fun j e => by have e' : j = K9 := e; subst e'; exact ⟨_, Or.inr z5⟩)⟩)
      clear hrun z z3 md3 mdB lbB z5 mB kB hmd hmd5 m5 mT hlk HKX
      go_wp2_with (at_builtin; refine Lib.wpList_append_run _ rfl (.tmp 81) (.tmp 83) 24 24 rfl _ _ rfl rfl _ _ HRUN.out ?_)
      go_roundg (xll - (k + 1))
      all_goals first
        | omega
        | exact ⟨k + 1, rfl, by go_num, by omega, N6.out, HK6⟩
    · have hkl : xll = k := by omega
      subst hkl
      have NL := Lib.hid nx
      obtain ⟨ka, kc, Q, z, hlk, hmd⟩ := hst.out
      rw [List.take_of_length_le (by rw [HI.out.e.n]; omega)] at hlk
      have ZL := Lib.hid z
      have HLQ := Lib.hid hlk
      have MQ := Lib.hid hmd
      clear nx hst z hlk hmd
      go_wp2_with fail
      clear a4
      obtain ⟨wl, rfl⟩ : ∃ wl, wl = wr := ⟨_, rfl⟩
      have SHL := Lib.hid (SH7.out.grown NL.out)
      have DL := Lib.hid (D7.out.mod NL.out (fun e => e))
      go_loopg [12] xbl (fun g s12 wx => ∃ k : Nat, g = xbl - k ∧ s12 = .int .i64 k ∧ k ≤ xbl ∧ Mine.Mod (Between (w.heap.size + 1 + 1) Bd) wl wx ∧ RowKit.Hid (Sh wx ⟨gba, xbl, gbc, gva, xvl, gvc, xfr, gnu, gla, gll, glc⟩ EE ∧ Blk wx K5 [.slice gba xbl gbc, .slice gva xvl gvc, .int .i64 xfr, .int .i64 gnu, .slice gla gll glc] 39))
      case atStart => exact ⟨0, rfl, rfl, Nat.zero_le _, Mine.Mod.refl _ _, Lib.hid ⟨SHL.out, DL.out⟩⟩
      case round =>
      obtain ⟨k, rfl, rfl, hk, mx, hst⟩ := hrel
      have MX := Lib.hid mx
      have SX := Lib.hid hst.out.1
      have DX := Lib.hid hst.out.2
      have d0 := DX.out.cell 0
      simp only [List.getElem?_cons_zero, List.getElem?_cons_succ] at d0
      clear mx hst
      by_cases hlt : k < xbl
      · obtain ⟨gb, cs, hgb, hb, v, hv⟩ := SX.out.b k hlt
        dsimp only at hgb
        subst hgb
        have HBX := Lib.hid hb
        obtain ⟨vn, hvn⟩ : ∃ vn, vn = IntKind.i64.wrap (v + 1) := ⟨_, rfl⟩
        have HVN := Lib.hid hvn
        clear hvn
        have HBT := Lib.hid (HLB.out gb rfl)
        have c2 : wr.drew.cell? ⟨gb, k * 5 + 2, none⟩ = some (.int .i64 v) := by rw [hb.drew.cell]; exact hv
        have f2 := hb.drew.frozen (k * 5 + 2)
        have hne : K5 ≠ gb := fun e => by subst e; exact absurd (blk_same DX.out hb).2 (by decide)
        have MD := Lib.hid (Mine.Mod.drew MX.out)
        have SD := Lib.hid (SX.out.grown (Mine.Mod.drew (Mine.Mod.refl none_ wr)))
        have DD := Lib.hid DX.out.drew
        have HBD2 := Lib.hid hb.drew
        clear hb hv
        go_upto_region 19 with fail
        refine wp_region_held_drew (S := fun w' => w'.cell? ⟨K5, 0, none⟩ = some (.slice (some ⟨gb, 0, none⟩) xbl gbc)) (by kernel_rfl) d0 (fun hS => ?_)
        clear d0
        generalize wr.drew = wd at c2 f2 MD SD DD HBD2 hS ⊢
        refine wpAnyH_take (i := 0) (v := .pointer (some ⟨K5, 0, none⟩)) rfl (by kernel_rfl) (by kernel_rfl) (by kernel_rfl) (fun _ _ _ h => h) (Or.inl ⟨by kernel_rfl, ?_⟩) hS ?_
        · rintro w' q0; go_simp
        try simp only [Act.put, List.setIfInBounds_toArray, List.set_cons_zero, List.set_cons_succ]
        refine wpAnyH_take (i := 1) (v := .slice (some ⟨gb, 0, none⟩) xbl gbc) rfl (by kernel_rfl) (by kernel_rfl) (by kernel_rfl) (fun _ _ _ h => h) (Or.inl ⟨by kernel_rfl, ?_⟩) hS ?_
        · rintro w' q0; go_simp
        try simp only [Act.put, List.setIfInBounds_toArray, List.set_cons_zero, List.set_cons_succ]
        refine wpAnyH_take (i := 2) (v := .int .i64 (k : Int)) rfl (by kernel_rfl) (by kernel_rfl) (by kernel_rfl) (fun _ _ _ h => h) (Or.inl ⟨by kernel_rfl, ?_⟩) hS ?_
        · rintro w' q0; go_simp
        try simp only [Act.put, List.setIfInBounds_toArray, List.set_cons_zero, List.set_cons_succ]
        refine wpAnyH_take (i := 3) (v := .pointer (some ⟨K5, 0, none⟩)) rfl (by kernel_rfl) (by kernel_rfl) (by kernel_rfl) (fun _ _ _ h => h) (Or.inl ⟨by kernel_rfl, ?_⟩) hS ?_
        · rintro w' q0; go_simp
        try simp only [Act.put, List.setIfInBounds_toArray, List.set_cons_zero, List.set_cons_succ]
        refine wpAnyH_take (i := 4) (v := .slice (some ⟨gb, 0, none⟩) xbl gbc) rfl (by kernel_rfl) (by kernel_rfl) (by kernel_rfl) (fun _ _ _ h => h) (Or.inl ⟨by kernel_rfl, ?_⟩) hS ?_
        · rintro w' q0; go_simp
        try simp only [Act.put, List.setIfInBounds_toArray, List.set_cons_zero, List.set_cons_succ]
        refine wpAnyH_take (i := 5) (v := .int .i64 (k : Int)) rfl (by kernel_rfl) (by kernel_rfl) (by kernel_rfl) (fun _ _ _ h => h) (Or.inl ⟨by kernel_rfl, ?_⟩) hS ?_
        · rintro w' q0; go_simp
        try simp only [Act.put, List.setIfInBounds_toArray, List.set_cons_zero, List.set_cons_succ]
        refine wpAnyH_take (i := 6) (v := .pointer (some ⟨gb, k * 5, none⟩)) rfl (by kernel_rfl) (by kernel_rfl) (by kernel_rfl) (fun _ _ _ h => h) (Or.inl ⟨by kernel_rfl, ?_⟩) hS ?_
        · rintro w' q0; (go_simp <;> (intro h; omega))
        try simp only [Act.put, List.setIfInBounds_toArray, List.set_cons_zero, List.set_cons_succ]
        refine wpAnyH_take (i := 7) (v := .pointer (some ⟨gb, k * 5 + 2, none⟩)) rfl (by kernel_rfl) (by kernel_rfl) (by kernel_rfl) (fun _ _ _ h => h) (Or.inl ⟨by kernel_rfl, ?_⟩) hS ?_
        · rintro w' q0; go_simp
        try simp only [Act.put, List.setIfInBounds_toArray, List.set_cons_zero, List.set_cons_succ]
        refine wpAnyH_ready (rs := [8]) (by kernel_rfl) (by simp) (AllReadyH.cons rfl (fun J hJ => ?_) <| AllReadyH.nil)
        go_simp
        refine hJ.out _ _ (by rw [DD.out.cell]; rfl) (fun hS => ?_)
        clear hJ J
        try simp only [Act.put, List.setIfInBounds_toArray, List.set_cons_zero, List.set_cons_succ]
        refine wpAnyH_take (i := 9) (v := .int .i64 vn) rfl (by kernel_rfl) (by kernel_rfl) (by kernel_rfl) (fun _ _ _ h => h) (Or.inl ⟨by kernel_rfl, ?_⟩) hS ?_
        · rintro w' q0; go_simp; rw [HVN.out]
        try simp only [Act.put, List.setIfInBounds_toArray, List.set_cons_zero, List.set_cons_succ]
        refine wpAnyH_take (i := 10) (v := .pointer (some ⟨gb, k * 5, none⟩)) rfl (by kernel_rfl) (by kernel_rfl) (by kernel_rfl) (fun _ _ _ h => h) (Or.inl ⟨by kernel_rfl, ?_⟩) hS ?_
        · rintro w' q0; (go_simp <;> (intro h; omega))
        try simp only [Act.put, List.setIfInBounds_toArray, List.set_cons_zero, List.set_cons_succ]
        refine wpAnyH_take (i := 11) (v := .pointer (some ⟨gb, k * 5 + 2, none⟩)) rfl (by kernel_rfl) (by kernel_rfl) (by kernel_rfl) (fun _ _ _ h => h) (Or.inl ⟨by kernel_rfl, ?_⟩) hS ?_
        · rintro w' q0; go_simp
        try simp only [Act.put, List.setIfInBounds_toArray, List.set_cons_zero, List.set_cons_succ]
        have mS := (Mine.Mod.refl (one gb) wd).setCell ⟨gb, k * 5 + 2, none⟩ (fun _ => rfl) (.int .i64 vn)
        have D2 := Lib.hid (DD.out.mod mS hne)
        have S2 := Lib.hid (SD.out.set HBD2.out (k * 5 + 2) vn (fun e => absurd e (by decide)))
        have M2 := Lib.hid (MD.out.trans (mS.mono (fun j _ e => by have e' : j = gb := e; rw [e']; exact HBT.out)))
        clear mS
        refine wpAnyH_ready (rs := [12]) (by kernel_rfl) (by simp) (AllReadyH.cons rfl (fun J hJ => ?_) <| AllReadyH.nil)
        go_simp
        refine hJ.out _ _ (by rw [D2.out.cell]; rfl) (fun hS => ?_)
        clear hJ J
        try simp only [Act.put, List.setIfInBounds_toArray, List.set_cons_zero, List.set_cons_succ]
        refine wpAnyH_done (by kernel_rfl) ?_ _
        try simp only [List.getElem_toArray, List.getElem_cons_succ, List.getElem_cons_zero]
        try simp only [Act.put, List.setIfInBounds_toArray, List.set_cons_zero, List.set_cons_succ]
        clear c2 f2 hne
        go_wp2_with fail
        go_roundg (xbl - (k + 1))
        all_goals first
          | omega
          | exact ⟨k + 1, rfl, by go_num, by omega, M2.out, Lib.hid ⟨S2.out, D2.out⟩⟩
      · have hkl : xbl = k := by omega
        subst hkl
        go_wp2_with fail
        clear d0
        obtain ⟨wm, rfl⟩ : ∃ wm, wm = wr := ⟨_, rfl⟩
        go_loopg [13] gll (fun g s13 wx => ∃ k : Nat, g = gll - k ∧ s13 = .int .i64 k ∧ k ≤ gll ∧ Mine.Mod (Between (w.heap.size + 1 + 1) Bd) wl wx ∧ RowKit.Hid (Sh wx ⟨gba, xbl, gbc, gva, xvl, gvc, xfr, gnu, gla, gll, glc⟩ EE ∧ Blk wx K5 [.slice gba xbl gbc, .slice gva xvl gvc, .int .i64 xfr, .int .i64 gnu, .slice gla gll glc] 39))
        case atStart => exact ⟨0, rfl, rfl, Nat.zero_le _, MX.out, Lib.hid ⟨SX.out, DX.out⟩⟩
        case round =>
        obtain ⟨k, rfl, rfl, hk, mx, hst⟩ := hrel
        have MY := Lib.hid mx
        have SY := Lib.hid hst.out.1
        have DY := Lib.hid hst.out.2
        have d4 := DY.out.cell 4
        simp only [List.getElem?_cons_zero, List.getElem?_cons_succ] at d4
        clear mx hst
        by_cases hlt : k < gll
        · obtain ⟨y, hy⟩ : ∃ y, EE[k]? = some y := ⟨EE[k]'(by rw [HEL.out]; exact hlt), by simp⟩
          have hmem := List.mem_of_getElem? hy
          have HY := Lib.hid hy
          have HMM := Lib.hid hmem
          have hso := HEO.out y hmem
          obtain ⟨gl, cs, hgl, hb, h6, v, h11⟩ := SY.out.e k y hy
          dsimp only at hgl
          subst hgl
          have HBT := Lib.hid (HLL.out gl rfl)
          clear hb h6 h11 hy hmem
          go_wp2_with fail
          clear d4
          go_loopg [14] y.o.slen (fun g s14 wx => ∃ j : Nat, g = y.o.slen - j ∧ s14 = .int .i64 j ∧ j ≤ y.o.slen ∧ Mine.Mod (Between (w.heap.size + 1 + 1) Bd) wl wx ∧ RowKit.Hid (Sh wx ⟨gba, xbl, gbc, gva, xvl, gvc, xfr, gnu, some ⟨gl, 0, none⟩, gll, glc⟩ EE ∧ Blk wx K5 [.slice gba xbl gbc, .slice gva xvl gvc, .int .i64 xfr, .int .i64 gnu, .slice (some ⟨gl, 0, none⟩) gll glc] 39))
          case atStart => exact ⟨0, rfl, rfl, Nat.zero_le _, MY.out, Lib.hid ⟨SY.out, DY.out⟩⟩
          case round =>
          obtain ⟨j, rfl, rfl, hj, mx, hst⟩ := hrel
          have MZ := Lib.hid mx
          have SZ := Lib.hid hst.out.1
          have DZ := Lib.hid hst.out.2
          have d4 := DZ.out.cell 4
          simp only [List.getElem?_cons_zero, List.getElem?_cons_succ] at d4
          obtain ⟨gl2, cs2, hg2, hb2, h6, v2, h11⟩ := SZ.out.e k y HY.out
          dsimp only at hg2
          cases hg2
          have HB2 := Lib.hid hb2
          have HV2 := Lib.hid h11
          have e6 : wr.cell? ⟨gl, k * 14 + 6, none⟩ = some (.slice y.o.sa y.o.slen y.o.scap) := by rw [hb2.cell]; exact h6
          clear mx hst hb2 h6 h11
          by_cases hlj : j < y.o.slen
          · obtain ⟨gs, ds, hsa, hbs, u, hu⟩ := SZ.out.s y HMM.out j hlj
            have HBU := Lib.hid (HLS.out y HMM.out gs hsa)
            rw [hsa] at e6
            have l1 : wr.cell? ⟨gs, j * 2 + 1, none⟩ = some (.int .i64 u) := by rw [hbs.cell]; exact hu
            have f1 := hbs.frozen (j * 2 + 1)
            have hne : K5 ≠ gs := fun e => by subst e; exact absurd (blk_same DZ.out hbs).2 (by decide)
            have mS := (Mine.Mod.refl (one gs) wr).setCell ⟨gs, j * 2 + 1, none⟩ (fun _ => rfl) (.int .i64 (wrap64 (u + 1)))
            have D2 := Lib.hid (DZ.out.mod mS hne)
            have S2 := Lib.hid (SZ.out.set hbs (j * 2 + 1) (wrap64 (u + 1)) (fun e => absurd e (by decide)))
            have M2 := Lib.hid (MZ.out.trans (mS.mono (fun i _ e => by have e' : i = gs := e; rw [e']; exact HBU.out)))
            clear mS hsa hbs hu hne
            go_wp2_with fail
            go_roundg (y.o.slen - (j + 1))
            all_goals first
              | omega
              | exact ⟨j + 1, rfl, by go_num, by omega, M2.out, Lib.hid ⟨S2.out, D2.out⟩⟩
          · have hjl : y.o.slen = j := by omega
            have hdj : decide ((j : Int) < (y.o.slen : Int)) = false := by simp; omega
            have l1 : wr.cell? ⟨gl, k * 14 + 11, none⟩ = some (.int .i64 v2) := by rw [HB2.out.cell]; exact HV2.out
            have f1 := HB2.out.frozen (k * 14 + 11)
            have hne : K5 ≠ gl := fun e => by subst e; exact absurd (blk_same DZ.out HB2.out).2 (by decide)
            have mS := (Mine.Mod.refl (one gl) wr).setCell ⟨gl, k * 14 + 11, none⟩ (fun _ => rfl) (.int .i64 (-7))
            have D2 := Lib.hid (DZ.out.mod mS hne)
            have S2 := Lib.hid (SZ.out.set HB2.out (k * 14 + 11) (-7) (fun _ => by omega))
            have M2 := Lib.hid (MZ.out.trans (mS.mono (fun i _ e => by have e' : i = gl := e; rw [e']; exact HBT.out)))
            clear mS hne hjl
            go_wp2_with fail
            go_roundg (gll - (k + 1))
            all_goals first
              | omega
              | exact ⟨k + 1, rfl, by go_num, by omega, M2.out, Lib.hid ⟨S2.out, D2.out⟩⟩
        · have hkl : gll = k := by omega
          subst hkl
          have ML := Lib.hid (M7.out.trans NL.out)
          have hBd7 := HB7.out
          have hk9 := HK9.out
          have hk7 := HK7.out
          have M40 := Lib.hid (between_low MY.out ML.out (Nat.le_add_right _ 2))
          have A40 := Lib.hid ((A7.out.mod NL.out (fun e => e)).mod MY.out (fun e => by have := e.1; omega))
          have B40 := Lib.hid ((B7.out.mod NL.out (fun e => e)).mod MY.out (fun e => by have := e.1; omega))
          have Z40 := Lib.hid (ZL.out.mod MY.out (fun e => by have := e.2; omega))
          have MK40 := Lib.hid (MQ.out.above MY.out (fun j e => by have := e.2; omega))
          have RS40 := Lib.hid (show RAddSt w w5.heap.size K7 0 ⟨xba, xbl, xbc, xva, xvl, xvc, xfr, xnum, xla, xll, xlc⟩ E x wr from by
            obtain ⟨g, q1, q2, q3, q4⟩ := RS7.out
            refine ⟨g, (q1.mod NL.out (fun e => e)).mod MY.out (fun e => by have := e.2; omega), q2, fun e => ?_, M40.out⟩
            obtain ⟨la, lc, e1, ho⟩ := q3 e
            have hbd := HBD.out
            exact ⟨la, lc, e1, ownsRow_mod (ownsRow_mod ho NL.out (fun _ _ e => e)) MY.out (fun j hj e => by have h1 := (ho.lt j hj).1; have h2 := e.2; omega)⟩)
          clear hBd7 hk9 hk7
          obtain ⟨w40, rfl⟩ : ∃ w40, w40 = wr := ⟨_, rfl⟩
          go_upto_region 28 with fail
          clear d4
          go_cut [15, 16] from 144 to 150 (fun s15 s16 wx => ∃ K15, s15 = .pointer (some ⟨K15, 0, none⟩) ∧ s16 = .int .i64 0 ∧ RowKit.Hid (AddSt w (w.heap.size + 1 + 1) K15 0 ⟨xba, xbl, xbc, xva, xvl, xvc, xfr, xnum, xla, xll, xlc⟩ BB VV E x wx ∧ Blk wx w.heap.size [.slice xba xbl xbc, .slice xva xvl xvc, .int .i64 xfr, .int .i64 xnum, .slice xla xll xlc] 26 ∧ Blk wx (w.heap.size + 1) [.int .i64 x.o.site, .int .i64 x.o.seq, .int .i64 x.o.num, .int .i64 x.o.kind, .int .i64 x.o.at_, .string x.o.text, .slice x.o.sa x.o.slen x.o.scap, .int .i64 x.ed.site, .int .i64 x.ed.seq, .int .i64 x.ed.ctx, .int .i64 x.ed.kind, .int .i64 x.ed.at_, .int .i64 x.ed.len, .string x.ed.text] 35 ∧ w.heap.size + 1 + 1 ≤ K15 ∧ Mine.Mod none_ w40 wx))
          case first =>
            have mD := Mine.Mod.drew (Mine.Mod.refl none_ w40)
            have M41 := Lib.hid (M40.out.trans mD)
            have A41 := Lib.hid (A40.out.mod mD (fun e => e))
            have B41 := Lib.hid (B40.out.mod mD (fun e => e))
            have N41 := Lib.hid mD
            clear mD
            have f0 : w40.cell? ⟨w.heap.size, 0, none⟩ = some (.slice xba xbl xbc) := by rw [A40.out.cell]; rfl
            have f1 : w40.cell? ⟨w.heap.size, 1, none⟩ = some (.slice xva xvl xvc) := by rw [A40.out.cell]; rfl
            have f2 : w40.cell? ⟨w.heap.size, 2, none⟩ = some (.int .i64 xfr) := by rw [A40.out.cell]; rfl
            have f3 : w40.cell? ⟨w.heap.size, 3, none⟩ = some (.int .i64 xnum) := by rw [A40.out.cell]; rfl
            have f4 : w40.cell? ⟨w.heap.size, 4, none⟩ = some (.slice xla xll xlc) := by rw [A40.out.cell]; rfl
            have g0 : w40.cell? ⟨w.heap.size + 1, 0, none⟩ = some (.int .i64 x.o.site) := by rw [B40.out.cell]; rfl
            have g1 : w40.cell? ⟨w.heap.size + 1, 1, none⟩ = some (.int .i64 x.o.seq) := by rw [B40.out.cell]; rfl
            have g2 : w40.cell? ⟨w.heap.size + 1, 2, none⟩ = some (.int .i64 x.o.num) := by rw [B40.out.cell]; rfl
            have g3 : w40.cell? ⟨w.heap.size + 1, 3, none⟩ = some (.int .i64 x.o.kind) := by rw [B40.out.cell]; rfl
            have g4 : w40.cell? ⟨w.heap.size + 1, 4, none⟩ = some (.int .i64 x.o.at_) := by rw [B40.out.cell]; rfl
            have g5 : w40.cell? ⟨w.heap.size + 1, 5, none⟩ = some (.string x.o.text) := by rw [B40.out.cell]; rfl
            have g6 : w40.cell? ⟨w.heap.size + 1, 6, none⟩ = some (.slice x.o.sa x.o.slen x.o.scap) := by rw [B40.out.cell]; rfl
            have g7 : w40.cell? ⟨w.heap.size + 1, 7, none⟩ = some (.int .i64 x.ed.site) := by rw [B40.out.cell]; rfl
            have g8 : w40.cell? ⟨w.heap.size + 1, 8, none⟩ = some (.int .i64 x.ed.seq) := by rw [B40.out.cell]; rfl
            have g9 : w40.cell? ⟨w.heap.size + 1, 9, none⟩ = some (.int .i64 x.ed.ctx) := by rw [B40.out.cell]; rfl
            have g10 : w40.cell? ⟨w.heap.size + 1, 10, none⟩ = some (.int .i64 x.ed.kind) := by rw [B40.out.cell]; rfl
            have g11 : w40.cell? ⟨w.heap.size + 1, 11, none⟩ = some (.int .i64 x.ed.at_) := by rw [B40.out.cell]; rfl
            have g12 : w40.cell? ⟨w.heap.size + 1, 12, none⟩ = some (.int .i64 x.ed.len) := by rw [B40.out.cell]; rfl
            have g13 : w40.cell? ⟨w.heap.size + 1, 13, none⟩ = some (.string x.ed.text) := by rw [B40.out.cell]; rfl
            refine wp_region_held_drew (S := fun w' => w'.cell? ⟨w.heap.size, 0, none⟩ = some (.slice xba xbl xbc) ∧ w'.cell? ⟨w.heap.size, 1, none⟩ = some (.slice xva xvl xvc) ∧ w'.cell? ⟨w.heap.size, 2, none⟩ = some (.int .i64 xfr) ∧ w'.cell? ⟨w.heap.size, 3, none⟩ = some (.int .i64 xnum) ∧ w'.cell? ⟨w.heap.size, 4, none⟩ = some (.slice xla xll xlc) ∧ w'.cell? ⟨w.heap.size + 1, 0, none⟩ = some (.int .i64 x.o.site) ∧ w'.cell? ⟨w.heap.size + 1, 1, none⟩ = some (.int .i64 x.o.seq) ∧ w'.cell? ⟨w.heap.size + 1, 2, none⟩ = some (.int .i64 x.o.num) ∧ w'.cell? ⟨w.heap.size + 1, 3, none⟩ = some (.int .i64 x.o.kind) ∧ w'.cell? ⟨w.heap.size + 1, 4, none⟩ = some (.int .i64 x.o.at_) ∧ w'.cell? ⟨w.heap.size + 1, 5, none⟩ = some (.string x.o.text) ∧ w'.cell? ⟨w.heap.size + 1, 6, none⟩ = some (.slice x.o.sa x.o.slen x.o.scap) ∧ w'.cell? ⟨w.heap.size + 1, 7, none⟩ = some (.int .i64 x.ed.site) ∧ w'.cell? ⟨w.heap.size + 1, 8, none⟩ = some (.int .i64 x.ed.seq) ∧ w'.cell? ⟨w.heap.size + 1, 9, none⟩ = some (.int .i64 x.ed.ctx) ∧ w'.cell? ⟨w.heap.size + 1, 10, none⟩ = some (.int .i64 x.ed.kind) ∧ w'.cell? ⟨w.heap.size + 1, 11, none⟩ = some (.int .i64 x.ed.at_) ∧ w'.cell? ⟨w.heap.size + 1, 12, none⟩ = some (.int .i64 x.ed.len) ∧ w'.cell? ⟨w.heap.size + 1, 13, none⟩ = some (.string x.ed.text)) (by kernel_rfl) ⟨f0, f1, f2, f3, f4, g0, g1, g2, g3, g4, g5, g6, g7, g8, g9, g10, g11, g12, g13⟩ (fun hS => ?_)
            clear f0 f1 f2 f3 f4 g0 g1 g2 g3 g4 g5 g6 g7 g8 g9 g10 g11 g12 g13
            generalize w40.drew = wd at M41 A41 B41 N41 hS ⊢
            refine wpAnyH_take (i := 0) (v := .agg #[.slice xba xbl xbc, .slice xva xvl xvc, .int .i64 xfr, .int .i64 xnum, .slice xla xll xlc]) rfl (by kernel_rfl) (by kernel_rfl) (by kernel_rfl) (fun _ _ _ h => h) (Or.inl ⟨by kernel_rfl, ?_⟩) hS ?_
            · rintro w' ⟨q0, q1, q2, q3, q4, q5, q6, q7, q8, q9, q10, q11, q12, q13, q14, q15, q16, q17, q18⟩; go_simp
            try simp only [Act.put, List.setIfInBounds_toArray, List.set_cons_zero, List.set_cons_succ]
            refine wpAnyH_take (i := 2) (v := .agg #[.int .i64 x.o.site, .int .i64 x.o.seq, .int .i64 x.o.num, .int .i64 x.o.kind, .int .i64 x.o.at_, .string x.o.text, .slice x.o.sa x.o.slen x.o.scap, .int .i64 x.ed.site, .int .i64 x.ed.seq, .int .i64 x.ed.ctx, .int .i64 x.ed.kind, .int .i64 x.ed.at_, .int .i64 x.ed.len, .string x.ed.text]) rfl (by kernel_rfl) (by kernel_rfl) (by kernel_rfl) (fun _ _ _ h => h) (Or.inl ⟨by kernel_rfl, ?_⟩) hS ?_
            · rintro w' ⟨q0, q1, q2, q3, q4, q5, q6, q7, q8, q9, q10, q11, q12, q13, q14, q15, q16, q17, q18⟩; go_simp
            try simp only [Act.put, List.setIfInBounds_toArray, List.set_cons_zero, List.set_cons_succ]
            refine wpAnyH_ready (rs := [1, 7]) (by kernel_rfl) (by simp) (AllReadyH.cons rfl (fun J hJ => ?_) <| AllReadyH.cons rfl (fun J hJ => ?_) <| AllReadyH.nil)
            · go_simp
              refine (HOF.out _).mono ?_
              rintro e w42 ⟨rfl, mq⟩
              have M42 := Lib.hid (M41.out.trans mq)
              have A42 := Lib.hid (A41.out.mod mq (fun e => e))
              have B42 := Lib.hid (B41.out.mod mq (fun e => e))
              have N42 := Lib.hid (N41.out.trans mq)
              refine hJ.out _ _ ⟨by rw [A42.out.cell]; rfl, by rw [A42.out.cell]; rfl, by rw [A42.out.cell]; rfl, by rw [A42.out.cell]; rfl, by rw [A42.out.cell]; rfl, by rw [B42.out.cell]; rfl, by rw [B42.out.cell]; rfl, by rw [B42.out.cell]; rfl, by rw [B42.out.cell]; rfl, by rw [B42.out.cell]; rfl, by rw [B42.out.cell]; rfl, by rw [B42.out.cell]; rfl, by rw [B42.out.cell]; rfl, by rw [B42.out.cell]; rfl, by rw [B42.out.cell]; rfl, by rw [B42.out.cell]; rfl, by rw [B42.out.cell]; rfl, by rw [B42.out.cell]; rfl, by rw [B42.out.cell]; rfl⟩ (fun hS => ?_)
              clear hJ J mq
              try simp only [Act.put, List.setIfInBounds_toArray, List.set_cons_zero, List.set_cons_succ]
              refine wpAnyH_ready (rs := [3, 7]) (by kernel_rfl) (by simp) (AllReadyH.cons rfl (fun J hJ => ?_) <| AllReadyH.cons rfl (fun J hJ => ?_) <| AllReadyH.nil)
              · go_simp
                refine (HADD.out _ M42.out).mono ?_
                rintro e w43 ha
                rw [← HR.out] at ha
                obtain ⟨⟨gba, gbl, gbc, gva, gvl, gvc, gfr, gnu, gla, gll, glc⟩, BC, VC, EC2, rfl, ga1, ga2, mq⟩ := AddTo.open_ (w := w) ha
                have HB0 := Lib.hid (show w.heap.size + 1 + 1 ≤ w42.heap.size from B42.out.lt)
                have P43 := Lib.hid (show AddP _ 0 ⟨xba, xbl, xbc, xva, xvl, xvc, xfr, xnum, xla, xll, xlc⟩ BB VV E x ⟨gba, gbl, gbc, gva, gvl, gvc, gfr, gnu, gla, gll, glc⟩ BC VC EC2 w43 from ⟨ga1, ga2⟩)
                have M43 := Lib.hid (M42.out.trans mq)
                have A43 := Lib.hid (A42.out.mod mq (fun e => e))
                have B43 := Lib.hid (B42.out.mod mq (fun e => e))
                have N43 := Lib.hid (N42.out.trans mq)
                refine hJ.out _ _ ⟨by rw [A43.out.cell]; rfl, by rw [A43.out.cell]; rfl, by rw [A43.out.cell]; rfl, by rw [A43.out.cell]; rfl, by rw [A43.out.cell]; rfl, by rw [B43.out.cell]; rfl, by rw [B43.out.cell]; rfl, by rw [B43.out.cell]; rfl, by rw [B43.out.cell]; rfl, by rw [B43.out.cell]; rfl, by rw [B43.out.cell]; rfl, by rw [B43.out.cell]; rfl, by rw [B43.out.cell]; rfl, by rw [B43.out.cell]; rfl, by rw [B43.out.cell]; rfl, by rw [B43.out.cell]; rfl, by rw [B43.out.cell]; rfl, by rw [B43.out.cell]; rfl, by rw [B43.out.cell]; rfl⟩ (fun hS => ?_)
                clear hJ J mq ga1 ga2 ha
                try simp only [Act.put, List.setIfInBounds_toArray, List.set_cons_zero, List.set_cons_succ]
                try dsimp only [HistV.v]
                refine wpAnyH_take (i := 4) (v := .tuple #[.agg #[.slice gba gbl gbc, .slice gva gvl gvc, .int .i64 gfr, .int .i64 gnu, .slice gla gll glc], .int .i64 0]) rfl (by kernel_rfl) (by kernel_rfl) (by kernel_rfl) (fun _ _ _ h => h) (Or.inl ⟨by kernel_rfl, ?_⟩) hS ?_
                · rintro w' ⟨q0, q1, q2, q3, q4, q5, q6, q7, q8, q9, q10, q11, q12, q13, q14, q15, q16, q17, q18⟩; go_simp
                try simp only [Act.put, List.setIfInBounds_toArray, List.set_cons_zero, List.set_cons_succ]
                refine wpAnyH_take (i := 5) (v := .agg #[.slice gba gbl gbc, .slice gva gvl gvc, .int .i64 gfr, .int .i64 gnu, .slice gla gll glc]) rfl (by kernel_rfl) (by kernel_rfl) (by kernel_rfl) (fun _ _ _ h => h) (Or.inl ⟨by kernel_rfl, ?_⟩) hS ?_
                · rintro w' ⟨q0, q1, q2, q3, q4, q5, q6, q7, q8, q9, q10, q11, q12, q13, q14, q15, q16, q17, q18⟩; go_simp
                try simp only [Act.put, List.setIfInBounds_toArray, List.set_cons_zero, List.set_cons_succ]
                refine wpAnyH_take (i := 6) (v := .int .i64 0) rfl (by kernel_rfl) (by kernel_rfl) (by kernel_rfl) (fun _ _ _ h => h) (Or.inl ⟨by kernel_rfl, ?_⟩) hS ?_
                · rintro w' ⟨q0, q1, q2, q3, q4, q5, q6, q7, q8, q9, q10, q11, q12, q13, q14, q15, q16, q17, q18⟩; go_simp
                try simp only [Act.put, List.setIfInBounds_toArray, List.set_cons_zero, List.set_cons_succ]
                refine wpAnyH_ready (rs := [7]) (by kernel_rfl) (by simp) (AllReadyH.cons rfl (fun J hJ => ?_) <| AllReadyH.nil)
                have mA : Mine.Mod none_ w43 (w43.alloc (.cells #[.slice none 0 0, .slice none 0 0, .int .i64 0, .int .i64 0, .slice none 0 0] 39)) := (Mine.Mod.refl none_ _).alloc _
                have Z44 := Lib.hid (Blk.new (w := w43) (cs := [.slice none 0 0, .slice none 0 0, .int .i64 0, .int .i64 0, .slice none 0 0]) (t := 39))
                have HK := Lib.hid (show w.heap.size + 1 + 1 ≤ w43.heap.size from B43.out.lt)
                have M44 := Lib.hid (M43.out.trans mA)
                have A44 := Lib.hid (A43.out.mod mA (fun e => e))
                have B44 := Lib.hid (B43.out.mod mA (fun e => e))
                have N44 := Lib.hid (N43.out.trans mA)
                have HKN := Lib.hid (show w40.heap.size ≤ w43.heap.size from N43.out.size)
                have P44 := Lib.hid (P43.out.mod mA (fun _ e => e.elim))
                clear mA
                go_simp
                refine hJ.out _ _ ⟨by rw [A44.out.cell]; rfl, by rw [A44.out.cell]; rfl, by rw [A44.out.cell]; rfl, by rw [A44.out.cell]; rfl, by rw [A44.out.cell]; rfl, by rw [B44.out.cell]; rfl, by rw [B44.out.cell]; rfl, by rw [B44.out.cell]; rfl, by rw [B44.out.cell]; rfl, by rw [B44.out.cell]; rfl, by rw [B44.out.cell]; rfl, by rw [B44.out.cell]; rfl, by rw [B44.out.cell]; rfl, by rw [B44.out.cell]; rfl, by rw [B44.out.cell]; rfl, by rw [B44.out.cell]; rfl, by rw [B44.out.cell]; rfl, by rw [B44.out.cell]; rfl, by rw [B44.out.cell]; rfl⟩ (fun hS => ?_)
                clear hJ J
                try simp only [Act.put, List.setIfInBounds_toArray, List.set_cons_zero, List.set_cons_succ]
                generalize w43.alloc (.cells #[.slice none 0 0, .slice none 0 0, .int .i64 0, .int .i64 0, .slice none 0 0] 39) = wa at M44 A44 B44 Z44 P44 N44 hS ⊢
                generalize w43.heap.size = K5 at Z44 HK HKN ⊢
                have d0 := Z44.out.cell 0
                have d1 := Z44.out.cell 1
                have d2 := Z44.out.cell 2
                have d3 := Z44.out.cell 3
                have d4 := Z44.out.cell 4
                simp only [List.getElem?_cons_zero, List.getElem?_cons_succ] at d0 d1 d2 d3 d4
                have r0 := Z44.out.frozen 0
                have r1 := Z44.out.frozen 1
                have r2 := Z44.out.frozen 2
                have r3 := Z44.out.frozen 3
                have r4 := Z44.out.frozen 4
                have KF := Lib.hid (((((Z44.out.set 0 (.slice gba gbl gbc)).set 1 (.slice gva gvl gvc)).set 2 (.int .i64 gfr)).set 3 (.int .i64 gnu)).set 4 (.slice gla gll glc))
                have mT := ((((((Mine.Mod.refl (one K5) wa).setCell ⟨K5, 0, none⟩ (fun _ => rfl) (.slice gba gbl gbc)).setCell ⟨K5, 1, none⟩ (fun _ => rfl) (.slice gva gvl gvc)).setCell ⟨K5, 2, none⟩ (fun _ => rfl) (.int .i64 gfr)).setCell ⟨K5, 3, none⟩ (fun _ => rfl) (.int .i64 gnu)).setCell ⟨K5, 4, none⟩ (fun _ => rfl) (.slice gla gll glc))
                have hK5 : w.heap.size + 1 + 1 ≤ K5 := HK.out
                have AF := Lib.hid (A44.out.mod mT (fun e => by have e' : w.heap.size = K5 := e; omega))
                have BF := Lib.hid (B44.out.mod mT (fun e => by have e' : w.heap.size + 1 = K5 := e; omega))
                have HF := Lib.hid (show AddSt w _ K5 0 ⟨xba, xbl, xbc, xva, xvl, xvc, xfr, xnum, xla, xll, xlc⟩ BB VV E x _ from ⟨⟨gba, gbl, gbc, gva, gvl, gvc, gfr, gnu, gla, gll, glc⟩, BC, VC, EC2, KF.out, P44.out.1, (P44.out.mod mT (fun j e => by have e' : j = K5 := e; subst e'; exact ⟨_, Or.inl Z44.out⟩)).2, M44.out.transIn mT (fun b hb e => by have e' : b = K5 := e; omega)⟩)
                have NF := Lib.hid (N44.out.transIn mT (fun b hb e => by have e' : b = K5 := e; have := HKN.out; omega))
                clear mT
                refine wpAnyH_ready (rs := [8]) (by kernel_rfl) (by simp) (AllReadyH.cons rfl (fun J hJ => ?_) <| AllReadyH.nil)
                go_simp
                refine hJ.out _ _ ⟨by rw [AF.out.cell]; rfl, by rw [AF.out.cell]; rfl, by rw [AF.out.cell]; rfl, by rw [AF.out.cell]; rfl, by rw [AF.out.cell]; rfl, by rw [BF.out.cell]; rfl, by rw [BF.out.cell]; rfl, by rw [BF.out.cell]; rfl, by rw [BF.out.cell]; rfl, by rw [BF.out.cell]; rfl, by rw [BF.out.cell]; rfl, by rw [BF.out.cell]; rfl, by rw [BF.out.cell]; rfl, by rw [BF.out.cell]; rfl, by rw [BF.out.cell]; rfl, by rw [BF.out.cell]; rfl, by rw [BF.out.cell]; rfl, by rw [BF.out.cell]; rfl, by rw [BF.out.cell]; rfl⟩ (fun hS => ?_)
                clear hJ J
                try simp only [Act.put, List.setIfInBounds_toArray, List.set_cons_zero, List.set_cons_succ]
                refine wpAnyH_take (i := 9) (v := .int .i64 0) rfl (by kernel_rfl) (by kernel_rfl) (by kernel_rfl) (fun _ _ _ h => h) (Or.inl ⟨by kernel_rfl, ?_⟩) hS ?_
                · rintro w' ⟨q0, q1, q2, q3, q4, q5, q6, q7, q8, q9, q10, q11, q12, q13, q14, q15, q16, q17, q18⟩; go_simp
                try simp only [Act.put, List.setIfInBounds_toArray, List.set_cons_zero, List.set_cons_succ]
                refine wpAnyH_done (by kernel_rfl) ?_ _
                try simp only [List.getElem_toArray, List.getElem_cons_succ, List.getElem_cons_zero]
                try simp only [Act.put, List.setIfInBounds_toArray, List.set_cons_zero, List.set_cons_succ]
                clear d0 d1 d2 d3 d4 r0 r1 r2 r3 r4
                go_wp2_with fail
                go_meet
                exact ⟨K5, rfl, rfl, Lib.hid ⟨HF.out.low (by exact HB0.out), AF.out, BF.out, hK5, NF.out⟩⟩
              · have mA : Mine.Mod none_ w42 (w42.alloc (.cells #[.slice none 0 0, .slice none 0 0, .int .i64 0, .int .i64 0, .slice none 0 0] 39)) := (Mine.Mod.refl none_ _).alloc _
                have Z43 := Lib.hid (Blk.new (w := w42) (cs := [.slice none 0 0, .slice none 0 0, .int .i64 0, .int .i64 0, .slice none 0 0]) (t := 39))
                have HK := Lib.hid (show w.heap.size + 1 + 1 ≤ w42.heap.size from B42.out.lt)
                have M43 := Lib.hid (M42.out.trans mA)
                have A43 := Lib.hid (A42.out.mod mA (fun e => e))
                have B43 := Lib.hid (B42.out.mod mA (fun e => e))
                have N43 := Lib.hid (N42.out.trans mA)
                have HKN := Lib.hid (show w40.heap.size ≤ w42.heap.size from N42.out.size)
                clear mA
                go_simp
                refine hJ.out _ _ ⟨by rw [A43.out.cell]; rfl, by rw [A43.out.cell]; rfl, by rw [A43.out.cell]; rfl, by rw [A43.out.cell]; rfl, by rw [A43.out.cell]; rfl, by rw [B43.out.cell]; rfl, by rw [B43.out.cell]; rfl, by rw [B43.out.cell]; rfl, by rw [B43.out.cell]; rfl, by rw [B43.out.cell]; rfl, by rw [B43.out.cell]; rfl, by rw [B43.out.cell]; rfl, by rw [B43.out.cell]; rfl, by rw [B43.out.cell]; rfl, by rw [B43.out.cell]; rfl, by rw [B43.out.cell]; rfl, by rw [B43.out.cell]; rfl, by rw [B43.out.cell]; rfl, by rw [B43.out.cell]; rfl⟩ (fun hS => ?_)
                clear hJ J
                try simp only [Act.put, List.setIfInBounds_toArray, List.set_cons_zero, List.set_cons_succ]
                generalize w42.alloc (.cells #[.slice none 0 0, .slice none 0 0, .int .i64 0, .int .i64 0, .slice none 0 0] 39) = wa at M43 A43 B43 Z43 N43 hS ⊢
                generalize w42.heap.size = K5 at Z43 HK HKN ⊢
                refine wpAnyH_ready (rs := [3]) (by kernel_rfl) (by simp) (AllReadyH.cons rfl (fun J hJ => ?_) <| AllReadyH.nil)
                go_simp
                refine (HADD.out _ M43.out).mono ?_
                rintro e w44 ha
                rw [← HR.out] at ha
                obtain ⟨⟨gba, gbl, gbc, gva, gvl, gvc, gfr, gnu, gla, gll, glc⟩, BC, VC, EC2, rfl, ga1, ga2, mq⟩ := AddTo.open_ (w := w) ha
                have HB0 := Lib.hid (show w.heap.size + 1 + 1 ≤ wa.heap.size from B43.out.lt)
                have P44 := Lib.hid (show AddP _ 0 ⟨xba, xbl, xbc, xva, xvl, xvc, xfr, xnum, xla, xll, xlc⟩ BB VV E x ⟨gba, gbl, gbc, gva, gvl, gvc, gfr, gnu, gla, gll, glc⟩ BC VC EC2 w44 from ⟨ga1, ga2⟩)
                have M44 := Lib.hid (M43.out.trans mq)
                have A44 := Lib.hid (A43.out.mod mq (fun e => e))
                have B44 := Lib.hid (B43.out.mod mq (fun e => e))
                have Z44 := Lib.hid (Z43.out.mod mq (fun e => e))
                have N44 := Lib.hid (N43.out.trans mq)
                refine hJ.out _ _ ⟨by rw [A44.out.cell]; rfl, by rw [A44.out.cell]; rfl, by rw [A44.out.cell]; rfl, by rw [A44.out.cell]; rfl, by rw [A44.out.cell]; rfl, by rw [B44.out.cell]; rfl, by rw [B44.out.cell]; rfl, by rw [B44.out.cell]; rfl, by rw [B44.out.cell]; rfl, by rw [B44.out.cell]; rfl, by rw [B44.out.cell]; rfl, by rw [B44.out.cell]; rfl, by rw [B44.out.cell]; rfl, by rw [B44.out.cell]; rfl, by rw [B44.out.cell]; rfl, by rw [B44.out.cell]; rfl, by rw [B44.out.cell]; rfl, by rw [B44.out.cell]; rfl, by rw [B44.out.cell]; rfl⟩ (fun hS => ?_)
                clear hJ J mq ga1 ga2 ha
                try simp only [Act.put, List.setIfInBounds_toArray, List.set_cons_zero, List.set_cons_succ]
                try dsimp only [HistV.v]
                refine wpAnyH_take (i := 4) (v := .tuple #[.agg #[.slice gba gbl gbc, .slice gva gvl gvc, .int .i64 gfr, .int .i64 gnu, .slice gla gll glc], .int .i64 0]) rfl (by kernel_rfl) (by kernel_rfl) (by kernel_rfl) (fun _ _ _ h => h) (Or.inl ⟨by kernel_rfl, ?_⟩) hS ?_
                · rintro w' ⟨q0, q1, q2, q3, q4, q5, q6, q7, q8, q9, q10, q11, q12, q13, q14, q15, q16, q17, q18⟩; go_simp
                try simp only [Act.put, List.setIfInBounds_toArray, List.set_cons_zero, List.set_cons_succ]
                refine wpAnyH_take (i := 5) (v := .agg #[.slice gba gbl gbc, .slice gva gvl gvc, .int .i64 gfr, .int .i64 gnu, .slice gla gll glc]) rfl (by kernel_rfl) (by kernel_rfl) (by kernel_rfl) (fun _ _ _ h => h) (Or.inl ⟨by kernel_rfl, ?_⟩) hS ?_
                · rintro w' ⟨q0, q1, q2, q3, q4, q5, q6, q7, q8, q9, q10, q11, q12, q13, q14, q15, q16, q17, q18⟩; go_simp
                try simp only [Act.put, List.setIfInBounds_toArray, List.set_cons_zero, List.set_cons_succ]
                refine wpAnyH_take (i := 6) (v := .int .i64 0) rfl (by kernel_rfl) (by kernel_rfl) (by kernel_rfl) (fun _ _ _ h => h) (Or.inl ⟨by kernel_rfl, ?_⟩) hS ?_
                · rintro w' ⟨q0, q1, q2, q3, q4, q5, q6, q7, q8, q9, q10, q11, q12, q13, q14, q15, q16, q17, q18⟩; go_simp
                try simp only [Act.put, List.setIfInBounds_toArray, List.set_cons_zero, List.set_cons_succ]
                have d0 := Z44.out.cell 0
                have d1 := Z44.out.cell 1
                have d2 := Z44.out.cell 2
                have d3 := Z44.out.cell 3
                have d4 := Z44.out.cell 4
                simp only [List.getElem?_cons_zero, List.getElem?_cons_succ] at d0 d1 d2 d3 d4
                have r0 := Z44.out.frozen 0
                have r1 := Z44.out.frozen 1
                have r2 := Z44.out.frozen 2
                have r3 := Z44.out.frozen 3
                have r4 := Z44.out.frozen 4
                have KF := Lib.hid (((((Z44.out.set 0 (.slice gba gbl gbc)).set 1 (.slice gva gvl gvc)).set 2 (.int .i64 gfr)).set 3 (.int .i64 gnu)).set 4 (.slice gla gll glc))
                have mT := ((((((Mine.Mod.refl (one K5) w44).setCell ⟨K5, 0, none⟩ (fun _ => rfl) (.slice gba gbl gbc)).setCell ⟨K5, 1, none⟩ (fun _ => rfl) (.slice gva gvl gvc)).setCell ⟨K5, 2, none⟩ (fun _ => rfl) (.int .i64 gfr)).setCell ⟨K5, 3, none⟩ (fun _ => rfl) (.int .i64 gnu)).setCell ⟨K5, 4, none⟩ (fun _ => rfl) (.slice gla gll glc))
                have hK5 : w.heap.size + 1 + 1 ≤ K5 := HK.out
                have AF := Lib.hid (A44.out.mod mT (fun e => by have e' : w.heap.size = K5 := e; omega))
                have BF := Lib.hid (B44.out.mod mT (fun e => by have e' : w.heap.size + 1 = K5 := e; omega))
                have HF := Lib.hid (show AddSt w _ K5 0 ⟨xba, xbl, xbc, xva, xvl, xvc, xfr, xnum, xla, xll, xlc⟩ BB VV E x _ from ⟨⟨gba, gbl, gbc, gva, gvl, gvc, gfr, gnu, gla, gll, glc⟩, BC, VC, EC2, KF.out, P44.out.1, (P44.out.mod mT (fun j e => by have e' : j = K5 := e; subst e'; exact ⟨_, Or.inl Z44.out⟩)).2, M44.out.transIn mT (fun b hb e => by have e' : b = K5 := e; omega)⟩)
                have NF := Lib.hid (N44.out.transIn mT (fun b hb e => by have e' : b = K5 := e; have := HKN.out; omega))
                clear mT
                refine wpAnyH_ready (rs := [8]) (by kernel_rfl) (by simp) (AllReadyH.cons rfl (fun J hJ => ?_) <| AllReadyH.nil)
                go_simp
                refine hJ.out _ _ ⟨by rw [AF.out.cell]; rfl, by rw [AF.out.cell]; rfl, by rw [AF.out.cell]; rfl, by rw [AF.out.cell]; rfl, by rw [AF.out.cell]; rfl, by rw [BF.out.cell]; rfl, by rw [BF.out.cell]; rfl, by rw [BF.out.cell]; rfl, by rw [BF.out.cell]; rfl, by rw [BF.out.cell]; rfl, by rw [BF.out.cell]; rfl, by rw [BF.out.cell]; rfl, by rw [BF.out.cell]; rfl, by rw [BF.out.cell]; rfl, by rw [BF.out.cell]; rfl, by rw [BF.out.cell]; rfl, by rw [BF.out.cell]; rfl, by rw [BF.out.cell]; rfl, by rw [BF.out.cell]; rfl⟩ (fun hS => ?_)
                clear hJ J
                try simp only [Act.put, List.setIfInBounds_toArray, List.set_cons_zero, List.set_cons_succ]
                refine wpAnyH_take (i := 9) (v := .int .i64 0) rfl (by kernel_rfl) (by kernel_rfl) (by kernel_rfl) (fun _ _ _ h => h) (Or.inl ⟨by kernel_rfl, ?_⟩) hS ?_
                · rintro w' ⟨q0, q1, q2, q3, q4, q5, q6, q7, q8, q9, q10, q11, q12, q13, q14, q15, q16, q17, q18⟩; go_simp
                try simp only [Act.put, List.setIfInBounds_toArray, List.set_cons_zero, List.set_cons_succ]
                refine wpAnyH_done (by kernel_rfl) ?_ _
                try simp only [List.getElem_toArray, List.getElem_cons_succ, List.getElem_cons_zero]
                try simp only [Act.put, List.setIfInBounds_toArray, List.set_cons_zero, List.set_cons_succ]
                clear d0 d1 d2 d3 d4 r0 r1 r2 r3 r4
                go_wp2_with fail
                go_meet
                exact ⟨K5, rfl, rfl, Lib.hid ⟨HF.out.low (by exact HB0.out), AF.out, BF.out, hK5, NF.out⟩⟩
            · have mA : Mine.Mod none_ wd (wd.alloc (.cells #[.slice none 0 0, .slice none 0 0, .int .i64 0, .int .i64 0, .slice none 0 0] 39)) := (Mine.Mod.refl none_ _).alloc _
              have Z42 := Lib.hid (Blk.new (w := wd) (cs := [.slice none 0 0, .slice none 0 0, .int .i64 0, .int .i64 0, .slice none 0 0]) (t := 39))
              have HK := Lib.hid (show w.heap.size + 1 + 1 ≤ wd.heap.size from B41.out.lt)
              have M42 := Lib.hid (M41.out.trans mA)
              have A42 := Lib.hid (A41.out.mod mA (fun e => e))
              have B42 := Lib.hid (B41.out.mod mA (fun e => e))
              have N42 := Lib.hid (N41.out.trans mA)
              have HKN := Lib.hid (show w40.heap.size ≤ wd.heap.size from N41.out.size)
              clear mA
              go_simp
              refine hJ.out _ _ ⟨by rw [A42.out.cell]; rfl, by rw [A42.out.cell]; rfl, by rw [A42.out.cell]; rfl, by rw [A42.out.cell]; rfl, by rw [A42.out.cell]; rfl, by rw [B42.out.cell]; rfl, by rw [B42.out.cell]; rfl, by rw [B42.out.cell]; rfl, by rw [B42.out.cell]; rfl, by rw [B42.out.cell]; rfl, by rw [B42.out.cell]; rfl, by rw [B42.out.cell]; rfl, by rw [B42.out.cell]; rfl, by rw [B42.out.cell]; rfl, by rw [B42.out.cell]; rfl, by rw [B42.out.cell]; rfl, by rw [B42.out.cell]; rfl, by rw [B42.out.cell]; rfl, by rw [B42.out.cell]; rfl⟩ (fun hS => ?_)
              clear hJ J
              try simp only [Act.put, List.setIfInBounds_toArray, List.set_cons_zero, List.set_cons_succ]
              generalize wd.alloc (.cells #[.slice none 0 0, .slice none 0 0, .int .i64 0, .int .i64 0, .slice none 0 0] 39) = wa at M42 A42 B42 Z42 N42 hS ⊢
              generalize wd.heap.size = K5 at Z42 HK HKN ⊢
              refine wpAnyH_ready (rs := [1]) (by kernel_rfl) (by simp) (AllReadyH.cons rfl (fun J hJ => ?_) <| AllReadyH.nil)
              go_simp
              refine (HOF.out _).mono ?_
              rintro e w43 ⟨rfl, mq⟩
              have M43 := Lib.hid (M42.out.trans mq)
              have A43 := Lib.hid (A42.out.mod mq (fun e => e))
              have B43 := Lib.hid (B42.out.mod mq (fun e => e))
              have Z43 := Lib.hid (Z42.out.mod mq (fun e => e))
              have N43 := Lib.hid (N42.out.trans mq)
              refine hJ.out _ _ ⟨by rw [A43.out.cell]; rfl, by rw [A43.out.cell]; rfl, by rw [A43.out.cell]; rfl, by rw [A43.out.cell]; rfl, by rw [A43.out.cell]; rfl, by rw [B43.out.cell]; rfl, by rw [B43.out.cell]; rfl, by rw [B43.out.cell]; rfl, by rw [B43.out.cell]; rfl, by rw [B43.out.cell]; rfl, by rw [B43.out.cell]; rfl, by rw [B43.out.cell]; rfl, by rw [B43.out.cell]; rfl, by rw [B43.out.cell]; rfl, by rw [B43.out.cell]; rfl, by rw [B43.out.cell]; rfl, by rw [B43.out.cell]; rfl, by rw [B43.out.cell]; rfl, by rw [B43.out.cell]; rfl⟩ (fun hS => ?_)
              clear hJ J mq
              try simp only [Act.put, List.setIfInBounds_toArray, List.set_cons_zero, List.set_cons_succ]
              refine wpAnyH_ready (rs := [3]) (by kernel_rfl) (by simp) (AllReadyH.cons rfl (fun J hJ => ?_) <| AllReadyH.nil)
              go_simp
              refine (HADD.out _ M43.out).mono ?_
              rintro e w44 ha
              rw [← HR.out] at ha
              obtain ⟨⟨gba, gbl, gbc, gva, gvl, gvc, gfr, gnu, gla, gll, glc⟩, BC, VC, EC2, rfl, ga1, ga2, mq⟩ := AddTo.open_ (w := w) ha
              have HB0 := Lib.hid (show w.heap.size + 1 + 1 ≤ w43.heap.size from B43.out.lt)
              have P44 := Lib.hid (show AddP _ 0 ⟨xba, xbl, xbc, xva, xvl, xvc, xfr, xnum, xla, xll, xlc⟩ BB VV E x ⟨gba, gbl, gbc, gva, gvl, gvc, gfr, gnu, gla, gll, glc⟩ BC VC EC2 w44 from ⟨ga1, ga2⟩)
              have M44 := Lib.hid (M43.out.trans mq)
              have A44 := Lib.hid (A43.out.mod mq (fun e => e))
              have B44 := Lib.hid (B43.out.mod mq (fun e => e))
              have Z44 := Lib.hid (Z43.out.mod mq (fun e => e))
              have N44 := Lib.hid (N43.out.trans mq)
              refine hJ.out _ _ ⟨by rw [A44.out.cell]; rfl, by rw [A44.out.cell]; rfl, by rw [A44.out.cell]; rfl, by rw [A44.out.cell]; rfl, by rw [A44.out.cell]; rfl, by rw [B44.out.cell]; rfl, by rw [B44.out.cell]; rfl, by rw [B44.out.cell]; rfl, by rw [B44.out.cell]; rfl, by rw [B44.out.cell]; rfl, by rw [B44.out.cell]; rfl, by rw [B44.out.cell]; rfl, by rw [B44.out.cell]; rfl, by rw [B44.out.cell]; rfl, by rw [B44.out.cell]; rfl, by rw [B44.out.cell]; rfl, by rw [B44.out.cell]; rfl, by rw [B44.out.cell]; rfl, by rw [B44.out.cell]; rfl⟩ (fun hS => ?_)
              clear hJ J mq ga1 ga2 ha
              try simp only [Act.put, List.setIfInBounds_toArray, List.set_cons_zero, List.set_cons_succ]
              try dsimp only [HistV.v]
              refine wpAnyH_take (i := 4) (v := .tuple #[.agg #[.slice gba gbl gbc, .slice gva gvl gvc, .int .i64 gfr, .int .i64 gnu, .slice gla gll glc], .int .i64 0]) rfl (by kernel_rfl) (by kernel_rfl) (by kernel_rfl) (fun _ _ _ h => h) (Or.inl ⟨by kernel_rfl, ?_⟩) hS ?_
              · rintro w' ⟨q0, q1, q2, q3, q4, q5, q6, q7, q8, q9, q10, q11, q12, q13, q14, q15, q16, q17, q18⟩; go_simp
              try simp only [Act.put, List.setIfInBounds_toArray, List.set_cons_zero, List.set_cons_succ]
              refine wpAnyH_take (i := 5) (v := .agg #[.slice gba gbl gbc, .slice gva gvl gvc, .int .i64 gfr, .int .i64 gnu, .slice gla gll glc]) rfl (by kernel_rfl) (by kernel_rfl) (by kernel_rfl) (fun _ _ _ h => h) (Or.inl ⟨by kernel_rfl, ?_⟩) hS ?_
              · rintro w' ⟨q0, q1, q2, q3, q4, q5, q6, q7, q8, q9, q10, q11, q12, q13, q14, q15, q16, q17, q18⟩; go_simp
              try simp only [Act.put, List.setIfInBounds_toArray, List.set_cons_zero, List.set_cons_succ]
              refine wpAnyH_take (i := 6) (v := .int .i64 0) rfl (by kernel_rfl) (by kernel_rfl) (by kernel_rfl) (fun _ _ _ h => h) (Or.inl ⟨by kernel_rfl, ?_⟩) hS ?_
              · rintro w' ⟨q0, q1, q2, q3, q4, q5, q6, q7, q8, q9, q10, q11, q12, q13, q14, q15, q16, q17, q18⟩; go_simp
              try simp only [Act.put, List.setIfInBounds_toArray, List.set_cons_zero, List.set_cons_succ]
              have d0 := Z44.out.cell 0
              have d1 := Z44.out.cell 1
              have d2 := Z44.out.cell 2
              have d3 := Z44.out.cell 3
              have d4 := Z44.out.cell 4
              simp only [List.getElem?_cons_zero, List.getElem?_cons_succ] at d0 d1 d2 d3 d4
              have r0 := Z44.out.frozen 0
              have r1 := Z44.out.frozen 1
              have r2 := Z44.out.frozen 2
              have r3 := Z44.out.frozen 3
              have r4 := Z44.out.frozen 4
              have KF := Lib.hid (((((Z44.out.set 0 (.slice gba gbl gbc)).set 1 (.slice gva gvl gvc)).set 2 (.int .i64 gfr)).set 3 (.int .i64 gnu)).set 4 (.slice gla gll glc))
              have mT := ((((((Mine.Mod.refl (one K5) w44).setCell ⟨K5, 0, none⟩ (fun _ => rfl) (.slice gba gbl gbc)).setCell ⟨K5, 1, none⟩ (fun _ => rfl) (.slice gva gvl gvc)).setCell ⟨K5, 2, none⟩ (fun _ => rfl) (.int .i64 gfr)).setCell ⟨K5, 3, none⟩ (fun _ => rfl) (.int .i64 gnu)).setCell ⟨K5, 4, none⟩ (fun _ => rfl) (.slice gla gll glc))
              have hK5 : w.heap.size + 1 + 1 ≤ K5 := HK.out
              have AF := Lib.hid (A44.out.mod mT (fun e => by have e' : w.heap.size = K5 := e; omega))
              have BF := Lib.hid (B44.out.mod mT (fun e => by have e' : w.heap.size + 1 = K5 := e; omega))
              have HF := Lib.hid (show AddSt w _ K5 0 ⟨xba, xbl, xbc, xva, xvl, xvc, xfr, xnum, xla, xll, xlc⟩ BB VV E x _ from ⟨⟨gba, gbl, gbc, gva, gvl, gvc, gfr, gnu, gla, gll, glc⟩, BC, VC, EC2, KF.out, P44.out.1, (P44.out.mod mT (fun j e => by have e' : j = K5 := e; subst e'; exact ⟨_, Or.inl Z44.out⟩)).2, M44.out.transIn mT (fun b hb e => by have e' : b = K5 := e; omega)⟩)
              have NF := Lib.hid (N44.out.transIn mT (fun b hb e => by have e' : b = K5 := e; have := HKN.out; omega))
              clear mT
              refine wpAnyH_ready (rs := [8]) (by kernel_rfl) (by simp) (AllReadyH.cons rfl (fun J hJ => ?_) <| AllReadyH.nil)
              go_simp
              refine hJ.out _ _ ⟨by rw [AF.out.cell]; rfl, by rw [AF.out.cell]; rfl, by rw [AF.out.cell]; rfl, by rw [AF.out.cell]; rfl, by rw [AF.out.cell]; rfl, by rw [BF.out.cell]; rfl, by rw [BF.out.cell]; rfl, by rw [BF.out.cell]; rfl, by rw [BF.out.cell]; rfl, by rw [BF.out.cell]; rfl, by rw [BF.out.cell]; rfl, by rw [BF.out.cell]; rfl, by rw [BF.out.cell]; rfl, by rw [BF.out.cell]; rfl, by rw [BF.out.cell]; rfl, by rw [BF.out.cell]; rfl, by rw [BF.out.cell]; rfl, by rw [BF.out.cell]; rfl, by rw [BF.out.cell]; rfl⟩ (fun hS => ?_)
              clear hJ J
              try simp only [Act.put, List.setIfInBounds_toArray, List.set_cons_zero, List.set_cons_succ]
              refine wpAnyH_take (i := 9) (v := .int .i64 0) rfl (by kernel_rfl) (by kernel_rfl) (by kernel_rfl) (fun _ _ _ h => h) (Or.inl ⟨by kernel_rfl, ?_⟩) hS ?_
              · rintro w' ⟨q0, q1, q2, q3, q4, q5, q6, q7, q8, q9, q10, q11, q12, q13, q14, q15, q16, q17, q18⟩; go_simp
              try simp only [Act.put, List.setIfInBounds_toArray, List.set_cons_zero, List.set_cons_succ]
              refine wpAnyH_done (by kernel_rfl) ?_ _
              try simp only [List.getElem_toArray, List.getElem_cons_succ, List.getElem_cons_zero]
              try simp only [Act.put, List.setIfInBounds_toArray, List.set_cons_zero, List.set_cons_succ]
              clear d0 d1 d2 d3 d4 r0 r1 r2 r3 r4
              go_wp2_with fail
              go_meet
              exact ⟨K5, rfl, rfl, Lib.hid ⟨HF.out.low (by exact HB0.out), AF.out, BF.out, hK5, NF.out⟩⟩
          case rest =>
          obtain ⟨K15, rfl, rfl, hst⟩ := hcut
          obtain ⟨w41, rfl⟩ : ∃ w41, w41 = wc := ⟨_, rfl⟩
          have M41 := Lib.hid hst.out.1.choose_spec.choose_spec.choose_spec.choose_spec.2.2.2
          have A41 := Lib.hid hst.out.2.1
          have N41 := Lib.hid hst.out.2.2.2.2
          have HAK := Lib.hid (adds_alike HI.out HXX.out hst.out.1 RS40.out (Mine.Mod.refl none_ _) N41.out)
          have Z41 := Lib.hid (Z40.out.mod N41.out (fun e => e))
          have HK41 := Lib.hid (show HistIs w41 ⟨kba, xbl, kbc, kva, xvl, kvc, xfr, xnum, ka, xll, kc⟩ BB VV Q from (MK40.out.grown N41.out).is2 HI.out.b.ok HI.out.v.ok HI.out.e.ok M41.out HLQ.out HI.out.i1 HI.out.i2)
          clear hst
          obtain ⟨⟨pba, pbl, pbc, pva, pvl, pvc, pfr, pnu, pla, pll, plc⟩, ⟨rba, rbl, rbc, rva, rvl, rvc, rfr, rnu, rla, rll, rlc⟩, BC, VC, EC1, EC2, k1, k2, i1, i2, e1, e2, e3, e4, e5, hlk⟩ := HAK.out
          dsimp only at e1 e2 e3 e4 e5
          subst e1 e2 e3 e4 e5
          have C41 := Lib.hid k1
          have G41 := Lib.hid k2
          have HS1 := Lib.hid i1
          have HS2 := Lib.hid i2
          have HLK := Lib.hid hlk
          clear k1 k2 i1 i2 hlk HAK
          go_upto_region 29 with fail
          have f0 : w41.cell? ⟨w.heap.size, 0, none⟩ = some (.slice xba xbl xbc) := by rw [A41.out.cell]; rfl
          have f1 : w41.cell? ⟨w.heap.size, 1, none⟩ = some (.slice xva xvl xvc) := by rw [A41.out.cell]; rfl
          have f2 : w41.cell? ⟨w.heap.size, 2, none⟩ = some (.int .i64 xfr) := by rw [A41.out.cell]; rfl
          have f3 : w41.cell? ⟨w.heap.size, 3, none⟩ = some (.int .i64 xnum) := by rw [A41.out.cell]; rfl
          have f4 : w41.cell? ⟨w.heap.size, 4, none⟩ = some (.slice xla xll xlc) := by rw [A41.out.cell]; rfl
          have f5 : w41.cell? ⟨K9, 0, none⟩ = some (.slice kba xbl kbc) := by rw [Z41.out.cell]; rfl
          have f6 : w41.cell? ⟨K9, 1, none⟩ = some (.slice kva xvl kvc) := by rw [Z41.out.cell]; rfl
          have f7 : w41.cell? ⟨K9, 2, none⟩ = some (.int .i64 xfr) := by rw [Z41.out.cell]; rfl
          have f8 : w41.cell? ⟨K9, 3, none⟩ = some (.int .i64 xnum) := by rw [Z41.out.cell]; rfl
          have f9 : w41.cell? ⟨K9, 4, none⟩ = some (.slice ka xll kc) := by rw [Z41.out.cell]; rfl
          have f10 : w41.cell? ⟨K15, 0, none⟩ = some (.slice pba rbl pbc) := by rw [C41.out.cell]; rfl
          have f11 : w41.cell? ⟨K15, 1, none⟩ = some (.slice pva rvl pvc) := by rw [C41.out.cell]; rfl
          have f12 : w41.cell? ⟨K15, 2, none⟩ = some (.int .i64 rfr) := by rw [C41.out.cell]; rfl
          have f13 : w41.cell? ⟨K15, 3, none⟩ = some (.int .i64 rnu) := by rw [C41.out.cell]; rfl
          have f14 : w41.cell? ⟨K15, 4, none⟩ = some (.slice pla rll plc) := by rw [C41.out.cell]; rfl
          have f15 : w41.cell? ⟨K7, 0, none⟩ = some (.slice rba rbl rbc) := by rw [G41.out.cell]; rfl
          have f16 : w41.cell? ⟨K7, 1, none⟩ = some (.slice rva rvl rvc) := by rw [G41.out.cell]; rfl
          have f17 : w41.cell? ⟨K7, 2, none⟩ = some (.int .i64 rfr) := by rw [G41.out.cell]; rfl
          have f18 : w41.cell? ⟨K7, 3, none⟩ = some (.int .i64 rnu) := by rw [G41.out.cell]; rfl
          have f19 : w41.cell? ⟨K7, 4, none⟩ = some (.slice rla rll rlc) := by rw [G41.out.cell]; rfl
          have N50 := Lib.hid (Mine.Mod.drew (Mine.Mod.refl none_ w41))
          refine wp_region_held_drew (S := fun w' => w'.cell? ⟨w.heap.size, 0, none⟩ = some (.slice xba xbl xbc) ∧ w'.cell? ⟨w.heap.size, 1, none⟩ = some (.slice xva xvl xvc) ∧ w'.cell? ⟨w.heap.size, 2, none⟩ = some (.int .i64 xfr) ∧ w'.cell? ⟨w.heap.size, 3, none⟩ = some (.int .i64 xnum) ∧ w'.cell? ⟨w.heap.size, 4, none⟩ = some (.slice xla xll xlc) ∧ w'.cell? ⟨K9, 0, none⟩ = some (.slice kba xbl kbc) ∧ w'.cell? ⟨K9, 1, none⟩ = some (.slice kva xvl kvc) ∧ w'.cell? ⟨K9, 2, none⟩ = some (.int .i64 xfr) ∧ w'.cell? ⟨K9, 3, none⟩ = some (.int .i64 xnum) ∧ w'.cell? ⟨K9, 4, none⟩ = some (.slice ka xll kc) ∧ w'.cell? ⟨K15, 0, none⟩ = some (.slice pba rbl pbc) ∧ w'.cell? ⟨K15, 1, none⟩ = some (.slice pva rvl pvc) ∧ w'.cell? ⟨K15, 2, none⟩ = some (.int .i64 rfr) ∧ w'.cell? ⟨K15, 3, none⟩ = some (.int .i64 rnu) ∧ w'.cell? ⟨K15, 4, none⟩ = some (.slice pla rll plc) ∧ w'.cell? ⟨K7, 0, none⟩ = some (.slice rba rbl rbc) ∧ w'.cell? ⟨K7, 1, none⟩ = some (.slice rva rvl rvc) ∧ w'.cell? ⟨K7, 2, none⟩ = some (.int .i64 rfr) ∧ w'.cell? ⟨K7, 3, none⟩ = some (.int .i64 rnu) ∧ w'.cell? ⟨K7, 4, none⟩ = some (.slice rla rll rlc)) (by kernel_rfl) ⟨f0, f1, f2, f3, f4, f5, f6, f7, f8, f9, f10, f11, f12, f13, f14, f15, f16, f17, f18, f19⟩ (fun hS => ?_)
          clear f0 f1 f2 f3 f4 f5 f6 f7 f8 f9 f10 f11 f12 f13 f14 f15 f16 f17 f18 f19
          refine wpAnyH_take (i := 0) (v := .agg #[.slice xba xbl xbc, .slice xva xvl xvc, .int .i64 xfr, .int .i64 xnum, .slice xla xll xlc]) rfl (by kernel_rfl) (by kernel_rfl) (by kernel_rfl) (fun _ _ _ h => h) (Or.inl ⟨by kernel_rfl, ?_⟩) hS ?_
          · rintro w' ⟨q0, q1, q2, q3, q4, q5, q6, q7, q8, q9, q10, q11, q12, q13, q14, q15, q16, q17, q18, q19⟩; go_simp
          try simp only [Act.put, List.setIfInBounds_toArray, List.set_cons_zero, List.set_cons_succ]
          refine wpAnyH_take (i := 1) (v := .agg #[.slice kba xbl kbc, .slice kva xvl kvc, .int .i64 xfr, .int .i64 xnum, .slice ka xll kc]) rfl (by kernel_rfl) (by kernel_rfl) (by kernel_rfl) (fun _ _ _ h => h) (Or.inl ⟨by kernel_rfl, ?_⟩) hS ?_
          · rintro w' ⟨q0, q1, q2, q3, q4, q5, q6, q7, q8, q9, q10, q11, q12, q13, q14, q15, q16, q17, q18, q19⟩; go_simp
          try simp only [Act.put, List.setIfInBounds_toArray, List.set_cons_zero, List.set_cons_succ]
          refine wpAnyH_ready (rs := [2]) (by kernel_rfl) (by simp) (AllReadyH.cons rfl (fun J hJ => ?_) <| AllReadyH.nil)
          go_simp
          refine (rhsame_any _ ⟨xba, xbl, xbc, xva, xvl, xvc, xfr, xnum, xla, xll, xlc⟩ ⟨kba, xbl, kbc, kva, xvl, kvc, xfr, xnum, ka, xll, kc⟩ BB VV E Q (HI.out.grown (M41.out.trans N50.out)) (HK41.out.grown N50.out) rfl rfl rfl rfl rfl HLQ.out).mono ?_
          rintro e w51 ⟨rfl, m51⟩
          try dsimp only [HistV.v]
          have N51 := Lib.hid (N50.out.trans m51)
          refine hJ.out _ _ ⟨by rw [(A41.out.mod N51.out (fun e => e)).cell]; rfl, by rw [(A41.out.mod N51.out (fun e => e)).cell]; rfl, by rw [(A41.out.mod N51.out (fun e => e)).cell]; rfl, by rw [(A41.out.mod N51.out (fun e => e)).cell]; rfl, by rw [(A41.out.mod N51.out (fun e => e)).cell]; rfl, by rw [(Z41.out.mod N51.out (fun e => e)).cell]; rfl, by rw [(Z41.out.mod N51.out (fun e => e)).cell]; rfl, by rw [(Z41.out.mod N51.out (fun e => e)).cell]; rfl, by rw [(Z41.out.mod N51.out (fun e => e)).cell]; rfl, by rw [(Z41.out.mod N51.out (fun e => e)).cell]; rfl, by rw [(C41.out.mod N51.out (fun e => e)).cell]; rfl, by rw [(C41.out.mod N51.out (fun e => e)).cell]; rfl, by rw [(C41.out.mod N51.out (fun e => e)).cell]; rfl, by rw [(C41.out.mod N51.out (fun e => e)).cell]; rfl, by rw [(C41.out.mod N51.out (fun e => e)).cell]; rfl, by rw [(G41.out.mod N51.out (fun e => e)).cell]; rfl, by rw [(G41.out.mod N51.out (fun e => e)).cell]; rfl, by rw [(G41.out.mod N51.out (fun e => e)).cell]; rfl, by rw [(G41.out.mod N51.out (fun e => e)).cell]; rfl, by rw [(G41.out.mod N51.out (fun e => e)).cell]; rfl⟩ (fun hS => ?_)
          clear hJ J m51
          try simp only [Act.put, List.setIfInBounds_toArray, List.set_cons_zero, List.set_cons_succ]
          refine wpAnyH_take (i := 3) (v := .bool true) rfl (by kernel_rfl) (by kernel_rfl) (by kernel_rfl) (fun _ _ _ h => h) (Or.inl ⟨by kernel_rfl, ?_⟩) hS ?_
          · rintro w' ⟨q0, q1, q2, q3, q4, q5, q6, q7, q8, q9, q10, q11, q12, q13, q14, q15, q16, q17, q18, q19⟩; go_simp
          try simp only [Act.put, List.setIfInBounds_toArray, List.set_cons_zero, List.set_cons_succ]
          refine wpAnyH_take (i := 4) (v := .int .i64 0) rfl (by kernel_rfl) (by kernel_rfl) (by kernel_rfl) (fun _ _ _ h => h) (Or.inl ⟨by kernel_rfl, ?_⟩) hS ?_
          · rintro w' ⟨q0, q1, q2, q3, q4, q5, q6, q7, q8, q9, q10, q11, q12, q13, q14, q15, q16, q17, q18, q19⟩; go_simp
          try simp only [Act.put, List.setIfInBounds_toArray, List.set_cons_zero, List.set_cons_succ]
          refine wpAnyH_take (i := 5) (v := .bool true) rfl (by kernel_rfl) (by kernel_rfl) (by kernel_rfl) (fun _ _ _ h => h) (Or.inl ⟨by kernel_rfl, ?_⟩) hS ?_
          · rintro w' ⟨q0, q1, q2, q3, q4, q5, q6, q7, q8, q9, q10, q11, q12, q13, q14, q15, q16, q17, q18, q19⟩; go_simp
          try simp only [Act.put, List.setIfInBounds_toArray, List.set_cons_zero, List.set_cons_succ]
          refine wpAnyH_take (i := 6) (v := .bool true) rfl (by kernel_rfl) (by kernel_rfl) (by kernel_rfl) (fun _ _ _ h => h) (Or.inl ⟨by kernel_rfl, ?_⟩) hS ?_
          · rintro w' ⟨q0, q1, q2, q3, q4, q5, q6, q7, q8, q9, q10, q11, q12, q13, q14, q15, q16, q17, q18, q19⟩; go_simp
          try simp only [Act.put, List.setIfInBounds_toArray, List.set_cons_zero, List.set_cons_succ]
          refine wpAnyH_take (i := 7) (v := .bool true) rfl (by kernel_rfl) (by kernel_rfl) (by kernel_rfl) (fun _ _ _ h => h) (Or.inl ⟨by kernel_rfl, ?_⟩) hS ?_
          · rintro w' ⟨q0, q1, q2, q3, q4, q5, q6, q7, q8, q9, q10, q11, q12, q13, q14, q15, q16, q17, q18, q19⟩; go_simp
          try simp only [Act.put, List.setIfInBounds_toArray, List.set_cons_zero, List.set_cons_succ]
          refine wpAnyH_take (i := 8) (v := .agg #[.slice pba rbl pbc, .slice pva rvl pvc, .int .i64 rfr, .int .i64 rnu, .slice pla rll plc]) rfl (by kernel_rfl) (by kernel_rfl) (by kernel_rfl) (fun _ _ _ h => h) (Or.inl ⟨by kernel_rfl, ?_⟩) hS ?_
          · rintro w' ⟨q0, q1, q2, q3, q4, q5, q6, q7, q8, q9, q10, q11, q12, q13, q14, q15, q16, q17, q18, q19⟩; go_simp
          try simp only [Act.put, List.setIfInBounds_toArray, List.set_cons_zero, List.set_cons_succ]
          refine wpAnyH_take (i := 10) (v := .agg #[.slice rba rbl rbc, .slice rva rvl rvc, .int .i64 rfr, .int .i64 rnu, .slice rla rll rlc]) rfl (by kernel_rfl) (by kernel_rfl) (by kernel_rfl) (fun _ _ _ h => h) (Or.inl ⟨by kernel_rfl, ?_⟩) hS ?_
          · rintro w' ⟨q0, q1, q2, q3, q4, q5, q6, q7, q8, q9, q10, q11, q12, q13, q14, q15, q16, q17, q18, q19⟩; go_simp
          try simp only [Act.put, List.setIfInBounds_toArray, List.set_cons_zero, List.set_cons_succ]
          refine wpAnyH_ready (rs := [9]) (by kernel_rfl) (by simp) (AllReadyH.cons rfl (fun J hJ => ?_) <| AllReadyH.nil)
          rw [if_pos (by kernel_rfl)]
          go_simp
          refine (plain_hist _ ⟨pba, rbl, pbc, pva, rvl, pvc, rfr, rnu, pla, rll, plc⟩).mono ?_
          rintro e w52 ⟨rfl, m52⟩
          try dsimp only [HistV.v]
          have N52 := Lib.hid (N51.out.trans m52)
          refine hJ.out _ _ ⟨by rw [(A41.out.mod N52.out (fun e => e)).cell]; rfl, by rw [(A41.out.mod N52.out (fun e => e)).cell]; rfl, by rw [(A41.out.mod N52.out (fun e => e)).cell]; rfl, by rw [(A41.out.mod N52.out (fun e => e)).cell]; rfl, by rw [(A41.out.mod N52.out (fun e => e)).cell]; rfl, by rw [(Z41.out.mod N52.out (fun e => e)).cell]; rfl, by rw [(Z41.out.mod N52.out (fun e => e)).cell]; rfl, by rw [(Z41.out.mod N52.out (fun e => e)).cell]; rfl, by rw [(Z41.out.mod N52.out (fun e => e)).cell]; rfl, by rw [(Z41.out.mod N52.out (fun e => e)).cell]; rfl, by rw [(C41.out.mod N52.out (fun e => e)).cell]; rfl, by rw [(C41.out.mod N52.out (fun e => e)).cell]; rfl, by rw [(C41.out.mod N52.out (fun e => e)).cell]; rfl, by rw [(C41.out.mod N52.out (fun e => e)).cell]; rfl, by rw [(C41.out.mod N52.out (fun e => e)).cell]; rfl, by rw [(G41.out.mod N52.out (fun e => e)).cell]; rfl, by rw [(G41.out.mod N52.out (fun e => e)).cell]; rfl, by rw [(G41.out.mod N52.out (fun e => e)).cell]; rfl, by rw [(G41.out.mod N52.out (fun e => e)).cell]; rfl, by rw [(G41.out.mod N52.out (fun e => e)).cell]; rfl⟩ (fun hS => ?_)
          clear hJ J m52
          try simp only [Act.put, List.setIfInBounds_toArray, List.set_cons_zero, List.set_cons_succ]
          refine wpAnyH_ready (rs := [11]) (by kernel_rfl) (by simp) (AllReadyH.cons rfl (fun J hJ => ?_) <| AllReadyH.nil)
          rw [if_pos (by kernel_rfl)]
          go_simp
          refine (rhsame_any _ ⟨pba, rbl, pbc, pva, rvl, pvc, rfr, rnu, pla, rll, plc⟩ ⟨rba, rbl, rbc, rva, rvl, rvc, rfr, rnu, rla, rll, rlc⟩ BC VC EC1 EC2 (HS1.out.grown N52.out) (HS2.out.grown N52.out) rfl rfl rfl rfl rfl HLK.out).mono ?_
          rintro e w53 ⟨rfl, m53⟩
          try dsimp only [HistV.v]
          have N53 := Lib.hid (N52.out.trans m53)
          refine hJ.out _ _ ⟨by rw [(A41.out.mod N53.out (fun e => e)).cell]; rfl, by rw [(A41.out.mod N53.out (fun e => e)).cell]; rfl, by rw [(A41.out.mod N53.out (fun e => e)).cell]; rfl, by rw [(A41.out.mod N53.out (fun e => e)).cell]; rfl, by rw [(A41.out.mod N53.out (fun e => e)).cell]; rfl, by rw [(Z41.out.mod N53.out (fun e => e)).cell]; rfl, by rw [(Z41.out.mod N53.out (fun e => e)).cell]; rfl, by rw [(Z41.out.mod N53.out (fun e => e)).cell]; rfl, by rw [(Z41.out.mod N53.out (fun e => e)).cell]; rfl, by rw [(Z41.out.mod N53.out (fun e => e)).cell]; rfl, by rw [(C41.out.mod N53.out (fun e => e)).cell]; rfl, by rw [(C41.out.mod N53.out (fun e => e)).cell]; rfl, by rw [(C41.out.mod N53.out (fun e => e)).cell]; rfl, by rw [(C41.out.mod N53.out (fun e => e)).cell]; rfl, by rw [(C41.out.mod N53.out (fun e => e)).cell]; rfl, by rw [(G41.out.mod N53.out (fun e => e)).cell]; rfl, by rw [(G41.out.mod N53.out (fun e => e)).cell]; rfl, by rw [(G41.out.mod N53.out (fun e => e)).cell]; rfl, by rw [(G41.out.mod N53.out (fun e => e)).cell]; rfl, by rw [(G41.out.mod N53.out (fun e => e)).cell]; rfl⟩ (fun hS => ?_)
          clear hJ J m53
          try simp only [Act.put, List.setIfInBounds_toArray, List.set_cons_zero, List.set_cons_succ]
          refine wpAnyH_take (i := 12) (v := .bool true) rfl (by kernel_rfl) (by kernel_rfl) (by kernel_rfl) (fun _ _ _ h => h) (Or.inl ⟨by kernel_rfl, ?_⟩) hS ?_
          · rintro w' ⟨q0, q1, q2, q3, q4, q5, q6, q7, q8, q9, q10, q11, q12, q13, q14, q15, q16, q17, q18, q19⟩; go_simp
          try simp only [Act.put, List.setIfInBounds_toArray, List.set_cons_zero, List.set_cons_succ]
          refine wpAnyH_take (i := 13) (v := .bool true) rfl (by kernel_rfl) (by kernel_rfl) (by kernel_rfl) (fun _ _ _ h => h) (Or.inl ⟨by kernel_rfl, ?_⟩) hS ?_
          · rintro w' ⟨q0, q1, q2, q3, q4, q5, q6, q7, q8, q9, q10, q11, q12, q13, q14, q15, q16, q17, q18, q19⟩; go_simp
          try simp only [Act.put, List.setIfInBounds_toArray, List.set_cons_zero, List.set_cons_succ]
          refine wpAnyH_done (by kernel_rfl) ?_ _
          try simp only [List.getElem_toArray, List.getElem_cons_succ, List.getElem_cons_zero]
          try simp only [Act.put, List.setIfInBounds_toArray, List.set_cons_zero, List.set_cons_succ]
          go_wp2_with fail
          go_ret
          exact ⟨rfl, M41.out.trans N53.out⟩

end Go.Proofs.YtlidmajcdjlcnaaGreatDoor
