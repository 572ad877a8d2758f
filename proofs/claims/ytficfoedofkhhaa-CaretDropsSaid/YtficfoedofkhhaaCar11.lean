/-
  Layer 16 (caret): alive, the document's example.
-/
import Derived.Test.YtficfoedofkhhaaCar10
namespace Go.Proofs.Ytficfoedofkhhaa
open Go.RowKit Go.Mine

theorem blkCells {w : World} {g n cap : Nat} {l : List CellV} {more : List Value} (k : Blk w g (flat CellV.cs l ++ more) 41) (hn : l.length = n) (hc : n ≤ cap) (hm : cap ≤ maxLen) (hok : ∀ c ∈ l, c.ok) : IsCells w (some ⟨g, 0, none⟩) n cap l :=
  ⟨hn, hc, hm, hok, fun i c hx => ⟨g, 0, rfl, fun j v hv => by
    have hj : j < 5 := (List.getElem?_eq_some_iff.1 hv).1
    have := Blk.elem CellV.len k i j c hx hj
    rw [Nat.zero_add, this]; exact hv⟩⟩

theorem al_mv2 : pointOf 1 (alOp 2).at_ (addsOf (alOp 2)) ((alOp 2).site != 1) = 1 := by rw [alOp_adds]; rfl
theorem al_mv1 : pointOf 1 (alOp 1).at_ (addsOf (alOp 1)) ((alOp 1).site != 1) = 3 := by rw [alOp_adds]; rfl
theorem al_move (s r : Int) (hs : 1 ≤ s ∧ s ≤ 16) (hr : pointOf 1 (alOp s).at_ (addsOf (alOp s)) ((alOp s).site != 1) = r) (w : World) :
    Calls Try.prog 13 #[.agg #[.int .i64 1, .int .i64 1, .int .i64 1], (alOp s).v, .int .i64 3] w fun e w' => e = .returned (.tuple #[.agg #[.int .i64 1, .int .i64 r, .int .i64 r], .int .i64 0]) ∧ Mod none_ w w' := by
  have h := move_ins (alOp s) 1 1 1 3 w [] (alOp_ok s hs w) rfl (by decide) (by show nameOk s 1 = true; simp [nameOk, inB]; omega) (by show inB 0 0 1099511627776 = true; decide) (alOp_ins s) (by decide)
  rw [hr] at h
  exact h

set_option maxHeartbeats 4000000 in
set_option maxRecDepth 1000000 in
theorem alive_any (w : World) : Calls Try.prog 4 #[] w fun e w' => e = .returned (.bool true) ∧ Mod none_ w w' := by
  go_enter Try.func4, Try.ntmps4
  go_wp2_with fail
  refine (blank_any 3 w (by omega)).mono ?_
  rintro e w1 ⟨v, rfl, ho, m1⟩
  rcases ownsRow_blk ho with ⟨rfl, h0, _⟩ | ⟨g, cap, more, rfl, hg, kb, hnc, hcm, _⟩
  · omega
  rw [← alC_blanks] at kb
  have hcm' := hcm
  unfold maxLen at hcm'
  have KB := Lib.hid kb
  have M1 := Lib.hid m1
  have HCM := Lib.hid hcm
  clear ho kb m1 hcm
  go_wp2_with fail
  go_loopg [2] 3 (fun gg s2 wx => ∃ k : Nat, gg = 3 - k ∧ s2 = .int .i64 k ∧ k ≤ 3 ∧ Mod none_ w wx ∧ Blk wx g (flat CellV.cs (alC k) ++ more) 41)
  case atStart => exact ⟨0, rfl, rfl, by omega, M1.out, KB.out⟩
  case round =>
    obtain ⟨k, rfl, rfl, hk, mx, kx⟩ := hrel
    have MX := Lib.hid mx
    have KX := Lib.hid kx
    match k, hk, kx, KX with
    | 0, _, kx, KX =>
      have c0 : wr.cell? ⟨g, 0, none⟩ = some (.int .i64 99) := by rw [kx.cell]; rfl
      have f0 := kx.frozen 0
      clear kx mx
      go_wp2_with fail
      go_roundg 2
      all_goals first
        | omega
        | exact ⟨1, rfl, by go_num, by omega, MX.out.setCell ⟨g, 0, none⟩ (fun h => absurd h (by simp; omega)) _, KX.out.set 0 (.int .i64 9)⟩
    | 1, _, kx, KX =>
      have c0 : wr.cell? ⟨g, 5, none⟩ = some (.int .i64 99) := by rw [kx.cell]; rfl
      have f0 := kx.frozen 5
      clear kx mx
      go_wp2_with fail
      go_roundg 1
      all_goals first
        | omega
        | exact ⟨2, rfl, by go_num, by omega, MX.out.setCell ⟨g, 5, none⟩ (fun h => absurd h (by simp; omega)) _, KX.out.set 5 (.int .i64 9)⟩
    | 2, _, kx, KX =>
      have c0 : wr.cell? ⟨g, 10, none⟩ = some (.int .i64 99) := by rw [kx.cell]; rfl
      have f0 := kx.frozen 10
      clear kx mx
      go_wp2_with fail
      go_roundg 0
      all_goals first
        | omega
        | exact ⟨3, rfl, by go_num, by omega, MX.out.setCell ⟨g, 10, none⟩ (fun h => absurd h (by simp; omega)) _, KX.out.set 10 (.int .i64 9)⟩
    | 3, _, kx, KX =>
      have HN := Lib.hid (new_any wr (some ⟨g, 0, none⟩) 3 cap (alC 3) (blkCells kx rfl hnc HCM.out alC_ok) (by omega))
      clear kx mx KX
      go_wp2_with fail
      refine HN.out.mono ?_
      rintro e w3 ⟨m3, _, hd⟩
      obtain ⟨D, rfl, hdoc⟩ := hd alC_new
      have HP := put_any w3 _ D (alC 3) 1 1 1 hdoc (by decide)
      rw [alC_put] at HP
      have HP := Lib.hid HP
      have M3 := Lib.hid (MX.out.trans m3)
      clear m3 hd hdoc HN
      go_wp2_with fail
      refine HP.out.mono ?_
      rintro e w4 ⟨rfl, m4⟩
      have M4 := Lib.hid (M3.out.trans m4)
      have hz4 := m4.size
      clear m4
      go_upto_region 9 with fail
      obtain ⟨W5, hW5⟩ : ∃ W5, (w4.alloc (.cells #[.int .i64 1, .int .i64 1, .int .i64 1] 27)).alloc (.cells #[.int .i64 2, .int .i64 1, .int .i64 0, .int .i64 1, .int .i64 1, .string { data := #[120, 121] }, .slice none 0 0] 47) = W5 := ⟨_, rfl⟩
      have m5 : Mod none_ w4 W5 := by rw [← hW5]; exact ((Mod.refl none_ w4).alloc _).alloc _
      have kM : Blk W5 w4.heap.size [.int .i64 1, .int .i64 1, .int .i64 1] 27 := by
        rw [← hW5]
        exact (Blk.new (w := w4) (cs := [.int .i64 1, .int .i64 1, .int .i64 1]) (t := 27)).mod ((Mod.refl none_ _).alloc _) (fun e => e)
      have kO : Blk W5 (w4.heap.size + 1) [.int .i64 2, .int .i64 1, .int .i64 0, .int .i64 1, .int .i64 1, .string { data := #[120, 121] }, .slice none 0 0] 47 := by
        have := Blk.new (w := w4.alloc (.cells #[.int .i64 1, .int .i64 1, .int .i64 1] 27)) (cs := [.int .i64 2, .int .i64 1, .int .i64 0, .int .i64 1, .int .i64 1, .string { data := #[120, 121] }, .slice none 0 0]) (t := 47)
        rw [World.size_alloc] at this
        rw [← hW5]
        exact this
      rw [hW5]
      have M5 := Lib.hid (M4.out.trans m5)
      obtain ⟨X, hX⟩ : ∃ X, X = w4.heap.size := ⟨_, rfl⟩
      rw [← hX] at kM kO ⊢
      have hXw : w.heap.size ≤ X := by have := M4.out.size; omega
      clear hX hW5 m5 hz4
      have a0 := kM.cell 0
      have a1 := kM.cell 1
      have a2 := kM.cell 2
      have o0 := kO.cell 0
      have o1 := kO.cell 1
      have o2 := kO.cell 2
      have o3 := kO.cell 3
      have o4 := kO.cell 4
      have o5 := kO.cell 5
      have o6 := kO.cell 6
      simp only [List.getElem?_cons_zero, List.getElem?_cons_succ] at a0 a1 a2 o0 o1 o2 o3 o4 o5 o6
      have KM := Lib.hid kM
      have KO := Lib.hid kO
      clear kM kO
      go_wp2_with fail
      refine (al_move 2 1 (by omega) al_mv2 W5).mono ?_
      rintro e w6 ⟨rfl, m6⟩
      have mA := m6.alloc (.cells #[.int .i64 1, .int .i64 1, .int .i64 1] 27)
      have kA := Blk.new (w := w6) (cs := [.int .i64 1, .int .i64 1, .int .i64 1]) (t := 27)
      have hz6 := m6.size
      have hlx := KO.out.lt
      have M6 := Lib.hid (M5.out.trans mA)
      have k7 := KO.out.mod mA (fun e => e)
      have KM7 := Lib.hid (KM.out.mod mA (fun e => e))
      clear mA m6 a0 a1 a2 o0 o1 o2 o3 o4 o5 o6
      go_upto_region 10 with fail
      generalize w6.alloc (.cells #[.int .i64 1, .int .i64 1, .int .i64 1] 27) = w7 at kA k7 KM7 M6 ⊢
      obtain ⟨Y, hY⟩ : ∃ Y, Y = w6.heap.size := ⟨_, rfl⟩
      rw [← hY] at kA ⊢
      have hYX : X + 1 < Y := by omega
      clear hY hz6 hlx
      have o0 := k7.cell 0
      simp only [List.getElem?_cons_zero, List.getElem?_cons_succ] at o0
      have p0 := k7.frozen 0
      have mS := (Mod.refl (one (X + 1)) w7).setCell ⟨X + 1, 0, none⟩ (fun _ => rfl) (.int .i64 1)
      have KO8 := Lib.hid (k7.set 0 (.int .i64 1))
      have KM8 := Lib.hid (KM7.out.mod mS (fun e => by have e' : X = X + 1 := e; omega))
      have KA8 := Lib.hid (kA.mod mS (fun e => by have e' : Y = X + 1 := e; omega))
      have M8 := Lib.hid (M6.out.transIn mS (fun b hb e => by have e' : b = X + 1 := e; omega))
      clear mS k7 kA
      go_upto_region 11 with fail
      generalize w7.setCell ⟨X + 1, 0, none⟩ (.int .i64 1) = w8 at KO8 KM8 KA8 M8 ⊢
      clear o0 p0
      have a0 := KM8.out.cell 0
      have a1 := KM8.out.cell 1
      have a2 := KM8.out.cell 2
      have o0 := KO8.out.cell 0
      have o1 := KO8.out.cell 1
      have o2 := KO8.out.cell 2
      have o3 := KO8.out.cell 3
      have o4 := KO8.out.cell 4
      have o5 := KO8.out.cell 5
      have o6 := KO8.out.cell 6
      simp only [List.set_cons_zero, List.getElem?_cons_zero, List.getElem?_cons_succ] at a0 a1 a2 o0 o1 o2 o3 o4 o5 o6
      go_wp2_with fail
      refine (al_move 1 3 (by omega) al_mv1 w8).mono ?_
      rintro e w9 ⟨rfl, m9⟩
      have mB := m9.alloc (.cells #[.int .i64 1, .int .i64 3, .int .i64 3] 27)
      have kB := Blk.new (w := w9) (cs := [.int .i64 1, .int .i64 3, .int .i64 3]) (t := 27)
      have M9 := Lib.hid (M8.out.trans mB)
      have kA9 := KA8.out.mod mB (fun e => e)
      clear mB m9 a0 a1 a2 o0 o1 o2 o3 o4 o5 o6
      go_upto_region 12 with fail
      generalize w9.alloc (.cells #[.int .i64 1, .int .i64 3, .int .i64 3] 27) = wB at kB kA9 M9 ⊢
      have a1 := kA9.cell 1
      have b1 := kB.cell 1
      have b2 := kB.cell 2
      simp only [List.getElem?_cons_zero, List.getElem?_cons_succ] at a1 b1 b2
      clear kA9 kB
      go_wp2_with fail
      go_ret
      exact ⟨rfl, M9.out⟩

end Go.Proofs.Ytficfoedofkhhaa
