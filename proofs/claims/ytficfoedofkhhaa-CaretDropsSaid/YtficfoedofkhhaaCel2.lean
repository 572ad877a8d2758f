/-
  Layer 1 (runes): Join. Layer 12 (cells): a cell that may be.
-/
import Derived.Test.YtficfoedofkhhaaOps1
import Derived.Test.YtficfoedofkhhaaCel1
import Derived.Lib.BufferRead
namespace Go.Proofs.Ytficfoedofkhhaa
open Go.RowKit Go.Mine

/-- Runes in memory. -/
structure IsI32 (w : World) (a : Option Addr) (len cap : Nat) (l : List Int) : Prop where
  n : l.length = len
  le : len ≤ cap
  big : cap ≤ maxLen
  ok : ∀ x ∈ l, -2147483648 ≤ x ∧ x ≤ 2147483647
  cells : ∀ (i : Nat) (x : Int), l[i]? = some x → ∃ b off, a = some ⟨b, off, none⟩ ∧ w.cell? ⟨b, off + i, none⟩ = some (.int .i32 x)
theorem IsI32.grown {w w' : World} {a : Option Addr} {len cap : Nat} {l : List Int} (h : IsI32 w a len cap l) (m : Mod none_ w w') : IsI32 w' a len cap l :=
  ⟨h.n, h.le, h.big, h.ok, fun i x hx => by
    obtain ⟨b, off, e, c0⟩ := h.cells i x hx
    exact ⟨b, off, e, m.cell (fun e => e) c0⟩⟩

theorem enc_byte (r x : Int) (h : x ∈ Lib.encodeRuneZ r) : 0 ≤ x ∧ x < 256 := by
  unfold Lib.encodeRuneZ at h
  repeat' split at h
  all_goals simp at h
  all_goals omega
theorem enc_len (r : Int) : (Lib.encodeRuneZ r).length ≤ 4 := by
  unfold Lib.encodeRuneZ
  repeat' split
  all_goals simp
def bytesOf (l : List Int) : List UInt8 := (l.flatMap Lib.encodeRuneZ).map fun x => UInt8.ofNat x.toNat
theorem bytesOf_cells (l : List Int) : (bytesOf l).map (fun b => Value.int .u8 (b.toNat : Int)) = l.flatMap Lib.runeCells := by
  unfold bytesOf
  rw [List.map_map, List.map_flatMap]
  congr 1
  funext r
  unfold Lib.runeCells
  apply List.map_congr_left
  intro x hx
  have := enc_byte r x hx
  simp only [Function.comp_apply]
  congr 1
  simp
  omega
theorem flat_len (l : List Int) : (l.flatMap Lib.runeCells).length ≤ 4 * l.length := by
  induction l with
  | nil => simp
  | cons r t ih =>
    rw [List.flatMap_cons, List.length_append, List.length_cons]
    have := enc_len r
    have e : (Lib.runeCells r).length = (Lib.encodeRuneZ r).length := by unfold Lib.runeCells; simp
    omega

/-- What Join answers. -/
def joinV (l : List Int) : Value := if l.all Lib.validRune then .tuple #[.string ⟨(bytesOf l).toArray⟩, .int .i64 0] else .tuple #[.string ⟨#[]⟩, .int .i64 2]

theorem infoB : (Try.prog.info? 5).map (fun i => (i.zero, i.size, i.bytes)) = some (some (.int .u8 0), 1, 1) := by kernel_rfl

set_option maxHeartbeats 2000000 in
set_option maxRecDepth 1000000 in
theorem join_any (w : World) (a : Option Addr) (len cap : Nat) (l : List Int) (h : IsI32 w a len cap l) (hlen : len ≤ 1099511627776) :
    Calls Try.prog 33 #[.slice a len cap] w fun e w' => e = .returned (joinV l) ∧ Mod none_ w w' := by
  have hle := h.le
  have hbig := h.big
  unfold maxLen at hbig
  have hN := h.n
  have H := Lib.hid h
  obtain ⟨R, hR⟩ : ∃ R, R = joinV l := ⟨_, rfl⟩
  rw [← hR]
  have HR := Lib.hid hR
  clear h hR
  obtain ⟨i0, hi0, hz0, hz1, hz2⟩ := info_parts infoB
  obtain ⟨wm, hrun, hown, hgrow⟩ := run_make_own (P := Try.prog) w w.heap.size 101 5 i0 (.int .u8 0) 1 Try.underlying101 hi0 hz0 hz1 .i64 .i64 len (by rw [hz2]; omega) (by unfold maxLen; omega) (Nat.le_refl _)
  have M0 := Lib.hid ((Mod.refl none_ w).grown hgrow (fun k e => by cases e))
  have O0 := Lib.hid hown
  clear hown hgrow hi0 hz0 hz1 hz2
  go_enter Try.func33, Try.ntmps33
  go_wp2_with fail
  go_loopg [4, 12] len (fun g s4 s12 wx => ∃ k : Nat, g = len - k ∧ s12 = .int .i64 k ∧ k ≤ len ∧ Mod none_ w wx ∧ wx.ownsRow w.heap.size 5 1 s4 ((l.take k).flatMap Lib.runeCells).length ((l.take k).flatMap Lib.runeCells) ∧ RowKit.Hid ((l.take k).all Lib.validRune = true))
  case atStart => exact ⟨0, rfl, rfl, Nat.zero_le _, M0.out, O0.out, Lib.hid rfl⟩
  case round =>
    obtain ⟨k, rfl, rfl, hk, m1, ho, hall⟩ := hrel
    have M1 := Lib.hid m1
    have O1 := Lib.hid ho
    by_cases hlk : k < len
    · obtain ⟨x, hx⟩ : ∃ x, l[k]? = some x := ⟨l[k]'(by omega), by simp⟩
      obtain ⟨b, off, rfl, c0⟩ := H.out.cells k _ hx
      obtain ⟨hx1, hx2⟩ := H.out.ok _ (List.mem_of_getElem? hx)
      have c0' := m1.cell (fun e => e) c0
      have htk : l.take (k + 1) = l.take k ++ [x] := by
        obtain ⟨hk', e⟩ := List.getElem?_eq_some_iff.1 hx
        rw [List.take_succ_eq_append_getElem hk', e]
      have hlb := block_lt_of_cell c0'
      have HT := Lib.hid htk
      have hfl := flat_len (l.take k)
      rw [List.length_take] at hfl
      have hfl2 : ((l.take k).flatMap Lib.runeCells).length + 4 ≤ 140737488355328 := by omega
      have hB : w.heap.size ≤ wr.heap.size := m1.size
      have HX := Lib.hid hx
      clear c0 hx htk hfl m1 ho
      go_wp2_with fail
      refine (valid_any x wr).mono ?_
      rintro e w1 ⟨rfl, rfl⟩
      cases hv : Lib.validRune x
      · have HE := Lib.hid (show R = .tuple #[.string ⟨#[]⟩, .int .i64 2] by
          rw [HR.out]; unfold joinV
          rw [if_neg]
          intro h
          rw [List.all_eq_true] at h
          have := h x (List.mem_of_getElem? HX.out)
          rw [hv] at this; cases this)
        go_wp2_with fail
        go_ret2
        exact ⟨by rw [HE.out]; rfl, M1.out⟩
      · go_wp2_with fail
        refine (append_any w.heap.size _ _ _ x hx1 hx2 _ O1.out hfl2 hB).mono ?_
        rintro e w2 ⟨v', rfl, ho2, o, hg⟩
        have M2 := Lib.hid ((M1.out.alloc o).grown hg (fun j e hj => absurd hj (by have := (O1.out.lt j e).1; omega)))
        have O2 := Lib.hid ho2
        clear ho2 hg
        go_wp2_with fail
        go_roundg (len - (k + 1))
        case measure => omega
        case rel =>
          refine ⟨k + 1, rfl, by go_num, by omega, M2.out, ?_, Lib.hid ?_⟩
          · rw [HT.out, List.flatMap_append, List.length_append]
            simpa using O2.out
          · rw [HT.out, List.all_append, hall.out]; simp [hv]
    · obtain rfl : k = len := by omega
      have e : l.take k = l := List.take_of_length_le (by omega)
      rw [e] at hall
      have HE := Lib.hid (show R = .tuple #[.string ⟨(bytesOf l).toArray⟩, .int .i64 0] by
        rw [HR.out]; unfold joinV; rw [if_pos hall.out])
      have ho' := O1.out
      rw [e] at ho'
      have hbl : (bytesOf l).length = (l.flatMap Lib.runeCells).length := by rw [← bytesOf_cells l, List.length_map]
      rcases ownsRow_blk ho' with ⟨rfl, h0, _⟩ | ⟨g, cap2, more, rfl, _, hblk, _, _, _⟩
      · have hnil : bytesOf l = [] := List.eq_nil_of_length_eq_zero (by omega)
        have hcv := Lib.run_convert_nil_bytes (P := Try.prog) wr 101 9 5 0 Try.underlying101 Try.underlying5 Try.underlying9
        clear hall ho' O1 m1 ho hbl e
        go_wp2_with fail
        go_ret2
        exact ⟨by rw [HE.out, hnil]; rfl, M1.out⟩
      · have hcv : (convert 101 9 (.slice (some ⟨g, 0, none⟩) (l.flatMap Lib.runeCells).length cap2)).run Try.prog wr = .ok (.string ⟨(bytesOf l).toArray⟩) wr := by
          rw [← hbl]
          refine run_convert_bytes_back wr _ _ _ ⟨g, 0, none⟩ cap2 (bytesOf l) Try.underlying101 Try.underlying5 Try.underlying9 (fun j hj => ?_)
          have ea : (⟨g, 0, none⟩ : Addr).add j = ⟨g, j, none⟩ := by rw [Addr.add_lit, Nat.zero_add]
          rw [ea, hblk.cell, ← bytesOf_cells l, List.getElem?_append_left (by rw [List.length_map]; exact hj), List.getElem?_map, List.getElem?_eq_getElem hj]
          rfl
        clear hall ho' O1 m1 ho hbl e hblk
        generalize (l.flatMap Lib.runeCells).length = NN at hcv ⊢
        go_wp2_with fail
        go_ret2
        exact ⟨by rw [HE.out]; rfl, M1.out⟩

/-- A cell. -/
structure CellV where
  site : Int
  seq : Int
  off : Int
  r : Int
  gone : Bool
structure CellV.ok (c : CellV) : Prop where
  i1 : -9223372036854775808 ≤ c.site ∧ c.site ≤ 9223372036854775807
  i2 : -9223372036854775808 ≤ c.seq ∧ c.seq ≤ 9223372036854775807
  i3 : -9223372036854775808 ≤ c.off ∧ c.off ≤ 9223372036854775807
  i4 : -2147483648 ≤ c.r ∧ c.r ≤ 2147483647
abbrev CellV.cs (c : CellV) : List Value := [.int .i64 c.site, .int .i64 c.seq, .int .i64 c.off, .int .i32 c.r, .bool c.gone]
abbrev CellV.v (c : CellV) : Value := .agg #[.int .i64 c.site, .int .i64 c.seq, .int .i64 c.off, .int .i32 c.r, .bool c.gone]
/-- May a cell be? -/
def cellOk (c : CellV) : Bool := nameOk c.site c.seq && decide (0 ≤ c.off) && decide (c.off < 200) && Lib.validRune c.r

set_option maxHeartbeats 2000000 in
set_option maxRecDepth 1000000 in
theorem mayCell_any (c : CellV) (w : World) (h : c.ok) : Calls Try.prog 22 #[c.v] w fun e w' => e = .returned (.bool (cellOk c)) ∧ Mod none_ w w' := by
  obtain ⟨R, hR⟩ : ∃ R, R = cellOk c := ⟨_, rfl⟩
  rw [← hR]
  have HR := Lib.hid hR
  clear hR
  obtain ⟨W0, hW0⟩ : ∃ W0, (w.alloc (.cells c.cs.toArray 41)) = W0 := ⟨_, rfl⟩
  have k0 : Blk W0 w.heap.size c.cs 41 := by rw [← hW0]; exact Blk.new
  have m0 : Mod none_ w W0 := by rw [← hW0]; exact (Mod.refl none_ w).alloc _
  have hz : W0.heap.size = w.heap.size + 1 := by rw [← hW0]; simp
  have c3 : W0.cell? ⟨w.heap.size, 3, none⟩ = some (.int .i32 c.r) := by rw [k0.cell]; rfl
  have K0 := Lib.hid k0
  have M0 := Lib.hid m0
  have hir := h.i4
  clear k0 m0 h
  go_enter Try.func22, Try.ntmps22
  go_upto_region 1 with fail
  clear hW0
  go_wp2_with fail
  have k1 : Blk (W0.alloc (.cells #[.int .i32 c.r] 21)) (w.heap.size + 1) [.int .i32 c.r] 21 := by
    have := Blk.new (w := W0) (cs := [.int .i32 c.r]) (t := 21)
    rwa [hz] at this
  have hI : IsI32 (W0.alloc (.cells #[.int .i32 c.r] 21)) (some ⟨w.heap.size + 1, 0, none⟩) 1 1 [c.r] := by
    refine ⟨rfl, Nat.le_refl _, by unfold maxLen; omega, fun x hx => by rw [List.mem_singleton.1 hx]; exact hir, fun i x hx => ?_⟩
    obtain ⟨hi, e⟩ := List.getElem?_eq_some_iff.1 hx
    have hi0 : i = 0 := by simpa using hi
    subst hi0
    refine ⟨w.heap.size + 1, 0, rfl, ?_⟩
    rw [k1.cell, ← e]; rfl
  refine (join_any _ _ 1 1 [c.r] hI (by omega)).mono ?_
  rintro e w2 ⟨rfl, m2⟩
  have M2 := Lib.hid ((M0.out.alloc _).trans m2)
  have k2 := (K0.out.mod ((Mod.refl none_ W0).alloc (.cells #[.int .i32 c.r] 21)) (fun e => e)).mod m2 (fun e => e)
  have d0 : w2.cell? ⟨w.heap.size, 0, none⟩ = some (.int .i64 c.site) := by rw [k2.cell]; rfl
  have d1 : w2.cell? ⟨w.heap.size, 1, none⟩ = some (.int .i64 c.seq) := by rw [k2.cell]; rfl
  have K2 := Lib.hid k2
  obtain ⟨jv, je, hj, hje⟩ : ∃ jv je, joinV [c.r] = .tuple #[.string jv, .int .i64 je] ∧ je = if Lib.validRune c.r then 0 else 2 := by
    unfold joinV
    cases hv : Lib.validRune c.r
    · exact ⟨_, 2, by rw [if_neg (by simp [hv])], rfl⟩
    · exact ⟨_, 0, by rw [if_pos (by simp [hv])], rfl⟩
  rw [hj]
  have HJ := Lib.hid hje
  clear hj hje k1 hI m2 k2 c3 hz
  go_wp2_with fail
  refine (vname_any c.site c.seq _).mono ?_
  rintro e w3 ⟨rfl, m3⟩
  have M3 := Lib.hid (M2.out.trans m3)
  have k3 := K2.out.mod m3 (fun e => e)
  have e2 : w3.cell? ⟨w.heap.size, 2, none⟩ = some (.int .i64 c.off) := by rw [k3.cell]; rfl
  clear m3 k3 d0 d1
  cases h1 : nameOk c.site c.seq
  · go_wp2_with fail
    go_ret
    exact ⟨by rw [HR.out, show cellOk c = false by simp [cellOk, h1]]; rfl, M3.out⟩
  by_cases h2 : 0 ≤ c.off
  · by_cases h3 : c.off < 200
    · cases h4 : Lib.validRune c.r
      · have hj2 : je = 2 := by rw [HJ.out, h4]; rfl
        subst hj2
        go_wp2_with fail
        go_ret
        exact ⟨by rw [HR.out, show cellOk c = false by simp [cellOk, h4]]; rfl, M3.out⟩
      · have hj2 : je = 0 := by rw [HJ.out, h4]; rfl
        subst hj2
        go_wp2_with fail
        go_ret
        exact ⟨by rw [HR.out, show cellOk c = true by simp [cellOk, h1, h2, h3, h4]]; rfl, M3.out⟩
    · have hd : decide (c.off < 200) = false := by simp; omega
      go_wp2_with fail
      go_ret
      exact ⟨by rw [HR.out, show cellOk c = false by simp [cellOk]; omega]; rfl, M3.out⟩
  · have hd : decide (0 ≤ c.off) = false := by simp; omega
    go_wp2_with fail
    go_ret
    exact ⟨by rw [HR.out, show cellOk c = false by simp [cellOk]; omega]; rfl, M3.out⟩

end Go.Proofs.Ytficfoedofkhhaa
