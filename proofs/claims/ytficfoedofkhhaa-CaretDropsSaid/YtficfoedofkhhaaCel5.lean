/-
  Layer 12 (cells): slices.Clone at cells; count; newBlock.
-/
import Derived.Test.YtficfoedofkhhaaCel3
namespace Go.Proofs.Ytficfoedofkhhaa
open Go.RowKit Go.Mine

theorem infoCell : (Try.prog.info? 41).map (fun i => (i.zero, i.size, i.bytes)) = some (some (.agg #[.int .i64 0, .int .i64 0, .int .i64 0, .int .i32 0, .bool false]), 5, 32) := by kernel_rfl
theorem CellV.len (c : CellV) : c.cs.length = 5 := rfl
theorem CellV.ones (c : CellV) : ∀ v ∈ c.cs, v.oneCell' = true := by
  intro v hv
  simp [CellV.cs] at hv
  rcases hv with rfl | rfl | rfl | rfl | rfl <;> rfl
theorem flat_ones (l : List CellV) : ∀ v ∈ flat CellV.cs l, v.oneCell' = true := by
  intro v hv
  unfold flat at hv
  obtain ⟨c, _, hc⟩ := List.mem_flatMap.1 hv
  exact c.ones v hc
/-- The cells in memory, as one row. -/
theorem IsCells.row {w : World} {b off len cap : Nat} {l : List CellV} (h : IsCells w (some ⟨b, off, none⟩) len cap l) : w.rangeAt b off (flat CellV.cs l) := by
  intro j v hv
  have hj : j < l.length * 5 := by
    have := (List.getElem?_eq_some_iff.1 hv).1
    rw [flat_length CellV.len] at this; exact this
  have hi : j / 5 < l.length := by omega
  have hx : l[j / 5]? = some (l[j / 5]'hi) := List.getElem?_eq_getElem _
  obtain ⟨b', off', e, hr⟩ := h.cells (j / 5) _ hx
  cases e
  have hg := flat_get CellV.len l (j / 5) (j % 5) _ hx (Nat.mod_lt _ (by decide))
  rw [show j / 5 * 5 + j % 5 = j by omega, hv] at hg
  have := hr (j % 5) v hg.symm
  rw [show off + j / 5 * 5 + j % 5 = off + j by omega] at this
  exact this

set_option maxHeartbeats 2000000 in
set_option maxRecDepth 1000000 in
theorem clone_any (w : World) (b off len cap : Nat) (l : List CellV) (h : IsCells w (some ⟨b, off, none⟩) len cap l) (hlen : len ≤ 1099511627776) :
    Calls Try.prog 36 #[.slice (some ⟨b, off, none⟩) len cap] w fun e w' => ∃ v, e = .returned v ∧ w'.ownsRow w.heap.size 41 5 v len (flat CellV.cs l) ∧ Mod none_ w w' := by
  obtain ⟨i0, hi0, hz0, hz1, hz2⟩ := info_parts infoCell
  have hN := h.n
  have qT : ∀ (w : World) (a : Option Addr) (n c n' c' : Nat), (binOp .eql 36 (.slice a n c) (.slice none n' c')).run Try.prog w = .ok (.bool a.isNone) w := fun w a n c n' c' => Lib.run_eql_slice_nil w _ _ a n c n' c' Try.underlying36
  have O0 := World.ownsRow_made (base := w.heap.size) (e := 41) (size := 5) w #[] 0 (Nat.le_refl _) (by unfold maxLen; omega) rfl
  have mA := (Mod.refl none_ w).alloc (.cells #[] 41)
  have RW := Lib.hid (h.grown mA).row
  have hfl : (flat CellV.cs l).length = len * 5 := by rw [flat_length CellV.len, hN]
  have MA := Lib.hid mA
  have OO := Lib.hid O0
  have HF := Lib.hid hfl
  clear h mA O0 hfl
  go_enter Try.func36, Try.ntmps36
  go_wp2_with (at_builtin; refine wpList_append_own _ rfl (.tmp 5) (.tmp 6) 36 rfl w.heap.size 41 i0 _ 5 32 Try.underlying36 hi0 hz0 hz1 hz2 rfl (by decide) _ 0 [] rfl (by exact OO.out) ⟨b, off, none⟩ len cap (flat CellV.cs l) rfl (by exact HF.out) (fun j u hu => by rw [Addr.add_lit]; exact RW.out j u hu) (flat_ones l) (by unfold maxLen; omega) (by omega) (by simp) ?_; intro v' w1 ho hg _; have OV := Lib.hid ho; have MV := Lib.hid (MA.out.grown hg (fun k e hk => by have := (OO.out.lt k e).1; omega)); clear ho hg)
  go_ret
  refine ⟨v', rfl, ?_, MV.out⟩
  have := OV.out
  rw [Nat.zero_add, List.nil_append] at this
  exact this

/-- How many cells are live. -/
def liveN (l : List CellV) : Nat := (l.filter fun c => !c.gone).length
theorem liveN_snoc (l : List CellV) (c : CellV) : liveN (l ++ [c]) = liveN l + if c.gone then 0 else 1 := by
  unfold liveN
  rw [List.filter_append, List.length_append]
  cases h : c.gone <;> simp [h]
theorem liveN_le (l : List CellV) : liveN l ≤ l.length := List.length_filter_le _ _

set_option maxHeartbeats 2000000 in
set_option maxRecDepth 1000000 in
theorem count_any (w : World) (b B : Nat) (x y : Int) (v : Value) (n : Nat) (l : List CellV) (kb : Blk w b [.int .i64 x, .int .i64 y, v] 92) (hv : w.ownsRow B 41 5 v n (flat CellV.cs l)) (hne : v.ownBlock ≠ some b) (hn : l.length = n) (hlen : n ≤ 1099511627776) :
    Calls Try.prog 37 #[.pointer (some ⟨b, 0, none⟩)] w fun e w' => e = .returned (.tuple #[]) ∧ Blk w' b [.int .i64 (n : Int), .int .i64 (liveN l : Int), v] 92 ∧ Mod (one b) w w' := by
  have c0 : w.cell? ⟨b, 0, none⟩ = some (.int .i64 x) := by rw [kb.cell]; rfl
  have c1 : w.cell? ⟨b, 1, none⟩ = some (.int .i64 y) := by rw [kb.cell]; rfl
  have c2 : w.cell? ⟨b, 2, none⟩ = some v := by rw [kb.cell]; rfl
  have f0 := kb.frozen 0
  have f1 := kb.frozen 1
  have k1 := (kb.set 0 (.int .i64 (n : Int))).set 1 (.int .i64 0)
  have m1 := ((Mod.refl (one b) w).setCell ⟨b, 0, none⟩ (fun _ => rfl) (.int .i64 (n : Int))).setCell ⟨b, 1, none⟩ (fun _ => rfl) (.int .i64 0)
  have c3 : ((w.setCell ⟨b, 0, none⟩ (.int .i64 (n : Int))).setCell ⟨b, 1, none⟩ (.int .i64 0)).cell? ⟨b, 2, none⟩ = some v := by rw [k1.cell]; rfl
  have K1 := Lib.hid (show Blk ((w.setCell ⟨b, 0, none⟩ (.int .i64 (n : Int))).setCell ⟨b, 1, none⟩ (.int .i64 0)) b [.int .i64 (n : Int), .int .i64 0, v] 92 from k1)
  have M1 := Lib.hid m1
  rcases ownsRow_blk hv with ⟨rfl, rfl, _⟩ | ⟨g, cap, more, rfl, _, kg, hnc, hcm, _⟩
  · obtain rfl : l = [] := List.eq_nil_of_length_eq_zero hn
    clear kb hv k1 m1
    go_enter Try.func37, Try.ntmps37
    go_wp2_with fail
    go_loopg [18] 0 (fun g s18 wx => s18 = .int .i64 0 ∧ wx = ((w.setCell ⟨b, 0, none⟩ (.int .i64 0)).setCell ⟨b, 1, none⟩ (.int .i64 0)))
    case atStart => exact ⟨rfl, rfl⟩
    case round =>
      obtain ⟨rfl, rfl⟩ := hrel
      go_wp2_with fail
      go_end0
      exact ⟨rfl, K1.out, M1.out⟩
  · have hgb : g ≠ b := fun e => hne (by rw [e]; rfl)
    unfold maxLen at hcm
    have KG := Lib.hid (kg.mod m1 (fun e => hgb e))
    have HN := Lib.hid hn
    clear kb hv k1 m1 kg
    go_enter Try.func37, Try.ntmps37
    go_wp2_with fail
    generalize (w.setCell ⟨b, 0, none⟩ (.int .i64 (n : Int))).setCell ⟨b, 1, none⟩ (.int .i64 0) = w1 at K1 M1 KG c3 ⊢
    go_loopg [18] n (fun g' s18 wx => ∃ k : Nat, g' = n - k ∧ s18 = .int .i64 k ∧ k ≤ n ∧ Mod (one b) w1 wx ∧ Blk wx b [.int .i64 (n : Int), .int .i64 (liveN (l.take k) : Int), .slice (some ⟨g, 0, none⟩) n cap] 92)
    case atStart => exact ⟨0, rfl, rfl, Nat.zero_le _, Mod.refl _ _, K1.out⟩
    case round =>
      obtain ⟨k, rfl, rfl, hk, mx, kx⟩ := hrel
      have MX := Lib.hid mx
      have KX := Lib.hid kx
      by_cases hlk : k < n
      · obtain ⟨c, hx⟩ : ∃ x, l[k]? = some x := ⟨l[k]'(by rw [HN.out]; omega), by simp⟩
        have kgx := KG.out.mod mx (fun e => hgb e)
        have q0 := Blk.elem CellV.len kgx k 0 c hx (by decide)
        have q1 := Blk.elem CellV.len kgx k 1 c hx (by decide)
        have q2 := Blk.elem CellV.len kgx k 2 c hx (by decide)
        have q3 := Blk.elem CellV.len kgx k 3 c hx (by decide)
        have q4 := Blk.elem CellV.len kgx k 4 c hx (by decide)
        simp only [CellV.cs, Nat.add_zero, List.getElem?_cons_zero, List.getElem?_cons_succ] at q0 q1 q2 q3 q4
        have htk : l.take (k + 1) = l.take k ++ [c] := by
          obtain ⟨hk', e⟩ := List.getElem?_eq_some_iff.1 hx
          rw [List.take_succ_eq_append_getElem hk', e]
        have HT := Lib.hid htk
        have hlv := liveN_le (l.take k)
        rw [List.length_take] at hlv
        have hgl := kgx.lt
        have hbl := kx.lt
        have x1 : wr.cell? ⟨b, 1, none⟩ = some (.int .i64 (liveN (l.take k) : Int)) := by rw [kx.cell]; rfl
        have y1 := kx.frozen 1
        clear hx kgx htk mx kx
        cases hgone : c.gone
        · rw [hgone] at q4
          have E2 := Lib.hid (show ((liveN (l.take (k + 1)) : Nat) : Int) = (liveN (l.take k) : Int) + 1 by rw [HT.out, liveN_snoc, hgone]; simp)
          go_wp2_with fail
          go_roundg (n - (k + 1))
          case measure => omega
          case rel => exact ⟨k + 1, rfl, by go_num, by omega, (MX.out.setCell ⟨b, 1, none⟩ (fun _ => rfl) _).alloc _, by rw [E2.out]; exact (KX.out.set 1 (.int .i64 ((liveN (l.take k) : Int) + 1))).mod ((Mod.refl none_ _).alloc _) (fun e => e)⟩
        · rw [hgone] at q4
          have E2 := Lib.hid (show ((liveN (l.take (k + 1)) : Nat) : Int) = (liveN (l.take k) : Int) by rw [HT.out, liveN_snoc, hgone]; simp)
          go_wp2_with fail
          go_roundg (n - (k + 1))
          case measure => omega
          case rel => exact ⟨k + 1, rfl, by go_num, by omega, MX.out.alloc _, by rw [E2.out]; exact KX.out.mod ((Mod.refl none_ _).alloc _) (fun e => e)⟩
      · obtain rfl : k = n := by omega
        have e : l.take k = l := List.take_of_length_le (by rw [HN.out]; omega)
        rw [e] at kx
        have KE := Lib.hid kx
        clear mx kx
        go_wp2_with fail
        go_end0
        exact ⟨rfl, KE.out, M1.out.trans MX.out⟩

/-- A block of cells, all of it at or above B. -/
structure BlkIs (w : World) (B p : Nat) (l : List CellV) : Prop where
  ex : ∃ v, Blk w p [.int .i64 (l.length : Int), .int .i64 (liveN l : Int), v] 92 ∧ w.ownsRow B 41 5 v l.length (flat CellV.cs l) ∧ v.ownBlock ≠ some p
  lo : B ≤ p
theorem BlkIs.grown {w w' : World} {B p : Nat} {l : List CellV} (h : BlkIs w B p l) (m : Mod none_ w w') : BlkIs w' B p l := by
  obtain ⟨⟨v, k, o, n⟩, lo⟩ := h
  exact ⟨⟨v, k.mod m (fun e => e), ownsRow_mod o m (fun _ _ e => e), n⟩, lo⟩

set_option maxHeartbeats 2000000 in
set_option maxRecDepth 1000000 in
theorem newBlock_any (w : World) (b off len cap : Nat) (l : List CellV) (h : IsCells w (some ⟨b, off, none⟩) len cap l) (hlen : len ≤ 1099511627776) :
    Calls Try.prog 24 #[.slice (some ⟨b, off, none⟩) len cap] w fun e w' => ∃ p, e = .returned (.pointer (some ⟨p, 0, none⟩)) ∧ BlkIs w' w.heap.size p l ∧ Mod none_ w w' := by
  have hN := h.n
  have H := Lib.hid h
  clear h
  go_enter Try.func24, Try.ntmps24
  go_wp2_with fail
  refine (clone_any w b off len cap l H.out hlen).mono ?_
  rintro e w1 ⟨v, rfl, ho, m1⟩
  obtain ⟨va, vc, rfl⟩ : ∃ va vc, v = .slice va len vc := by
    rcases ownsRow_blk ho with ⟨rfl, rfl, _⟩ | ⟨g, c', _, rfl, _⟩
    · exact ⟨none, 0, rfl⟩
    · exact ⟨_, c', rfl⟩
  have m2 := m1.alloc (.cells #[.int .i64 0, .int .i64 0, .slice va len vc] 92)
  have k2 := Blk.new (w := w1) (cs := [.int .i64 0, .int .i64 0, .slice va len vc]) (t := 92)
  have o2 := ownsRow_mod ho ((Mod.refl none_ w1).alloc (.cells #[.int .i64 0, .int .i64 0, .slice va len vc] 92)) (fun _ _ e => e)
  have hne : (Value.slice va len vc).ownBlock ≠ some w1.heap.size := fun e => by have := (ho.lt _ e).2; omega
  have hsz := m1.size
  have K2 := Lib.hid k2
  have O2 := Lib.hid o2
  have M2 := Lib.hid m2
  have NE := Lib.hid hne
  clear ho m1 m2 k2 o2 hne
  go_wp2_with fail
  refine (count_any _ w1.heap.size w.heap.size 0 0 (.slice va len vc) len l K2.out O2.out NE.out hN hlen).mono ?_
  rintro e w3 ⟨rfl, k3, m3⟩
  have B3 : BlkIs w3 w.heap.size w1.heap.size l := ⟨⟨.slice va len vc, by rw [hN]; exact k3, by rw [hN]; exact ownsRow_mod O2.out m3 (fun k hk e => NE.out (by have e' : k = w1.heap.size := e; rw [← e']; exact hk)), NE.out⟩, hsz⟩
  have BB := Lib.hid B3
  have M3 := Lib.hid (M2.out.transIn m3 (fun b hb e => by have e' : b = w1.heap.size := e; omega))
  clear k3 m3 B3
  go_wp2_with fail
  go_ret
  exact ⟨_, rfl, BB.out, M3.out⟩

end Go.Proofs.Ytficfoedofkhhaa
