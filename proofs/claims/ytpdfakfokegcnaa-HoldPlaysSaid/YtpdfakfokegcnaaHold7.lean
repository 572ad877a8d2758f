/-
  Layer 21 (hold): which item has a number.
-/
import Derived.Test.YtpdfakfokegcnaaHold6
namespace Go.Proofs.Ytpdfakfokegcnaa
open Go.RowKit Go.Mine
attribute [local go_sem] m_push m_pop m_has m_first m_len m_less m_swap ta_item
attribute [local go_sem ↓] ld_item st_item
attribute [local go_sem] run_ld_item run_st_item cut_drew setCells_drew World.there_drew setCells_alloc_at there_alloc_at cut_alloc_at there_alloc_old cut_alloc_old fold_set_whole

/-- The first item of a number; -1: there is none. -/
def idx (xs : List Itm) (num : Int) : Int := match xs.findIdx? (fun x => x.num == num) with | some i => i | none => -1

theorem idx_some {xs : List Itm} {num : Int} {j : Nat} (hj : j < xs.length) (h : key kI xs j = num) (hb : ∀ k, k < j → key kI xs k ≠ num) : idx xs num = j := by
  have e : ∀ k (hk : k < xs.length), key kI xs k = xs[k].num := fun k hk => by unfold key; rw [List.getD_eq_getElem?_getD, List.getElem?_eq_getElem hk]; rfl
  have : xs.findIdx? (fun x => x.num == num) = some j := by
    rw [List.findIdx?_eq_some_iff_getElem]
    refine ⟨hj, by rw [← e j hj]; simpa using h, fun k hk => ?_⟩
    have := hb k hk
    rw [e k (by omega)] at this
    simpa using this
  unfold idx; rw [this]
theorem idx_none {xs : List Itm} {num : Int} (hb : ∀ k, k < xs.length → key kI xs k ≠ num) : idx xs num = -1 := by
  have e : ∀ k (hk : k < xs.length), key kI xs k = xs[k].num := fun k hk => by unfold key; rw [List.getD_eq_getElem?_getD, List.getElem?_eq_getElem hk]; rfl
  have : xs.findIdx? (fun x => x.num == num) = none := by
    rw [List.findIdx?_eq_none_iff]
    intro x hx
    obtain ⟨k, hk, rfl⟩ := List.getElem_of_mem hx
    have := hb k hk
    rw [e k hk] at this
    simpa using this
  unfold idx; rw [this]

set_option maxHeartbeats 400000 in
theorem clo_has (x : Itm) (b : Nat) (num : Int) (w : World) (hb : w.cell? ⟨b, 0, none⟩ = some (.int .i64 num)) :
    Calls Try.prog 92 #[.agg x.cells.toArray, .pointer (some ⟨b, 0, none⟩)] w fun e w' => e = .returned (.bool (x.num == num)) ∧ Mod none_ w w' := by
  have hbl := block_lt_of_cell hb
  have hx0 : x.cells.toArray[0]? = some (.int .i64 x.num) := rfl
  have hx1 : x.cells[0]? = some (.int .i64 x.num) := rfl
  go_enter Try.func92, Try.ntmps92
  go_wp2
  go_ret
  exact ⟨rfl, (Mod.refl _ w).alloc _⟩

set_option maxHeartbeats 400000 in
set_option maxRecDepth 1000000 in
theorem index_has (B lb g cap : Nat) (xs : List Itm) (more : List Value) (b : Nat) (num : Int) (w : World) (h : IRep B w lb g cap xs more) (hb : w.cell? ⟨b, 0, none⟩ = some (.int .i64 num)) :
    Calls Try.prog 41 #[.slice (some ⟨g, 0, none⟩) xs.length cap, .func (.func 92) #[] #[.pointer (some ⟨b, 0, none⟩)]] w fun e w' => e = .returned (.int .i64 (idx xs num)) ∧ Mod none_ w w' := by
  have H := Lib.hid h
  have hfew := h.few
  have hnc := h.nc
  have hcm := h.cm
  unfold maxLen at hcm
  have HB := Lib.hid hb
  clear h hb
  go_enter Try.func41, Try.ntmps41
  go_wp2_with fail
  go_loopw [8] (fun i wr => ∃ j : Nat, i = .int .i64 j ∧ j ≤ xs.length ∧ Hid (∀ k, k < j → key kI xs k ≠ num) ∧ Mod none_ w wr) (fun i _ => xs.length - (intOf i).toNat)
  case atStart => exact ⟨0, rfl, Nat.zero_le _, fun k hk => by omega, Mod.refl _ _⟩
  case round =>
    obtain ⟨j, rfl, hj, hq, hm⟩ := hrel
    have M := Lib.hid hm
    have R := Lib.hid (H.out.grown hm)
    have hbr := Lib.hid (hm.cell (p := ⟨b, 0, none⟩) (fun e => e) HB.out)
    clear hm
    by_cases hlt : j < xs.length
    · obtain ⟨x, hx⟩ : ∃ x, x = xs.getD j default := ⟨_, rfl⟩
      have hxj : xs[j]? = some x := by rw [hx]; exact getD_of_lt hlt
      have t1 : wr.there g (j * 12) 12 := R.out.hg.there _ _ (by rw [List.length_append, flat_length Itm.len]; omega)
      have c1 := cut_of_range (Blk.range Itm.len R.out.hg j x hxj) x.len
      have hk : key kI xs j = x.num := by unfold key; rw [hx]
      have HK := Lib.hid hk
      clear hx hxj hk
      by_cases hn : x.num = num
      · have hd : (x.num == num) = true := by simpa using hn
        have HE := Lib.hid hn
        clear hn
        go_wp2_with (go_at_call 92; refine (clo_has x b num wr hbr.out).mono ?_; rw [hd]; rintro e w1 ⟨rfl, m1⟩; have M1 := Lib.hid m1; clear m1)
        go_ret
        exact ⟨by rw [idx_some hlt (HK.out.trans HE.out) hq.out]; rfl, M.out.trans M1.out⟩
      · have hd : (x.num == num) = false := by simpa using hn
        have HE := Lib.hid hn
        clear hn
        go_wp2_with (go_at_call 92; refine (clo_has x b num wr hbr.out).mono ?_; rw [hd]; rintro e w1 ⟨rfl, m1⟩; have M1 := Lib.hid m1; clear m1)
        exact ⟨⟨j + 1, by go_num, by omega, fun k hk => by
          by_cases e : k = j
          · subst e; rw [HK.out]; exact HE.out
          · exact hq.out k (by omega), M.out.trans M1.out⟩, by simp [intOf]; omega⟩
    · obtain rfl : j = xs.length := by omega
      go_wp2_with fail
      go_ret
      exact ⟨by rw [idx_none hq.out]; rfl, M.out⟩

set_option maxHeartbeats 400000 in
theorem clo_drop (x : Itm) (b : Nat) (num : Int) (w : World) (hb : w.cell? ⟨b, 0, none⟩ = some (.int .i64 num)) :
    Calls Try.prog 42 #[.agg x.cells.toArray, .pointer (some ⟨b, 0, none⟩)] w fun e w' => e = .returned (.bool (x.num == num)) ∧ Mod none_ w w' := by
  have hbl := block_lt_of_cell hb
  have hx0 : x.cells.toArray[0]? = some (.int .i64 x.num) := rfl
  have hx1 : x.cells[0]? = some (.int .i64 x.num) := rfl
  go_enter Try.func42, Try.ntmps42
  go_wp2
  go_ret
  exact ⟨rfl, (Mod.refl _ w).alloc _⟩

set_option maxHeartbeats 400000 in
set_option maxRecDepth 1000000 in
theorem index_drop (B lb g cap : Nat) (xs : List Itm) (more : List Value) (b : Nat) (num : Int) (w : World) (h : IRep B w lb g cap xs more) (hb : w.cell? ⟨b, 0, none⟩ = some (.int .i64 num)) :
    Calls Try.prog 41 #[.slice (some ⟨g, 0, none⟩) xs.length cap, .func (.func 42) #[] #[.pointer (some ⟨b, 0, none⟩)]] w fun e w' => e = .returned (.int .i64 (idx xs num)) ∧ Mod none_ w w' := by
  have H := Lib.hid h
  have hfew := h.few
  have hnc := h.nc
  have hcm := h.cm
  unfold maxLen at hcm
  have HB := Lib.hid hb
  clear h hb
  go_enter Try.func41, Try.ntmps41
  go_wp2_with fail
  go_loopw [8] (fun i wr => ∃ j : Nat, i = .int .i64 j ∧ j ≤ xs.length ∧ Hid (∀ k, k < j → key kI xs k ≠ num) ∧ Mod none_ w wr) (fun i _ => xs.length - (intOf i).toNat)
  case atStart => exact ⟨0, rfl, Nat.zero_le _, fun k hk => by omega, Mod.refl _ _⟩
  case round =>
    obtain ⟨j, rfl, hj, hq, hm⟩ := hrel
    have M := Lib.hid hm
    have R := Lib.hid (H.out.grown hm)
    have hbr := Lib.hid (hm.cell (p := ⟨b, 0, none⟩) (fun e => e) HB.out)
    clear hm
    by_cases hlt : j < xs.length
    · obtain ⟨x, hx⟩ : ∃ x, x = xs.getD j default := ⟨_, rfl⟩
      have hxj : xs[j]? = some x := by rw [hx]; exact getD_of_lt hlt
      have t1 : wr.there g (j * 12) 12 := R.out.hg.there _ _ (by rw [List.length_append, flat_length Itm.len]; omega)
      have c1 := cut_of_range (Blk.range Itm.len R.out.hg j x hxj) x.len
      have hk : key kI xs j = x.num := by unfold key; rw [hx]
      have HK := Lib.hid hk
      clear hx hxj hk
      by_cases hn : x.num = num
      · have hd : (x.num == num) = true := by simpa using hn
        have HE := Lib.hid hn
        clear hn
        go_wp2_with (go_at_call 42; refine (clo_drop x b num wr hbr.out).mono ?_; rw [hd]; rintro e w1 ⟨rfl, m1⟩; have M1 := Lib.hid m1; clear m1)
        go_ret
        exact ⟨by rw [idx_some hlt (HK.out.trans HE.out) hq.out]; rfl, M.out.trans M1.out⟩
      · have hd : (x.num == num) = false := by simpa using hn
        have HE := Lib.hid hn
        clear hn
        go_wp2_with (go_at_call 42; refine (clo_drop x b num wr hbr.out).mono ?_; rw [hd]; rintro e w1 ⟨rfl, m1⟩; have M1 := Lib.hid m1; clear m1)
        exact ⟨⟨j + 1, by go_num, by omega, fun k hk => by
          by_cases e : k = j
          · subst e; rw [HK.out]; exact HE.out
          · exact hq.out k (by omega), M.out.trans M1.out⟩, by simp [intOf]; omega⟩
    · obtain rfl : j = xs.length := by omega
      go_wp2_with fail
      go_ret
      exact ⟨by rw [idx_none hq.out]; rfl, M.out⟩

set_option maxHeartbeats 400000 in
set_option maxRecDepth 1000000 in
theorem items_has (B lb g cap : Nat) (xs : List Itm) (more : List Value) (num : Int) (w : World) (h : IRep B w lb g cap xs more) :
    Calls Try.prog 90 #[.pointer (some ⟨lb, 0, none⟩), .int .i64 num] w fun e w' => e = .returned (.bool (decide (0 ≤ idx xs num))) ∧ Mod none_ w w' := by
  have c0 := h.c0
  have hll := h.hl.lt
  have H := Lib.hid h
  clear h
  go_enter Try.func90, Try.ntmps90
  go_wp2_with fail
  go_in
  go_wp2_with fail
  refine (index_has B lb g cap xs more w.heap.size num _ (by exact H.out.grown ((Mod.refl none_ w).alloc _)) (by simp [go_sem])).mono ?_
  rintro e w1 ⟨rfl, m1⟩
  have M1 := Lib.hid m1
  clear m1
  go_wp2
  go_ret
  exact ⟨rfl, ((Mod.refl none_ w).alloc _).trans M1.out⟩

set_option maxHeartbeats 400000 in
theorem items_first (B lb g cap : Nat) (xs : List Itm) (more : List Value) (w : World) (h : IRep B w lb g cap xs more) :
    Calls Try.prog 89 #[.pointer (some ⟨lb, 0, none⟩)] w fun e w' => e = .returned (.int .i64 (if xs.length = 0 then 0 else key kI xs 0)) ∧ w = w' := by
  have c0 := h.c0
  have hcm := h.cm
  have hnc := h.nc
  unfold maxLen at hcm
  by_cases h0 : xs.length = 0
  · rw [if_pos h0]
    rw [h0] at c0
    clear h h0
    go_enter Try.func89, Try.ntmps89
    go_wp2
    go_ret
    exact ⟨rfl, rfl⟩
  · rw [if_neg h0]
    have hne : ((xs.length : Int) == 0) = false := by rw [beq_eq_false_iff_ne]; omega
    have c1 : w.cell? ⟨g, 0, none⟩ = some (.int .i64 (key kI xs 0)) := by
      have := Blk.elem Itm.len h.hg 0 0 _ (getD_of_lt (by omega)) (by decide)
      simpa [Itm.cells, key] using this
    have hp : 0 < xs.length := by omega
    generalize key kI xs 0 = q at *
    clear h h0
    go_enter Try.func89, Try.ntmps89
    go_wp2
    go_ret
    exact ⟨rfl, rfl⟩

end Go.Proofs.Ytpdfakfokegcnaa
