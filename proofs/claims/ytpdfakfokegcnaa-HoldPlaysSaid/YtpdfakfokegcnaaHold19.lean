/-
  Layer 21 (hold): Held.
-/
import Derived.Test.YtpdfakfokegcnaaHold18
import Derived.Test.YtpdfakfokegcnaaHoldSort
namespace Go.Proofs.Ytpdfakfokegcnaa
open Go.RowKit Go.Mine
attribute [local go_sem ↓] ld_item st_item
attribute [local go_sem] run_ld_item run_st_item cut_drew setCells_drew World.there_drew setCells_alloc_at there_alloc_at cut_alloc_at there_alloc_old cut_alloc_old fold_set_whole

theorem Try.infoInt : (Try.prog.info? 3).map (fun i => (i.zero, i.size, i.bytes)) = some (some (.int .i64 0), 1, 8) := by kernel_rfl

/-- Integers that lie in a row. -/
structure ZRow (w : World) (a : Option Addr) (len cap : Nat) (zs : List Int) : Prop where
  n : zs.length = len
  le : len ≤ cap
  big : cap ≤ maxLen
  cells : ∀ i z, zs[i]? = some z → ∃ g, a = some ⟨g, 0, none⟩ ∧ w.cell? ⟨g, i, none⟩ = some (.int .i64 z)

/-- Two ordered rows of the same numbers are one row. -/
theorem sorted_eq : ∀ {a b : List Int}, a.Perm b → a.Pairwise (· ≤ ·) → b.Pairwise (· ≤ ·) → a = b
  | [], b, h, _, _ => (List.nil_perm.1 h).symm ▸ rfl
  | x :: a, [], h, _, _ => by have := h.length_eq; simp at this
  | x :: a, y :: b, h, ha, hb => by
    have ha' := List.pairwise_cons.1 ha
    have hb' := List.pairwise_cons.1 hb
    have e : x = y := by
      have h1 : y ∈ x :: a := h.mem_iff.2 (List.mem_cons_self ..)
      have h2 : x ∈ y :: b := h.mem_iff.1 (List.mem_cons_self ..)
      rcases List.mem_cons.1 h1 with q | q
      · exact q.symm
      · rcases List.mem_cons.1 h2 with r | r
        · exact r
        · have := ha'.1 y q; have := hb'.1 x r; omega
    subst e
    rw [sorted_eq ((List.perm_cons x).1 h) ha'.2 hb'.2]

/-- Items by rising numbers. -/
def Rising (L : List Itm) : Prop := L.Pairwise fun x y => x.num < y.num

theorem sort_rising {xs L : List Itm} (h : xs.Perm L) (hr : Rising L) : (xs.map Itm.num).mergeSort (fun x y => decide (x ≤ y)) = L.map Itm.num := by
  apply sorted_eq
  · exact (List.mergeSort_perm _ _).trans (h.map Itm.num)
  · have := List.pairwise_mergeSort (le := fun x y : Int => decide (x ≤ y)) (fun a b c h1 h2 => by simp at *; omega) (fun a b => by simp; omega) (xs.map Itm.num)
    exact this.imp (fun h => by simpa using h)
  · rw [List.pairwise_map]
    exact hr.imp (fun h => Int.le_of_lt h)

theorem sort_own' (B g cap n : Nat) (zs : List Int) (t : TypeId) (w : World) (hn : zs.length = n) (h : w.ownsRow B t 1 (.slice (some ⟨g, 0, none⟩) n cap) n (zs.map (Value.int .i64))) (hsz : n < 4611686018427387904) :
    Calls Try.prog 44 #[.slice (some ⟨g, 0, none⟩) n cap] w fun e w' => e = .returned (.tuple #[]) ∧
      w'.ownsRow B t 1 (.slice (some ⟨g, 0, none⟩) n cap) n ((zs.mergeSort fun x y => decide (x ≤ y)).map (Value.int .i64)) ∧ w.grownBy w' (some g) := by
  subst hn; exact sort_own B g cap zs t w h hsz

theorem held_mod {w wr W1 w1 : World} {v : Value} {t : TypeId} {n : Nat} {xs : List Value} (h : Mod none_ w wr) (m : Mod none_ wr W1) (ho : wr.ownsRow w.heap.size t 1 v n xs) (hg : W1.grownBy w1 v.ownBlock) : Mod none_ w w1 := by
  have hob : ∀ k, v.ownBlock = some k → w.heap.size ≤ k := fun k hk => by
    rcases ownsRow_blk ho with ⟨rfl, _, _⟩ | ⟨g, cap, more, rfl, hB, hb, _⟩
    · cases hk
    · cases hk; exact hB
  have m1 : Mod (fun k => v.ownBlock = some k) W1 w1 := (Mod.refl _ _).grown hg (fun k hk _ => hk)
  exact (h.trans m).transIn m1 (fun k hk e => by have := hob _ e; omega)

set_option maxHeartbeats 400000 in
set_option maxRecDepth 1000000 in
theorem qheld_any (B p lb g : Nat) (next : Int) (L : List Itm) (w : World) (h : QIs B w p lb g next L) (hr : Rising L) :
    Calls Try.prog 31 #[.pointer (some ⟨p, 0, none⟩)] w fun e w' => ∃ a' cap', e = .returned (.slice a' L.length cap') ∧ ZRow w' a' L.length cap' (L.map Itm.num) ∧ Mod none_ w w' := by
  obtain ⟨cap, xs, more, h, hperm⟩ := h
  obtain ⟨i0, hi0, hz0, hz1, hz2⟩ := info_parts Try.infoInt
  have c2 := h.c2
  have c3 := h.it.c0
  have hpl := h.hp.lt
  have hll := h.it.hl.lt
  have H := Lib.hid h
  have P := Lib.hid hperm
  have HR := Lib.hid hr
  have hfew := h.len
  have hnc := h.it.nc
  have hcm := h.it.cm
  unfold maxLen at hcm
  clear h hperm hr
  go_enter Try.func31, Try.ntmps31
  go_wp2_with fail
  go_loopw [3, 15] (fun v i wr => ∃ j : Nat, i = .int .i64 j ∧ j ≤ xs.length ∧ wr.ownsRow w.heap.size 3 1 v j (((xs.take j).map Itm.num).map (Value.int .i64)) ∧ Mod none_ w wr) (fun _ i _ => xs.length - (intOf i).toNat)
  case atStart => exact ⟨0, rfl, Nat.zero_le _, ⟨rfl, .inl ⟨rfl, rfl⟩⟩, Mod.refl _ _⟩
  case round =>
    obtain ⟨j, rfl, hj, ho, hm⟩ := hrel
    have O := Lib.hid ho
    have M := Lib.hid hm
    have R := Lib.hid (H.out.it.grown hm)
    have hsz := hm.size
    clear ho hm
    by_cases hlt : j < xs.length
    · obtain ⟨x, hx⟩ : ∃ x, x = xs.getD j default := ⟨_, rfl⟩
      have hxj : xs[j]? = some x := by rw [hx]; exact getD_of_lt hlt
      have t1 : wr.there g (j * 12) 12 := R.out.hg.there _ _ (by rw [List.length_append, flat_length Itm.len]; omega)
      have c1 := cut_of_range (Blk.range Itm.len R.out.hg j x hxj) x.len
      have xl := x.len
      have hx0 : x.cells.toArray[0]? = some (.int .i64 x.num) := rfl
      have hx2 : ∀ h, x.cells[0]'h = Value.int .i64 x.num := fun _ => rfl
      have HXJ := Lib.hid hxj
      clear hx hxj
      go_wp2_with (at_builtin; refine wpList_append_own _ rfl (.tmp 19) (.tmp 22) 69 rfl w.heap.size 3 i0 _ 1 8 Try.underlying69 hi0 hz0 hz1 hz2 rfl (by decide) _ j _ rfl (by exact ownsRow_mod O.out (((Mod.refl none_ wr).alloc (.cells x.cells.toArray 94)).alloc (.cells #[.int .i64 x.num] 3)) (fun _ _ e => e)) ⟨wr.heap.size + 1, 0, none⟩ 1 1 [.int .i64 x.num] rfl rfl (World.news_of_block (heap_alloc2_new wr _ _)) (by intro u hu; simp at hu; subst hu; rfl) (by unfold maxLen; omega) (by omega) (by simp; omega) ?_; intro v' w1 ho hg _; have HO := Lib.hid ho; have HG := Lib.hid hg; clear ho hg)
      have htk : ((xs.take (j + 1)).map Itm.num).map (Value.int .i64) = ((xs.take j).map Itm.num).map (Value.int .i64) ++ [.int .i64 x.num] := by rw [take_next HXJ.out]; simp
      exact ⟨⟨j + 1, by go_num, by omega, by rw [htk]; exact HO.out, held_mod M.out (((Mod.refl none_ wr).alloc _).alloc _) O.out HG.out⟩, by simp [intOf]; omega⟩
    · obtain rfl : j = xs.length := by omega
      rw [List.take_length] at O
      rcases ownsRow_blk O.out with ⟨rfl, h0, _⟩ | ⟨g1, cap1, more1, rfl, hB, hb, hnc1, hcm1, hl1⟩
      · have HX : Aside (xs = []) := (List.eq_nil_of_length_eq_zero h0 : xs = [])
        clear h0
        go_wp2_with fail
        refine (sort_nil 0 none wr).mono ?_
        rintro e w1 ⟨rfl, rfl⟩
        go_wp2_with fail
        go_ret
        have hL : L = [] := by
          have := P.out
          rw [HX.out] at this
          exact List.nil_perm.1 this
        subst hL
        exact ⟨none, 0, rfl, ⟨rfl, by simp, by unfold maxLen; simp, by simp⟩, M.out⟩
      · have HO := Lib.hid O.out
        have hlen : (xs.map Itm.num).length = xs.length := List.length_map ..
        clear hb hl1 hlt hj
        go_wp2_with fail
        refine (sort_own' w.heap.size g1 cap1 xs.length (xs.map Itm.num) 3 wr hlen HO.out (by omega)).mono ?_
        rintro e w1 ⟨rfl, ho, hg⟩
        rw [sort_rising P.out HR.out] at ho
        have HO2 := Lib.hid ho
        have HG := Lib.hid hg
        clear ho hg
        go_wp2_with fail
        go_ret
        have hle := P.out.length_eq
        rw [hle]
        refine ⟨some ⟨g1, 0, none⟩, cap1, rfl, ⟨List.length_map .., by omega, hcm1, fun i z hz => ⟨g1, rfl, ?_⟩⟩, held_mod M.out (Mod.refl none_ wr) O.out HG.out⟩
        have hi := (List.getElem?_eq_some_iff.1 hz).1
        rw [List.length_map] at hi
        rw [HO2.out.cellAt i (by omega), List.getElem?_map, hz]; rfl

end Go.Proofs.Ytpdfakfokegcnaa
