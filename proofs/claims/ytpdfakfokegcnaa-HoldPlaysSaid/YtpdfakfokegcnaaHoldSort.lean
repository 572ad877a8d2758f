/-
  slices.Sort at []int: the shelf's contract laid at this dump, in the words of Mod and Blk.
-/
import Derived.Shelf.Lay
import Derived.Shelf.Sort.Plain
import Derived.Shelf.Slices.In.SortNone
import Derived.Sort.OwnSortedInts
import Derived.Test.YtpdfakfokegcnaaHold1
namespace Go.Proofs.Ytpdfakfokegcnaa
open Go.Shelf Go.Sort Go.RowKit Go.Mine
shelf_lay Lays.n189 Nm 189 at Try as Try.lays189

theorem sort_nil (cap : Nat) (p : Option Addr) (w : World) : Calls Try.prog 44 #[.slice p 0 cap] w fun e w' => e = .returned (.tuple #[]) ∧ w' = w :=
  calls_of_every_depth fun D => AnyS.slices_Sort_int_none_in Try.lays189 D p cap w

theorem sort_own (B g cap : Nat) (zs : List Int) (t : TypeId) (w : World) (h : w.ownsRow B t 1 (.slice (some ⟨g, 0, none⟩) zs.length cap) zs.length (zs.map (Value.int .i64))) (hsz : zs.length < 4611686018427387904) :
    Calls Try.prog 44 #[.slice (some ⟨g, 0, none⟩) zs.length cap] w fun e w' => e = .returned (.tuple #[]) ∧
      w'.ownsRow B t 1 (.slice (some ⟨g, 0, none⟩) zs.length cap) zs.length ((zs.mergeSort fun x y => decide (x ≤ y)).map (Value.int .i64)) ∧ w.grownBy w' (some g) := by
  rcases h.2 with ⟨h0, _⟩ | ⟨g', cap', cur, hv, hg, hb, hn, hcap, hs, ht⟩
  · cases h0
  cases hv
  rw [Nat.mul_one] at ht
  refine (Any.slices_Sort_int Try.lays189 g 0 cap zs w (holds_of_blockI hb ht) (Array.getElem?_eq_some_iff.1 hb).1 hsz).mono ?_
  rintro e w' ⟨rfl, n, os, rfl⟩
  have hl : (zs.mergeSort fun x y => decide (x ≤ y)).length = zs.length := List.length_mergeSort _
  exact ⟨rfl, ownsRow_sortedI hl hg hb hn hcap hs, grownBy_sortedI _⟩

end Go.Proofs.Ytpdfakfokegcnaa
