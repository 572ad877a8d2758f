/-
  Layer 21 (hold): the items as they lie in memory; Len, Less, Swap, first.
-/
import Derived.Test.YtpdfakfokegcnaaRows_
import Derived.Test.YtpdfakfokegcnaaRows
namespace Go.Proofs.Ytpdfakfokegcnaa
open Go.RowKit Go.Mine

/-- An item: its number, and the message's cells. -/
structure Itm where
  num : Int
  m : List Value
  hm : m.length = 11
  one : ∀ v ∈ m, v.oneCell' = true

def Itm.cells (x : Itm) : List Value := .int .i64 x.num :: x.m
theorem Itm.len (x : Itm) : x.cells.length = 12 := by simp [Itm.cells, x.hm]
theorem Itm.ones (x : Itm) : ∀ v ∈ x.cells, v.oneCell' = true := by
  intro v hv
  rcases List.mem_cons.1 hv with rfl | h
  · rfl
  · exact x.one v h

theorem Try.itemSize : (Try.prog.info? 94).map (·.size) = some 12 := by kernel_rfl
theorem Try.itemUnder : ∃ fs, Try.prog.underlying 94 = some (.struct fs) := ⟨_, Try.underlying94⟩

theorem ld_item (ρ : Operand → Value) (dst : Option Tmp) (x : Operand) (ty : TypeId) (pos : String) (after : Array Edge) (guard : Option (Nat × Bool)) :
    execOp ρ { dst, op := .load 94 x, type := ty, pos, after, guard } = (do pure (.value (← ldRow 94 (ρ x)))) := rfl
theorem st_item (ρ : Operand → Value) (dst : Option Tmp) (x y : Operand) (ty : TypeId) (pos : String) (after : Array Edge) (guard : Option (Nat × Bool)) :
    execOp ρ { dst, op := .store 94 x y, type := ty, pos, after, guard } = (do stRow 94 (ρ x) (ρ y); pure .skip) := rfl
theorem run_ld_item (w : World) (g o : Nat) (h : w.there g o 12) : (ldRow 94 (.pointer (some ⟨g, o, none⟩))).run Try.prog w = .ok (.agg (cut w g o 12).toArray) w :=
  run_ldRow Try.underlying94 Try.itemSize w g o h
theorem run_st_item (w : World) (g o : Nat) (x : Itm) (h : w.there g o 12) : (stRow 94 (.pointer (some ⟨g, o, none⟩)) (.agg x.cells.toArray)).run Try.prog w = .ok () (w.setCells g o x.cells) :=
  run_stRow Try.itemSize w g o x.cells x.len x.ones h

attribute [local go_sem ↓] ld_item st_item
attribute [local go_sem] run_ld_item run_st_item cut_drew setCells_drew World.there_drew

set_option maxHeartbeats 400000 in
theorem items_len (ao : Option Addr) (n cap : Nat) (w : World) : Calls Try.prog 84 #[.slice ao n cap] w fun e w' => e = .returned (.int .i64 n) ∧ w = w' := by
  go_enter Try.func84, Try.ntmps84
  go_wp2
  go_ret
  exact ⟨rfl, rfl⟩

set_option maxHeartbeats 400000 in
theorem items_less (g n cap i j : Nat) (xs : List Itm) (more : List Value) (x y : Itm) (w : World) (h : Blk w g (flat Itm.cells xs ++ more) 94) (hn : xs.length = n) (hnc : n ≤ cap) (hcm : cap ≤ 9223372036854775807) (hx : xs[i]? = some x) (hy : xs[j]? = some y) :
    Calls Try.prog 85 #[.slice (some ⟨g, 0, none⟩) n cap, .int .i64 i, .int .i64 j] w fun e w' => e = .returned (.bool (decide (x.num < y.num))) ∧ Mod none_ w w' := by
  have c1 : w.cell? ⟨g, i * 12, none⟩ = some (.int .i64 x.num) := by have := Blk.elem Itm.len h i 0 x hx (by decide); simpa [Itm.cells] using this
  have c2 : w.cell? ⟨g, j * 12, none⟩ = some (.int .i64 y.num) := by have := Blk.elem Itm.len h j 0 y hy (by decide); simpa [Itm.cells] using this
  have hi : i < n := by rw [← hn]; exact (List.getElem?_eq_some_iff.1 hx).1
  have hj : j < n := by rw [← hn]; exact (List.getElem?_eq_some_iff.1 hy).1
  clear h hx hy hn
  go_enter Try.func85, Try.ntmps85
  go_wp2
  go_quiet (fail)
  go_wp2
  go_ret
  exact ⟨rfl, (Mod.refl _ w).drewN _⟩

set_option maxHeartbeats 400000 in
theorem items_swap (g n cap i j : Nat) (xs : List Itm) (more : List Value) (x y : Itm) (w : World) (h : Blk w g (flat Itm.cells xs ++ more) 94) (hn : xs.length = n) (hnc : n ≤ cap) (hcm : cap ≤ 9223372036854775807) (hx : xs[i]? = some x) (hy : xs[j]? = some y) :
    Calls Try.prog 88 #[.slice (some ⟨g, 0, none⟩) n cap, .int .i64 i, .int .i64 j] w fun e w' => e = .returned (.tuple #[]) ∧ Blk w' g (flat Itm.cells ((xs.set i y).set j x) ++ more) 94 ∧ Mod (one g) w w' := by
  have hi : i < xs.length := (List.getElem?_eq_some_iff.1 hx).1
  have hj : j < xs.length := (List.getElem?_eq_some_iff.1 hy).1
  have hl := flat_length Itm.len xs
  have t1 : w.there g (i * 12) 12 := h.there _ _ (by rw [List.length_append, hl]; omega)
  have t2 : w.there g (j * 12) 12 := h.there _ _ (by rw [List.length_append, hl]; omega)
  have c1 := cut_of_range (Blk.range Itm.len h i x hx) x.len
  have c2 := cut_of_range (Blk.range Itm.len h j y hy) y.len
  obtain ⟨b1, m1⟩ := Blk.put Itm.len h i hi y
  have t3 : (w.setCells g (i * 12) y.cells).there g (j * 12) 12 := b1.there _ _ (by rw [List.length_append, flat_length Itm.len, List.length_set]; omega)
  obtain ⟨b2, m2⟩ := Blk.put Itm.len b1 j (by simpa using hj) x
  have X : Aside (Blk ((w.setCells g (i * 12) y.cells).setCells g (j * 12) x.cells) g (flat Itm.cells ((xs.set i y).set j x) ++ more) 94 ∧ Mod (one g) w ((w.setCells g (i * 12) y.cells).setCells g (j * 12) x.cells)) := ⟨b2, m1.trans m2⟩
  rw [hn] at hi hj
  clear h hx hy hn b1 b2 m1 m2 hl
  go_enter Try.func88, Try.ntmps88
  go_wp2
  go_region
  all_goals (go_wp2; go_end0)
  all_goals exact ⟨rfl, X.out.1, X.out.2.drew⟩

end Go.Proofs.Ytpdfakfokegcnaa
