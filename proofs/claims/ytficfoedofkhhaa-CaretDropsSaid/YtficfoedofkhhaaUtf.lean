/-
  unicode/utf8 by the shelf: ValidRune, AppendRune, DecodeRuneInString, in the words of Mod.
-/
import Derived.Shelf.Lay
import Derived.Shelf.Small.Utf8
import Derived.Shelf.Utf8.AppendRunePlain
import Derived.Shelf.Unicode.DecodeAny
import Derived.Shelf.Unicode.Decode
import Derived.Test.YtficfoedofkhhaaProg
import Derived.Test.YtficfoedofkhhaaRunes
namespace Go.Proofs.Ytficfoedofkhhaa
open Go.Shelf Go.RowKit Go.Mine
def Try.lays119_ren : Go.Shelf.Ren := ⟨fun | 119 => 43 | n => n, fun | 21 => 21 | 4 => 4 | n => n, fun | n => n⟩
theorem Try.lays119 : Go.Proofs.Lays.n119 Try.prog Try.lays119_ren := {
  mixed := by kernel_rfl
  f119 := Try.func43.trans (congrArg some (by kernel_rfl))
  t4 := Try.underlying4
  a4 := Try.isAgg4
  z4 := Try.sizeOf4
  v4 := Try.zeroValue4
  t21 := Try.underlying21
  a21 := Try.isAgg21
  z21 := Try.sizeOf21
  v21 := Try.zeroValue21 }
def Try.lays242_ren : Go.Shelf.Ren := ⟨fun | 242 => 44 | 278 => 46 | n => n, fun | 37 => 101 | 21 => 21 | 51 => 109 | 4 => 4 | 5 => 5 | 46 => 110 | n => n, fun | n => n⟩
theorem Try.lays242 : Go.Proofs.Lays.n242 Try.prog Try.lays242_ren := {
  mixed := by kernel_rfl
  f242 := Try.func44.trans (congrArg some (by kernel_rfl))
  f278 := Try.func46.trans (congrArg some (by kernel_rfl))
  t4 := Try.underlying4
  a4 := Try.isAgg4
  z4 := Try.sizeOf4
  v4 := Try.zeroValue4
  t5 := Try.underlying5
  a5 := Try.isAgg5
  z5 := Try.sizeOf5
  v5 := Try.zeroValue5
  t21 := Try.underlying21
  a21 := Try.isAgg21
  z21 := Try.sizeOf21
  v21 := Try.zeroValue21
  t37 := Try.underlying101
  a37 := Try.isAgg101
  z37 := Try.sizeOf101
  v37 := Try.zeroValue101
  t46 := Try.underlying110
  a46 := Try.isAgg110
  z46 := Try.sizeOf110
  v46 := Try.zeroValue110
  t51 := Try.underlying109
  a51 := Try.isAgg109
  z51 := Try.sizeOf109
  v51 := Try.zeroValue109 }
def Try.lays197_ren : Go.Shelf.Ren := ⟨fun | 197 => 75 | 260 => 76 | n => n, fun | 9 => 9 | 21 => 21 | 3 => 3 | 4 => 4 | 5 => 5 | 105 => 134 | 119 => 136 | 0 => 0 | 46 => 110 | 139 => 139 | 138 => 138 | n => n, fun | 3 => 0 | 4 => 1 | n => n⟩
theorem Try.lays197 : Go.Proofs.Lays.n197 Try.prog Try.lays197_ren := {
  mixed := by kernel_rfl
  f197 := Try.func75.trans (congrArg some (by kernel_rfl))
  f260 := Try.func76.trans (congrArg some (by kernel_rfl))
  t0 := Try.underlying0
  a0 := Try.isAgg0
  z0 := Try.sizeOf0
  v0 := Try.zeroValue0
  t3 := Try.underlying3
  a3 := Try.isAgg3
  z3 := Try.sizeOf3
  v3 := Try.zeroValue3
  t4 := Try.underlying4
  a4 := Try.isAgg4
  z4 := Try.sizeOf4
  v4 := Try.zeroValue4
  t5 := Try.underlying5
  a5 := Try.isAgg5
  z5 := Try.sizeOf5
  v5 := Try.zeroValue5
  t9 := Try.underlying9
  a9 := Try.isAgg9
  z9 := Try.sizeOf9
  v9 := Try.zeroValue9
  t21 := Try.underlying21
  a21 := Try.isAgg21
  z21 := Try.sizeOf21
  v21 := Try.zeroValue21
  t46 := Try.underlying110
  a46 := Try.isAgg110
  z46 := Try.sizeOf110
  v46 := Try.zeroValue110
  t105 := Try.underlying134
  a105 := Try.isAgg134
  z105 := Try.sizeOf134
  v105 := Try.zeroValue134
  t119 := Try.underlying136
  a119 := Try.isAgg136
  z119 := Try.sizeOf136
  t138 := Try.underlying138
  a138 := Try.isAgg138
  z138 := Try.sizeOf138
  v138 := Try.zeroValue138
  t139 := Try.underlying139
  a139 := Try.isAgg139
  z139 := Try.sizeOf139
  v139 := Try.zeroValue139
  g3 := by kernel_rfl
  g4 := by kernel_rfl }

/-- The decoder's two tables lie as their initialisers lay them. -/
def tabsOk (w : World) : Prop := Lib.Utf8Tabs (Try.lays197_ren.g 3) (Try.lays197_ren.g 4) w
def ascii (s : ByteArray) : Prop := ∀ i, i < s.size → (s.get! i).toNat < 128
/-- s can be read in w. -/
def txtOk (w : World) (s : ByteArray) : Prop := tabsOk w ∨ ascii s

theorem tabsOk.mod {S : Nat → Prop} {w w' : World} (h : tabsOk w) (m : Mod S w w') (hs : ∀ b, b < w.heap.size → (b = Try.lays197_ren.g 3 ∨ b = Try.lays197_ren.g 4) → ¬ S b) : tabsOk w' :=
  ⟨fun c hc => m.cell (hs _ (block_lt_of_cell (h.1 c hc)) (.inl rfl)) (h.1 c hc),
   fun i hi => ⟨m.cell (hs _ (block_lt_of_cell (h.2 i hi).1) (.inr rfl)) (h.2 i hi).1, m.cell (hs _ (block_lt_of_cell (h.2 i hi).2) (.inr rfl)) (h.2 i hi).2⟩⟩
theorem txtOk.grown {w w' : World} {s : ByteArray} (h : txtOk w s) (m : Mod none_ w w') : txtOk w' s := h.imp (fun t => t.mod m (fun _ _ _ e => e)) id
theorem txtOk.below {w w' : World} {s : ByteArray} (h : txtOk w s) (m : Below w.heap.size w w') : txtOk w' s := h.imp (fun t => t.mod (Mod.below m) (fun b hb _ e => by have e' : w.heap.size ≤ b := e; omega)) id
theorem ascii.tl {s : ByteArray} (h : ascii s) (n : Nat) : ascii (tl s n) := fun i hi => by
  rw [tl_size] at hi
  rw [tl_get s n i (by omega)]
  exact h _ (by omega)
theorem txtOk.tl {w : World} {s : ByteArray} (h : txtOk w s) (n : Nat) : txtOk w (tl s n) := h.imp id (fun t => t.tl n)
theorem below_none {w w' : World} (h : Below w.heap.size w w') : Mod none_ w w' := (Mod.below h).mono (fun k hk e => by have e' : w.heap.size ≤ k := e; omega)

theorem valid_any (r : Int) (w : World) : Calls Try.prog 43 #[.int .i32 r] w fun e w' => e = .returned (.bool (Lib.validRune r)) ∧ w' = w := Any.utf8_ValidRune Try.lays119 r w
theorem decode_any (s : ByteArray) (w : World) (h0 : s.size ≠ 0) (h : txtOk w s) : Calls Try.prog 75 #[.string s] w fun e w' => e = .returned (.tuple #[.int .i32 ((Lib.decodeGo s).1 : Int), .int .i64 ((Lib.decodeGo s).2 : Int)]) ∧ Mod none_ w w' := by
  rcases h with h | h
  · refine (Any.utf8_DecodeRuneInString Try.lays197 s w h).mono ?_
    rintro e w' ⟨he, hb⟩
    exact ⟨he, below_none hb⟩
  · have hx : s.data.toList[0]? = some (s.get! 0) := by
      have hs : s.data.size ≠ 0 := h0
      have e : s.get! 0 = s.data[0]! := rfl
      rw [e, Array.getElem?_toList, Array.getElem?_eq_getElem (by omega), getElem!_def, Array.getElem?_eq_getElem (by omega)]
    have hlt := h 0 (by omega)
    refine (Any.utf8_DecodeRuneInString_ascii Try.lays197 s (s.get! 0) w hx hlt).mono ?_
    rintro e w' ⟨he, rfl⟩
    refine ⟨?_, Mod.refl _ _⟩
    rw [he]
    have e2 : Lib.decodeGo s = ((s.get! 0).toNat, 1) := by
      rw [decodeGo_eq h0]
      unfold Lib.decodeN
      rw [if_pos hlt]
    rw [e2]
    rfl
theorem infoU8 : (Try.prog.info? 5).map (fun i => (i.zero, i.size, i.bytes)) = some (some (.int .u8 0), 1, 1) := by kernel_rfl
theorem append_any (B : Nat) (v : Value) (n : Nat) (xs : List Value) (r : Int) (h1 : -2147483648 ≤ r) (h2 : r ≤ 2147483647) (w : World) (hown : w.ownsRow B 5 1 v n xs) (hn : n + 4 ≤ 140737488355328) (hB : B ≤ w.heap.size) :
    Calls Try.prog 44 #[v, .int .i32 r] w fun e w' => ∃ v', e = .returned v' ∧ w'.ownsRow B 5 1 v' (n + (Lib.runeCells r).length) (xs ++ Lib.runeCells r) ∧ ∃ o, (w.alloc o).grownBy w' v.ownBlock :=
  Any.utf8_AppendRune_plain Try.lays242 infoU8 B v n xs r h1 h2 w hown hn hB

end Go.Proofs.Ytficfoedofkhhaa
