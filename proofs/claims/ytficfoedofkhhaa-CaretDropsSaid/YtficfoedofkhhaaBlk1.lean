/-
  Layer 9 of the document (foolscapref09): Blank: a document of so many cells.
-/
import Derived.Test.YtficfoedofkhhaaCel5
namespace Go.Proofs.Ytficfoedofkhhaa
open Go.RowKit Go.Mine

/-- Blank cells. -/
def blanks (k : Nat) : List CellV := (List.range k).map fun i : Nat => ⟨99, 1, (i : Int), 46, false⟩
theorem blanks_succ (k : Nat) : blanks (k + 1) = blanks k ++ [⟨99, 1, (k : Int), 46, false⟩] := by
  unfold blanks; rw [List.range_succ, List.map_append]; rfl
theorem blanks_len (k : Nat) : (blanks k).length = k := by unfold blanks; simp

set_option maxHeartbeats 2000000 in
set_option maxRecDepth 1000000 in
theorem blank_any (n : Nat) (w : World) (hn : n ≤ 1000000) :
    Calls Try.prog 10 #[.int .i64 (n : Int)] w fun e w' => ∃ v, e = .returned v ∧ w'.ownsRow w.heap.size 41 5 v n (flat CellV.cs (blanks n)) ∧ Mod none_ w w' := by
  obtain ⟨i0, hi0, hz0, hz1, hz2⟩ := info_parts infoCell
  go_enter Try.func10, Try.ntmps10
  go_wp2_with fail
  go_loopg [3, 4] n (fun g s3 s4 wx => ∃ k : Nat, g = n - k ∧ s4 = .int .i64 k ∧ k ≤ n ∧ Mod none_ w wx ∧ wx.ownsRow w.heap.size 41 5 s3 k (flat CellV.cs (blanks k)))
  case atStart => exact ⟨0, rfl, rfl, Nat.zero_le _, Mod.refl _ _, World.ownsRow_nil _ _ _ _⟩
  case round =>
    obtain ⟨k, rfl, rfl, hk, m1, ho⟩ := hrel
    have M1 := Lib.hid m1
    have O1 := Lib.hid ho
    have hsz := m1.size
    by_cases hlk : k < n
    · have hdd : decide ((k : Int) < (n : Int)) = true := by simp; omega
      have hfl : (flat CellV.cs (blanks k)).length = k * 5 := by rw [flat_length CellV.len, blanks_len]
      clear m1 ho
      go_wp2_with (at_builtin; refine wpList_append_own _ rfl (.tmp 10) (.tmp 14) 36 rfl w.heap.size 41 i0 _ 5 32 Try.underlying36 hi0 hz0 hz1 hz2 rfl (by decide) _ k (flat CellV.cs (blanks k)) rfl (by exact ownsRow_mod O1.out ((Mod.refl none_ wr).alloc _) (fun _ _ e => e)) ⟨wr.heap.size, 0, none⟩ 1 1 (CellV.cs ⟨99, 1, (k : Int), 46, false⟩) rfl rfl (World.news_of_block (heap_alloc_new wr _)) (CellV.ones _) (by unfold maxLen; omega) (by omega) (by simp; omega) ?_; intro v' w1 ho hg _; have HO := Lib.hid ho; have MV := Lib.hid ((M1.out.alloc _).grown hg (fun j e hj => absurd hj (by have := (O1.out.lt j e).1; omega))); clear ho hg)
      go_roundg (n - (k + 1))
      case measure => omega
      case rel =>
        refine ⟨k + 1, rfl, by go_num, by omega, MV.out, ?_⟩
        have := HO.out
        rw [blanks_succ, flat_append]
        simpa [flat] using this
    · obtain rfl : k = n := by omega
      have hdd : decide ((k : Int) < (k : Int)) = false := by simp
      clear m1 ho
      go_wp2_with fail
      go_ret
      exact ⟨_, rfl, O1.out, M1.out⟩

end Go.Proofs.Ytficfoedofkhhaa
