/-
  Layer 21 (hold): the items' Push and Pop; the heap's Push, Pop, Remove.
-/
import Derived.Test.YtpdfakfokegcnaaHold3
namespace Go.Proofs.Ytpdfakfokegcnaa
open Go.RowKit Go.Mine
attribute [local go_sem] m_push m_pop m_has m_first m_len m_less m_swap
attribute [local go_sem ↓] ld_item st_item
attribute [local go_sem] run_ld_item run_st_item cut_drew setCells_drew World.there_drew setCells_alloc_at there_alloc_at cut_alloc_at there_alloc_old cut_alloc_old fold_set_whole

theorem Try.infoItem : (Try.prog.info? 94).map (fun i => (i.zero, i.size, i.bytes)) = some (some (.agg #[.int .i64 0, .int .i64 0, .int .i64 0, .int .i64 0, .int .i64 0, .int .i64 0, .int .i64 0, .int .i64 0, .int .i64 0, .int .i64 0, .string ByteArray.empty, .string ByteArray.empty]), 12, 112) := by kernel_rfl
theorem ta_item (v : Value) (w : World) : (Instr.typeAssert (.iface 94 v) 20 94 true).run Try.prog w = .ok (.tuple #[v, .bool true]) w := by kernel_rfl
attribute [local go_sem] ta_item

def PushPost (B lb : Nat) (xs : List Itm) (x : Itm) (g : Nat) (w : World) (e : Ending) (w' : World) : Prop :=
  e = .returned (.tuple #[]) ∧ ∃ g' cap' more', IRep B w' lb g' cap' (xs ++ [x]) more' ∧ Mod (fun b => b = lb ∨ b = g) w w' ∧ (g' = g ∨ w.heap.size ≤ g')

theorem IRep.owns {B : Nat} {w : World} {lb g cap : Nat} {xs : List Itm} {more : List Value} (h : IRep B w lb g cap xs more) : w.ownsRow B 94 12 (.slice (some ⟨g, 0, none⟩) xs.length cap) xs.length (flat Itm.cells xs) :=
  blk_ownsRow h.bg h.hg (flat_length Itm.len xs) h.nc h.cm (by rw [flat_length Itm.len]; exact h.rm)

theorem push_end {B lb g cap g' cap' : Nat} {xs : List Itm} {more : List Value} {x : Itm} {w W1 w1 : World} (h : IRep B w lb g cap xs more) (hf : xs.length + 1 ≤ 100) (m : Mod none_ w W1)
    (hown : w1.ownsRow B 94 12 (.slice (some ⟨g', 0, none⟩) (xs.length + 1) cap') (xs.length + 1) (flat Itm.cells xs ++ x.cells)) (hg : W1.grownBy w1 (some g)) (hat : some g = some g' ∨ g' = W1.heap.size) :
    PushPost B lb xs x g w (.returned (.tuple #[])) (w1.setCell ⟨lb, 0, none⟩ (.slice (some ⟨g', 0, none⟩) (xs.length + 1) cap')) := by
  have m1 : Mod (fun b => b = lb ∨ b = g) w w1 := (m.mono (fun _ _ e => e.elim)).grown hg (fun k hk _ => .inr (by cases hk; rfl))
  have hne : lb ≠ g' := by
    rcases hat with e | e
    · cases e; exact h.ne
    · have := h.hl.lt; have := m.size; omega
  rcases ownsRow_blk hown with ⟨e, _, _⟩ | ⟨g2, c2, more', e, hBg, hblk, hnc, hcm, hrm⟩
  · cases e
  cases e
  have hl1 : Blk w1 lb [.slice (some ⟨g, 0, none⟩) xs.length cap] 87 := by
    have := h.hl.mod m (fun e => e)
    have q := hg.block lb this.lt (by intro e; cases e; exact h.ne rfl)
    unfold Blk at this ⊢; rw [q]; exact this
  have m2 : Mod (one lb) w1 (w1.setCell ⟨lb, 0, none⟩ (.slice (some ⟨g', 0, none⟩) (xs.length + 1) cap')) := (Mod.refl (one lb) w1).setCell ⟨lb, 0, none⟩ (fun _ => rfl) _
  refine ⟨rfl, g', cap', more', ⟨?_, ?_, hne, h.bl, hBg, by simpa using hnc, hcm, by simpa using hf, ?_⟩, m1.setCell ⟨lb, 0, none⟩ (fun _ => .inl rfl) _, ?_⟩
  · have := hl1.set 0 (.slice (some ⟨g', 0, none⟩) (xs.length + 1) cap')
    simpa using this
  · have := hblk.mod m2 (fun e => hne e.symm)
    simpa using this
  · have := flat_length Itm.len xs
    have := x.len
    simp at hrm ⊢; omega
  · rcases hat with e | e
    · cases e; exact .inl rfl
    · right; have := m.size; omega

set_option maxHeartbeats 400000 in
set_option maxRecDepth 1000000 in
theorem items_push (B lb g cap : Nat) (xs : List Itm) (more : List Value) (x : Itm) (w : World) (h : IRep B w lb g cap xs more) (hf : xs.length + 1 ≤ 100) :
    Calls Try.prog 87 #[.pointer (some ⟨lb, 0, none⟩), .iface 94 (.agg x.cells.toArray)] w (PushPost B lb xs x g w) := by
  obtain ⟨i0, hi0, hz0, hz1, hz2⟩ := info_parts Try.infoItem
  have c0 := h.c0
  have hll := h.hl.lt
  have hxl := x.len
  obtain ⟨W1, hW1⟩ : ∃ W1, W1 = ((w.alloc (.cells x.cells.toArray 94)).alloc (.cells x.cells.toArray 94)).drew := ⟨_, rfl⟩
  have M1 : Mod none_ w W1 := by rw [hW1]; exact (((Mod.refl _ w).alloc _).alloc _).drew
  have Hown1 : Aside (W1.ownsRow B 94 12 (.slice (some ⟨g, 0, none⟩) xs.length cap) xs.length (flat Itm.cells xs)) := ownsRow_mod h.owns M1 (fun _ _ e => e)
  have Hnew : Aside (W1.heap[w.heap.size + 1]? = some (.cells x.cells.toArray 94 (0, 0))) := by rw [hW1]; exact heap_alloc2_new w _ _
  have e1 := M1.cell (p := ⟨lb, 0, none⟩) (fun e => e) c0
  have e2 := (h.hl.mod M1 (fun e => e)).frozen 0
  have hBw : B ≤ W1.heap.size := by have := M1.size; have := h.bl; omega
  have S : Aside ((∀ u ∈ x.cells, u.oneCell' = true) ∧ xs.length + 1 ≤ maxLen ∧ (xs.length + 1) * 112 ≤ 140737488355328 ∧ B ≤ W1.heap.size ∧ x.cells.length = 1 * 12) := ⟨x.ones, by unfold maxLen; omega, by omega, hBw, by rw [x.len]⟩
  have E : Aside (W1.cell? ⟨lb, 0, none⟩ = some (.slice (some ⟨g, 0, none⟩) xs.length cap) ∧ W1.frozen? ⟨lb, 0, none⟩ = false ∧ lb < W1.heap.size ∧ some lb ≠ some g) := ⟨e1, e2, by have := M1.size; omega, by intro e; cases e; exact h.ne rfl⟩
  have HW1 := Lib.hid hW1
  have X := Lib.hid M1
  have H := Lib.hid h
  clear h hW1 M1 e1 e2 hBw
  go_enter Try.func87, Try.ntmps87
  go_wp2
  go_region_law (rw [← HW1.out]; refine step_append_lies _ rfl (.tmp 15) (.tmp 17) 87 rfl B 94 i0 _ 12 112 Try.underlying87 hi0 hz0 hz1 hz2 rfl (by decide) (.slice (some ⟨g, 0, none⟩) xs.length cap) xs.length (flat Itm.cells xs) (by simp [Act.eval, Act.put]) Hown1.out ⟨w.heap.size + 1, 0, none⟩ 1 1 x.cells (by simp [Act.eval, Act.put]) S.out.2.2.2.2 (World.news_of_block Hnew.out) S.out.1 (by decide) S.out.2.1 S.out.2.2.1 S.out.2.2.2.1 _ rfl ?_; intro g' cap' w1 hown1 hgrow hat hlt; have q1 := hgrow.cell E.out.1 E.out.2.2.2; have q2 := (hgrow.frozen_far ⟨lb, 0, none⟩ E.out.2.2.1 E.out.2.2.2).trans E.out.2.1)
  all_goals (go_wp2; go_end0; exact push_end H.out hf X.out hown1 hgrow hat)

end Go.Proofs.Ytpdfakfokegcnaa
