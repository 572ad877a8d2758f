/-
  Layer 22 (net): Put.
-/
import Derived.Test.YtpdfakfokegcnaaNet3
namespace Go.Proofs.Ytpdfakfokegcnaa
open Go.RowKit Go.Mine

/-- The net is as told, the call answers r, nothing below B has changed. -/
def NetPost (B p bw : Nat) (L : List (List ByteArray)) (lost : Int) (r : Value) (w : World) (en : Ending) (w' : World) : Prop :=
  en = .returned r ∧ ∃ vs', NetRep B w' p bw vs' L lost ∧ Below B w w'

theorem NetRep.lost {B p bw : Nat} {vs : List Value} {L : List (List ByteArray)} {lost : Int} {w : World} (h : NetRep B w p bw vs L lost) (n : Int) : NetRep B (w.setCell ⟨p, 1, none⟩ (.int .i64 n)) p bw vs L n := by
  have m : Mod (fun b => b = p) w (w.setCell ⟨p, 1, none⟩ (.int .i64 n)) := (Mod.refl (fun b => b = p) w).setCell ⟨p, 1, none⟩ (fun _ => rfl) _
  exact ⟨h.hp.set 1 _, h.hw.mod m (fun e => h.ne e.symm), h.len, h.few, h.each, fun i v l hv hl => ownsRow_mod (h.own i v l hv hl) m (fun k hk e => (h.dp i v k hv hk).1 e), h.ne, h.bp, h.bb, h.dp, h.dd⟩

set_option maxHeartbeats 400000 in
theorem put_bad (B p bw : Nat) (i : Int) (s : ByteArray) (vs : List Value) (L : List (List ByteArray)) (lost : Int) (w : World) (h : NetRep B w p bw vs L lost) (hi : i < 0 ∨ L.length ≤ i) :
    Calls Try.prog 15 #[.pointer (some ⟨p, 0, none⟩), .int .i64 i, .string s] w (NetPost B p bw L lost (.int .i64 1) w) := by
  have hc0 := h.c0
  have H : Aside (NetRep B w p bw vs L lost) := h
  clear h
  rcases hi with hi | hi
  · go_enter Try.func15, Try.ntmps15
    go_wp2
    go_ret
    exact ⟨rfl, vs, H.out, Below.refl _ _⟩
  · have h0 : 0 ≤ i := by omega
    have hd : decide (i < (L.length : Int)) = false := by simpa using hi
    go_enter Try.func15, Try.ntmps15
    go_wp2
    go_ret
    exact ⟨rfl, vs, H.out, Below.refl _ _⟩

set_option maxHeartbeats 400000 in
theorem put_nil (i : Int) (s : ByteArray) (w : World) :
    Calls Try.prog 15 #[.pointer none, .int .i64 i, .string s] w fun en w' => en = .returned (.int .i64 1) ∧ w = w' := by
  go_enter Try.func15, Try.ntmps15
  go_wp2
  go_ret
  exact ⟨rfl, rfl⟩

set_option maxHeartbeats 400000 in
theorem put_full (B p bw k : Nat) (s : ByteArray) (vs : List Value) (L : List (List ByteArray)) (l : List ByteArray) (lost : Int) (w : World) (h : NetRep B w p bw vs L lost) (hk : L[k]? = some l) (hl : l.length = 200) (h0 : 0 ≤ lost) (h1 : lost ≤ 1099511627776) :
    Calls Try.prog 15 #[.pointer (some ⟨p, 0, none⟩), .int .i64 k, .string s] w (NetPost B p bw L (lost + 1) (.int .i64 4) w) := by
  obtain ⟨v, hv, hown, hcell, _, hkl⟩ := h.at_ k l hk
  rcases ownsRow_blk hown with ⟨_, h0, _⟩ | ⟨g, cap, more, rfl, hBg, hblk, hnc, hcm, hmore⟩
  · omega
  have hc0 := h.c0
  have hc1 := h.c1
  have hf1 := h.hp.frozen 1
  have hfew := h.few
  have H : Aside (NetRep B w p bw vs L lost) := h
  rw [hl] at hcell
  clear h hown hk hl hv hmore hblk
  unfold maxLen at hcm
  go_enter Try.func15, Try.ntmps15
  go_wp2
  go_ret
  exact ⟨rfl, vs, H.out.lost _, (Below.refl _ _).setCell (H.out.bp) _⟩

theorem put_end {B p bw k g' cap' cap : Nat} {ao : Option Addr} {s : ByteArray} {vs : List Value} {L : List (List ByteArray)} {l : List ByteArray} {lost : Int} {w W1 w1 : World} (h : NetRep B w p bw vs L lost) (hk : L[k]? = some l)
    (hv : vs[k]? = some (.slice ao l.length cap)) (hl : l.length + 1 ≤ 200) (X : Mod none_ w W1) (hown1 : w1.ownsRow B 9 1 (.slice (some ⟨g', 0, none⟩) (l.length + 1) cap') (l.length + 1) (l.map Value.string ++ [.string s]))
    (hgrow : W1.grownBy w1 (Value.slice ao l.length cap).ownBlock) (hat : (Value.slice ao l.length cap).ownBlock = some g' ∨ g' = W1.heap.size) :
    NetPost B p bw (L.set k (l ++ [s])) lost (.int .i64 0) w (.returned (.int .i64 0)) (w1.setCell ⟨bw, k, none⟩ (.slice (some ⟨g', 0, none⟩) (l.length + 1) cap')) := by
  have m : Mod (fun b => (Value.slice ao l.length cap).ownBlock = some b ∨ w.heap.size ≤ b) w w1 := (X.mono (fun _ _ e => e.elim)).grown hgrow (fun b hb _ => .inl hb)
  have hbel : Below B w w1 := m.toBelow (by have := h.hp.lt; have := h.bp; omega) (fun b hb e => by
    rcases e with e | e
    · have := ((h.own k _ l hv hk).lt b e).1; omega
    · have := h.hp.lt; have := h.bp; omega)
  refine ⟨rfl, _, h.turn k _ _ (l ++ [s]) hv m (by simpa using hown1) (by simpa using hl) (fun b hb => ?_), hbel.setCell h.bb _⟩
  have hbg : b = g' := by simpa [Value.ownBlock, eq_comm] using hb
  subst hbg
  rcases hat with e | e
  · exact .inl e
  · right; have := X.size; omega

set_option maxHeartbeats 400000 in
set_option maxRecDepth 1000000 in
theorem put_ok (B p bw k : Nat) (s : ByteArray) (vs : List Value) (L : List (List ByteArray)) (l : List ByteArray) (lost : Int) (w : World) (h : NetRep B w p bw vs L lost) (hk : L[k]? = some l) (hl : l.length < 200) :
    Calls Try.prog 15 #[.pointer (some ⟨p, 0, none⟩), .int .i64 k, .string s] w (NetPost B p bw (L.set k (l ++ [s])) lost (.int .i64 0) w) := by
  obtain ⟨v, hv, hown, hcell, _, hkl⟩ := h.at_ k l hk
  obtain ⟨i0, hi0, hz0, hz1, hz2⟩ := info_parts Try.infoStr
  obtain ⟨ao, cap, rfl⟩ : ∃ ao cap, v = .slice ao l.length cap := by
    rcases ownsRow_blk hown with ⟨rfl, h0, _⟩ | ⟨g, cap, more, rfl, _⟩
    · exact ⟨none, 0, by rw [h0]⟩
    · exact ⟨_, _, rfl⟩
  have hc0 := h.c0
  have hfew := h.few
  have hBw : B ≤ w.heap.size := by have := h.hp.lt; have := h.bp; omega
  have H : Aside (NetRep B w p bw vs L lost) := h
  have Hk : Aside (L[k]? = some l) := hk
  have Hown : Aside (w.ownsRow B 9 1 (.slice ao l.length cap) l.length (l.map Value.string)) := hown
  have hd := fun b => h.dp k _ b hv
  have Hd : Aside (some p ≠ (Value.slice ao l.length cap).ownBlock ∧ some bw ≠ (Value.slice ao l.length cap).ownBlock) := ⟨fun e => (hd p e.symm).1 rfl, fun e => (hd bw e.symm).2 rfl⟩
  have hpl := h.hp.lt
  have hbl := h.hw.lt
  have hneq : ((l.length : Int) == 200) = false := by rw [beq_eq_false_iff_ne]; omega
  -- the world in which the text to be appended lies in a block of its own
  obtain ⟨W1, hW1⟩ : ∃ W1, W1 = (w.alloc (.cells #[.string s] 9)).drew := ⟨_, rfl⟩
  have M1 : Mod none_ w W1 := by rw [hW1]; exact ((Mod.refl _ w).alloc _).drew
  have Hown1 : Aside (W1.ownsRow B 9 1 (.slice ao l.length cap) l.length (l.map Value.string)) := ownsRow_mod hown M1 (fun _ _ e => e)
  have Hnew : Aside (W1.heap[w.heap.size]? = some (.cells #[.string s] 9 (0, 0))) := by rw [hW1]; exact heap_alloc_new w _
  have e1 := M1.cell (p := ⟨p, 0, none⟩) (fun e => e) hc0
  have e2 := M1.cell (p := ⟨bw, k, none⟩) (fun e => e) hcell
  have e3 := (h.hw.mod M1 (fun e => e)).frozen k
  have Hv : Aside (vs[k]? = some (.slice ao l.length cap)) := hv
  have E : Aside (W1.cell? ⟨p, 0, none⟩ = some (.slice (some ⟨bw, 0, none⟩) L.length L.length) ∧ W1.cell? ⟨bw, k, none⟩ = some (.slice ao l.length cap) ∧ W1.frozen? ⟨bw, k, none⟩ = false ∧ W1.heap.size = w.heap.size + 1) := ⟨e1, e2, e3, by rw [hW1]; simp [World.drew]⟩
  have S : Aside ((∀ u ∈ [Value.string s], u.oneCell' = true) ∧ l.length + 1 ≤ maxLen ∧ (l.length + 1) * 16 ≤ 140737488355328 ∧ B ≤ W1.heap.size) := ⟨by simp [Value.oneCell'], by unfold maxLen; omega, by omega, by have := M1.size; omega⟩
  have HW1 : Hid (W1 = (w.alloc (.cells #[.string s] 9)).drew) := hW1
  have X : Aside (Mod none_ w W1) := M1
  clear h hk hown hv hd hW1 M1 e1 e2 e3
  go_enter Try.func15, Try.ntmps15
  go_wp2
  go_region_law (rw [← HW1.out]; refine step_append_lies _ rfl (.tmp 38) (.tmp 40) 79 rfl B 9 i0 (.string ByteArray.empty) 1 16 Try.underlying79 hi0 hz0 hz1 hz2 rfl (by decide) (.slice ao l.length cap) l.length (l.map Value.string) (by simp [Act.eval, Act.put]) Hown1.out ⟨w.heap.size, 0, none⟩ 1 1 [.string s] (by simp [Act.eval, Act.put]) rfl (World.news_of_block Hnew.out) S.out.1 (by decide) S.out.2.1 S.out.2.2.1 S.out.2.2.2 _ rfl ?_; intro g' cap' w1 hown1 hgrow hat hlt; have q1 := hgrow.cell E.out.1 Hd.out.1; have q2 := hgrow.cell E.out.2.1 Hd.out.2; have q3 := (hgrow.frozen_far ⟨bw, k, none⟩ (by rw [E.out.2.2.2]; simp; omega) Hd.out.2).trans E.out.2.2.1)
  all_goals (go_wp2; go_ret; exact put_end H.out Hk.out Hv.out (by omega) X.out hown1 hgrow hat)

end Go.Proofs.Ytpdfakfokegcnaa
