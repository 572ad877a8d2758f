/-
  Layer 22 (net): Clear, New.
-/
import Derived.Test.YtpdfakfokegcnaaNet6
namespace Go.Proofs.Ytpdfakfokegcnaa
open Go.RowKit Go.Mine

theorem clear_end {B p bw i g cap : Nat} {vs : List Value} {L : List (List ByteArray)} {l : List ByteArray} {lost : Int} {r : Value} {w W1 : World} {more : List Value} (h : NetRep B w p bw vs L lost) (hv : vs[i]? = some (.slice (some ⟨g, 0, none⟩) l.length cap))
    (hcm : cap ≤ maxLen) (hBg : B ≤ g) (hnc : l.length ≤ cap) (hl : (l.map Value.string ++ more).length = cap) (hb : Blk W1 g (List.take 0 (l.map Value.string ++ more) ++ List.replicate l.length (Value.string ByteArray.empty) ++ List.drop (0 + (List.replicate l.length (Value.string ByteArray.empty)).length) (l.map Value.string ++ more)) 9) (m1 : Mod (one g) w W1) :
    NetPost B p bw (L.set i []) lost r w (.returned r) ((W1.setCell ⟨bw, i, none⟩ (.slice (some ⟨g, 0, none⟩) 0 cap)).drew) := by
  show NetPost B p bw (L.set i []) lost r w (.returned r) (W1.drew.setCell ⟨bw, i, none⟩ (.slice (some ⟨g, 0, none⟩) 0 cap))
  have m : Mod (fun b => (Value.slice (some ⟨g, 0, none⟩) l.length cap).ownBlock = some b ∨ w.heap.size ≤ b) w W1.drew := (m1.mono (fun b _ e => .inl (by rw [show b = g from e]; rfl))).drew
  refine ⟨rfl, _, h.turn i _ _ [] hv m (blk_ownsRow (xs := []) hBg hb rfl (by omega) hcm ?_) (by simp) (fun b hb => .inl hb), (m.toBelow h.base (fun b hb e => ?_)).setCell h.bb _⟩
  · simp at hl ⊢; omega
  · rcases e with e | e
    · have : g = b := by simpa [Value.ownBlock] using e
      omega
    · have := h.base; omega

set_option maxHeartbeats 400000 in
theorem clear_out (B p bw : Nat) (i : Int) (vs : List Value) (L : List (List ByteArray)) (lost : Int) (w : World) (h : NetRep B w p bw vs L lost) (hi : i < 0 ∨ L.length ≤ i) :
    Calls Try.prog 14 #[.pointer (some ⟨p, 0, none⟩), .int .i64 i] w (NetPost B p bw L lost (.int .i64 0) w) := by
  have hc := fun i hi => count_out B p bw i vs L lost w h hi
  have H : Aside (NetRep B w p bw vs L lost) := h
  clear h
  go_enter Try.func14, Try.ntmps14
  go_wp2_with (go_at_call 18; refine (hc i hi).mono ?_; rintro e w' ⟨rfl, rfl⟩)
  go_ret
  exact ⟨rfl, vs, H.out, Below.refl _ _⟩

set_option maxHeartbeats 400000 in
set_option maxRecDepth 1000000 in
theorem clear_in (B p bw i : Nat) (vs : List Value) (L : List (List ByteArray)) (l : List ByteArray) (lost : Int) (w : World) (h : NetRep B w p bw vs L lost) (hi : L[i]? = some l) :
    Calls Try.prog 14 #[.pointer (some ⟨p, 0, none⟩), .int .i64 i] w (NetPost B p bw (L.set i []) lost (.int .i64 l.length) w) := by
  by_cases hl0 : l = []
  · subst hl0
    have e : L.set i [] = L := by
      obtain ⟨hj, e⟩ := List.getElem?_eq_some_iff.1 hi
      rw [← e]; simp
    rw [e]
    have hc := count_in B p bw i vs L [] lost w h hi
    have H : Aside (NetRep B w p bw vs L lost) := h
    have Hc := Lib.hid hc
    clear h hi e hc
    go_enter Try.func14, Try.ntmps14
    go_wp2_with (go_at_call 18; refine Hc.out.mono ?_; rintro e w' ⟨rfl, rfl⟩)
    go_ret
    exact ⟨rfl, vs, H.out, Below.refl _ _⟩
  · have Hc := Lib.hid (count_in B p bw i vs L l lost w h hi)
    obtain ⟨v, hv, hown, hcell, hl2, hil⟩ := h.at_ i l hi
    have hlp : 0 < l.length := List.length_pos_iff.2 hl0
    rcases ownsRow_blk hown with ⟨_, h0, _⟩ | ⟨g, cap, more, rfl, hBg, hblk, hnc, hcm, hmore⟩
    · omega
    have hgp := h.dp i _ g hv rfl
    have hc0 := h.c0
    have hfew := h.few
    have zs : ∀ w, (zeroValue 9).run Try.prog w = .ok (.string ByteArray.empty) w := fun w => by kernel_rfl
    have l1 : (l.map Value.string ++ more).length = cap := by rw [List.length_append, hmore]; omega
    have hcl : ∀ ty, (Builtin.clear_ #[79] ty #[.slice (some ⟨g, 0, none⟩) l.length cap]).run Try.prog w = .ok (.tuple #[]) (w.setCells g 0 (List.replicate l.length (.string ByteArray.empty))) :=
      fun ty => Lib.run_clear_slice w _ _ ty _ Try.underlying79 zs rfl rfl g 0 _ _ hlp (fun t ht => by rw [hblk.cell, List.getElem?_eq_getElem (by rw [l1]; omega)]; rfl) (fun t ht => hblk.frozen _)
    obtain ⟨B2, M2⟩ := Blk.setCells (List.replicate l.length (.string ByteArray.empty)) 0 w _ hblk (by rw [l1]; simp; omega)
    obtain ⟨W1, hW1⟩ : ∃ W1, W1 = w.setCells g 0 (List.replicate l.length (.string ByteArray.empty)) := ⟨_, rfl⟩
    rw [← hW1] at B2 M2 hcl
    have q1 := M2.cell (p := ⟨p, 0, none⟩) (fun s => hgp.1 s.symm) hc0
    have q2 := M2.cell (p := ⟨bw, i, none⟩) (fun s => hgp.2 s.symm) hcell
    have q3 := (h.hw.mod M2 (fun s => hgp.2 s.symm)).frozen i
    have H : Aside (NetRep B w p bw vs L lost) := h
    have X : Aside (Blk W1 g _ 9 ∧ Mod (one g) w W1) := ⟨B2, M2⟩
    have Y : Aside ((l.map Value.string ++ more).length = cap) := l1
    have Z : Aside (cap ≤ maxLen ∧ vs[i]? = some (.slice (some ⟨g, 0, none⟩) l.length cap)) := ⟨hcm, hv⟩
    have hlt : (0 : Int) < l.length := by omega
    clear h hown hv hi hblk hl0 B2 M2 hW1 l1 hmore
    unfold maxLen at hcm
    go_enter Try.func14, Try.ntmps14
    go_wp2_with (go_at_call 18; refine Hc.out.mono ?_; rintro e w' ⟨rfl, rfl⟩)
    go_region_law (fail)
    all_goals (go_wp2; go_ret; exact clear_end H.out Z.out.2 Z.out.1 hBg hnc Y.out X.out.1 X.out.2)

set_option maxHeartbeats 400000 in
theorem new_bad (n : Int) (hn : n < 1 ∨ 64 < n) (w : World) :
    Calls Try.prog 10 #[.int .i64 n] w fun e w' => e = .returned (.tuple #[.pointer none, .int .i64 1]) ∧ w = w' := by
  by_cases h1 : n < 1
  · go_enter Try.func10, Try.ntmps10
    go_wp2
    go_ret2
    exact ⟨rfl, rfl⟩
  · have h2 : 64 < n := by omega
    go_enter Try.func10, Try.ntmps10
    go_wp2
    go_ret2
    exact ⟨rfl, rfl⟩

theorem Try.infoSl : (Try.prog.info? 79).map (fun i => (i.zero, i.size, i.bytes)) = some (some (.slice none 0 0), 1, 24) := by kernel_rfl

theorem new_rep (n : Nat) (h2 : n ≤ 64) (w : World) : NetRep w.heap.size ((w.alloc (.cells (madeCells #[.slice none 0 0] n) 79)).alloc (.cells #[.slice (some ⟨w.heap.size, 0, none⟩) n n, .int .i64 0] 77)) (w.heap.size + 1) w.heap.size (List.replicate n (.slice none 0 0)) (List.replicate n []) 0 := by
  have hm : (madeCells #[Value.slice none 0 0] n) = (List.replicate n (Value.slice none 0 0)).toArray := by
    rw [← toList_madeCells_one]
  refine ⟨?_, ?_, by simp, by simpa using h2, fun l hl => ?_, fun i v l hv hl => ?_, by omega, by omega, by omega, fun i v k hv hk => ?_, fun i j v u k _ hv _ hk => ?_⟩
  · have := heap_alloc_new (w.alloc (.cells (madeCells #[.slice none 0 0] n) 79)) (.cells #[.slice (some ⟨w.heap.size, 0, none⟩) n n, .int .i64 0] 77)
    simpa [Blk] using this
  · have := heap_alloc2_old w (.cells (madeCells #[.slice none 0 0] n) 79) (.cells #[.slice (some ⟨w.heap.size, 0, none⟩) n n, .int .i64 0] 77)
    rw [hm] at this ⊢; exact this
  · obtain ⟨_, rfl⟩ := List.mem_replicate.1 hl; simp
  · obtain ⟨_, rfl⟩ := List.mem_replicate.1 (List.mem_of_getElem? hv)
    obtain ⟨_, rfl⟩ := List.mem_replicate.1 (List.mem_of_getElem? hl)
    exact World.ownsRow_nil _ _ _ _
  · obtain ⟨_, rfl⟩ := List.mem_replicate.1 (List.mem_of_getElem? hv); simp [Value.ownBlock] at hk
  · obtain ⟨_, rfl⟩ := List.mem_replicate.1 (List.mem_of_getElem? hv); simp [Value.ownBlock] at hk

def NewPost (n : Nat) (w : World) (e : Ending) (w' : World) : Prop :=
  ∃ p bw vs, e = .returned (.tuple #[.pointer (some ⟨p, 0, none⟩), .int .i64 0]) ∧ NetRep w.heap.size w' p bw vs (List.replicate n []) 0 ∧ Below w.heap.size w w'

set_option maxHeartbeats 400000 in
theorem new_ok (n : Nat) (h1 : 1 ≤ n) (h2 : n ≤ 64) (w : World) :
    Calls Try.prog 10 #[.int .i64 n] w (NewPost n w) := by
  have hmk := run_make_row' (P := Try.prog) 75 79 (.slice none 0 0) 24 Try.underlying75 Try.infoSl rfl .i64 .i64 n (by omega) (by omega)
  go_enter Try.func10, Try.ntmps10
  go_wp2
  go_ret2
  exact ⟨_, _, _, rfl, new_rep n h2 w, (((Below.refl _ _).alloc (Nat.le_refl _) _).alloc (by simp) _)⟩

end Go.Proofs.Ytpdfakfokegcnaa
