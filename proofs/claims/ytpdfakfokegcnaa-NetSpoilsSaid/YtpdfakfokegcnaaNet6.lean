/-
  Layer 22 (net): Lose, Total, Count, Lost, Clear.
-/
import Derived.Test.YtpdfakfokegcnaaNet5
namespace Go.Proofs.Ytpdfakfokegcnaa
open Go.RowKit Go.Mine

set_option maxHeartbeats 400000 in
theorem lose_bad (B p bw : Nat) (i k : Int) (vs : List Value) (L : List (List ByteArray)) (lost : Int) (w : World) (h : NetRep B w p bw vs L lost) (hi : i < 0 ∨ L.length ≤ i ∨ k < 0) :
    Calls Try.prog 12 #[.pointer (some ⟨p, 0, none⟩), .int .i64 i, .int .i64 k] w (NetPost B p bw L lost (.int .i64 1) w) := by
  have hc0 := h.c0
  have hpl := h.hp.lt
  have hp1 : p < w.heap.size + 1 := by omega
  have hp2 : p < w.heap.size + 1 + 1 := by omega
  have H : Aside (NetRep B w p bw vs L lost) := h
  clear h
  by_cases hi0 : i < 0
  · go_enter Try.func12, Try.ntmps12
    go_wp2
    go_ret
    exact ⟨rfl, vs, H.out.grown (((Mod.refl none_ w).alloc _).alloc _), H.out.below (((Mod.refl none_ w).alloc _).alloc _)⟩
  · have h0 : 0 ≤ i := by omega
    by_cases hiL : (L.length : Int) ≤ i
    · have hd : decide (i < (L.length : Int)) = false := by simpa using hiL
      go_enter Try.func12, Try.ntmps12
      go_wp2
      go_ret
      exact ⟨rfl, vs, H.out.grown (((Mod.refl none_ w).alloc _).alloc _), H.out.below (((Mod.refl none_ w).alloc _).alloc _)⟩
    · have hk : k < 0 := by omega
      have hd : decide (i < (L.length : Int)) = true := by simpa using hiL
      clear hi
      go_enter Try.func12, Try.ntmps12
      go_wp2
      go_ret
      exact ⟨rfl, vs, H.out.grown (((Mod.refl none_ w).alloc _).alloc _), H.out.below (((Mod.refl none_ w).alloc _).alloc _)⟩

set_option maxHeartbeats 400000 in
theorem lose_none (B p bw i : Nat) (k : Int) (vs : List Value) (L : List (List ByteArray)) (lost : Int) (w : World) (h : NetRep B w p bw vs L lost) (hi : L[i]? = some []) (hk : 0 ≤ k) :
    Calls Try.prog 12 #[.pointer (some ⟨p, 0, none⟩), .int .i64 i, .int .i64 k] w (NetPost B p bw L lost (.int .i64 14) w) := by
  obtain ⟨v, hv, hown, hcell, _, hil⟩ := h.at_ i [] hi
  obtain ⟨ao, cap, rfl⟩ : ∃ ao cap, v = .slice ao 0 cap := by
    rcases ownsRow_blk hown with ⟨rfl, h0, _⟩ | ⟨g, cap, more, rfl, _⟩
    · exact ⟨none, 0, rfl⟩
    · exact ⟨_, _, rfl⟩
  have hc0 := h.c0
  have hpl := h.hp.lt
  have hbl := h.hw.lt
  have hp1 : p < w.heap.size + 1 := by omega
  have hb1 : bw < w.heap.size + 1 := by omega
  have H : Aside (NetRep B w p bw vs L lost) := h
  clear h hown hv hi
  go_enter Try.func12, Try.ntmps12
  go_wp2
  go_ret
  exact ⟨rfl, vs, H.out.grown (((Mod.refl none_ w).alloc _).alloc _), H.out.below (((Mod.refl none_ w).alloc _).alloc _)⟩

theorem lose_end {B p bw : Nat} {vs vs' : List Value} {L L' : List (List ByteArray)} {lost lost' : Int} {w W w1 : World} (h : NetRep B w p bw vs L lost) (hb : Mod none_ w W) (h1 : NetRep B w1 p bw vs' L' lost) (h2 : Mod (netFoot p bw vs) W w1) :
    NetPost B p bw L' lost' (.int .i64 0) w (.returned (.int .i64 0)) (w1.setCell ⟨p, 1, none⟩ (.int .i64 lost')) :=
  ⟨rfl, vs', h1.lost lost', (((h.below hb).trans ((h.grown hb).footBelow h2)).setCell h.bp _)⟩

theorem two_new {w : World} {v : Value} {t : TypeId} {o : Obj} : ((w.alloc (.cells #[v] t)).alloc o).cell? ⟨w.heap.size, 0, none⟩ = some v := by simp [go_sem]

set_option maxHeartbeats 400000 in
theorem lose_some (B p bw i k : Nat) (vs : List Value) (L : List (List ByteArray)) (l : List ByteArray) (lost : Int) (w : World) (h : NetRep B w p bw vs L lost) (hi : L[i]? = some l) (hl : l ≠ []) (hk : k < 9223372036854775808) (hlo : 0 ≤ lost ∧ lost ≤ 1099511627776) :
    Calls Try.prog 12 #[.pointer (some ⟨p, 0, none⟩), .int .i64 i, .int .i64 k] w (NetPost B p bw (L.set i (l.eraseIdx (k % l.length))) (lost + 1) (.int .i64 0) w) := by
  obtain ⟨v, hv, hown, hcell, hl2, hil⟩ := h.at_ i l hi
  have hl0 : 0 < l.length := List.length_pos_iff.2 hl
  have hm : k % l.length < l.length := Nat.mod_lt _ hl0
  rcases ownsRow_blk hown with ⟨_, h0, _⟩ | ⟨g, cap, more, rfl, hBg, hblk, hnc, hcm, hmore⟩
  · omega
  have hc0 := h.c0
  have hpl := h.hp.lt
  have hbl := h.hw.lt
  have hp1 : p < w.heap.size + 1 := by omega
  have hb1 : bw < w.heap.size + 1 := by omega
  have H : Aside (NetRep B w p bw vs L lost) := h
  have Hi : Aside (L[i]? = some l) := hi
  have hne : ((l.length : Int) == 0) = false := by rw [beq_eq_false_iff_ne]; omega
  clear h hown hv hi hblk hl
  unfold maxLen at hcm
  go_enter Try.func12, Try.ntmps12
  go_wp2_with (first | (go_at_call 34; refine (without_at B p bw _ _ i (k % l.length) vs L l lost _ (by exact H.out.grown (((Mod.refl none_ w).alloc _).alloc _)) Hi.out hm (by omega) (by omega)).mono ?_; rintro e w1 ⟨rfl, vs', hr1, hm1⟩; have q1 := hm1.cell (p := ⟨w.heap.size, 0, none⟩) (fun s => Nat.lt_irrefl _ (H.out.foot s).2) two_new; have q2 := hr1.c1; have q3 := hr1.hp.frozen 1; have R1 := Lib.hid hr1; have R2 := Lib.hid hm1; clear hr1 hm1) | go_in)
  go_ret
  exact lose_end H.out (((Mod.refl none_ w).alloc _).alloc _) R1.out R2.out

set_option maxHeartbeats 400000 in
theorem count_in (B p bw i : Nat) (vs : List Value) (L : List (List ByteArray)) (l : List ByteArray) (lost : Int) (w : World) (h : NetRep B w p bw vs L lost) (hi : L[i]? = some l) :
    Calls Try.prog 18 #[.pointer (some ⟨p, 0, none⟩), .int .i64 i] w fun e w' => e = .returned (.int .i64 l.length) ∧ w = w' := by
  obtain ⟨v, hv, hown, hcell, hl2, hil⟩ := h.at_ i l hi
  obtain ⟨ao, cap, rfl⟩ : ∃ ao cap, v = .slice ao l.length cap := by
    rcases ownsRow_blk hown with ⟨rfl, h0, _⟩ | ⟨g, cap, more, rfl, _⟩
    · exact ⟨none, 0, by rw [h0]⟩
    · exact ⟨_, _, rfl⟩
  have hc0 := h.c0
  clear h hown hv hi
  go_enter Try.func18, Try.ntmps18
  go_wp2
  go_ret
  exact ⟨rfl, rfl⟩

set_option maxHeartbeats 400000 in
theorem count_out (B p bw : Nat) (i : Int) (vs : List Value) (L : List (List ByteArray)) (lost : Int) (w : World) (h : NetRep B w p bw vs L lost) (hi : i < 0 ∨ L.length ≤ i) :
    Calls Try.prog 18 #[.pointer (some ⟨p, 0, none⟩), .int .i64 i] w fun e w' => e = .returned (.int .i64 0) ∧ w = w' := by
  have hc0 := h.c0
  clear h
  rcases hi with hi | hi
  · go_enter Try.func18, Try.ntmps18
    go_wp2
    go_ret
    exact ⟨rfl, rfl⟩
  · have h0 : 0 ≤ i := by omega
    have hd : decide (i < (L.length : Int)) = false := by simpa using hi
    go_enter Try.func18, Try.ntmps18
    go_wp2
    go_ret
    exact ⟨rfl, rfl⟩

set_option maxHeartbeats 400000 in
theorem lost_any (B p bw : Nat) (vs : List Value) (L : List (List ByteArray)) (lost : Int) (w : World) (h : NetRep B w p bw vs L lost) :
    Calls Try.prog 17 #[.pointer (some ⟨p, 0, none⟩)] w fun e w' => e = .returned (.int .i64 lost) ∧ w = w' := by
  have hc1 := h.c1
  clear h
  go_enter Try.func17, Try.ntmps17
  go_wp2
  go_ret
  exact ⟨rfl, rfl⟩

/-- How many texts are on the first n ways. -/
def onWays (L : List (List ByteArray)) : Int := ((L.map List.length).sum : Nat)

theorem onWays_take (L : List (List ByteArray)) (j : Nat) (l : List ByteArray) (h : L[j]? = some l) : onWays (L.take (j + 1)) = onWays (L.take j) + l.length := by
  obtain ⟨hj, rfl⟩ := List.getElem?_eq_some_iff.1 h
  unfold onWays
  rw [List.take_succ_eq_append_getElem hj]
  simp only [List.map_append, List.sum_append, List.map_cons, List.map_nil, List.sum_cons, List.sum_nil]
  omega
theorem onWays_bound (L : List (List ByteArray)) (h : ∀ l ∈ L, l.length ≤ 200) : 0 ≤ onWays L ∧ onWays L ≤ 200 * L.length := by
  unfold onWays
  induction L with
  | nil => simp
  | cons a r ih =>
    have := h a (by simp)
    have := ih (fun l hl => h l (by simp [hl]))
    simp at this ⊢
    omega

set_option maxHeartbeats 400000 in
theorem total_any (B p bw : Nat) (vs : List Value) (L : List (List ByteArray)) (lost : Int) (w : World) (h : NetRep B w p bw vs L lost) :
    Calls Try.prog 16 #[.pointer (some ⟨p, 0, none⟩)] w fun e w' => e = .returned (.int .i64 (onWays L)) ∧ w = w' := by
  have hc0 := h.c0
  have hfew := h.few
  have H : Aside (NetRep B w p bw vs L lost) := h
  clear h
  go_enter Try.func16, Try.ntmps16
  go_wp2
  go_loop [3, 13] (fun s i => ∃ j : Nat, j ≤ L.length ∧ i = .int .i64 j ∧ s = .int .i64 (onWays (L.take j))) (fun _ i => L.length - (intOf i).toNat)
  case atStart => exact ⟨0, Nat.zero_le _, rfl, rfl⟩
  case round =>
    obtain ⟨j, hj, rfl, rfl⟩ := hrel
    by_cases hlt : j < L.length
    · obtain ⟨v, hv, hown, hcell, hl2, _⟩ := H.out.at_ j L[j] (by simp [hlt])
      have hs := onWays_take L j L[j] (by simp [hlt])
      have hbd := onWays_bound (L.take j) (fun l hl => H.out.each l (List.mem_of_mem_take hl))
      have hlt' : (L.take j).length ≤ L.length := by simp; omega
      obtain ⟨l, hl⟩ : ∃ l, l = L[j] := ⟨_, rfl⟩
      rw [← hl] at hs hown hl2
      obtain ⟨ao, cap, rfl⟩ : ∃ ao cap, v = .slice ao l.length cap := by
        rcases ownsRow_blk hown with ⟨rfl, h0, _⟩ | ⟨g, cap, more, rfl, _⟩
        · exact ⟨none, 0, by rw [h0]⟩
        · exact ⟨_, _, rfl⟩
      have hs' := Lib.hid hs
      clear hs hl hv hown
      go_wp2
      go_round
      case rel => exact ⟨j + 1, by omega, by go_num, by rw [hs'.out]⟩
      case measure => simp [intOf]; omega
    · obtain rfl : j = L.length := by omega
      go_wp2
      go_ret
      exact ⟨by simp, rfl⟩

end Go.Proofs.Ytpdfakfokegcnaa
