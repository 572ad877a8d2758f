/-
  Layer 22 (net): Take, Lose.
-/
import Derived.Test.YtpdfakfokegcnaaNet4
namespace Go.Proofs.Ytpdfakfokegcnaa
open Go.RowKit Go.Mine

theorem without_at (B p bw : Nat) (ki ii : Int) (k i : Nat) (vs : List Value) (L : List (List ByteArray)) (l : List ByteArray) (lost : Int) (w : World) (h : NetRep B w p bw vs L lost) (hk : L[k]? = some l) (hi : i < l.length) (e1 : ki = k) (e2 : ii = i) :
    Calls Try.prog 34 #[.pointer (some ⟨p, 0, none⟩), .int .i64 ki, .int .i64 ii] w (WithoutPost B p bw vs L lost k i l w) := by
  subst e1 e2; exact without_any B p bw k i vs L l lost w h hk hi

theorem NetRep.grown {B p bw : Nat} {vs : List Value} {L : List (List ByteArray)} {lost : Int} {w w' : World} (h : NetRep B w p bw vs L lost) (m : Mod none_ w w') : NetRep B w' p bw vs L lost := h.mod m (fun _ e => e.elim)
theorem NetRep.base {B p bw : Nat} {vs : List Value} {L : List (List ByteArray)} {lost : Int} {w : World} (h : NetRep B w p bw vs L lost) : B ≤ w.heap.size := by have := h.hp.lt; have := h.bp; omega
theorem NetRep.below {B p bw : Nat} {vs : List Value} {L : List (List ByteArray)} {lost : Int} {w w' : World} (h : NetRep B w p bw vs L lost) (m : Mod none_ w w') : Below B w w' := m.toBelow h.base (fun _ _ e => e)

set_option maxHeartbeats 400000 in
theorem take_bad (B p bw : Nat) (i k : Int) (st : Bool) (vs : List Value) (L : List (List ByteArray)) (lost : Int) (w : World) (h : NetRep B w p bw vs L lost) (hi : i < 0 ∨ L.length ≤ i) :
    Calls Try.prog 11 #[.pointer (some ⟨p, 0, none⟩), .int .i64 i, .int .i64 k, .bool st] w (NetPost B p bw L lost (.tuple #[.string ByteArray.empty, .int .i64 1]) w) := by
  have hc0 := h.c0
  have hpl := h.hp.lt
  have hp1 : p < w.heap.size + 1 := by omega
  have hp2 : p < w.heap.size + 1 + 1 := by omega
  have H : Aside (NetRep B w p bw vs L lost) := h
  clear h
  rcases hi with hi | hi
  · go_enter Try.func11, Try.ntmps11
    go_wp2
    go_ret2
    exact ⟨rfl, vs, H.out.grown ((((Mod.refl none_ w).alloc _).alloc _).alloc _), H.out.below ((((Mod.refl none_ w).alloc _).alloc _).alloc _)⟩
  · have h0 : 0 ≤ i := by omega
    have hd : decide (i < (L.length : Int)) = false := by simpa using hi
    go_enter Try.func11, Try.ntmps11
    go_wp2
    go_ret2
    exact ⟨rfl, vs, H.out.grown ((((Mod.refl none_ w).alloc _).alloc _).alloc _), H.out.below ((((Mod.refl none_ w).alloc _).alloc _).alloc _)⟩

set_option maxHeartbeats 400000 in
theorem take_neg (B p bw i : Nat) (k : Int) (st : Bool) (vs : List Value) (L : List (List ByteArray)) (lost : Int) (w : World) (h : NetRep B w p bw vs L lost) (hi : i < L.length) (hk : k < 0) :
    Calls Try.prog 11 #[.pointer (some ⟨p, 0, none⟩), .int .i64 i, .int .i64 k, .bool st] w (NetPost B p bw L lost (.tuple #[.string ByteArray.empty, .int .i64 1]) w) := by
  have hc0 := h.c0
  have hpl := h.hp.lt
  have hp1 : p < w.heap.size + 1 := by omega
  have hp2 : p < w.heap.size + 1 + 1 := by omega
  have H : Aside (NetRep B w p bw vs L lost) := h
  clear h
  go_enter Try.func11, Try.ntmps11
  go_wp2
  go_ret2
  exact ⟨rfl, vs, H.out.grown ((((Mod.refl none_ w).alloc _).alloc _).alloc _), H.out.below ((((Mod.refl none_ w).alloc _).alloc _).alloc _)⟩

set_option maxHeartbeats 400000 in
theorem take_none (B p bw i : Nat) (k : Int) (st : Bool) (vs : List Value) (L : List (List ByteArray)) (lost : Int) (w : World) (h : NetRep B w p bw vs L lost) (hi : L[i]? = some []) (hk : 0 ≤ k) :
    Calls Try.prog 11 #[.pointer (some ⟨p, 0, none⟩), .int .i64 i, .int .i64 k, .bool st] w (NetPost B p bw L lost (.tuple #[.string ByteArray.empty, .int .i64 14]) w) := by
  obtain ⟨v, hv, hown, hcell, _, hil⟩ := h.at_ i [] hi
  obtain ⟨ao, cap, rfl⟩ : ∃ ao cap, v = .slice ao 0 cap := by
    rcases ownsRow_blk hown with ⟨rfl, h0, _⟩ | ⟨g, cap, more, rfl, _⟩
    · exact ⟨none, 0, rfl⟩
    · exact ⟨_, _, rfl⟩
  have hc0 := h.c0
  have hpl := h.hp.lt
  have hbl := h.hw.lt
  have hp1 : p < w.heap.size + 1 := by omega
  have hp2 : p < w.heap.size + 1 + 1 := by omega
  have hb1 : bw < w.heap.size + 1 := by omega
  have hb2 : bw < w.heap.size + 1 + 1 := by omega
  have H : Aside (NetRep B w p bw vs L lost) := h
  clear h hown hv hi
  go_enter Try.func11, Try.ntmps11
  go_wp2
  go_ret2
  exact ⟨rfl, vs, H.out.grown ((((Mod.refl none_ w).alloc _).alloc _).alloc _), H.out.below ((((Mod.refl none_ w).alloc _).alloc _).alloc _)⟩

set_option maxHeartbeats 400000 in
theorem take_stay (B p bw i k : Nat) (x : ByteArray) (vs : List Value) (L : List (List ByteArray)) (l : List ByteArray) (lost : Int) (w : World) (h : NetRep B w p bw vs L lost) (hi : L[i]? = some l) (hx : l[k % l.length]? = some x) (hk : k < 9223372036854775808) :
    Calls Try.prog 11 #[.pointer (some ⟨p, 0, none⟩), .int .i64 i, .int .i64 k, .bool true] w (NetPost B p bw L lost (.tuple #[.string x, .int .i64 0]) w) := by
  obtain ⟨v, hv, hown, hcell, hl2, hil⟩ := h.at_ i l hi
  have hm : k % l.length < l.length := (List.getElem?_eq_some_iff.1 hx).1
  have hl0 : 0 < l.length := by omega
  rcases ownsRow_blk hown with ⟨_, h0, _⟩ | ⟨g, cap, more, rfl, hBg, hblk, hnc, hcm, hmore⟩
  · omega
  have hce : w.cell? ⟨g, k % l.length, none⟩ = some (.string x) := by
    rw [hblk.cell, List.getElem?_append_left (by simpa using hm)]; simp [hx]
  have hc0 := h.c0
  have hpl := h.hp.lt
  have hbl := h.hw.lt
  have hgl := hblk.lt
  have hp1 : p < w.heap.size + 1 := by omega
  have hp2 : p < w.heap.size + 1 + 1 := by omega
  have hb1 : bw < w.heap.size + 1 := by omega
  have hb2 : bw < w.heap.size + 1 + 1 := by omega
  have hg1 : g < w.heap.size + 1 := by omega
  have hg2 : g < w.heap.size + 1 + 1 := by omega
  have H : Aside (NetRep B w p bw vs L lost) := h
  have hne : ((l.length : Int) == 0) = false := by rw [beq_eq_false_iff_ne]; omega
  clear h hown hv hi hblk hx
  unfold maxLen at hcm
  go_enter Try.func11, Try.ntmps11
  go_wp2
  go_ret2
  exact ⟨rfl, vs, H.out.grown ((((Mod.refl none_ w).alloc _).alloc _).alloc _), H.out.below ((((Mod.refl none_ w).alloc _).alloc _).alloc _)⟩

theorem NetRep.footBelow {B p bw : Nat} {vs : List Value} {L : List (List ByteArray)} {lost : Int} {w w' : World} (h : NetRep B w p bw vs L lost) (m : Mod (netFoot p bw vs) w w') : Below B w w' :=
  m.toBelow h.base (fun b hb e => by have := (h.foot e).1; omega)

theorem take_end {B p bw i k : Nat} {r : Value} {vs : List Value} {L : List (List ByteArray)} {l : List ByteArray} {lost : Int} {w W : World} {e : Ending} {w' : World} (h : NetRep B w p bw vs L lost) (hr : e = .returned r) (hb : Mod none_ w W)
    (hp : ∃ vs', NetRep B w' p bw vs' (L.set i (l.eraseIdx k)) lost ∧ Mod (netFoot p bw vs) W w') : NetPost B p bw (L.set i (l.eraseIdx k)) lost r w e w' := by
  obtain ⟨vs', h1, h2⟩ := hp
  exact ⟨hr, vs', h1, (h.below hb).trans ((h.grown hb).footBelow h2)⟩

set_option maxHeartbeats 400000 in
theorem take_take (B p bw i k : Nat) (x : ByteArray) (vs : List Value) (L : List (List ByteArray)) (l : List ByteArray) (lost : Int) (w : World) (h : NetRep B w p bw vs L lost) (hi : L[i]? = some l) (hx : l[k % l.length]? = some x) (hk : k < 9223372036854775808) :
    Calls Try.prog 11 #[.pointer (some ⟨p, 0, none⟩), .int .i64 i, .int .i64 k, .bool false] w (NetPost B p bw (L.set i (l.eraseIdx (k % l.length))) lost (.tuple #[.string x, .int .i64 0]) w) := by
  obtain ⟨v, hv, hown, hcell, hl2, hil⟩ := h.at_ i l hi
  have hm : k % l.length < l.length := (List.getElem?_eq_some_iff.1 hx).1
  have hl0 : 0 < l.length := by omega
  rcases ownsRow_blk hown with ⟨_, h0, _⟩ | ⟨g, cap, more, rfl, hBg, hblk, hnc, hcm, hmore⟩
  · omega
  have hce : w.cell? ⟨g, k % l.length, none⟩ = some (.string x) := by
    rw [hblk.cell, List.getElem?_append_left (by simpa using hm)]; simp [hx]
  have hc0 := h.c0
  have hpl := h.hp.lt
  have hbl := h.hw.lt
  have hgl := hblk.lt
  have hp1 : p < w.heap.size + 1 := by omega
  have hp2 : p < w.heap.size + 1 + 1 := by omega
  have hb1 : bw < w.heap.size + 1 := by omega
  have hb2 : bw < w.heap.size + 1 + 1 := by omega
  have hg1 : g < w.heap.size + 1 := by omega
  have hg2 : g < w.heap.size + 1 + 1 := by omega
  have H : Aside (NetRep B w p bw vs L lost) := h
  have Hi : Aside (L[i]? = some l) := hi
  have hne : ((l.length : Int) == 0) = false := by rw [beq_eq_false_iff_ne]; omega
  clear h hown hv hi hblk hx
  unfold maxLen at hcm
  go_enter Try.func11, Try.ntmps11
  go_wp2_with (first | (go_at_call 34; refine (without_at B p bw _ _ i (k % l.length) vs L l lost _ (by exact H.out.grown ((((Mod.refl none_ w).alloc _).alloc _).alloc _)) Hi.out hm (by omega) (by omega)).mono ?_; rintro e w1 ⟨rfl, hpost⟩) | go_in)
  go_ret2
  exact take_end H.out rfl ((((Mod.refl none_ w).alloc _).alloc _).alloc _) hpost

end Go.Proofs.Ytpdfakfokegcnaa
