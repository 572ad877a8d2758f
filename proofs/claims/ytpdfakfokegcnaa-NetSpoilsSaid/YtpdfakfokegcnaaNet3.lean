/-
  Layer 22 (net): without, Put.
-/
import Derived.Test.YtpdfakfokegcnaaNet2
namespace Go.Proofs.Ytpdfakfokegcnaa
open Go.RowKit Go.Mine

/-- The net's own blocks. -/
def netFoot (p bw : Nat) (vs : List Value) (b : Nat) : Prop := b = p ∨ b = bw ∨ ∃ i : Nat, ∃ v, vs[i]? = some v ∧ v.ownBlock = some b
theorem NetRep.foot {B p bw : Nat} {vs : List Value} {L : List (List ByteArray)} {lost : Int} {w : World} (h : NetRep B w p bw vs L lost) {b : Nat} (hb : netFoot p bw vs b) : B ≤ b ∧ b < w.heap.size := by
  rcases hb with rfl | rfl | ⟨i, v, hv, hb⟩
  · exact ⟨h.bp, h.hp.lt⟩
  · exact ⟨h.bb, h.hw.lt⟩
  · have hi : i < L.length := by rw [← h.len]; exact (List.getElem?_eq_some_iff.1 hv).1
    exact (h.own i v L[i] hv (by simp [hi])).lt b hb

def WithoutPost (B : Nat) (p bw : Nat) (vs : List Value) (L : List (List ByteArray)) (lost : Int) (k i : Nat) (l : List ByteArray) (w : World) (en : Ending) (w' : World) : Prop :=
  en = .returned (.tuple #[]) ∧ ∃ vs', NetRep B w' p bw vs' (L.set k (l.eraseIdx i)) lost ∧ Mod (netFoot p bw vs) w w'

theorem eraseIdx_map_str (l : List ByteArray) (i : Nat) : (l.map Value.string).eraseIdx i = (l.eraseIdx i).map Value.string := by
  induction l generalizing i with
  | nil => rfl
  | cons a r ih => cases i <;> simp [ih]

theorem without_end {B p bw k i g cap : Nat} {vs : List Value} {L : List (List ByteArray)} {l : List ByteArray} {lost : Int} {w w1 : World} {cs' : List Value} (h : NetRep B w p bw vs L lost) (hk : L[k]? = some l) (hi : i < l.length)
    (hv : vs[k]? = some (.slice (some ⟨g, 0, none⟩) l.length cap)) (hBg : B ≤ g) (hnc : l.length ≤ cap) (hcm : cap ≤ maxLen) (b1 : Blk w1 g cs' 9) (b2 : cs'.length = cap) (b3 : cs'.take (l.length - 1) = (l.map Value.string).eraseIdx i) (m1 : Mod (one g) w.drew w1) :
    WithoutPost B p bw vs L lost k i l w (.returned (.tuple #[])) (w1.setCell ⟨bw, k, none⟩ (.slice (some ⟨g, 0, none⟩) (l.length - 1) cap)) := by
  have hle : (l.eraseIdx i).length = l.length - 1 := by rw [List.length_eraseIdx, if_pos hi]
  have m : Mod (fun b => (Value.slice (some ⟨g, 0, none⟩) l.length cap).ownBlock = some b ∨ w.heap.size ≤ b) w w1 := (Mod.refl _ w).drew.trans (m1.mono (fun k _ e => .inl (by rw [e]; rfl)))
  have hb : Mod (netFoot p bw vs) w (w1.setCell ⟨bw, k, none⟩ (.slice (some ⟨g, 0, none⟩) (l.length - 1) cap)) := by
    refine ((Mod.refl _ w).drew.trans (m1.mono (fun b _ e => ?_))).setCell ⟨bw, k, none⟩ (fun _ => .inr (.inl rfl)) _
    have e' : b = g := e
    subst e'
    exact .inr (.inr ⟨k, _, hv, rfl⟩)
  refine ⟨rfl, _, h.turn k _ (.slice (some ⟨g, 0, none⟩) (l.length - 1) cap) (l.eraseIdx i) hv m ?_ ?_ (fun b hb => .inl hb), hb⟩
  · rw [hle]
    have hx : cs' = (l.eraseIdx i).map Value.string ++ cs'.drop (l.length - 1) := by
      rw [eraseIdx_map_str] at b3
      rw [← b3, List.take_append_drop]
    refine blk_ownsRow hBg (by rw [← hx]; exact b1) (by rw [List.length_map, hle]; omega) (by omega) hcm ?_
    rw [← List.length_append, ← hx, b2]; omega
  · have := h.each l (List.mem_of_getElem? hk); omega

set_option maxHeartbeats 200000 in
set_option maxRecDepth 1000000 in
theorem without_any (B p bw k i : Nat) (vs : List Value) (L : List (List ByteArray)) (l : List ByteArray) (lost : Int) (w : World) (h : NetRep B w p bw vs L lost) (hk : L[k]? = some l) (hi : i < l.length) :
    Calls Try.prog 34 #[.pointer (some ⟨p, 0, none⟩), .int .i64 k, .int .i64 i] w (WithoutPost B p bw vs L lost k i l w) := by
  obtain ⟨v, hv, hown, hcell, hl, hkl⟩ := h.at_ k l hk
  rcases ownsRow_blk hown with ⟨_, h0, _⟩ | ⟨g, cap, more, rfl, hBg, hblk, hnc, hcm, hmore⟩
  · omega
  have hgp := h.dp k _ g hv rfl
  have hc0 := h.c0
  have hgl := hblk.lt
  have hfew := h.few
  have hml : (l.map Value.string ++ more).length = cap := by rw [List.length_append, hmore]; omega
  -- Delete, in whatever world in which the row lies so
  have hdel : Aside (∀ w1, Blk w1 g (l.map Value.string ++ more) 9 → Calls Try.prog 45 #[.slice (some ⟨g, 0, none⟩) l.length cap, .int .i64 i, .int .i64 (i+1)] w1 fun en w' => en = .returned (.slice (some ⟨g, 0, none⟩) (l.length-1) cap) ∧
      ∃ cs', Blk w' g cs' 9 ∧ cs'.length = cap ∧ cs'.take (l.length - 1) = (l.map Value.string).eraseIdx i ∧ Mod (one g) w1 w') := by
    intro w1 hw1
    refine (del_any g cap l.length i _ _ w1 hi hnc (by unfold maxLen at hcm; omega) hml ?_ hw1).mono ?_
    · intro u hu
      rw [List.take_left' (List.length_map _)] at hu
      obtain ⟨x, _, rfl⟩ := List.mem_map.1 hu; rfl
    · rintro e w' ⟨rfl, cs', a, b, c, d⟩
      exact ⟨rfl, cs', a, b, by rw [c]; congr 1; exact List.take_left' (List.length_map _), d⟩
  have H : Aside (NetRep B w p bw vs L lost) := h
  have HB : Aside (Blk w g (l.map Value.string ++ more) 9) := hblk
  have hp1 : IntKind.i64.wrap ((i : Int) + 1) = (i : Int) + 1 := IntWalk.i64_in _ (by omega)
  have Hcm : Aside (cap ≤ maxLen) := hcm
  have Hk : Aside (L[k]? = some l) := hk
  unfold maxLen at hcm
  clear h hown hblk hk hmore hml
  go_enter Try.func34, Try.ntmps34
  go_wp2
  go_region_law (go_simp; go_at_call 45; refine (hdel.out w.drew HB.out).mono ?_; rintro e w1 ⟨rfl, cs', b1, b2, b3, m1⟩; have q1 := m1.cell (p := ⟨p, 0, none⟩) (fun s => hgp.1 s.symm) hc0; have q2 := m1.cell (p := ⟨bw, k, none⟩) (fun s => hgp.2 s.symm) hcell; have q3 := (H.out.hw.drew.mod m1 (fun s => hgp.2 s.symm)).frozen k)
  all_goals (go_end0; exact without_end H.out Hk.out hi hv hBg hnc Hcm.out b1 b2 b3 m1)
end Go.Proofs.Ytpdfakfokegcnaa
