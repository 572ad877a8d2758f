/-
  Layer 22 (net): Spoil.
-/
import Derived.Test.YtpdfakfokegcnaaNet7
namespace Go.Proofs.Ytpdfakfokegcnaa
open Go.RowKit Go.Mine

/-- One byte turned. -/
def turned (x : ByteArray) (at_ by_ : Nat) : ByteArray := ⟨(x.data.toList.set (at_ % x.size) (x.data.toList.getD (at_ % x.size) 0 ^^^ UInt8.ofNat (by_ % 255 + 1))).toArray⟩

theorem turned_val (b : UInt8) (by_ : Nat) : bits .xor .u8 (b.toNat : Int) ((by_ : Int) % 255 + 1) = ((b ^^^ UInt8.ofNat (by_ % 255 + 1)).toNat : Int) := by
  have h : ((by_ : Int) % 255 + 1) = ((by_ % 255 + 1 : Nat) : Int) := by omega
  rw [h, u8_xor_nat _ _ b.toNat_lt (by omega)]
  congr 1
  rw [UInt8.toNat_xor, UInt8.toNat_ofNat']
  rw [Nat.mod_eq_of_lt (show by_ % 255 + 1 < 2 ^ 8 by omega)]

def Spoilt (g i : Nat) (y : ByteArray) (w : World) (e : Ending) (w' : World) : Prop :=
  e = .returned (.bool true) ∧ ∃ W, Mod none_ w W ∧ w' = W.setCell ⟨g, i, none⟩ (.string y)

set_option maxHeartbeats 400000 in
set_option maxRecDepth 1000000 in
theorem spoil1_some (g n cap i b1 b2 at_ by_ : Nat) (x : ByteArray) (w : World) (hin : i < n) (hnc : n ≤ cap) (hcm : cap ≤ 9223372036854775807) (hat : at_ < 9223372036854775808) (hby : by_ < 9223372036854775808) (hx0 : 0 < x.size) (hx1 : x.size ≤ 1000)
   (hce : w.cell? ⟨g, i, none⟩ = some (.string x)) (hfe : w.frozen? ⟨g, i, none⟩ = false) (h1 : w.cell? ⟨b1, 0, none⟩ = some (.int .i64 at_)) (h2 : w.cell? ⟨b2, 0, none⟩ = some (.int .i64 by_)) :
    Calls Try.prog 37 #[.slice (some ⟨g, 0, none⟩) n cap, .int .i64 i, .pointer (some ⟨b1, 0, none⟩), .pointer (some ⟨b2, 0, none⟩)] w (Spoilt g i (turned x at_ by_) w) := by
  have hcv := run_bytes_of_string w 9 40 5 x Try.underlying9 Try.underlying40 Try.underlying5
  have hgl := block_lt_of_cell hce
  have h1l := block_lt_of_cell h1
  have h2l := block_lt_of_cell h2
  obtain ⟨c, hc⟩ : ∃ c, c = grownCap w x.size 0 5 := ⟨_, rfl⟩
  have hxc : x.size ≤ c := by rw [hc]; exact grownCap_ge _ _ _ _
  rw [← hc] at hcv
  obtain ⟨W1, hW1⟩ : ∃ W1, W1 = w.drew.alloc (.cells (bytesRow x c) 5 ((bytesRow x c).size, (bytesRow x c).size + 1)) := ⟨_, rfl⟩
  rw [← hW1] at hcv
  have M1 : Mod none_ w W1 := by rw [hW1]; exact (Mod.refl _ w).drew.alloc _
  have q1 := M1.cell (p := ⟨b1, 0, none⟩) (fun e => e) h1
  have q2 := M1.cell (p := ⟨b2, 0, none⟩) (fun e => e) h2
  have hjl : at_ % x.size < x.size := Nat.mod_lt _ hx0
  have q3 : W1.cell? ⟨w.heap.size, at_ % x.size, none⟩ = some (.int .u8 ((x[at_ % x.size]'hjl).toNat : Int)) := by
    rw [hW1]; rw [show w.heap.size = w.drew.heap.size from rfl, World.cell?_alloc_mark]; exact bytesRow_at x c _ hjl
  have q4 : W1.frozen? ⟨w.heap.size, at_ % x.size, none⟩ = false := by
    rw [hW1]; rw [show w.heap.size = w.drew.heap.size from rfl, World.frozen?_alloc_mark]
    have : (bytesRow x c).size = c := by simp [bytesRow]; omega
    simp [this]; omega
  obtain ⟨bb, hbb⟩ : ∃ bb : UInt8, bb = x[at_ % x.size]'hjl := ⟨_, rfl⟩
  rw [← hbb] at q3
  have hbl : (bb.toNat : Int) < 256 := by have := bb.toNat_lt; omega
  obtain ⟨W2, hW2⟩ : ∃ W2, W2 = (W1.setCell ⟨w.heap.size, at_ % x.size, none⟩ (.int .u8 (bits .xor .u8 (bb.toNat : Int) ((by_ : Int) % 255 + 1)))).drew := ⟨_, rfl⟩
  have M2 : Mod none_ w W2 := by rw [hW2]; exact (M1.setCell ⟨w.heap.size, at_ % x.size, none⟩ (fun h => absurd h (Nat.lt_irrefl _)) _).drew
  have hback : (convert 40 9 (.slice (some ⟨w.heap.size, 0, none⟩) x.size c)).run Try.prog W2 = .ok (.string (turned x at_ by_)) W2 := by
    have hl : (x.data.toList.set (at_ % x.size) (x.data.toList.getD (at_ % x.size) 0 ^^^ UInt8.ofNat (by_ % 255 + 1))).length = x.size := by simp
    have := run_convert_bytes_back (P := Try.prog) W2 40 9 5 ⟨w.heap.size, 0, none⟩ c (x.data.toList.set (at_ % x.size) (x.data.toList.getD (at_ % x.size) 0 ^^^ UInt8.ofNat (by_ % 255 + 1))) Try.underlying40 Try.underlying5 Try.underlying9 (fun j hj => ?_)
    · rw [hl] at this; exact this
    · rw [Addr.add_lit, hW2, Nat.zero_add]
      have hj' : j < x.size := by rw [hl] at hj; exact hj
      have hj2 : j < x.data.size := hj'
      show (W1.setCell _ _).cell? _ = _
      by_cases e : j = at_ % x.size
      · subst e
        have hg : x.data.toList.getD (at_ % x.size) 0 = bb := by
          rw [hbb, List.getD_eq_getElem?_getD, List.getElem?_eq_getElem (by simpa using hj2)]; rfl
        rw [World.cell?_setCell_same _ _ _ q3, turned_val]
        simp only [hg, List.getElem_set_self]
      · rw [World.cell?_setCell_other _ _ _ _ (fun s => e (by injection s with _ s2 _; exact s2.symm))]
        rw [hW1, show w.heap.size = w.drew.heap.size from rfl, World.cell?_alloc_mark, bytesRow_at x c j hj2]
        rw [List.getElem_set_ne (fun s => e s.symm)]; simp
  have q5 := M2.cell (p := ⟨g, i, none⟩) (fun e => e) hce
  have q6 : W2.frozen? ⟨g, i, none⟩ = false := by rw [World.frozen?_of_block (w := w) (M2.block g hgl (fun e => e))]; exact hfe
  rw [hW2] at hback q5 q6
  have X := Lib.hid M2
  have HW2 := Lib.hid hW2
  clear hW1 hbb hc M1 hW2 M2
  go_enter Try.func37, Try.ntmps37
  go_wp2
  go_region
  all_goals (go_wp2; go_ret; exact ⟨rfl, W2, X.out, by rw [HW2.out]; rfl⟩)

set_option maxHeartbeats 400000 in
set_option maxRecDepth 1000000 in
theorem spoil1_empty (g n cap i : Nat) (b1 b2 : Value) (x : ByteArray) (w : World) (hin : i < n) (hnc : n ≤ cap) (hcm : cap ≤ 9223372036854775807) (hx0 : x.size = 0)
   (hce : w.cell? ⟨g, i, none⟩ = some (.string x)) :
    Calls Try.prog 37 #[.slice (some ⟨g, 0, none⟩) n cap, .int .i64 i, b1, b2] w fun e w' => e = .returned (.bool true) ∧ Mod none_ w w' := by
  have hcv := run_bytes_of_string w 9 40 5 x Try.underlying9 Try.underlying40 Try.underlying5
  rw [hx0] at hcv
  go_enter Try.func37, Try.ntmps37
  go_wp2
  go_ret
  exact ⟨rfl, (Mod.refl _ w).drew.alloc _⟩

/-- One text of a way is another one. -/
theorem NetRep.put {B p bw : Nat} {vs : List Value} {L : List (List ByteArray)} {l : List ByteArray} {lost : Int} {w : World} (h : NetRep B w p bw vs L lost) (i k g cap : Nat) (hi : L[i]? = some l) (hv : vs[i]? = some (.slice (some ⟨g, 0, none⟩) l.length cap)) (hk : k < l.length) (y : ByteArray) :
    NetRep B (w.setCell ⟨g, k, none⟩ (.string y)) p bw vs (L.set i (l.set k y)) lost := by
  obtain ⟨v', hv', hown, hcell, hl2, hil⟩ := h.at_ i l hi
  rw [hv] at hv'; cases hv'
  rcases ownsRow_blk hown with ⟨e, _, _⟩ | ⟨g', cap', more, e, hBg, hblk, hnc, hcm, hmore⟩
  · cases e
  cases e
  have hgp := h.dp i _ g hv rfl
  have m : Mod (one g) w (w.setCell ⟨g, k, none⟩ (.string y)) := (Mod.refl (one g) w).setCell ⟨g, k, none⟩ (fun _ => rfl) _
  refine ⟨by rw [List.length_set]; exact h.hp.mod m (fun e => hgp.1 e.symm), h.hw.mod m (fun e => hgp.2 e.symm), by simp [h.len], by simpa using h.few, fun l' hl' => ?_, fun j v l' hvj hlj => ?_, h.ne, h.bp, h.bb, h.dp, h.dd⟩
  · rcases List.mem_or_eq_of_mem_set hl' with s | rfl
    · exact h.each l' s
    · simpa using hl2
  · by_cases e : j = i
    · subst e
      rw [hv] at hvj; cases hvj
      rw [List.getElem?_set_self hil] at hlj; cases hlj
      have hb := hblk.set k (.string y)
      rw [List.set_append_left _ _ (by simpa using hk), ← List.map_set] at hb
      rw [List.length_set]
      refine blk_ownsRow hBg hb (by simp) hnc hcm (by simpa using hmore)
    · rw [List.getElem?_set_ne (fun s => e s.symm)] at hlj
      exact ownsRow_mod (h.own j v l' hvj hlj) m (fun b hb s => h.dd j i v _ b e hvj hv hb (by rw [show b = g from s]; rfl))

set_option maxHeartbeats 400000 in
set_option maxRecDepth 1000000 in
theorem spoil_some (B p bw i k at_ by_ : Nat) (x : ByteArray) (vs : List Value) (L : List (List ByteArray)) (l : List ByteArray) (lost : Int) (w : World) (h : NetRep B w p bw vs L lost) (hi : L[i]? = some l) (hx : l[k % l.length]? = some x) (hk : k < 9223372036854775808) (hat : at_ < 9223372036854775808) (hby : by_ < 9223372036854775808) (hx0 : 0 < x.size) (hx1 : x.size ≤ 1000) :
    Calls Try.prog 13 #[.pointer (some ⟨p, 0, none⟩), .int .i64 i, .int .i64 k, .int .i64 at_, .int .i64 by_] w (NetPost B p bw (L.set i (l.set (k % l.length) (turned x at_ by_))) lost (.int .i64 0) w) := by
  obtain ⟨v, hv, hown, hcell, hl2, hil⟩ := h.at_ i l hi
  have hm : k % l.length < l.length := (List.getElem?_eq_some_iff.1 hx).1
  have hl0 : 0 < l.length := by omega
  rcases ownsRow_blk hown with ⟨_, h0, _⟩ | ⟨g, cap, more, rfl, hBg, hblk, hnc, hcm, hmore⟩
  · omega
  have hce : w.cell? ⟨g, k % l.length, none⟩ = some (.string x) := by
    rw [hblk.cell, List.getElem?_append_left (by simpa using hm)]; simp [hx]
  have hfe := hblk.frozen (k % l.length)
  have hc0 := h.c0
  have hpl := h.hp.lt
  have hbl := h.hw.lt
  have hgl := hblk.lt
  have hp1 : p < w.heap.size + 1 := by omega
  have hb1 : bw < w.heap.size + 1 := by omega
  have H : Aside (NetRep B w p bw vs L lost) := h
  have Hi : Aside (L[i]? = some l ∧ vs[i]? = some (.slice (some ⟨g, 0, none⟩) l.length cap) ∧ cap ≤ maxLen) := ⟨hi, hv, hcm⟩
  have hne : ((l.length : Int) == 0) = false := by rw [beq_eq_false_iff_ne]; omega
  obtain ⟨W, hW⟩ : ∃ W, W = (w.alloc (.cells #[.int .i64 at_] 3)).alloc (.cells #[.int .i64 by_] 3) := ⟨_, rfl⟩
  have M : Mod none_ w W := by rw [hW]; exact ((Mod.refl none_ w).alloc _).alloc _
  have hsp := spoil1_some g l.length cap (k % l.length) w.heap.size (w.heap.size + 1) at_ by_ x W hm hnc (by unfold maxLen at hcm; omega) hat hby hx0 hx1 (M.cell (p := ⟨g, k % l.length, none⟩) (fun e => e) hce) (by rw [World.frozen?_of_block (w := w) (M.block g hgl (fun e => e))]; exact hfe) (by rw [hW]; simp [go_sem]) (by rw [hW]; simp [go_sem])
  have hki : ((k % l.length : Nat) : Int) = (k : Int) % (l.length : Int) := by omega
  rw [hki] at hsp
  have HSP := Lib.hid hsp
  have HW := Lib.hid hW
  have HM := Lib.hid M
  clear h hown hv hi hblk hx hsp hW M hki
  unfold maxLen at hcm
  go_enter Try.func13, Try.ntmps13
  go_wp2_with (first | (go_at_call 37; rw [← HW.out]; refine HSP.out.mono ?_; rintro e w1 ⟨rfl, W3, m3, rfl⟩; have R1 := Lib.hid m3; clear m3) | go_in)
  go_ret
  exact ⟨rfl, vs, (H.out.grown (HM.out.trans R1.out)).put i (k % l.length) g cap Hi.out.1 Hi.out.2.1 hm _, (H.out.below (HM.out.trans R1.out)).setCell hBg _⟩

set_option maxHeartbeats 400000 in
set_option maxRecDepth 1000000 in
theorem spoil_empty (B p bw i k at_ by_ : Nat) (x : ByteArray) (vs : List Value) (L : List (List ByteArray)) (l : List ByteArray) (lost : Int) (w : World) (h : NetRep B w p bw vs L lost) (hi : L[i]? = some l) (hx : l[k % l.length]? = some x) (hk : k < 9223372036854775808) (hx0 : x.size = 0) :
    Calls Try.prog 13 #[.pointer (some ⟨p, 0, none⟩), .int .i64 i, .int .i64 k, .int .i64 at_, .int .i64 by_] w (NetPost B p bw L lost (.int .i64 0) w) := by
  obtain ⟨v, hv, hown, hcell, hl2, hil⟩ := h.at_ i l hi
  have hm : k % l.length < l.length := (List.getElem?_eq_some_iff.1 hx).1
  have hl0 : 0 < l.length := by omega
  rcases ownsRow_blk hown with ⟨_, h0, _⟩ | ⟨g, cap, more, rfl, hBg, hblk, hnc, hcm, hmore⟩
  · omega
  have hce : w.cell? ⟨g, k % l.length, none⟩ = some (.string x) := by
    rw [hblk.cell, List.getElem?_append_left (by simpa using hm)]; simp [hx]
  have hc0 := h.c0
  have hpl := h.hp.lt
  have hbl := h.hw.lt
  have hgl := hblk.lt
  have hp1 : p < w.heap.size + 1 := by omega
  have hb1 : bw < w.heap.size + 1 := by omega
  have H : Aside (NetRep B w p bw vs L lost) := h
  have hne : ((l.length : Int) == 0) = false := by rw [beq_eq_false_iff_ne]; omega
  obtain ⟨W, hW⟩ : ∃ W, W = (w.alloc (.cells #[.int .i64 at_] 3)).alloc (.cells #[.int .i64 by_] 3) := ⟨_, rfl⟩
  have M : Mod none_ w W := by rw [hW]; exact ((Mod.refl none_ w).alloc _).alloc _
  have hsp := fun b1 b2 => spoil1_empty g l.length cap (k % l.length) b1 b2 x W hm hnc (by unfold maxLen at hcm; omega) hx0 (M.cell (p := ⟨g, k % l.length, none⟩) (fun e => e) hce)
  have hki : ((k % l.length : Nat) : Int) = (k : Int) % (l.length : Int) := by omega
  rw [hki] at hsp
  have HSP := Lib.hid hsp
  have HW := Lib.hid hW
  have HM := Lib.hid M
  clear h hown hv hi hblk hx hsp hW M hki
  unfold maxLen at hcm
  go_enter Try.func13, Try.ntmps13
  go_wp2_with (first | (go_at_call 37; rw [← HW.out]; refine (HSP.out _ _).mono ?_; rintro e w1 ⟨rfl, m3⟩; have R1 := Lib.hid m3; clear m3) | go_in)
  go_ret
  exact ⟨rfl, vs, H.out.grown (HM.out.trans R1.out), H.out.below (HM.out.trans R1.out)⟩

set_option maxHeartbeats 400000 in
theorem spoil_none (B p bw i : Nat) (k at_ by_ : Int) (vs : List Value) (L : List (List ByteArray)) (lost : Int) (w : World) (h : NetRep B w p bw vs L lost) (hi : L[i]? = some []) (hk : 0 ≤ k) (h1 : 0 ≤ at_) (h2 : 0 ≤ by_) :
    Calls Try.prog 13 #[.pointer (some ⟨p, 0, none⟩), .int .i64 i, .int .i64 k, .int .i64 at_, .int .i64 by_] w (NetPost B p bw L lost (.int .i64 14) w) := by
  obtain ⟨v, hv, hown, hcell, _, hil⟩ := h.at_ i [] hi
  obtain ⟨ao, cap, rfl⟩ : ∃ ao cap, v = .slice ao 0 cap := by
    rcases ownsRow_blk hown with ⟨rfl, h0, _⟩ | ⟨g, cap, more, rfl, _⟩
    · exact ⟨none, 0, rfl⟩
    · exact ⟨_, _, rfl⟩
  have hc0 := h.c0
  have hpl := h.hp.lt
  have hbl := h.hw.lt
  have hp1 : p < w.heap.size + 1 := by omega
  have hb1 : bw < w.heap.size + 1 := by omega
  have H : Aside (NetRep B w p bw vs L lost) := h
  clear h hown hv hi
  go_enter Try.func13, Try.ntmps13
  go_wp2
  go_ret
  exact ⟨rfl, vs, H.out.grown (((Mod.refl none_ w).alloc _).alloc _), H.out.below (((Mod.refl none_ w).alloc _).alloc _)⟩

set_option maxHeartbeats 400000 in
theorem spoil_bad (B p bw : Nat) (i k at_ by_ : Int) (vs : List Value) (L : List (List ByteArray)) (lost : Int) (w : World) (h : NetRep B w p bw vs L lost) (hi : at_ < 0 ∨ by_ < 0 ∨ i < 0 ∨ L.length ≤ i ∨ k < 0) :
    Calls Try.prog 13 #[.pointer (some ⟨p, 0, none⟩), .int .i64 i, .int .i64 k, .int .i64 at_, .int .i64 by_] w (NetPost B p bw L lost (.int .i64 1) w) := by
  have hc0 := h.c0
  have hpl := h.hp.lt
  have hp1 : p < w.heap.size + 1 := by omega
  have hp2 : p < w.heap.size + 1 + 1 := by omega
  have H : Aside (NetRep B w p bw vs L lost) := h
  clear h
  by_cases ha : at_ < 0
  · clear hi
    go_enter Try.func13, Try.ntmps13
    go_wp2
    go_ret
    exact ⟨rfl, vs, H.out.grown (((Mod.refl none_ w).alloc _).alloc _), H.out.below (((Mod.refl none_ w).alloc _).alloc _)⟩
  have ha' : decide (at_ < 0) = false := by simpa using ha
  by_cases hb : by_ < 0
  · clear hi
    go_enter Try.func13, Try.ntmps13
    go_wp2
    go_ret
    exact ⟨rfl, vs, H.out.grown (((Mod.refl none_ w).alloc _).alloc _), H.out.below (((Mod.refl none_ w).alloc _).alloc _)⟩
  have hb' : decide (by_ < 0) = false := by simpa using hb
  by_cases hi0 : i < 0
  · clear hi
    go_enter Try.func13, Try.ntmps13
    go_wp2
    go_ret
    exact ⟨rfl, vs, H.out.grown (((Mod.refl none_ w).alloc _).alloc _), H.out.below (((Mod.refl none_ w).alloc _).alloc _)⟩
  have h0 : 0 ≤ i := by omega
  by_cases hiL : (L.length : Int) ≤ i
  · clear hi
    have hd : decide (i < (L.length : Int)) = false := by simpa using hiL
    go_enter Try.func13, Try.ntmps13
    go_wp2
    go_ret
    exact ⟨rfl, vs, H.out.grown (((Mod.refl none_ w).alloc _).alloc _), H.out.below (((Mod.refl none_ w).alloc _).alloc _)⟩
  · have hk : k < 0 := by omega
    have hd : decide (i < (L.length : Int)) = true := by simpa using hiL
    clear hi
    go_enter Try.func13, Try.ntmps13
    go_wp2
    go_ret
    exact ⟨rfl, vs, H.out.grown (((Mod.refl none_ w).alloc _).alloc _), H.out.below (((Mod.refl none_ w).alloc _).alloc _)⟩

end Go.Proofs.Ytpdfakfokegcnaa
