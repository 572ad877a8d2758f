/-
  Layer 21 (hold): down.
-/
import Derived.Test.YtpdfakfokegcnaaHold2
namespace Go.Proofs.Ytpdfakfokegcnaa
open Go.RowKit Go.Mine
attribute [local go_sem] m_push m_pop m_has m_first m_len m_less m_swap

def DnPost (B lb g cap : Nat) (xs : List Itm) (more : List Value) (i0 n : Nat) (w : World) (e : Ending) (w' : World) : Prop :=
  ∃ b ys, e = .returned (.bool b) ∧ ys.length = xs.length ∧ ys.Perm xs ∧ IRep B w' lb g cap ys more ∧ (b = false → ys = xs) ∧ (Dn kI n xs i0 false → (b = false → Up kI n xs i0) ∧ (b = true → HeapTo kI n ys)) ∧ (∀ k, n ≤ k → ys.getD k default = xs.getD k default) ∧ Mod (one g) w w'

def DnInv (B lb g cap : Nat) (xs : List Itm) (more : List Value) (i0 n : Nat) (w : World) (ii : Nat) (ys : List Itm) (wr : World) : Prop :=
  i0 ≤ ii ∧ ys.length = xs.length ∧ ys.Perm xs ∧ IRep B wr lb g cap ys more ∧ (ii = i0 → ys = xs) ∧ (Dn kI n xs i0 false → Dn kI n ys ii (decide (i0 < ii))) ∧ (∀ k, n ≤ k → ys.getD k default = xs.getD k default) ∧ Mod (one g) w wr

theorem dn_end {B lb g cap i0 n ii : Nat} {xs ys : List Itm} {more : List Value} {w wr w' : World} (h : DnInv B lb g cap xs more i0 n w ii ys wr) (m : Mod none_ wr w') (hmin : ∀ c, 0 < c → c < n → par c = ii → key kI ys ii ≤ key kI ys c) (b : Bool) (hb : b = decide (i0 < ii)) :
    DnPost B lb g cap xs more i0 n w (.returned (.bool b)) w' := by
  obtain ⟨h1, h2, h3, h4, h5, h6, h7, h8⟩ := h
  subst hb
  refine ⟨_, ys, rfl, h2, h3, h4.grown m, fun e => ?_, fun hd => ⟨fun e => ?_, fun e => ?_⟩, h7, h8.trans (m.mono (fun _ _ e => e.elim))⟩
  · simp at e; exact h5 (by omega)
  · simp at e
    obtain rfl : ii = i0 := by omega
    obtain rfl : ys = xs := h5 rfl
    have := h6 hd
    rw [decide_eq_false (by omega)] at this
    exact this.stay hmin
  · have := h6 hd
    rw [e] at this
    exact this.stop hmin

theorem dn_step {B lb g cap i0 n ii j : Nat} {xs ys : List Itm} {more : List Value} {w wr w' : World} (h : DnInv B lb g cap xs more i0 n w ii ys wr) (hn : n ≤ xs.length) (hj : 0 < j) (hjn : j < n) (hpj : par j = ii) (hlt : key kI ys j < key kI ys ii)
    (hmin : ∀ c, 0 < c → c < n → par c = ii → key kI ys j ≤ key kI ys c) (hr : IRep B w' lb g cap (sw ys ii j) more) (m : Mod (one g) wr w') : DnInv B lb g cap xs more i0 n w j (sw ys ii j) w' := by
  obtain ⟨h1, h2, h3, h4, h5, h6, h7, h8⟩ := h
  have hij : ii < j := by have := par_lt hj; omega
  refine ⟨by omega, by rw [sw_length, h2], (sw_perm ys _ _ (by omega) (by omega)).trans h3, hr, fun e => by omega, fun hd => ?_, fun k hk => ?_, h8.trans m⟩
  · rw [decide_eq_true (by omega)]
    exact (h6 hd).step hj hjn hpj (by rw [h2]; exact hn) hlt hmin
  · rw [sw_getD ys _ _ k (by omega) (by omega), if_neg (by omega), if_neg (by omega)]
    exact h7 k hk

set_option maxHeartbeats 1000000 in
set_option maxRecDepth 1000000 in
theorem down_any (B lb g cap : Nat) (xs : List Itm) (more : List Value) (i0 n : Nat) (iI nI : Int) (w : World) (h : IRep B w lb g cap xs more) (hn : n ≤ xs.length) (hi : i0 ≤ 100) (e1 : iI = i0) (e2 : nI = n) :
    Calls Try.prog 47 #[.iface 85 (.pointer (some ⟨lb, 0, none⟩)), .int .i64 iI, .int .i64 nI] w (DnPost B lb g cap xs more i0 n w) := by
  subst e1 e2
  have H := Lib.hid h
  have hfew := h.few
  have HN := Lib.hid hn
  clear h
  go_enter Try.func47, Try.ntmps47
  go_wp2_with fail
  go_loopw [7] (fun v wr => ∃ (ii : Nat) (ys : List Itm), v = .int .i64 ii ∧ ii ≤ 100 ∧ DnInv B lb g cap xs more i0 n w ii ys wr) (fun v _ => (200 - intOf v).toNat)
  case atStart => exact ⟨i0, xs, rfl, hi, Nat.le_refl _, rfl, List.Perm.refl _, H.out, fun _ => rfl, fun h => by rw [decide_eq_false (Nat.lt_irrefl _)]; exact h, fun _ _ => rfl, Mod.refl _ _⟩
  case round =>
    obtain ⟨ii, ys, rfl, hii, hinv⟩ := hrel
    have hge := hinv.1
    have hlen := hinv.2.1
    have hr := hinv.2.2.2.1
    have c0 := hr.c0
    have R := Lib.hid hr
    have Q := Lib.hid hinv
    have hnl : n ≤ ys.length := by omega
    clear hr hinv hlen
    by_cases hj1 : n ≤ 2 * ii + 1
    · have hd1 : decide ((n : Int) ≤ 2 * (ii : Int) + 1) = true := by simp; omega
      go_wp2_with fail
      go_ret
      exact dn_end Q.out (Mod.refl _ _) (fun c h1 h2 h3 => by unfold par at h3; omega) _ (by simp)
    have hd1 : decide ((n : Int) ≤ 2 * (ii : Int) + 1) = false := by simp; omega
    have hd2 : decide (2 * (ii : Int) + 1 < 0) = false := by simp; omega
    by_cases hj2 : n ≤ 2 * ii + 2
    · have hd3 : decide (2 * (ii : Int) + 1 + 1 < (n : Int)) = false := by simp; omega
      have HM := Lib.hid (show ∀ c, 0 < c → c < n → par c = ii → key kI ys (2 * ii + 1) ≤ key kI ys c from fun c h1 h2 h3 => by rw [show c = 2 * ii + 1 from by unfold par at h3; omega]; omega)
      go_wp2_with fail
      by_cases hlt : key kI ys (2 * ii + 1) < key kI ys ii
      · have hd : decide (key kI ys (2 * ii + 1) < key kI ys ii) = true := decide_eq_true hlt
        have HL := Lib.hid hlt
        clear hlt
        refine (less_at B lb g cap ys more wr R.out _ _ (2 * ii + 1) ii (by omega) (by omega) (by omega) (by omega)).mono ?_
        rintro e w8 ⟨rfl, m8⟩
        rw [hd]
        have R8 := Lib.hid (IRep.grown R.out m8)
        have c8 := R8.out.c0
        have M8 := Lib.hid m8
        clear m8
        go_wp2_with fail
        refine (swap_at B lb g cap ys more w8 R8.out _ _ ii (2 * ii + 1) (by omega) (by omega) (by omega) (by omega)).mono ?_
        rintro e w9 ⟨rfl, r9, m9⟩
        have R9 := Lib.hid r9
        have M9 := Lib.hid m9
        clear r9 m9
        go_wp2_with fail
        exact ⟨⟨2 * ii + 1, sw ys ii (2 * ii + 1), by go_num, by omega, dn_step Q.out HN.out (by omega) (by omega) (by unfold par; omega) HL.out HM.out R9.out (((Mod.refl none_ wr).trans M8.out).mono (fun _ _ e => e.elim) |>.trans M9.out)⟩, by simp [intOf]; omega⟩
      · have hd : decide (key kI ys (2 * ii + 1) < key kI ys ii) = false := decide_eq_false hlt
        have HL := Lib.hid hlt
        clear hlt
        refine (less_at B lb g cap ys more wr R.out _ _ (2 * ii + 1) ii (by omega) (by omega) (by omega) (by omega)).mono ?_
        rintro e w8 ⟨rfl, m8⟩
        rw [hd]
        have M8 := Lib.hid m8
        clear m8
        go_wp2_with fail
        go_ret
        exact dn_end Q.out ((Mod.refl none_ wr).trans M8.out) (fun c h1 h2 h3 => by have := HM.out c h1 h2 h3; have := HL.out; omega) _ (by simp)
    have hd3 : decide (2 * (ii : Int) + 1 + 1 < (n : Int)) = true := by simp; omega
    by_cases hc : key kI ys (2 * ii + 2) < key kI ys (2 * ii + 1)
    · have hdc : decide (key kI ys (2 * ii + 2) < key kI ys (2 * ii + 1)) = true := decide_eq_true hc
      have HM := Lib.hid (show ∀ c, 0 < c → c < n → par c = ii → key kI ys (2 * ii + 2) ≤ key kI ys c from fun c h1 h2 h3 => by rcases (show c = 2 * ii + 1 ∨ c = 2 * ii + 2 from by unfold par at h3; omega) with rfl | rfl <;> omega)
      clear hc
      go_wp2_with fail
      refine (less_at B lb g cap ys more wr R.out _ _ (2 * ii + 2) (2 * ii + 1) (by omega) (by omega) (by omega) (by omega)).mono ?_
      rintro e w7 ⟨rfl, m7⟩
      rw [hdc]
      have R7 := Lib.hid (R.out.grown m7)
      have c7 := R7.out.c0
      have M7 := Lib.hid m7
      clear m7 hdc
      go_wp2_with fail
      by_cases hlt : key kI ys (2 * ii + 2) < key kI ys ii
      · have hd : decide (key kI ys (2 * ii + 2) < key kI ys ii) = true := decide_eq_true hlt
        have HL := Lib.hid hlt
        clear hlt
        refine (less_at B lb g cap ys more w7 R7.out _ _ (2 * ii + 2) ii (by omega) (by omega) (by omega) (by omega)).mono ?_
        rintro e w8 ⟨rfl, m8⟩
        rw [hd]
        have R8 := Lib.hid (IRep.grown R7.out m8)
        have c8 := R8.out.c0
        have M8 := Lib.hid m8
        clear m8
        go_wp2_with fail
        refine (swap_at B lb g cap ys more w8 R8.out _ _ ii (2 * ii + 2) (by omega) (by omega) (by omega) (by omega)).mono ?_
        rintro e w9 ⟨rfl, r9, m9⟩
        have R9 := Lib.hid r9
        have M9 := Lib.hid m9
        clear r9 m9
        go_wp2_with fail
        exact ⟨⟨2 * ii + 2, sw ys ii (2 * ii + 2), by go_num, by omega, dn_step Q.out HN.out (by omega) (by omega) (by unfold par; omega) HL.out HM.out R9.out (((M7.out).trans M8.out).mono (fun _ _ e => e.elim) |>.trans M9.out)⟩, by simp [intOf]; omega⟩
      · have hd : decide (key kI ys (2 * ii + 2) < key kI ys ii) = false := decide_eq_false hlt
        have HL := Lib.hid hlt
        clear hlt
        refine (less_at B lb g cap ys more w7 R7.out _ _ (2 * ii + 2) ii (by omega) (by omega) (by omega) (by omega)).mono ?_
        rintro e w8 ⟨rfl, m8⟩
        rw [hd]
        have M8 := Lib.hid m8
        clear m8
        go_wp2_with fail
        go_ret
        exact dn_end Q.out ((M7.out).trans M8.out) (fun c h1 h2 h3 => by have := HM.out c h1 h2 h3; have := HL.out; omega) _ (by simp)
    · have hdc : decide (key kI ys (2 * ii + 2) < key kI ys (2 * ii + 1)) = false := decide_eq_false hc
      have HM := Lib.hid (show ∀ c, 0 < c → c < n → par c = ii → key kI ys (2 * ii + 1) ≤ key kI ys c from fun c h1 h2 h3 => by rcases (show c = 2 * ii + 1 ∨ c = 2 * ii + 2 from by unfold par at h3; omega) with rfl | rfl <;> omega)
      clear hc
      go_wp2_with fail
      refine (less_at B lb g cap ys more wr R.out _ _ (2 * ii + 2) (2 * ii + 1) (by omega) (by omega) (by omega) (by omega)).mono ?_
      rintro e w7 ⟨rfl, m7⟩
      rw [hdc]
      have R7 := Lib.hid (R.out.grown m7)
      have c7 := R7.out.c0
      have M7 := Lib.hid m7
      clear m7 hdc
      go_wp2_with fail
      by_cases hlt : key kI ys (2 * ii + 1) < key kI ys ii
      · have hd : decide (key kI ys (2 * ii + 1) < key kI ys ii) = true := decide_eq_true hlt
        have HL := Lib.hid hlt
        clear hlt
        refine (less_at B lb g cap ys more w7 R7.out _ _ (2 * ii + 1) ii (by omega) (by omega) (by omega) (by omega)).mono ?_
        rintro e w8 ⟨rfl, m8⟩
        rw [hd]
        have R8 := Lib.hid (IRep.grown R7.out m8)
        have c8 := R8.out.c0
        have M8 := Lib.hid m8
        clear m8
        go_wp2_with fail
        refine (swap_at B lb g cap ys more w8 R8.out _ _ ii (2 * ii + 1) (by omega) (by omega) (by omega) (by omega)).mono ?_
        rintro e w9 ⟨rfl, r9, m9⟩
        have R9 := Lib.hid r9
        have M9 := Lib.hid m9
        clear r9 m9
        go_wp2_with fail
        exact ⟨⟨2 * ii + 1, sw ys ii (2 * ii + 1), by go_num, by omega, dn_step Q.out HN.out (by omega) (by omega) (by unfold par; omega) HL.out HM.out R9.out (((M7.out).trans M8.out).mono (fun _ _ e => e.elim) |>.trans M9.out)⟩, by simp [intOf]; omega⟩
      · have hd : decide (key kI ys (2 * ii + 1) < key kI ys ii) = false := decide_eq_false hlt
        have HL := Lib.hid hlt
        clear hlt
        refine (less_at B lb g cap ys more w7 R7.out _ _ (2 * ii + 1) ii (by omega) (by omega) (by omega) (by omega)).mono ?_
        rintro e w8 ⟨rfl, m8⟩
        rw [hd]
        have M8 := Lib.hid m8
        clear m8
        go_wp2_with fail
        go_ret
        exact dn_end Q.out ((M7.out).trans M8.out) (fun c h1 h2 h3 => by have := HM.out c h1 h2 h3; have := HL.out; omega) _ (by simp)

end Go.Proofs.Ytpdfakfokegcnaa
