/-
  Layer 21 (hold): the heap's Pop and Remove.
-/
import Derived.Test.YtpdfakfokegcnaaHold5
namespace Go.Proofs.Ytpdfakfokegcnaa
open Go.RowKit Go.Mine
attribute [local go_sem] m_push m_pop m_has m_first m_len m_less m_swap ta_item

/-- What the heap's Pop and Remove leave: x is told, the others stay, as a heap. -/
def HPopPost (B lb g cap : Nat) (xs : List Itm) (x : Itm) (w : World) (e : Ending) (w' : World) : Prop :=
  e = .returned (.iface 94 (.agg x.cells.toArray)) ∧ ∃ zs more', IRep B w' lb g cap zs more' ∧ (x :: zs).Perm xs ∧ HeapTo kI zs.length zs ∧ Mod (fun b => b = lb ∨ b = g) w w'

theorem take_last {xs : List Itm} (n : Nat) (h : xs.length = n + 1) : xs.take n ++ [xs.getD n default] = xs := by
  have := List.take_succ_eq_append_getElem (show n < xs.length by omega)
  rw [← h, List.take_length] at this
  rw [List.getD_eq_getElem?_getD, List.getElem?_eq_getElem (by omega)]
  exact this.symm

/-- Behind a change of the items in place, and the Pop of the last. -/
theorem pop_end {B lb g cap : Nat} {xs ys : List Itm} {x : Itm} {w w1 w2 : World} {e : Ending} {n : Nat} (hn : xs.length = n + 1) (hlen : ys.length = xs.length) (hperm : ys.Perm xs) (hx : ys.getD n default = x) (hh : HeapTo kI n ys) (m : Mod (one g) w w1) (hp : PopPost B lb g cap ys w1 e w2) : HPopPost B lb g cap xs x w e w2 := by
  obtain ⟨more', rfl, hr, m2⟩ := hp
  rw [show ys.length - 1 = n by omega] at hr ⊢
  refine ⟨by rw [hx], ys.take n, more', hr, ?_, hh.take, (m.mono (fun _ _ e => .inr e)).trans (m2.mono (fun _ _ e => .inl e))⟩
  have := take_last n (hlen.trans hn)
  rw [hx] at this
  have h2 : (x :: ys.take n).Perm (ys.take n ++ [x]) := (List.perm_append_singleton x _).symm
  rw [this] at h2
  exact h2.trans hperm

set_option maxHeartbeats 400000 in
set_option maxRecDepth 1000000 in
theorem heap_pop (B lb g cap : Nat) (xs : List Itm) (more : List Value) (x : Itm) (w : World) (h : IRep B w lb g cap xs more) (hf : 0 < xs.length) (hh : HeapTo kI xs.length xs) (hx : x = xs.getD 0 default) :
    Calls Try.prog 40 #[.iface 85 (.pointer (some ⟨lb, 0, none⟩))] w (HPopPost B lb g cap xs x w) := by
  obtain ⟨n, hn⟩ : ∃ n, xs.length = n + 1 := ⟨xs.length - 1, by omega⟩
  have c0 := h.c0
  have H := Lib.hid h
  have HH := Lib.hid hh
  have HN := Lib.hid hn
  have HX := Lib.hid hx
  have hfew := h.few
  have hn100 : n < 100 := by omega
  clear h hh hx
  rw [hn] at c0
  clear hn
  go_enter Try.func40, Try.ntmps40
  go_wp2_with fail
  refine (items_len _ _ _ _).mono ?_
  rintro e w2 ⟨rfl, rfl⟩
  go_wp2_with fail
  rw [← HN.out]
  refine (swap_at B lb g cap xs more w H.out _ _ 0 n hf (by have := HN.out; omega) rfl (by have := HN.out; omega)).mono ?_
  rintro e w1 ⟨rfl, r1, m1⟩
  have R1 := Lib.hid r1
  have M1 := Lib.hid m1
  clear r1 m1
  go_wp2_with fail
  refine (down_any B lb g cap (sw xs 0 n) more 0 n _ _ w1 R1.out (by rw [sw_length, HN.out]; omega) (by omega) rfl (by have := HN.out; omega)).mono ?_
  rintro e w2 ⟨b, ys, rfl, h1, h2, h3, h4, h5, h6, h7⟩
  have R2 := Lib.hid h3
  have Q := Lib.hid (And.intro h1 (And.intro h2 (And.intro h4 (And.intro h5 (And.intro h6 h7)))))
  clear h1 h2 h3 h4 h5 h6 h7
  have Z : Aside (ys.length = xs.length ∧ ys.Perm xs ∧ ys.getD n default = x ∧ HeapTo kI n ys ∧ Mod (one g) w w2) := by
    obtain ⟨h1, h2, h4, h5, h6, h7⟩ := Q.out
    have hN := HN.out
    refine ⟨by rw [h1, sw_length], h2.trans (sw_perm xs 0 n hf (by omega)), ?_, ?_, M1.out.trans h7⟩
    · rw [h6 n (Nat.le_refl n), sw_getD xs 0 n n hf (by omega), if_pos rfl, HX.out]
    · by_cases hn0 : n = 0
      · subst hn0; intro c h1 h2; omega
      · have hd : Dn kI n (sw xs 0 n) 0 false := HeapTo.cut (by rw [← hN]; exact HH.out) (by omega) (by omega)
        cases b with
        | false => rw [h4 rfl]; exact ((h5 hd).1 rfl).stop (.inl rfl)
        | true => exact (h5 hd).2 rfl
  clear Q
  go_wp2_with fail
  refine (items_pop B lb g cap ys more w2 R2.out (by rw [Z.out.1]; exact hf)).mono ?_
  intro e w3 hp
  have hp' := pop_end HN.out Z.out.1 Z.out.2.1 Z.out.2.2.1 Z.out.2.2.2.1 Z.out.2.2.2.2 hp
  have HP := Lib.hid hp'
  obtain ⟨rfl, _⟩ := hp'
  clear hp
  go_wp2_with fail
  go_ret
  exact ⟨rfl, HP.out.2⟩

set_option maxHeartbeats 400000 in
set_option maxRecDepth 1000000 in
theorem heap_remove (B lb g cap : Nat) (xs : List Itm) (more : List Value) (i : Nat) (x : Itm) (w : World) (h : IRep B w lb g cap xs more) (hi : i < xs.length) (hh : HeapTo kI xs.length xs) (hx : x = xs.getD i default) :
    Calls Try.prog 43 #[.iface 85 (.pointer (some ⟨lb, 0, none⟩)), .int .i64 i] w (HPopPost B lb g cap xs x w) := by
  obtain ⟨n, hn⟩ : ∃ n, xs.length = n + 1 := ⟨xs.length - 1, by omega⟩
  have c0 := h.c0
  have H := Lib.hid h
  have HH := Lib.hid hh
  have HN := Lib.hid hn
  have HX := Lib.hid hx
  have hfew := h.few
  clear h hh hx
  rw [hn] at c0
  have hin : i ≤ n := by omega
  have hn100 : n < 100 := by omega
  by_cases hlast : i = n
  · have hne : ((n : Int) != (i : Int)) = false := by rw [bne_eq_false_iff_eq]; omega
    have HL := Lib.hid hlast
    clear hn hlast
    go_enter Try.func43, Try.ntmps43
    go_wp2_with fail
    refine (items_len _ _ _ _).mono ?_
    rintro e w2 ⟨rfl, rfl⟩
    go_wp2_with fail
    refine (items_pop B lb g cap xs more w H.out (by omega)).mono ?_
    intro e w3 hp
    have hp' := pop_end (x := x) HN.out rfl (List.Perm.refl _) (by rw [← HL.out]; exact HX.out.symm) (HH.out.mono (by have := HN.out; omega)) (Mod.refl (one g) w) hp
    have HP := Lib.hid hp'
    obtain ⟨rfl, _⟩ := hp'
    clear hp
    go_wp2_with fail
    go_ret
    exact ⟨rfl, HP.out.2⟩
  · have hne : ((n : Int) != (i : Int)) = true := by rw [bne_iff_ne]; omega
    have hlt : i < n := by omega
    clear hn hlast
    go_enter Try.func43, Try.ntmps43
    go_wp2_with fail
    refine (items_len _ _ _ _).mono ?_
    rintro e w2 ⟨rfl, rfl⟩
    go_wp2_with fail
    rw [← HN.out]
    refine (swap_at B lb g cap xs more w H.out _ _ i n hi (by have := HN.out; omega) rfl (by have := HN.out; omega)).mono ?_
    rintro e w1 ⟨rfl, r1, m1⟩
    have R1 := Lib.hid r1
    have M1 := Lib.hid m1
    clear r1 m1
    go_wp2_with fail
    refine (down_any B lb g cap (sw xs i n) more i n _ _ w1 R1.out (by rw [sw_length, HN.out]; omega) (by omega) rfl (by have := HN.out; omega)).mono ?_
    rintro e w2 ⟨b, ys, rfl, h1, h2, h3, h4, h5, h6, h7⟩
    have R2 := Lib.hid h3
    have hd : Dn kI n (sw xs i n) i false := HeapTo.cut (by rw [← HN.out]; exact HH.out) (by have := HN.out; omega) hlt
    have hN := HN.out
    have Z : Aside (ys.length = xs.length ∧ ys.Perm xs ∧ ys.getD n default = x ∧ (b = true → HeapTo kI n ys) ∧ (b = false → Up kI n ys i) ∧ Mod (one g) w w2) := by
      refine ⟨by rw [h1, sw_length], h2.trans (sw_perm xs i n hi (by omega)), ?_, (h5 hd).2, fun e => by rw [h4 e]; exact (h5 hd).1 e, M1.out.trans h7⟩
      rw [h6 n (Nat.le_refl n), sw_getD xs i n n hi (by omega), if_pos rfl, HX.out]
    clear h1 h2 h3 h4 h5 h6 h7 hd hN
    cases b with
    | true =>
      go_wp2_with fail
      refine (items_pop B lb g cap ys more w2 R2.out (by rw [Z.out.1]; omega)).mono ?_
      intro e w3 hp
      have hp' := pop_end HN.out Z.out.1 Z.out.2.1 Z.out.2.2.1 (Z.out.2.2.2.1 (by simp)) Z.out.2.2.2.2.2 hp
      have HP := Lib.hid hp'
      obtain ⟨rfl, _⟩ := hp'
      clear hp
      go_wp2_with fail
      go_ret
      exact ⟨rfl, HP.out.2⟩
    | false =>
      go_wp2_with fail
      refine (up_any B lb g cap ys more i w2 R2.out (by rw [Z.out.1]; exact hi)).mono ?_
      rintro e w3 ⟨rfl, zs, h1, h2, h3, h4, h5, h6⟩
      have R3 := Lib.hid h3
      have hN := HN.out
      have hY := Z.out.1
      have Y : Aside (zs.length = xs.length ∧ zs.Perm xs ∧ zs.getD n default = x ∧ HeapTo kI n zs ∧ Mod (one g) w w3) :=
        ⟨h1.trans Z.out.1, h2.trans Z.out.2.1, (h5 n hlt (by omega) n (Nat.le_refl n)).trans Z.out.2.2.1, h4 n hlt (by omega) (Z.out.2.2.2.2.1 (by simp)), Z.out.2.2.2.2.2.trans h6⟩
      clear h1 h2 h3 h4 h5 h6 hN hY
      go_wp2_with fail
      refine (items_pop B lb g cap zs more w3 R3.out (by rw [Y.out.1]; omega)).mono ?_
      intro e w4 hp
      have hp' := pop_end HN.out Y.out.1 Y.out.2.1 Y.out.2.2.1 Y.out.2.2.2.1 Y.out.2.2.2.2 hp
      have HP := Lib.hid hp'
      obtain ⟨rfl, _⟩ := hp'
      clear hp
      go_wp2_with fail
      go_ret
      exact ⟨rfl, HP.out.2⟩

end Go.Proofs.Ytpdfakfokegcnaa
