/-
  Layer 21 (hold): the walk of HoldFull.
-/
import Derived.Test.YtpdfakfokegcnaaHold13
namespace Go.Proofs.Ytpdfakfokegcnaa
open Go.RowKit Go.Mine
attribute [local go_sem ↓] ld_msg st_msg
attribute [local go_sem] run_ld_msg run_st_msg cut_drew setCells_drew World.there_drew setCells_alloc_at there_alloc_at cut_alloc_at there_alloc_old cut_alloc_old fold_set_whole fold_set_at there_drewN cut_drewN setCells_drewN

theorem qpass_nil (w : World) : Calls Try.prog 27 #[.pointer none] w fun e w' => e = .returned (.bool false) ∧ w = w' := by
  go_enter Try.func27, Try.ntmps27
  go_wp2
  go_ret
  exact ⟨rfl, rfl⟩
theorem qdrop_nil (num : Int) (w : World) : Calls Try.prog 29 #[.pointer none, .int .i64 num] w fun e w' => e = .returned (.bool false) ∧ Below w.heap.size w w' := by
  go_enter Try.func29, Try.ntmps29
  go_wp2
  go_ret
  exact ⟨rfl, (Below.refl _ w).alloc (Nat.le_refl _) _⟩
theorem qheld_nil (w : World) : Calls Try.prog 31 #[.pointer none] w fun e w' => e = .returned (.slice none 0 0) ∧ w = w' := by
  go_enter Try.func31, Try.ntmps31
  go_wp2
  go_ret
  exact ⟨rfl, rfl⟩
theorem put_nil_itm (num : Int) (w : World) :
    Calls Try.prog 21 #[.pointer none, .int .i64 num, .agg #[.int .i64 0, .int .i64 0, .int .i64 0, .int .i64 0, .int .i64 0, .int .i64 0, .int .i64 0, .int .i64 0, .int .i64 0, .string ⟨#[]⟩, .string ⟨#[]⟩]] w fun e w' => e = .returned (.int .i64 1) ∧ Below w.heap.size w w' :=
  qput_nil num (itmOf 0 0 0).m w

def FInv (w : World) (p lb : Nat) (i : Nat) (wr : World) : Prop :=
  ∃ B g L, QIs B wr p lb g 10 L ∧ w.heap.size ≤ B ∧ Below w.heap.size w wr ∧ L.length = min i 64 ∧ (∀ x ∈ L, 11 ≤ x.num ∧ x.num < 11 + (i : Int))

theorem FInv.step {w wr w2 : World} {p lb B g i : Nat} {L M : List Itm} {r : Value} {e : Ending} (hB : w.heap.size ≤ B) (hb : Below w.heap.size w wr) (hq : QIs B wr p lb g 10 L)
    (h2 : QPost B p lb g 10 M r wr e w2) (hl : M.length = min (i + 1) 64) (hM : ∀ x ∈ M, 11 ≤ x.num ∧ x.num < 11 + (i : Int) + 1) : FInv w p lb (i + 1) w2 := by
  obtain ⟨rfl, g2, q2, m2, e2⟩ := h2
  exact ⟨B, g2, M, q2, hB, hb.trans ((hq.below m2).mono hB), hl, fun x hx => by have := hM x hx; omega⟩

set_option maxHeartbeats 1000000 in
set_option maxRecDepth 1000000 in
theorem full_walk (n : Int) (w : World) (hn : 0 ≤ n ∧ n ≤ 255) :
    Calls Try.prog 7 #[.int .u8 n] w fun e w' => e = .returned (.bool true) ∧ Below w.heap.size w w' := by
  have hal := Lib.hid (halive_any w)
  have hz : zm.length = 11 := rfl
  have oz : Ones zm := zm_ones
  have hmod : 0 ≤ n % 90 ∧ n % 90 < 90 := by omega
  go_enter Try.func7, Try.ntmps7
  go_wp2_with fail
  refine hal.out.mono ?_
  rintro e w0 ⟨rfl, b0⟩
  have B0 := Lib.hid b0; clear b0
  go_wp2_with fail
  refine (qnew_ok 10 (by decide) (by decide) w0).mono ?_
  rintro e w1 ⟨p, lb, g0, rfl, h1, m1⟩
  have hF : FInv w p lb 0 w1 := ⟨w0.heap.size, g0, [], h1, B0.out.size, B0.out.trans (m1.toBelow B0.out.size (fun _ _ e => e)), rfl, fun x hx => by simp at hx⟩
  have HF := Lib.hid hF
  clear h1 m1 hF B0
  go_wp2_with fail
  go_loopw [5] (fun i wr => ∃ j : Nat, i = .int .i64 j ∧ (j : Int) ≤ n % 90 ∧ FInv w p lb j wr) (fun i _ => 90 - (intOf i).toNat)
  case atStart => exact ⟨0, rfl, by omega, HF.out⟩
  case round =>
    obtain ⟨j, rfl, hj, B, g, L, hq, hB, hb, hl, hall⟩ := hrel
    have Q := Lib.hid hq; have BB := Lib.hid hb; have AL := Lib.hid hall; have HL := Lib.hid hl
    clear hq hb hall hl
    by_cases hlt : (j : Int) < n % 90
    · by_cases h64 : j < 64
      · have hin : Aside (11 + (j : Int) ∉ L.map Itm.num) := fun h => by
          obtain ⟨y, hy, e⟩ := List.mem_map.1 h
          have := (AL.out y hy).2; omega
        have hd : decide ((j : Int) < 64) = true := by simp; omega
        go_wp2_with fail
        refine (put_itm B p lb g 10 (11 + j) 0 0 L wr Q.out (by omega) (by omega) hin.out (by have := HL.out; omega)).mono ?_
        rintro e w2 h2
        have R2 := Lib.hid h2
        obtain ⟨rfl, _⟩ := h2
        go_wp2_with fail
        exact ⟨⟨j + 1, by go_num, by omega, FInv.step hB BB.out Q.out R2.out (by have := HL.out; rw [List.length_cons]; omega) (fun x hx => by
          rcases List.mem_cons.1 hx with e | e
          · rw [e]; show _ ≤ 11 + (j : Int) ∧ 11 + (j : Int) < _; omega
          · have := AL.out x e; omega)⟩, by simp [intOf]; omega⟩
      · have hin : Aside (11 + (j : Int) ∉ L.map Itm.num) := fun h => by
          obtain ⟨y, hy, e⟩ := List.mem_map.1 h
          have := (AL.out y hy).2; omega
        have hd : decide ((j : Int) < 64) = false := by simp; omega
        go_wp2_with fail
        refine (put_busy_itm B p lb g 10 (11 + j) 0 0 L wr Q.out (by omega) (by omega) hin.out (by have := HL.out; omega)).mono ?_
        rintro e w2 h2
        have R2 := Lib.hid h2
        obtain ⟨rfl, _⟩ := h2
        go_wp2_with fail
        exact ⟨⟨j + 1, by go_num, by omega, FInv.step hB BB.out Q.out R2.out (by have := HL.out; omega) (fun x hx => by have := AL.out x hx; omega)⟩, by simp [intOf]; omega⟩
    · have hno : Aside (∀ x ∈ L, x.num ≠ 10) := fun x hx e => by have := (AL.out x hx).1; omega
      have hin : Aside (10 ∉ L.map Itm.num) := fun h => by
        obtain ⟨y, hy, e⟩ := List.mem_map.1 h
        exact hno.out y hy e
      go_wp2_with fail
      refine (qtake_none B p lb g 10 L wr Q.out hno.out).mono ?_
      rintro e w2 ⟨rfl, g2, q2, m2, e2⟩
      have b2 := BB.out.trans ((Q.out.below m2).mono hB)
      have Q2 := Lib.hid (q2.grown ((Mod.refl none_ w2).alloc (.cells zm.toArray 51)))
      have B2 := Lib.hid (b2.alloc b2.size (.cells zm.toArray 51))
      clear q2 m2 e2 b2
      go_wp2_with fail
      refine (qtake_nil _).mono ?_
      rintro e w3 ⟨rfl, m3⟩
      have b3 := B2.out.trans (m3.toBelow B2.out.size (fun _ _ e => e))
      have Q3 := Lib.hid ((Q2.out.grown m3).grown ((Mod.refl none_ w3).alloc (.cells zm.toArray 51)))
      have B3 := Lib.hid (b3.alloc b3.size (.cells zm.toArray 51))
      clear m3 b3 Q2 B2
      by_cases h64 : n % 90 < 64
      · have hd : decide (64 ≤ n % 90) = false := by simp; omega
        go_wp2_with fail
        refine (put_itm B p lb g2 10 10 0 0 L _ Q3.out (by decide) (by decide) hin.out (by have := HL.out; omega)).mono ?_
        rintro e w4 ⟨rfl, g4, q4, m4, e4⟩
        have B4 := Lib.hid (B3.out.trans ((Q3.out.below m4).mono hB))
        clear q4 m4 e4
        go_wp2_with fail
        refine (put_nil_itm 1 _).mono ?_
        rintro e w5 ⟨rfl, b5⟩
        have B5 := Lib.hid (B4.out.trans (b5.mono B4.out.size)); clear b5
        go_wp2_with fail
        refine (qpass_nil _).mono ?_
        rintro e w6 ⟨rfl, rfl⟩
        go_wp2_with fail
        refine (qdrop_nil 1 _).mono ?_
        rintro e w7 ⟨rfl, b7⟩
        have B7 := Lib.hid (B5.out.trans (b7.mono B5.out.size)); clear b7
        go_wp2_with fail
        refine (qnext_nil _).mono ?_
        rintro e w8 ⟨rfl, rfl⟩
        go_wp2_with fail
        refine (qheld_nil _).mono ?_
        rintro e w9 ⟨rfl, rfl⟩
        go_wp2_with fail
        go_ret
        exact ⟨rfl, B7.out⟩
      · have hd : decide (64 ≤ n % 90) = true := by simp; omega
        go_wp2_with fail
        refine (put_busy_itm B p lb g2 10 10 0 0 L _ Q3.out (by decide) (by decide) hin.out (by have := HL.out; omega)).mono ?_
        rintro e w4 ⟨rfl, g4, q4, m4, e4⟩
        have B4 := Lib.hid (B3.out.trans ((Q3.out.below m4).mono hB))
        clear q4 m4 e4
        go_wp2_with fail
        refine (put_nil_itm 1 _).mono ?_
        rintro e w5 ⟨rfl, b5⟩
        have B5 := Lib.hid (B4.out.trans (b5.mono B4.out.size)); clear b5
        go_wp2_with fail
        refine (qpass_nil _).mono ?_
        rintro e w6 ⟨rfl, rfl⟩
        go_wp2_with fail
        refine (qdrop_nil 1 _).mono ?_
        rintro e w7 ⟨rfl, b7⟩
        have B7 := Lib.hid (B5.out.trans (b7.mono B5.out.size)); clear b7
        go_wp2_with fail
        refine (qnext_nil _).mono ?_
        rintro e w8 ⟨rfl, rfl⟩
        go_wp2_with fail
        refine (qheld_nil _).mono ?_
        rintro e w9 ⟨rfl, rfl⟩
        go_wp2_with fail
        go_ret
        exact ⟨rfl, B7.out⟩

end Go.Proofs.Ytpdfakfokegcnaa
