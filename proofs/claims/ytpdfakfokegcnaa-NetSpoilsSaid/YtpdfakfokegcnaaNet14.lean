/-
  Layer 22 (net): nil nets; the walk of NetSpoils.
-/
import Derived.Test.YtpdfakfokegcnaaNet12
namespace Go.Proofs.Ytpdfakfokegcnaa
open Go.RowKit Go.Mine

/-- The call answers r; new blocks at most. -/
def NilPost (r : Value) (w : World) (e : Ending) (w' : World) : Prop := e = .returned r ∧ Below w.heap.size w w'

set_option maxHeartbeats 400000 in
theorem take_nil (i k : Int) (b : Bool) (w : World) : Calls Try.prog 11 #[.pointer none, .int .i64 i, .int .i64 k, .bool b] w (NilPost (.tuple #[.string ByteArray.empty, .int .i64 1]) w) := by
  go_enter Try.func11, Try.ntmps11
  go_wp2
  go_ret2
  exact ⟨rfl, (((Below.refl _ w).alloc (Nat.le_refl _) _).alloc (by simp) _).alloc (by simp; omega) _⟩
set_option maxHeartbeats 400000 in
theorem lose_nil (i k : Int) (w : World) : Calls Try.prog 12 #[.pointer none, .int .i64 i, .int .i64 k] w (NilPost (.int .i64 1) w) := by
  go_enter Try.func12, Try.ntmps12
  go_wp2
  go_ret
  exact ⟨rfl, (((Below.refl _ w).alloc (Nat.le_refl _) _).alloc (by simp) _)⟩
set_option maxHeartbeats 400000 in
theorem spoil_nil (w : World) : Calls Try.prog 13 #[.pointer none, .int .i64 0, .int .i64 0, .int .i64 0, .int .i64 0] w (NilPost (.int .i64 1) w) := by
  go_enter Try.func13, Try.ntmps13
  go_wp2
  go_ret
  exact ⟨rfl, (((Below.refl _ w).alloc (Nat.le_refl _) _).alloc (by simp) _)⟩
set_option maxHeartbeats 400000 in
theorem count_nil (i : Int) (w : World) : Calls Try.prog 18 #[.pointer none, .int .i64 i] w fun e w' => e = .returned (.int .i64 0) ∧ w = w' := by
  go_enter Try.func18, Try.ntmps18
  go_wp2
  go_ret
  exact ⟨rfl, rfl⟩
set_option maxHeartbeats 400000 in
theorem total_nil (w : World) : Calls Try.prog 16 #[.pointer none] w fun e w' => e = .returned (.int .i64 0) ∧ w = w' := by
  go_enter Try.func16, Try.ntmps16
  go_wp2
  go_ret
  exact ⟨rfl, rfl⟩
set_option maxHeartbeats 400000 in
theorem clear_nil (i : Int) (w : World) : Calls Try.prog 14 #[.pointer none, .int .i64 i] w fun e w' => e = .returned (.int .i64 0) ∧ w = w' := by
  have hc := Lib.hid (count_nil i w)
  go_enter Try.func14, Try.ntmps14
  go_wp2_with (go_at_call 18; refine hc.out.mono ?_; rintro e w' ⟨rfl, rfl⟩)
  go_ret
  exact ⟨rfl, rfl⟩
set_option maxHeartbeats 400000 in
theorem lost_nil (w : World) : Calls Try.prog 17 #[.pointer none] w fun e w' => e = .returned (.int .i64 0) ∧ w = w' := by
  go_enter Try.func17, Try.ntmps17
  go_wp2
  go_ret
  exact ⟨rfl, rfl⟩

def bF : ByteArray := ⟨#[102, 105, 114, 115, 116]⟩

theorem sp_1 {B p bw : Nat} {vs : List Value} {w : World} (h : NetRep B w p bw vs (List.replicate 1 []) 0) : Calls Try.prog 15 #[.pointer (some ⟨p, 0, none⟩), .int .i64 0, .string ⟨#[102, 105, 114, 115, 116]⟩] w (NetPost B p bw [[bF]] 0 (.int .i64 0) w) :=
  put_all B p bw 0 ⟨#[102, 105, 114, 115, 116]⟩ vs _ 0 w h (by decide)
theorem sp_2 {B p bw : Nat} {vs : List Value} {w : World} (s : ByteArray) (h : NetRep B w p bw vs [[bF]] 0) : Calls Try.prog 15 #[.pointer (some ⟨p, 0, none⟩), .int .i64 0, .string s] w (NetPost B p bw [[bF, s]] 0 (.int .i64 0) w) :=
  put_all B p bw 0 s vs _ 0 w h (by decide)
theorem sp_3 {B p bw : Nat} {vs : List Value} {w : World} (s : ByteArray) (a b : Nat) (h : NetRep B w p bw vs [[bF, s]] 0) (h0 : 0 < s.size) (h1 : s.size ≤ 1000) (ha : a < 9223372036854775808) (hb : b < 9223372036854775808) :
    Calls Try.prog 13 #[.pointer (some ⟨p, 0, none⟩), .int .i64 0, .int .i64 1, .int .i64 a, .int .i64 b] w (NetPost B p bw [[bF, turned s a b]] 0 (.int .i64 0) w) :=
  spoil_some B p bw 0 1 a b s vs [[bF, s]] [bF, s] 0 w h rfl rfl (by decide) ha hb h0 h1
theorem sp_4 {B p bw : Nat} {vs : List Value} {w : World} (s : ByteArray) (h : NetRep B w p bw vs [[bF, s]] 0) : Calls Try.prog 11 #[.pointer (some ⟨p, 0, none⟩), .int .i64 0, .int .i64 1, .bool true] w (NetPost B p bw [[bF, s]] 0 (.tuple #[.string s, .int .i64 0]) w) :=
  take_stay B p bw 0 1 s vs [[bF, s]] [bF, s] 0 w h rfl rfl (by decide)
theorem sp_5 {B p bw : Nat} {vs : List Value} {w : World} (s : ByteArray) (h : NetRep B w p bw vs [[bF, s]] 0) : Calls Try.prog 11 #[.pointer (some ⟨p, 0, none⟩), .int .i64 0, .int .i64 1, .bool false] w (NetPost B p bw [[bF]] 0 (.tuple #[.string s, .int .i64 0]) w) :=
  take_take B p bw 0 1 s vs [[bF, s]] [bF, s] 0 w h rfl rfl (by decide)
theorem sp_6 {B p bw : Nat} {vs : List Value} {w : World} (h : NetRep B w p bw vs [[bF]] 0) : Calls Try.prog 11 #[.pointer (some ⟨p, 0, none⟩), .int .i64 0, .int .i64 1, .bool false] w (NetPost B p bw [[]] 0 (.tuple #[.string bF, .int .i64 0]) w) :=
  take_take B p bw 0 1 bF vs [[bF]] [bF] 0 w h rfl rfl (by decide)

theorem xor_ne (x y : UInt8) (h : y ≠ 0) : x ^^^ y ≠ x := by
  intro e
  apply h
  have : x ^^^ (x ^^^ y) = x ^^^ x := by rw [e]
  rw [← UInt8.xor_assoc, UInt8.xor_self, UInt8.zero_xor] at this
  exact this
theorem turn_ne (b : Nat) : UInt8.ofNat (b % 255 + 1) ≠ 0 := by
  intro e
  have := congrArg UInt8.toNat e
  rw [UInt8.toNat_ofNat'] at this
  simp at this
  omega
theorem turned_twice (s : ByteArray) (a b : Nat) (h : 0 < s.size) : turned (turned s a b) a b = s := by
  have hs := turned_size s a b
  have hj : a % s.size < s.data.toList.length := by have := Nat.mod_lt a h; simpa using this
  unfold turned at hs ⊢
  rw [hs]
  simp only [List.set_set]
  have e1 : (s.data.toList.set (a % s.size) (s.data.toList.getD (a % s.size) 0 ^^^ UInt8.ofNat (b % 255 + 1))).getD (a % s.size) 0 = s.data.toList.getD (a % s.size) 0 ^^^ UInt8.ofNat (b % 255 + 1) := by
    rw [List.getD_eq_getElem?_getD, List.getElem?_set_self hj]; rfl
  rw [e1, UInt8.xor_assoc, UInt8.xor_self, UInt8.xor_zero]
  have e2 : s.data.toList.set (a % s.size) (s.data.toList.getD (a % s.size) 0) = s.data.toList := by
    rw [List.getD_eq_getElem?_getD, List.getElem?_eq_getElem hj]; exact List.set_getElem_self hj
  rw [e2]

theorem turned_at (s t : ByteArray) (a b k : Nat) (ht : t = turned s a b) (h : k < s.size) (h2 : k < t.size) : (((s[k].toNat : Nat) : Int) != (t[k].toNat : Int)) = decide (k = a % s.size) := by
  subst ht
  have hl : k < s.data.toList.length := by simpa using h
  have e0 : s[k] = s.data.toList[k] := by simp; rfl
  have e1 : (turned s a b)[k] = (s.data.toList.set (a % s.size) (s.data.toList.getD (a % s.size) 0 ^^^ UInt8.ofNat (b % 255 + 1)))[k]'(by simpa using hl) := by
    show (List.toArray _)[k] = _
    simp
  rw [e0, e1]
  by_cases e : k = a % s.size
  · rw [List.getElem_set, if_pos e.symm, decide_eq_true e]
    rw [← e, List.getD_eq_getElem?_getD, List.getElem?_eq_getElem hl]
    rw [bne_iff_ne]
    intro q
    have q2 : s.data.toList[k] = s.data.toList[k] ^^^ UInt8.ofNat (b % 255 + 1) := UInt8.toNat_inj.1 (Int.ofNat.inj q)
    exact xor_ne _ _ (turn_ne b) q2.symm
  · rw [List.getElem_set_ne (fun q => e q.symm), decide_eq_false e, bne_eq_false_iff_eq]

def ind (j k : Nat) : Int := if j < k then 1 else 0
theorem ind_ne {j k : Nat} (h : ¬ k = j) : ind j k = ind j (k + 1) := by
  unfold ind
  by_cases q : j < k
  · rw [if_pos q, if_pos (by omega)]
  · rw [if_neg q, if_neg (by omega)]
theorem ind_b (j k : Nat) : 0 ≤ ind j k ∧ ind j k ≤ 1 := by unfold ind; split <;> omega

set_option maxHeartbeats 1000000 in
set_option maxRecDepth 1000000 in
theorem spoils_walk (s : ByteArray) (a b : Int) (w : World) (hs : s.size ≤ maxLen) (ha : a ≤ 9223372036854775807) (hb : b ≤ 9223372036854775807) :
    Calls Try.prog 4 #[.string s, .int .i64 a, .int .i64 b] w fun e w' => e = .returned (.bool true) ∧ Below w.heap.size w w' := by
  unfold maxLen at hs
  have hal := Lib.hid (alive_any w)
  have hnew := Lib.hid (fun w => new_ok 1 (by decide) (by decide) w)
  by_cases h5 : 500 < s.size
  · go_enter Try.func4, Try.ntmps4
    go_wp2_with (go_at_call 8; refine hal.out.mono ?_; rintro e w0 ⟨rfl, b0⟩)
    go_ret
    exact ⟨rfl, b0⟩
  have q5 : decide (500 < (s.size : Int)) = false := by simp; omega
  by_cases h0 : s.size = 0
  · go_enter Try.func4, Try.ntmps4
    go_wp2_with (go_at_call 8; refine hal.out.mono ?_; rintro e w0 ⟨rfl, b0⟩)
    go_ret
    exact ⟨rfl, b0⟩
  have q0 : ((s.size : Int) == 0) = false := by rw [beq_eq_false_iff_ne]; omega
  by_cases ha0 : a < 0
  · go_enter Try.func4, Try.ntmps4
    go_wp2_with (go_at_call 8; refine hal.out.mono ?_; rintro e w0 ⟨rfl, b0⟩)
    go_ret
    exact ⟨rfl, b0⟩
  have qa : decide (a < 0) = false := by simpa using ha0
  by_cases hb0 : b < 0
  · go_enter Try.func4, Try.ntmps4
    go_wp2_with (go_at_call 8; refine hal.out.mono ?_; rintro e w0 ⟨rfl, b0⟩)
    go_ret
    exact ⟨rfl, b0⟩
  obtain ⟨a, rfl⟩ := Int.eq_ofNat_of_zero_le (show 0 ≤ a by omega)
  obtain ⟨b, rfl⟩ := Int.eq_ofNat_of_zero_le (show 0 ≤ b by omega)
  have qb : decide ((b : Int) < 0) = false := by simp
  have qa : decide ((a : Int) < 0) = false := by simp
  clear ha0 hb0
  have T := Lib.hid (turned_size s a b)
  go_enter Try.func4, Try.ntmps4
  go_wp2_with fail
  refine hal.out.mono ?_
  rintro e w0 ⟨rfl, b0⟩
  have B0 := Lib.hid b0; clear b0
  go_wp2_with fail
  refine (hnew.out w0).mono ?_
  rintro e w1 ⟨p, bw, vs, rfl, h1, b1⟩
  have H1 := Lib.hid h1; have B1 := Lib.hid b1; clear h1 b1
  go_wp2_with fail
  refine (sp_1 H1.out).mono ?_
  rintro e w2 ⟨rfl, vs2, h2, b2⟩
  have H2 := Lib.hid h2; have B2 := Lib.hid b2; clear h2 b2
  go_wp2_with fail
  refine (sp_2 s H2.out).mono ?_
  rintro e w3 ⟨rfl, vs3, h3, b3⟩
  have H3 := Lib.hid h3; have B3 := Lib.hid b3; clear h3 b3
  go_wp2_with fail
  refine (sp_3 s a b H3.out (by omega) (by omega) (by omega) (by omega)).mono ?_
  rintro e w4 ⟨rfl, vs4, h4, b4⟩
  have H4 := Lib.hid h4; have B4 := Lib.hid b4; clear h4 b4
  go_wp2_with fail
  refine (sp_4 (turned s a b) H4.out).mono ?_
  rintro e w5 ⟨rfl, vs5, h5, b5⟩
  have H5 := Lib.hid h5; have B5 := Lib.hid b5; clear h5 b5
  obtain ⟨t, ht⟩ : ∃ t, t = turned s a b := ⟨_, rfl⟩
  rw [← ht] at T H5 ⊢
  have HT := Lib.hid ht
  clear ht
  have hts := T.out
  go_wp2_with fail
  have hm : a % s.size < s.size := Nat.mod_lt _ (by omega)
  go_loopw [11, 12] (fun c i wr => ∃ k : Nat, k ≤ s.size ∧ i = .int .i64 k ∧ c = .int .i64 (ind (a % s.size) k) ∧ Mod none_ w5 wr) (fun _ i _ => s.size - (intOf i).toNat)
  case atStart => exact ⟨0, Nat.zero_le _, rfl, by unfold ind; rw [if_neg (by omega)], Mod.refl _ _⟩
  case round =>
    obtain ⟨k, hk, rfl, rfl, hmod⟩ := hrel
    have M := Lib.hid hmod
    clear hmod
    by_cases hlt : k < s.size
    · have hlt2 : k < t.size := by omega
      go_wp2_with fail
      go_quiet (fail)
      have hta := turned_at s t a b k HT.out hlt hlt2
      have hib := ind_b (a % s.size) k
      by_cases e : k = a % s.size
      · rw [decide_eq_true e] at hta
        have E := Lib.hid e
        clear e
        go_wp2_with fail
        exact ⟨⟨k + 1, by omega, by go_num, by rw [show ind (a % s.size) k = 0 from by unfold ind; rw [if_neg (by have := E.out; omega)], show ind (a % s.size) (k + 1) = 1 from by unfold ind; rw [if_pos (by have := E.out; omega)]]; rfl, M.out.drewN nq⟩, by simp [intOf]; omega⟩
      · rw [decide_eq_false e] at hta
        go_wp2_with fail
        exact ⟨⟨k + 1, by omega, by go_num, by rw [ind_ne e], M.out.drewN nq⟩, by simp [intOf]; omega⟩
    · obtain ⟨rfl⟩ : k = s.size := by omega
      have hi1 : ind (a % s.size) s.size = 1 := by unfold ind; rw [if_pos hm]
      have H6 := Lib.hid ((H5.out.grown M.out))
      have hback : turned t a b = s := by rw [HT.out]; exact turned_twice s a b (by omega)
      have HB := Lib.hid hback
      clear hback
      go_wp2_with fail
      refine (sp_3 t a b H6.out (by omega) (by omega) (by omega) (by omega)).mono ?_
      rw [HB.out]
      rintro e w7 ⟨rfl, vs7, h7, b7⟩
      have H7 := Lib.hid h7; have B7 := Lib.hid b7; clear h7 b7
      go_wp2_with fail
      refine (sp_5 s H7.out).mono ?_
      rintro e w8 ⟨rfl, vs8, h8, b8⟩
      have H8 := Lib.hid h8; have B8 := Lib.hid b8; clear h8 b8
      go_wp2_with fail
      refine (sp_6 H8.out).mono ?_
      rintro e w9 ⟨rfl, vs9, h9, b9⟩
      have B9 := Lib.hid b9; clear h9 b9
      rw [show (Value.string bF) = .string ⟨#[102, 105, 114, 115, 116]⟩ from rfl]
      go_wp2_with fail
      refine (take_nil 0 0 false w9).mono ?_
      rintro e w10 ⟨rfl, b10⟩
      have B10 := Lib.hid b10; clear b10
      go_wp2_with fail
      refine (put_nil 0 _ w10).mono ?_
      rintro e w11 ⟨rfl, rfl⟩
      go_wp2_with fail
      refine (lose_nil 0 0 w10).mono ?_
      rintro e w11 ⟨rfl, b11⟩
      have B11 := Lib.hid b11; clear b11
      go_wp2_with fail
      refine (spoil_nil w11).mono ?_
      rintro e w12 ⟨rfl, b12⟩
      have B12 := Lib.hid b12; clear b12
      go_wp2_with fail
      refine (count_nil 0 w12).mono ?_
      rintro e w13 ⟨rfl, rfl⟩
      go_wp2_with fail
      refine (total_nil w12).mono ?_
      rintro e w13 ⟨rfl, rfl⟩
      go_wp2_with fail
      refine (clear_nil 0 w12).mono ?_
      rintro e w13 ⟨rfl, rfl⟩
      go_wp2_with fail
      refine (lost_nil w12).mono ?_
      rintro e w13 ⟨rfl, rfl⟩
      go_wp2_with fail
      go_ret
      have y0 := B0.out.size
      have x5 := ((((B1.out.trans B2.out).trans B3.out).trans B4.out).trans B5.out)
      have x6 : Below w0.heap.size w0 wr := x5.trans (M.out.toBelow x5.size (fun _ _ e => e))
      have x9 := ((x6.trans B7.out).trans B8.out).trans B9.out
      have x10 := x9.trans (B10.out.mono x9.size)
      have x11 := x10.trans (B11.out.mono x10.size)
      have x12 := x11.trans (B12.out.mono x11.size)
      exact ⟨rfl, B0.out.trans (x12.mono y0)⟩

end Go.Proofs.Ytpdfakfokegcnaa
