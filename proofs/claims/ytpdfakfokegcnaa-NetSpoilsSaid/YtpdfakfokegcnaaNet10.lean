/-
  Layer 22 (net): the statements' helpers: alive, great.
-/
import Derived.Test.YtpdfakfokegcnaaNet9
namespace Go.Proofs.Ytpdfakfokegcnaa
open Go.RowKit Go.Mine

def bA : ByteArray := ⟨#[97]⟩
def bB : ByteArray := ⟨#[98]⟩
def bT : ByteArray := ⟨#[96]⟩

theorem alive_1 {B p bw : Nat} {vs : List Value} {w : World} (h : NetRep B w p bw vs (List.replicate 2 []) 0) : Calls Try.prog 15 #[.pointer (some ⟨p, 0, none⟩), .int .i64 0, .string ⟨#[97]⟩] w (NetPost B p bw [[bA], []] 0 (.int .i64 0) w) :=
  put_all B p bw 0 ⟨#[97]⟩ vs _ 0 w h (by decide)
theorem alive_2 {B p bw : Nat} {vs : List Value} {w : World} (h : NetRep B w p bw vs [[bA], []] 0) : Calls Try.prog 15 #[.pointer (some ⟨p, 0, none⟩), .int .i64 0, .string ⟨#[98]⟩] w (NetPost B p bw [[bA, bB], []] 0 (.int .i64 0) w) :=
  put_all B p bw 0 ⟨#[98]⟩ vs _ 0 w h (by decide)
theorem alive_3 {B p bw : Nat} {vs : List Value} {w : World} (h : NetRep B w p bw vs [[bA, bB], []] 0) : Calls Try.prog 11 #[.pointer (some ⟨p, 0, none⟩), .int .i64 0, .int .i64 3, .bool false] w (NetPost B p bw [[bA], []] 0 (.tuple #[.string bB, .int .i64 0]) w) :=
  take_all B p bw 0 3 false vs _ 0 w h (by decide)
theorem alive_4 {B p bw : Nat} {vs : List Value} {w : World} (h : NetRep B w p bw vs [[bA], []] 0) : Calls Try.prog 13 #[.pointer (some ⟨p, 0, none⟩), .int .i64 0, .int .i64 0, .int .i64 5, .int .i64 0] w (NetPost B p bw [[bT], []] 0 (.int .i64 0) w) :=
  spoil_all B p bw 0 0 5 0 vs _ 0 w h (by decide) (by decide) (by decide) (by decide)
theorem alive_5 {B p bw : Nat} {vs : List Value} {w : World} (h : NetRep B w p bw vs [[bT], []] 0) : Calls Try.prog 11 #[.pointer (some ⟨p, 0, none⟩), .int .i64 0, .int .i64 0, .bool true] w (NetPost B p bw [[bT], []] 0 (.tuple #[.string bT, .int .i64 0]) w) :=
  take_all B p bw 0 0 true vs _ 0 w h (by decide)
theorem alive_6 {B p bw : Nat} {vs : List Value} {w : World} (h : NetRep B w p bw vs [[bT], []] 0) : Calls Try.prog 18 #[.pointer (some ⟨p, 0, none⟩), .int .i64 0] w fun e w' => e = .returned (.int .i64 1) ∧ w = w' :=
  count_all B p bw 0 vs _ 0 w h

set_option maxHeartbeats 400000 in
theorem alive_any (w : World) : Calls Try.prog 8 #[] w fun e w' => e = .returned (.bool true) ∧ Below w.heap.size w w' := by
  have hn := new_ok 2 (by decide) (by decide) w
  have Hn := Lib.hid hn
  clear hn
  go_enter Try.func8, Try.ntmps8
  go_wp2_with fail
  refine Hn.out.mono ?_
  rintro e w1 ⟨p, bw, vs, rfl, h1, b1⟩
  have H1 := Lib.hid h1; have B1 := Lib.hid b1; clear h1 b1
  go_wp2_with fail
  refine (alive_1 H1.out).mono ?_
  rintro e w2 ⟨rfl, vs2, h2, b2⟩
  have H2 := Lib.hid h2; have B2 := Lib.hid b2; clear h2 b2
  go_wp2_with fail
  refine (alive_2 H2.out).mono ?_
  rintro e w3 ⟨rfl, vs3, h3, b3⟩
  have H3 := Lib.hid h3; have B3 := Lib.hid b3; clear h3 b3
  go_wp2_with fail
  refine (alive_3 H3.out).mono ?_
  rintro e w4 ⟨rfl, vs4, h4, b4⟩
  have H4 := Lib.hid h4; have B4 := Lib.hid b4; clear h4 b4
  rw [show (Value.string bB) = .string ⟨#[98]⟩ from rfl]
  go_wp2_with fail
  refine (alive_4 H4.out).mono ?_
  rintro e w5 ⟨rfl, vs5, h5, b5⟩
  have H5 := Lib.hid h5; have B5 := Lib.hid b5; clear h5 b5
  go_wp2_with fail
  refine (alive_5 H5.out).mono ?_
  rintro e w6 ⟨rfl, vs6, h6, b6⟩
  have H6 := Lib.hid h6; have B6 := Lib.hid b6; clear h6 b6
  rw [show (Value.string bT) = .string ⟨#[96]⟩ from rfl]
  go_wp2_with fail
  refine (alive_6 H6.out).mono ?_
  rintro e w7 ⟨rfl, rfl⟩
  go_wp2_with fail
  go_ret
  exact ⟨rfl, ((((B1.out.trans B2.out).trans B3.out).trans B4.out).trans B5.out).trans B6.out⟩

end Go.Proofs.Ytpdfakfokegcnaa
