/-
  Layer 21 (hold): the statements' helper alive.
-/
import Derived.Test.YtpdfakfokegcnaaHold11
namespace Go.Proofs.Ytpdfakfokegcnaa
open Go.RowKit Go.Mine
attribute [local go_sem ↓] ld_msg st_msg
attribute [local go_sem] run_ld_msg run_st_msg cut_drew setCells_drew World.there_drew setCells_alloc_at there_alloc_at cut_alloc_at there_alloc_old cut_alloc_old fold_set_whole fold_set_at there_drewN cut_drewN setCells_drewN

/-- The item of number n with a message of kind d and number k. -/
def itmOf (n d k : Int) : Itm := ⟨n, [.int .i64 d, .int .i64 k, .int .i64 0, .int .i64 0, .int .i64 0, .int .i64 0, .int .i64 0, .int .i64 0, .int .i64 0, .string ⟨#[]⟩, .string ⟨#[]⟩], rfl, by
  intro v hv
  simp at hv
  rcases hv with rfl | rfl | rfl | rfl | rfl <;> rfl⟩

theorem put_itm (B p lb g : Nat) (next n d k : Int) (L : List Itm) (w : World) (h : QIs B w p lb g next L) (h1 : next ≤ n) (h2 : n ≤ 1099511627776) (hin : n ∉ L.map Itm.num) (hl : L.length < 64) :
    Calls Try.prog 21 #[.pointer (some ⟨p, 0, none⟩), .int .i64 n, .agg #[.int .i64 d, .int .i64 k, .int .i64 0, .int .i64 0, .int .i64 0, .int .i64 0, .int .i64 0, .int .i64 0, .int .i64 0, .string ⟨#[]⟩, .string ⟨#[]⟩]] w (QPost B p lb g next (itmOf n d k :: L) (.int .i64 0) w) :=
  qput_ok B p lb g next (itmOf n d k) L w h h1 h2 hin hl
theorem take_itm (B p lb g : Nat) (next n d k : Int) (L : List Itm) (w : World) (h : QIs B w p lb g next (itmOf n d k :: L)) (hn : n = next) :
    Calls Try.prog 22 #[.pointer (some ⟨p, 0, none⟩)] w (QPost B p lb g (next + 1) L (.tuple #[.agg #[.int .i64 d, .int .i64 k, .int .i64 0, .int .i64 0, .int .i64 0, .int .i64 0, .int .i64 0, .int .i64 0, .int .i64 0, .string ⟨#[]⟩, .string ⟨#[]⟩], .bool true]) w) :=
  qtake_some B p lb g next (itmOf n d k) L w h hn
theorem QIs.perm {B : Nat} {w : World} {p lb g : Nat} {next : Int} {L M : List Itm} (h : QIs B w p lb g next L) (hp : L.Perm M) : QIs B w p lb g next M := by
  obtain ⟨cap, xs, more, h, hq⟩ := h; exact ⟨cap, xs, more, h, hq.trans hp⟩

set_option maxHeartbeats 400000 in
set_option maxRecDepth 1000000 in
theorem halive_any (w : World) : Calls Try.prog 19 #[] w fun e w' => e = .returned (.bool true) ∧ Below w.heap.size w w' := by
  have hn := Lib.hid (qnew_ok 5 (by decide) (by decide) w)
  have hz : zm.length = 11 := rfl
  have oz : Ones zm := zm_ones
  go_enter Try.func19, Try.ntmps19
  go_wp2_with fail
  refine hn.out.mono ?_
  rintro e w1 ⟨p, lb, g0, rfl, h1, m1⟩
  have H1 := Lib.hid h1; have M1 := Lib.hid m1; clear h1 m1
  go_wp2_with fail
  refine (put_itm w.heap.size p lb g0 5 6 0 6 [] w1 H1.out (by decide) (by decide) (by decide) (by decide)).mono ?_
  rintro e w2 ⟨rfl, g2, h2, m2, e2⟩
  have H2 := Lib.hid h2; have M2 := Lib.hid m2; clear h2 m2 e2
  go_wp2_with fail
  refine (put_itm w.heap.size p lb g2 5 5 0 5 _ w2 H2.out (by decide) (by decide) (by decide) (by decide)).mono ?_
  rintro e w3 ⟨rfl, g3, h3, m3, e3⟩
  have H3 := Lib.hid h3; have M3 := Lib.hid m3; clear h3 m3 e3
  go_wp2_with fail
  refine (take_itm w.heap.size p lb g3 5 5 0 5 _ w3 H3.out rfl).mono ?_
  rintro e w4 ⟨rfl, g4, h4, m4, e4⟩
  have o4 : Ones [.int .i64 0, .int .i64 5, .int .i64 0, .int .i64 0, .int .i64 0, .int .i64 0, .int .i64 0, .int .i64 0, .int .i64 0, .string ⟨#[]⟩, .string ⟨#[]⟩] := (itmOf 5 0 5).one
  have H4 := Lib.hid h4; have M4 := Lib.hid m4; clear h4 m4 e4
  go_wp2_with fail
  have a4 := Lib.hid (H4.out.grown ((Mod.refl none_ w4).alloc (.cells #[.int .i64 0, .int .i64 5, .int .i64 0, .int .i64 0, .int .i64 0, .int .i64 0, .int .i64 0, .int .i64 0, .int .i64 0, .string ⟨#[]⟩, .string ⟨#[]⟩] 51)))
  refine (take_itm w.heap.size p lb g4 6 6 0 6 _ _ a4.out rfl).mono ?_
  rintro e w5 ⟨rfl, g5, h5, m5, e5⟩
  have n4 : ∀ b, qf p lb g4 b → b < w4.heap.size := fun b hb => (H4.out.foot hb).2
  have k5 := (Blk.new (w := w4) (cs := [.int .i64 0, .int .i64 5, .int .i64 0, .int .i64 0, .int .i64 0, .int .i64 0, .int .i64 0, .int .i64 0, .int .i64 0, .string ⟨#[]⟩, .string ⟨#[]⟩]) (t := 51)).mod m5 (fun e => Nat.lt_irrefl _ (n4 _ e))
  have l5 := k5.lt
  have K5 := Lib.hid k5
  have o5 : Ones [.int .i64 0, .int .i64 6, .int .i64 0, .int .i64 0, .int .i64 0, .int .i64 0, .int .i64 0, .int .i64 0, .int .i64 0, .string ⟨#[]⟩, .string ⟨#[]⟩] := (itmOf 6 0 6).one
  have E5 : Aside (g5 = g4 ∨ w4.heap.size < g5) := by
    rcases e5 with e | e
    · exact .inl e
    · right; simp at e; omega
  have H5 := Lib.hid h5; have M5 := Lib.hid m5; clear h5 m5 e5 k5
  go_wp2_with fail
  have a5 := Lib.hid (H5.out.grown ((Mod.refl none_ w5).alloc (.cells #[.int .i64 0, .int .i64 6, .int .i64 0, .int .i64 0, .int .i64 0, .int .i64 0, .int .i64 0, .int .i64 0, .int .i64 0, .string ⟨#[]⟩, .string ⟨#[]⟩] 51)))
  refine (qtake_none w.heap.size p lb g5 7 [] _ a5.out (by simp)).mono ?_
  rintro e w6 ⟨rfl, g6, h6, m6, e6⟩
  have n5 : ∀ b, qf p lb g5 b → b < w5.heap.size := fun b hb => (H5.out.foot hb).2
  have k6 := (Blk.new (w := w5) (cs := [.int .i64 0, .int .i64 6, .int .i64 0, .int .i64 0, .int .i64 0, .int .i64 0, .int .i64 0, .int .i64 0, .int .i64 0, .string ⟨#[]⟩, .string ⟨#[]⟩]) (t := 51)).mod m6 (fun e => Nat.lt_irrefl _ (n5 _ e))
  have j6 := (K5.out.mod ((Mod.refl none_ w5).alloc (.cells #[.int .i64 0, .int .i64 6, .int .i64 0, .int .i64 0, .int .i64 0, .int .i64 0, .int .i64 0, .int .i64 0, .int .i64 0, .string ⟨#[]⟩, .string ⟨#[]⟩] 51)) (fun e => e)).mod m6 (fun e => by
    have := n4
    rcases e with e | e | e
    · have := n4 _ (.inl e); omega
    · have := n4 _ (.inr (.inl e)); omega
    · rcases E5.out with q | q
      · have := n4 _ (.inr (.inr (e.trans q))); omega
      · omega)
  have q6 : w6.cell? ⟨w5.heap.size, 1, none⟩ = some (.int .i64 6) := by rw [k6.cell]; rfl
  have r6 : w6.cell? ⟨w4.heap.size, 1, none⟩ = some (.int .i64 5) := by rw [j6.cell]; rfl
  have l6 := k6.lt
  have i6 := j6.lt
  have H6 := Lib.hid h6; have M6 := Lib.hid m6; clear h6 m6 e6 k6 j6 n4 n5
  go_wp2_with fail
  have a6 := Lib.hid (H6.out.grown ((Mod.refl none_ w6).alloc (.cells zm.toArray 51)))
  refine (qput_order w.heap.size p lb g6 7 5 _ [] _ a6.out (by decide)).mono ?_
  rintro e w7 ⟨rfl, g7, h7, m7, e7⟩
  have M7 := Lib.hid m7; clear h7 m7 e7
  go_wp2_with fail
  go_ret
  refine ⟨rfl, ?_⟩
  have x1 : Below w.heap.size w w1 := M1.out.toBelow (Nat.le_refl _) (fun _ _ e => e)
  have x2 := ((x1.trans (H1.out.below M2.out)).trans (H2.out.below M3.out)).trans (H3.out.below M4.out)
  have x3 := (x2.alloc x2.size _).trans (a4.out.below M5.out)
  have x4 := (x3.alloc x3.size _).trans (a5.out.below M6.out)
  exact (x4.alloc x4.size _).trans (a6.out.below M7.out)

end Go.Proofs.Ytpdfakfokegcnaa
