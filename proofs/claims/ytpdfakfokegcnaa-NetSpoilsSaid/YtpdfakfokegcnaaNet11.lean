/-
  Layer 22 (net): the acts as they lie in memory; great.
-/
import Derived.Test.YtpdfakfokegcnaaNet10
namespace Go.Proofs.Ytpdfakfokegcnaa
open Go.RowKit Go.Mine

structure NAct where
  d : Nat
  way : Int
  k : Int
  a : Int
  b : Int
  s : ByteArray

structure NAct.ok (x : NAct) : Prop where
  d : x.d < 256
  way : -9223372036854775808 ≤ x.way ∧ x.way ≤ 9223372036854775807
  k : -9223372036854775808 ≤ x.k ∧ x.k ≤ 9223372036854775807
  a : -9223372036854775808 ≤ x.a ∧ x.a ≤ 9223372036854775807
  b : -9223372036854775808 ≤ x.b ∧ x.b ≤ 9223372036854775807
  s : x.s.size ≤ maxLen

structure NAct.at_ (w : World) (b o : Nat) (x : NAct) : Prop where
  c0 : w.cell? ⟨b, o, none⟩ = some (.int .u8 x.d)
  c1 : w.cell? ⟨b, o + 1, none⟩ = some (.int .i64 x.way)
  c2 : w.cell? ⟨b, o + 2, none⟩ = some (.int .i64 x.k)
  c3 : w.cell? ⟨b, o + 3, none⟩ = some (.int .i64 x.a)
  c4 : w.cell? ⟨b, o + 4, none⟩ = some (.int .i64 x.b)
  c5 : w.cell? ⟨b, o + 5, none⟩ = some (.string x.s)

structure IsActs (w : World) (a : Option Addr) (len cap : Nat) (l : List NAct) : Prop where
  n : l.length = len
  le : len ≤ cap
  big : cap ≤ maxLen
  ok : ∀ x ∈ l, x.ok
  cells : ∀ (i : Nat) (x : NAct), l[i]? = some x → ∃ b off, a = some ⟨b, off, none⟩ ∧ x.at_ w b (off + i * 6)

def greatB (l : List NAct) : Bool := decide (300 < l.length) || l.any (fun x => decide (200 < x.s.size))

theorem greatB_none {l : List NAct} (h0 : l.length ≤ 300) (h : ∀ (j : Nat) (x : NAct), l[j]? = some x → x.s.size ≤ 200) : greatB l = false := by
  unfold greatB
  rw [Bool.or_eq_false_iff]
  refine ⟨by simpa using h0, ?_⟩
  rw [List.any_eq_false]
  intro x hx
  obtain ⟨j, hj⟩ := List.getElem?_of_mem hx
  have := h j x hj
  simpa using this
theorem greatB_some {l : List NAct} {j : Nat} {x : NAct} (h : l[j]? = some x) (hx : 200 < x.s.size) : greatB l = true := by
  unfold greatB
  rw [Bool.or_eq_true]
  right
  rw [List.any_eq_true]
  exact ⟨x, List.mem_of_getElem? h, by simpa using hx⟩

set_option maxHeartbeats 400000 in
theorem great_any (a : Option Addr) (len cap : Nat) (l : List NAct) (w : World) (h : IsActs w a len cap l) :
    Calls Try.prog 9 #[.slice a len cap] w fun e w' => e = .returned (.bool (greatB l)) ∧ w = w' := by
  have hle := h.le
  have hbig := h.big
  unfold maxLen at hbig
  have hn := Lib.hid h.n
  by_cases h300 : 300 < len
  · have hg : greatB l = true := by unfold greatB; rw [hn.out]; simp [h300]
    rw [hg]
    clear h hg
    go_enter Try.func9, Try.ntmps9
    go_wp2
    go_ret
    exact ⟨rfl, rfl⟩
  · have H : Aside (IsActs w a len cap l) := h
    have hd : decide (300 < (len : Int)) = false := by simp; omega
    clear h
    go_enter Try.func9, Try.ntmps9
    go_wp2
    go_loop [3] (fun i => ∃ j : Nat, j ≤ len ∧ i = .int .i64 j ∧ Hid (∀ (m : Nat) (x : NAct), m < j → l[m]? = some x → x.s.size ≤ 200)) (fun i => len - (intOf i).toNat)
    case atStart => exact ⟨0, Nat.zero_le _, rfl, fun m x hm => absurd hm (by omega)⟩
    case round =>
      obtain ⟨j, hj, rfl, hq⟩ := hrel
      by_cases hlt : j < len
      · have hjl : j < l.length := by rw [hn.out]; exact hlt
        obtain ⟨b, off, rfl, hat⟩ := H.out.cells j l[j] (by simp [hjl])
        obtain ⟨x, hx⟩ : ∃ x, x = l[j] := ⟨_, rfl⟩
        rw [← hx] at hat
        have c5 := hat.c5
        have hs := (H.out.ok l[j] (List.getElem_mem hjl)).s
        rw [← hx] at hs
        unfold maxLen at hs
        have hx' := Lib.hid hx
        clear hat hx
        by_cases hs2 : 200 < x.s.size
        · have hg : greatB l = true := greatB_some (j := j) (x := x) (by rw [hx'.out]; simp [hjl]) hs2
          have HG := Lib.hid hg
          clear hg
          go_wp2
          go_ret
          exact ⟨by rw [HG.out]; rfl, rfl⟩
        · go_wp2
          go_round
          case rel => exact ⟨j + 1, by omega, by go_num, fun m y hm hy => by
            by_cases e : m = j
            · subst e; rw [List.getElem?_eq_getElem hjl, ← hx'.out] at hy; cases hy; omega
            · exact hq m y (by omega) hy⟩
          case measure => simp [intOf]; omega
      · have hg : greatB l = false := greatB_none (by rw [hn.out]; omega) (fun m x hm => hq.out m x (by have := (List.getElem?_eq_some_iff.1 hm).1; rw [hn.out] at this; omega) hm)
        have HG := Lib.hid hg
        clear hg
        go_wp2
        go_ret
        exact ⟨by rw [HG.out]; rfl, rfl⟩

end Go.Proofs.Ytpdfakfokegcnaa
