/-
  Layer 22 (net): what each method answers, as a function of the lists.
-/
import Derived.Test.YtpdfakfokegcnaaNet8
namespace Go.Proofs.Ytpdfakfokegcnaa
open Go.RowKit Go.Mine

abbrev Ways := List (List ByteArray)
/-- Is there such a way? -/
def isWay (L : Ways) (i : Int) : Prop := 0 ≤ i ∧ i < L.length
instance (L : Ways) (i : Int) : Decidable (isWay L i) := inferInstanceAs (Decidable (_ ∧ _))
def wayOf (L : Ways) (i : Int) : List ByteArray := L.getD i.toNat []

theorem isWay.nat {L : Ways} {i : Int} (h : isWay L i) : ∃ k : Nat, i = k ∧ k < L.length ∧ L[k]? = some (wayOf L i) := by
  obtain ⟨h0, h1⟩ := h
  refine ⟨i.toNat, by omega, by omega, ?_⟩
  unfold wayOf
  rw [List.getD_eq_getElem?_getD, List.getElem?_eq_getElem (by omega)]; rfl

/-- First error of Take, Lose. -/
def askE (L : Ways) (i k : Int) : Int := if isWay L i ∧ 0 ≤ k then (if wayOf L i = [] then 14 else 0) else 1
/-- The place that is meant. -/
def askK (L : Ways) (i k : Int) : Nat := k.toNat % (wayOf L i).length

def putE (L : Ways) (i : Int) : Int := if isWay L i then (if (wayOf L i).length = 200 then 4 else 0) else 1
def putL (L : Ways) (i : Int) (s : ByteArray) : Ways := if putE L i = 0 then L.set i.toNat (wayOf L i ++ [s]) else L
def goneL (L : Ways) (i k : Int) : Ways := if askE L i k = 0 then L.set i.toNat ((wayOf L i).eraseIdx (askK L i k)) else L
def textOf (L : Ways) (i k : Int) : ByteArray := if askE L i k = 0 then (wayOf L i).getD (askK L i k) ByteArray.empty else ByteArray.empty
def spoilE (L : Ways) (i k a b : Int) : Int := if a < 0 ∨ b < 0 then 1 else askE L i k
def turnedI (x : ByteArray) (a b : Int) : ByteArray := if x.size = 0 then x else turned x a.toNat b.toNat
def spoilL (L : Ways) (i k a b : Int) : Ways := if spoilE L i k a b = 0 then L.set i.toNat ((wayOf L i).set (askK L i k) (turnedI (textOf L i k) a b)) else L
def clearL (L : Ways) (i : Int) : Ways := if isWay L i then L.set i.toNat [] else L
def countN (L : Ways) (i : Int) : Int := if isWay L i then (wayOf L i).length else 0

theorem put_all (B p bw : Nat) (i : Int) (s : ByteArray) (vs : List Value) (L : Ways) (lost : Int) (w : World) (h : NetRep B w p bw vs L lost) (hlo : 0 ≤ lost ∧ lost ≤ 1099511627776) :
    Calls Try.prog 15 #[.pointer (some ⟨p, 0, none⟩), .int .i64 i, .string s] w (NetPost B p bw (putL L i s) (if putE L i = 4 then lost + 1 else lost) (.int .i64 (putE L i)) w) := by
  by_cases hw : isWay L i
  · obtain ⟨k, rfl, hk, hl⟩ := hw.nat
    by_cases h2 : (wayOf L k).length = 200
    · have e : putE L (k : Int) = 4 := by unfold putE; rw [if_pos hw, if_pos h2]
      have el : putL L (k : Int) s = L := by unfold putL; rw [e, if_neg (by decide)]
      rw [e, el, if_pos rfl]
      exact put_full B p bw k s vs L _ lost w h hl h2 hlo.1 hlo.2
    · have e : putE L (k : Int) = 0 := by unfold putE; rw [if_pos hw, if_neg h2]
      have el : putL L (k : Int) s = L.set k (wayOf L k ++ [s]) := by unfold putL; rw [e, if_pos rfl, Int.toNat_natCast]
      rw [e, el, if_neg (by decide)]
      have := h.each _ (List.mem_of_getElem? hl)
      exact put_ok B p bw k s vs L _ lost w h hl (by omega)
  · have e : putE L i = 1 := by unfold putE; rw [if_neg hw]
    have el : putL L i s = L := by unfold putL; rw [e, if_neg (by decide)]
    rw [e, el, if_neg (by decide)]
    refine put_bad B p bw i s vs L lost w h ?_
    unfold isWay at hw; omega

theorem askE_cases (L : Ways) (i k : Int) : (askE L i k = 1 ∧ (i < 0 ∨ (L.length : Int) ≤ i ∨ k < 0)) ∨ (askE L i k = 14 ∧ ∃ j : Nat, i = j ∧ L[j]? = some [] ∧ 0 ≤ k) ∨
    (askE L i k = 0 ∧ ∃ j m : Nat, i = j ∧ k = m ∧ L[j]? = some (wayOf L i) ∧ wayOf L i ≠ [] ∧ askK L i k = m % (wayOf L i).length ∧ (wayOf L i)[m % (wayOf L i).length]? = some (textOf L i k)) := by
  by_cases h : isWay L i ∧ 0 ≤ k
  · obtain ⟨hw, hk⟩ := h
    have hw0 := hw
    obtain ⟨j, rfl, hj, hl⟩ := hw.nat
    by_cases hn : wayOf L j = []
    · right; left
      refine ⟨by unfold askE; rw [if_pos ⟨hw0, hk⟩, if_pos hn], j, rfl, by rw [hl, hn], hk⟩
    · right; right
      have e : askE L (j : Int) k = 0 := by unfold askE; rw [if_pos ⟨hw0, hk⟩, if_neg hn]
      obtain ⟨m, rfl⟩ := Int.eq_ofNat_of_zero_le hk
      have hlen : 0 < (wayOf L j).length := List.length_pos_iff.2 hn
      have hm : m % (wayOf L j).length < (wayOf L j).length := Nat.mod_lt _ hlen
      refine ⟨e, j, m, rfl, rfl, hl, hn, by unfold askK; rw [Int.toNat_natCast], ?_⟩
      unfold textOf askK
      rw [e, if_pos rfl, Int.toNat_natCast, List.getD_eq_getElem?_getD, List.getElem?_eq_getElem hm]; rfl
  · left
    refine ⟨by unfold askE; rw [if_neg h], ?_⟩
    unfold isWay at h; omega

theorem take_all (B p bw : Nat) (i k : Int) (st : Bool) (vs : List Value) (L : Ways) (lost : Int) (w : World) (h : NetRep B w p bw vs L lost) (hk : k < 9223372036854775808) :
    Calls Try.prog 11 #[.pointer (some ⟨p, 0, none⟩), .int .i64 i, .int .i64 k, .bool st] w (NetPost B p bw (if st then L else goneL L i k) lost (.tuple #[.string (textOf L i k), .int .i64 (askE L i k)]) w) := by
  rcases askE_cases L i k with ⟨e, hb⟩ | ⟨e, j, rfl, hl, hk0⟩ | ⟨e, j, m, rfl, rfl, hl, hn, hak, ht⟩
  · have e1 : goneL L i k = L := by unfold goneL; rw [e, if_neg (by decide)]
    have e2 : textOf L i k = ByteArray.empty := by unfold textOf; rw [e, if_neg (by decide)]
    rw [e1, e2, e]; simp only [ite_self]
    by_cases hw : i < 0 ∨ (L.length : Int) ≤ i
    · exact take_bad B p bw i k st vs L lost w h hw
    · obtain ⟨j, rfl⟩ : ∃ j : Nat, i = j := ⟨i.toNat, by omega⟩
      exact take_neg B p bw j k st vs L lost w h (by omega) (by omega)
  · have e1 : goneL L (j : Int) k = L := by unfold goneL; rw [e, if_neg (by decide)]
    have e2 : textOf L (j : Int) k = ByteArray.empty := by unfold textOf; rw [e, if_neg (by decide)]
    rw [e1, e2, e]; simp only [ite_self]
    exact take_none B p bw j k st vs L lost w h hl hk0
  · have e1 : goneL L (j : Int) m = L.set j ((wayOf L j).eraseIdx (m % (wayOf L j).length)) := by unfold goneL; rw [e, if_pos rfl, hak, Int.toNat_natCast]
    rw [e1, e]
    cases st with
    | true => simp only [if_true]; exact take_stay B p bw j m _ vs L _ lost w h hl ht (by omega)
    | false => simp only [Bool.false_eq_true, if_false]; exact take_take B p bw j m _ vs L _ lost w h hl ht (by omega)

theorem lose_all (B p bw : Nat) (i k : Int) (vs : List Value) (L : Ways) (lost : Int) (w : World) (h : NetRep B w p bw vs L lost) (hk : k < 9223372036854775808) (hlo : 0 ≤ lost ∧ lost ≤ 1099511627776) :
    Calls Try.prog 12 #[.pointer (some ⟨p, 0, none⟩), .int .i64 i, .int .i64 k] w (NetPost B p bw (goneL L i k) (if askE L i k = 0 then lost + 1 else lost) (.int .i64 (askE L i k)) w) := by
  rcases askE_cases L i k with ⟨e, hb⟩ | ⟨e, j, rfl, hl, hk0⟩ | ⟨e, j, m, rfl, rfl, hl, hn, hak, ht⟩
  · have e1 : goneL L i k = L := by unfold goneL; rw [e, if_neg (by decide)]
    rw [e1, e, if_neg (by decide)]
    exact lose_bad B p bw i k vs L lost w h hb
  · have e1 : goneL L (j : Int) k = L := by unfold goneL; rw [e, if_neg (by decide)]
    rw [e1, e, if_neg (by decide)]
    exact lose_none B p bw j k vs L lost w h hl hk0
  · have e1 : goneL L (j : Int) m = L.set j ((wayOf L j).eraseIdx (m % (wayOf L j).length)) := by unfold goneL; rw [e, if_pos rfl, hak, Int.toNat_natCast]
    rw [e1, e, if_pos rfl]
    exact lose_some B p bw j m vs L _ lost w h hl hn (by omega) hlo

theorem spoil_all (B p bw : Nat) (i k a b : Int) (vs : List Value) (L : Ways) (lost : Int) (w : World) (h : NetRep B w p bw vs L lost) (hk : k < 9223372036854775808) (ha : a < 9223372036854775808) (hb : b < 9223372036854775808) (hz : ∀ l ∈ L, ∀ x ∈ l, x.size ≤ 1000) :
    Calls Try.prog 13 #[.pointer (some ⟨p, 0, none⟩), .int .i64 i, .int .i64 k, .int .i64 a, .int .i64 b] w (NetPost B p bw (spoilL L i k a b) lost (.int .i64 (spoilE L i k a b)) w) := by
  by_cases hab : a < 0 ∨ b < 0
  · have e : spoilE L i k a b = 1 := by unfold spoilE; rw [if_pos hab]
    have el : spoilL L i k a b = L := by unfold spoilL; rw [e, if_neg (by decide)]
    rw [e, el]
    exact spoil_bad B p bw i k a b vs L lost w h (by omega)
  have es : spoilE L i k a b = askE L i k := by unfold spoilE; rw [if_neg hab]
  rw [es]
  rcases askE_cases L i k with ⟨e, hbad⟩ | ⟨e, j, rfl, hl, hk0⟩ | ⟨e, j, m, rfl, rfl, hl, hn, hak, ht⟩
  · have e1 : spoilL L i k a b = L := by unfold spoilL; rw [es, e, if_neg (by decide)]
    rw [e1, e]
    exact spoil_bad B p bw i k a b vs L lost w h (by omega)
  · have e1 : spoilL L (j : Int) k a b = L := by unfold spoilL; rw [es, e, if_neg (by decide)]
    rw [e1, e]
    exact spoil_none B p bw j k a b vs L lost w h hl hk0 (by omega) (by omega)
  · obtain ⟨a', rfl⟩ := Int.eq_ofNat_of_zero_le (show 0 ≤ a by omega)
    obtain ⟨b', rfl⟩ := Int.eq_ofNat_of_zero_le (show 0 ≤ b by omega)
    by_cases hx : (textOf L j m).size = 0
    · have e1 : spoilL L (j : Int) m a' b' = L := by
        unfold spoilL turnedI
        rw [es, e, if_pos rfl, if_pos hx, hak, Int.toNat_natCast]
        have h1 : (wayOf L j).set (m % (wayOf L j).length) (textOf L j m) = wayOf L j := by
          obtain ⟨hlt, e⟩ := List.getElem?_eq_some_iff.1 ht
          rw [← e]; simp
        rw [h1]
        obtain ⟨hlt, e⟩ := List.getElem?_eq_some_iff.1 hl
        conv => lhs; rw [← e]
        simp
      rw [e1, e]
      exact spoil_empty B p bw j m a' b' _ vs L _ lost w h hl ht (by omega) hx
    · have e1 : spoilL L (j : Int) m a' b' = L.set j ((wayOf L j).set (m % (wayOf L j).length) (turned (textOf L j m) a' b')) := by
        unfold spoilL turnedI
        rw [es, e, if_pos rfl, if_neg hx, hak, Int.toNat_natCast, Int.toNat_natCast, Int.toNat_natCast]
      rw [e1, e]
      exact spoil_some B p bw j m a' b' _ vs L _ lost w h hl ht (by omega) (by omega) (by omega) (by omega) (hz _ (List.mem_of_getElem? hl) _ (List.mem_of_getElem? ht))

theorem clear_all (B p bw : Nat) (i : Int) (vs : List Value) (L : Ways) (lost : Int) (w : World) (h : NetRep B w p bw vs L lost) :
    Calls Try.prog 14 #[.pointer (some ⟨p, 0, none⟩), .int .i64 i] w (NetPost B p bw (clearL L i) lost (.int .i64 (countN L i)) w) := by
  by_cases hw : isWay L i
  · have e1 : clearL L i = L.set i.toNat [] := by unfold clearL; rw [if_pos hw]
    have e2 : countN L i = (wayOf L i).length := by unfold countN; rw [if_pos hw]
    rw [e1, e2]
    obtain ⟨k, rfl, hk, hl⟩ := hw.nat
    rw [Int.toNat_natCast]
    exact clear_in B p bw k vs L _ lost w h hl
  · have e1 : clearL L i = L := by unfold clearL; rw [if_neg hw]
    have e2 : countN L i = 0 := by unfold countN; rw [if_neg hw]
    rw [e1, e2]
    exact clear_out B p bw i vs L lost w h (by unfold isWay at hw; omega)

theorem count_all (B p bw : Nat) (i : Int) (vs : List Value) (L : Ways) (lost : Int) (w : World) (h : NetRep B w p bw vs L lost) :
    Calls Try.prog 18 #[.pointer (some ⟨p, 0, none⟩), .int .i64 i] w fun e w' => e = .returned (.int .i64 (countN L i)) ∧ w = w' := by
  by_cases hw : isWay L i
  · have e2 : countN L i = (wayOf L i).length := by unfold countN; rw [if_pos hw]
    rw [e2]
    obtain ⟨k, rfl, hk, hl⟩ := hw.nat
    exact count_in B p bw k vs L _ lost w h hl
  · have e2 : countN L i = 0 := by unfold countN; rw [if_neg hw]
    rw [e2]
    exact count_out B p bw i vs L lost w h (by unfold isWay at hw; omega)

end Go.Proofs.Ytpdfakfokegcnaa
