/-
  Texts as runes (no program): what Go's decoder finds in a string, rune by rune; the document's reading of the first rune is the same.
-/
import Derived.Test.YtficfoedofkhhaaBase
import Derived.Lib.DecodeN
import Derived.Shelf.Unicode.DecodeAny
namespace Go.Mine
open Go.Lib

/-- The string behind its first n bytes. -/
def tl (t : ByteArray) (n : Nat) : ByteArray := t.extract n t.size
theorem tl_size (t : ByteArray) (n : Nat) : (tl t n).size = t.size - n := by simp [tl, ByteArray.size_extract]
theorem tl_tl (t : ByteArray) (n m : Nat) : tl (tl t n) m = tl t (n + m) := by
  apply ByteArray.ext
  have e : (tl t n).size = t.data.size - n := tl_size t n
  have hs : t.size = t.data.size := rfl
  unfold tl at e ⊢
  rw [e, hs, ByteArray.data_extract, ByteArray.data_extract, ByteArray.data_extract, Array.extract_extract]
  congr 1
  omega
theorem tl_get (t : ByteArray) (n i : Nat) (h : n + i < t.size) : (tl t n).get! i = t.get! (n + i) := by
  have h1 : i < (tl t n).size := by rw [tl_size]; omega
  have a : (tl t n).get! i = (tl t n).data[i]! := rfl
  have b : t.get! (n + i) = t.data[n + i]! := rfl
  rw [a, b]
  simp only [getElem!_def, tl, ByteArray.data_extract, Array.getElem?_extract]
  have hs : t.size = t.data.size := rfl
  rw [if_pos (by omega)]

theorem decodeN_pos (n b0 b1 b2 b3 : Nat) : 1 ≤ (decodeN n b0 b1 b2 b3).2 ∧ (decodeN n b0 b1 b2 b3).2 ≤ 4 ∧ (1 ≤ n → (decodeN n b0 b1 b2 b3).2 ≤ n) := by
  unfold decodeN
  repeat' split
  all_goals (simp; try omega)
theorem decodeGo_eq {t : ByteArray} (h : t.size ≠ 0) : decodeGo t = decodeN t.size (t.get! 0).toNat (t.get! 1).toNat (t.get! 2).toNat (t.get! 3).toNat := by
  unfold decodeGo
  rw [if_neg h, decode_at]
  rfl
theorem decodeGo_pos {t : ByteArray} (h : t.size ≠ 0) : 1 ≤ (decodeGo t).2 ∧ (decodeGo t).2 ≤ 4 ∧ (decodeGo t).2 ≤ t.size := by
  rw [decodeGo_eq h]
  obtain ⟨a, b, c⟩ := decodeN_pos t.size (t.get! 0).toNat (t.get! 1).toNat (t.get! 2).toNat (t.get! 3).toNat
  exact ⟨a, b, c (by omega)⟩

/-- The first rune is wrong. -/
def bad1 (t : ByteArray) : Prop := (decodeGo t).1 = 65533 ∧ (decodeGo t).2 < 2
instance (t : ByteArray) : Decidable (bad1 t) := by unfold bad1; infer_instance

/-- The runes of a text; none: it is no text. -/
def runesOf (t : ByteArray) : Option (List Nat) :=
  if h : t.size = 0 then some []
  else if bad1 t then none
  else (runesOf (tl t (decodeGo t).2)).map ((decodeGo t).1 :: ·)
termination_by t.size
decreasing_by have := decodeGo_pos h; rw [tl_size]; omega

theorem runesOf_nil {t : ByteArray} (h : t.size = 0) : runesOf t = some [] := by rw [runesOf, dif_pos h]
theorem runesOf_bad {t : ByteArray} (h : t.size ≠ 0) (hb : bad1 t) : runesOf t = none := by rw [runesOf, dif_neg h, if_pos hb]
theorem runesOf_step {t : ByteArray} (h : t.size ≠ 0) (hb : ¬ bad1 t) : runesOf t = (runesOf (tl t (decodeGo t).2)).map ((decodeGo t).1 :: ·) := by rw [runesOf, dif_neg h, if_neg hb]

/-- How many runes; -1. -/
def ulen (t : ByteArray) : Int := match runesOf t with
  | some l => (l.length : Int)
  | none => -1

/-- The first rune as the document reads it: (0, 0) where it is wrong. -/
def firstR (t : ByteArray) : Nat × Nat := if bad1 t then (0, 0) else decodeGo t
abbrev bt (t : ByteArray) (i : Nat) : Nat := (t.get! i).toNat

def fR (d : Nat × Nat) : Nat × Nat := if d.1 = 65533 ∧ d.2 < 2 then (0, 0) else d
theorem fR_good (x n : Nat) (h : 2 ≤ n) : fR (x, n) = (x, n) := if_neg (fun e => by have e2 : n < 2 := e.2; omega)
theorem fR_one (x n : Nat) (h : x < 65533) : fR (x, n) = (x, n) := if_neg (fun e => by have e2 : x = 65533 := e.1; omega)
theorem firstR_eq {t : ByteArray} (h : t.size ≠ 0) : firstR t = fR (decodeN t.size (t.get! 0).toNat (t.get! 1).toNat (t.get! 2).toNat (t.get! 3).toNat) := by
  rw [← decodeGo_eq h]
  unfold firstR fR
  by_cases hb : bad1 t
  · have hb2 : (decodeGo t).1 = 65533 ∧ (decodeGo t).2 < 2 := hb
    rw [if_pos hb, if_pos hb2]
  · have hb2 : ¬ ((decodeGo t).1 = 65533 ∧ (decodeGo t).2 < 2) := hb
    rw [if_neg hb, if_neg hb2]

theorem bt_lt (t : ByteArray) (i : Nat) : bt t i < 256 := (t.get! i).toNat_lt

theorem firstR1 {t : ByteArray} (h : t.size ≠ 0) (h0 : bt t 0 < 128) : firstR t = (bt t 0, 1) := by
  rw [firstR_eq h]
  unfold decodeN
  rw [if_pos h0, fR_one _ _ (by unfold bt at h0; omega)]
theorem firstR0 {t : ByteArray} (h : t.size ≠ 0) (h0 : (128 ≤ bt t 0 ∧ bt t 0 < 192) ∨ 248 ≤ bt t 0) : firstR t = (0, 0) := by
  have hl := bt_lt t 0
  rw [firstR_eq h]
  unfold decodeN
  unfold bt at h0 hl
  rw [if_neg (by omega), if_neg (by omega), if_neg (by omega), if_neg (by omega)]
  rfl
theorem firstR2 {t : ByteArray} (h : t.size ≠ 0) (h0 : 192 ≤ bt t 0 ∧ bt t 0 < 224) :
    firstR t = if 2 ≤ t.size ∧ (128 ≤ bt t 1 ∧ bt t 1 ≤ 191) ∧ 128 ≤ 64 * (bt t 0 - 192) + bt t 1 - 128 then (64 * (bt t 0 - 192) + bt t 1 - 128, 2) else (0, 0) := by
  have hl := bt_lt t 0
  have hl1 := bt_lt t 1
  rw [firstR_eq h]
  unfold decodeN
  unfold bt at h0 hl hl1 ⊢
  rw [if_neg (by omega)]
  by_cases hc : 1 < t.size ∧ (t.get! 1).toNat / 64 = 2
  · rw [if_pos ⟨by omega, hc⟩]
    have ex : (t.get! 0).toNat % 32 * 64 + (t.get! 1).toNat % 64 = 64 * ((t.get! 0).toNat - 192) + (t.get! 1).toNat - 128 := by omega
    rw [ex]
    by_cases hv : 128 ≤ 64 * ((t.get! 0).toNat - 192) + (t.get! 1).toNat - 128
    · rw [if_pos hv, if_pos ⟨by omega, by omega, hv⟩, fR_good _ _ (by decide)]
    · rw [if_neg hv, if_neg (fun e => hv e.2.2)]
      rfl
  · rw [if_neg (fun e => hc e.2), if_neg (by omega), if_neg (by omega), if_neg (fun e => hc (by omega))]
    rfl
theorem firstR3 {t : ByteArray} (h : t.size ≠ 0) (h0 : 224 ≤ bt t 0 ∧ bt t 0 < 240) :
    firstR t = if 3 ≤ t.size ∧ (128 ≤ bt t 1 ∧ bt t 1 ≤ 191) ∧ (128 ≤ bt t 2 ∧ bt t 2 ≤ 191) ∧ 2048 ≤ 64 * (64 * (bt t 0 - 224) + bt t 1 - 128) + bt t 2 - 128 ∧ (64 * (64 * (bt t 0 - 224) + bt t 1 - 128) + bt t 2 - 128 < 55296 ∨ 57343 < 64 * (64 * (bt t 0 - 224) + bt t 1 - 128) + bt t 2 - 128)
      then (64 * (64 * (bt t 0 - 224) + bt t 1 - 128) + bt t 2 - 128, 3) else (0, 0) := by
  have hl := bt_lt t 0
  have hl1 := bt_lt t 1
  have hl2 := bt_lt t 2
  rw [firstR_eq h]
  unfold decodeN
  unfold bt at h0 hl hl1 hl2 ⊢
  rw [if_neg (by omega), if_neg (by omega)]
  by_cases hc : (1 < t.size ∧ (t.get! 1).toNat / 64 = 2) ∧ (2 < t.size ∧ (t.get! 2).toNat / 64 = 2)
  · rw [if_pos ⟨by omega, hc⟩]
    have ex : (t.get! 0).toNat % 16 * 4096 + (t.get! 1).toNat % 64 * 64 + (t.get! 2).toNat % 64 = 64 * (64 * ((t.get! 0).toNat - 224) + (t.get! 1).toNat - 128) + (t.get! 2).toNat - 128 := by omega
    rw [ex]
    generalize hx : 64 * (64 * ((t.get! 0).toNat - 224) + (t.get! 1).toNat - 128) + (t.get! 2).toNat - 128 = x
    by_cases hv : 2048 ≤ x ∧ (x < 55296 ∨ 57343 < x)
    · rw [if_pos ⟨hv.1, by omega⟩, if_pos ⟨by omega, by omega, by omega, hv⟩, fR_good _ _ (by decide)]
    · rw [if_neg (by omega), if_neg (fun e => hv e.2.2.2)]
      rfl
  · rw [if_neg (fun e => hc e.2), if_neg (by omega), if_neg (fun e => hc (by omega))]
    rfl
theorem firstR4 {t : ByteArray} (h : t.size ≠ 0) (h0 : 240 ≤ bt t 0 ∧ bt t 0 < 248) :
    firstR t = if 4 ≤ t.size ∧ (128 ≤ bt t 1 ∧ bt t 1 ≤ 191) ∧ (128 ≤ bt t 2 ∧ bt t 2 ≤ 191) ∧ (128 ≤ bt t 3 ∧ bt t 3 ≤ 191) ∧ 65536 ≤ 64 * (64 * (64 * (bt t 0 - 240) + bt t 1 - 128) + bt t 2 - 128) + bt t 3 - 128 ∧ 64 * (64 * (64 * (bt t 0 - 240) + bt t 1 - 128) + bt t 2 - 128) + bt t 3 - 128 ≤ 1114111
      then (64 * (64 * (64 * (bt t 0 - 240) + bt t 1 - 128) + bt t 2 - 128) + bt t 3 - 128, 4) else (0, 0) := by
  have hl := bt_lt t 0
  have hl1 := bt_lt t 1
  have hl2 := bt_lt t 2
  have hl3 := bt_lt t 3
  rw [firstR_eq h]
  unfold decodeN
  unfold bt at h0 hl hl1 hl2 hl3 ⊢
  rw [if_neg (by omega), if_neg (by omega), if_neg (by omega)]
  by_cases hc : (1 < t.size ∧ (t.get! 1).toNat / 64 = 2) ∧ (2 < t.size ∧ (t.get! 2).toNat / 64 = 2) ∧ (3 < t.size ∧ (t.get! 3).toNat / 64 = 2)
  · rw [if_pos ⟨by omega, hc⟩]
    have ex : (t.get! 0).toNat % 8 * 262144 + (t.get! 1).toNat % 64 * 4096 + (t.get! 2).toNat % 64 * 64 + (t.get! 3).toNat % 64 = 64 * (64 * (64 * ((t.get! 0).toNat - 240) + (t.get! 1).toNat - 128) + (t.get! 2).toNat - 128) + (t.get! 3).toNat - 128 := by omega
    rw [ex]
    generalize hx : 64 * (64 * (64 * ((t.get! 0).toNat - 240) + (t.get! 1).toNat - 128) + (t.get! 2).toNat - 128) + (t.get! 3).toNat - 128 = x
    by_cases hv : 65536 ≤ x ∧ x ≤ 1114111
    · rw [if_pos ⟨hv.1, by omega⟩, if_pos ⟨by omega, by omega, by omega, by omega, hv⟩, fR_good _ _ (by decide)]
    · rw [if_neg (by omega), if_neg (fun e => hv e.2.2.2.2)]
      rfl
  · rw [if_neg (fun e => hc e.2), if_neg (fun e => hc (by omega))]
    rfl

/-- The bytes of a rune, as the document says. -/
def encR (r : Nat) : List Nat :=
  if r < 128 then [r] else if r < 2048 then [192 + r / 64, 128 + r % 64] else if r < 65536 then [224 + r / 4096, 128 + r / 64 % 64, 128 + r % 64]
  else [240 + r / 262144, 128 + r / 4096 % 64, 128 + r / 64 % 64, 128 + r % 64]

/-- A string's first bytes. -/
theorem extract_bytes (t : ByteArray) (n : Nat) (h : n ≤ t.size) : t.extract 0 n = ⟨((List.range n).map fun i => t.get! i).toArray⟩ := by
  apply ByteArray.ext
  apply Array.ext_getElem?
  intro i
  have hs : t.size = t.data.size := rfl
  rw [ByteArray.data_extract, Array.getElem?_extract]
  by_cases hi : i < n
  · rw [if_pos (by omega), Nat.zero_add]
    simp only [List.getElem?_toArray, List.getElem?_map, List.getElem?_range hi, Option.map_some]
    have e : t.get! i = t.data[i]! := rfl
    rw [e, getElem!_def, Array.getElem?_eq_getElem (by omega)]
  · rw [if_neg (by omega)]
    simp only [List.getElem?_toArray, List.getElem?_map]
    rw [List.getElem?_eq_none (by simpa using hi)]
    rfl

end Go.Mine
