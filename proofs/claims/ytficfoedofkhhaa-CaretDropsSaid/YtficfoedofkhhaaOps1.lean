/-
  Layer 8 (ops): within, names, texts; an insertion that may be.
-/
import Derived.Test.YtficfoedofkhhaaTxt1
import Derived.Test.YtficfoedofkhhaaSp4
namespace Go.Proofs.Ytficfoedofkhhaa
open Go.RowKit Go.Mine

def inB (n lo hi : Int) : Bool := decide (lo ≤ n ∧ n ≤ hi)
def nameOk (s q : Int) : Bool := inB s 1 16 && inB q 1 1099511627776
def textOk (s : ByteArray) : Bool := decide (s.size ≤ 800) && inB (ulen s) 1 200

theorem owithin_any (n lo hi : Int) (w : World) : Calls Try.prog 39 #[.int .i64 n, .int .i64 lo, .int .i64 hi] w fun e w' => e = .returned (.bool (inB n lo hi)) ∧ w' = w := by
  by_cases h1 : lo ≤ n
  · by_cases h2 : n ≤ hi
    · have hb : inB n lo hi = true := by simp [inB]; omega
      rw [hb]
      go_enter Try.func39, Try.ntmps39
      go_wp2
      go_ret
      exact ⟨rfl, rfl⟩
    · have hb : inB n lo hi = false := by simp [inB]; omega
      rw [hb]
      go_enter Try.func39, Try.ntmps39
      go_wp2
      go_ret
      exact ⟨rfl, rfl⟩
  · have hb : inB n lo hi = false := by simp [inB]; omega
    rw [hb]
    go_enter Try.func39, Try.ntmps39
    go_wp2
    go_ret
    exact ⟨rfl, rfl⟩
theorem vwithin_any (n lo hi : Int) (w : World) : Calls Try.prog 45 #[.int .i64 n, .int .i64 lo, .int .i64 hi] w fun e w' => e = .returned (.bool (inB n lo hi)) ∧ w' = w := by
  by_cases h1 : lo ≤ n
  · by_cases h2 : n ≤ hi
    · have hb : inB n lo hi = true := by simp [inB]; omega
      rw [hb]
      go_enter Try.func45, Try.ntmps45
      go_wp2
      go_ret
      exact ⟨rfl, rfl⟩
    · have hb : inB n lo hi = false := by simp [inB]; omega
      rw [hb]
      go_enter Try.func45, Try.ntmps45
      go_wp2
      go_ret
      exact ⟨rfl, rfl⟩
  · have hb : inB n lo hi = false := by simp [inB]; omega
    rw [hb]
    go_enter Try.func45, Try.ntmps45
    go_wp2
    go_ret
    exact ⟨rfl, rfl⟩
theorem vname_any (s q : Int) (w : World) : Calls Try.prog 34 #[.agg #[.int .i64 s, .int .i64 q]] w fun e w' => e = .returned (.bool (nameOk s q)) ∧ Mod none_ w w' := by
  have m := (Mod.refl none_ w).alloc (.cells #[.int .i64 s, .int .i64 q] 39)
  cases h1 : inB s 1 16
  · have hb : nameOk s q = false := by simp [nameOk, h1]
    rw [hb]
    go_enter Try.func34, Try.ntmps34
    go_wp2_with fail
    refine (vwithin_any s 1 16 _).mono ?_
    rintro e w1 ⟨rfl, rfl⟩
    rw [h1]
    go_wp2_with fail
    go_ret
    exact ⟨rfl, m⟩
  · have hb : nameOk s q = inB q 1 1099511627776 := by simp [nameOk, h1]
    rw [hb]
    go_enter Try.func34, Try.ntmps34
    go_wp2_with fail
    refine (vwithin_any s 1 16 _).mono ?_
    rintro e w1 ⟨rfl, rfl⟩
    rw [h1]
    go_wp2_with fail
    refine (vwithin_any q 1 1099511627776 _).mono ?_
    rintro e w1 ⟨rfl, rfl⟩
    cases h2 : inB q 1 1099511627776
    · go_wp2_with fail
      go_ret
      exact ⟨by rw [h2]; rfl, m⟩
    · go_wp2_with fail
      go_ret
      exact ⟨by rw [h2]; rfl, m⟩
theorem mayText_any (s : ByteArray) (w : World) (ht : txtOk w s) (hsz : s.size < 4611686018427387904) : Calls Try.prog 72 #[.string s] w fun e w' => e = .returned (.bool (textOk s)) ∧ Mod none_ w w' := by
  by_cases h1 : s.size ≤ 800
  · have hb : textOk s = inB (ulen s) 1 200 := by simp [textOk, h1]
    have hd : decide ((s.size : Int) ≤ 800) = true := by simp; omega
    rw [hb]
    have HT := Lib.hid ht
    clear ht hb
    go_enter Try.func72, Try.ntmps72
    go_wp2_with fail
    refine (len_any s w HT.out hsz).mono ?_
    rintro e w1 ⟨rfl, m1⟩
    have M1 := Lib.hid m1
    clear m1
    go_wp2_with fail
    refine (owithin_any (ulen s) 1 200 _).mono ?_
    rintro e w1 ⟨rfl, rfl⟩
    cases h2 : inB (ulen s) 1 200
    · go_wp2_with fail
      go_ret
      exact ⟨by rw [h2]; rfl, M1.out⟩
    · go_wp2_with fail
      go_ret
      exact ⟨by rw [h2]; rfl, M1.out⟩
  · have hb : textOk s = false := by simp [textOk]; omega
    have hd : decide ((s.size : Int) ≤ 800) = false := by simp; omega
    rw [hb]
    clear ht hb
    go_enter Try.func72, Try.ntmps72
    go_wp2_with fail
    go_ret
    exact ⟨rfl, Mod.refl _ _⟩

/-- An operation. -/
structure OpV where
  site : Int
  seq : Int
  num : Int
  kind : Int
  at_ : Int
  text : ByteArray
  sa : Option Addr
  slen : Nat
  scap : Nat
abbrev OpV.cs (o : OpV) : List Value := [.int .i64 o.site, .int .i64 o.seq, .int .i64 o.num, .int .i64 o.kind, .int .i64 o.at_, .string o.text, .slice o.sa o.slen o.scap]
abbrev OpV.v (o : OpV) : Value := .agg #[.int .i64 o.site, .int .i64 o.seq, .int .i64 o.num, .int .i64 o.kind, .int .i64 o.at_, .string o.text, .slice o.sa o.slen o.scap]
/-- Its fields are of their types, its text can be read, its spans are l. -/
structure OpV.ok (o : OpV) (w : World) (l : List (Int × Int)) : Prop where
  i1 : -9223372036854775808 ≤ o.site ∧ o.site ≤ 9223372036854775807
  i2 : -9223372036854775808 ≤ o.seq ∧ o.seq ≤ 9223372036854775807
  i3 : -9223372036854775808 ≤ o.num ∧ o.num ≤ 9223372036854775807
  i4 : -9223372036854775808 ≤ o.kind ∧ o.kind ≤ 9223372036854775807
  i5 : -9223372036854775808 ≤ o.at_ ∧ o.at_ ≤ 9223372036854775807
  tx : txtOk w o.text
  sz : o.text.size < 4611686018427387904
  sp : IsSpans w o.sa o.slen o.scap l
theorem OpV.ok.grown {o : OpV} {w w' : World} {l : List (Int × Int)} (h : o.ok w l) (m : Mod none_ w w') : o.ok w' l := { h with tx := h.tx.grown m, sp := h.sp.grown m }

/-- May an insertion be upon a size? -/
def insOk (o : OpV) (size : Int) : Bool := inB o.at_ 0 size && textOk o.text && decide (o.slen = 0) && decide (ulen o.text ≤ 20000 - size)

set_option maxHeartbeats 2000000 in
set_option maxRecDepth 1000000 in
theorem insMay_any (o : OpV) (size : Int) (w : World) (l : List (Int × Int)) (h : o.ok w l) (hs : 0 ≤ size ∧ size ≤ 20000) :
    Calls Try.prog 69 #[.agg #[], o.v, .int .i64 size] w fun e w' => e = .returned (.bool (insOk o size)) ∧ Mod none_ w w' := by
  have hsz := h.sz
  obtain ⟨W0, hW0⟩ : ∃ W0, (w.alloc (.cells #[] 107)).alloc (.cells o.cs.toArray 47) = W0 := ⟨_, rfl⟩
  have m0 : Mod none_ w W0 := by rw [← hW0]; exact ((Mod.refl none_ w).alloc _).alloc _
  have kB : Blk W0 (w.heap.size + 1) o.cs 47 := by
    have := Blk.new (w := w.alloc (.cells #[] 107)) (cs := o.cs) (t := 47)
    rw [World.size_alloc] at this
    rw [← hW0]; exact this
  have H0 := Lib.hid (h.grown m0)
  have M0 := Lib.hid m0
  have c3 : W0.cell? ⟨w.heap.size + 1, 4, none⟩ = some (.int .i64 o.at_) := by rw [kB.cell]; rfl
  have c4 : W0.cell? ⟨w.heap.size + 1, 5, none⟩ = some (.string o.text) := by rw [kB.cell]; rfl
  have KB := Lib.hid kB
  obtain ⟨R, hR⟩ : ∃ R, R = insOk o size := ⟨_, rfl⟩
  rw [← hR]
  have HR := Lib.hid hR
  clear h m0 kB hR
  go_enter Try.func69, Try.ntmps69
  go_upto_region 1 with fail
  clear hW0
  go_wp2_with fail
  refine (owithin_any o.at_ 0 size _).mono ?_
  rintro e w1 ⟨rfl, rfl⟩
  cases h1 : inB o.at_ 0 size
  · go_wp2_with fail
    go_ret
    exact ⟨by rw [HR.out]; simp [insOk, h1], M0.out⟩
  go_wp2_with fail
  refine (mayText_any o.text _ H0.out.tx hsz).mono ?_
  rintro e w2 ⟨rfl, m2⟩
  have c6 : w2.cell? ⟨w.heap.size + 1, 6, none⟩ = some (.slice o.sa o.slen o.scap) := by rw [(KB.out.mod m2 (fun e => e)).cell]; rfl
  have c5 : w2.cell? ⟨w.heap.size + 1, 5, none⟩ = some (.string o.text) := by rw [(KB.out.mod m2 (fun e => e)).cell]; rfl
  have M2 := Lib.hid (M0.out.trans m2)
  have T2 := Lib.hid (H0.out.tx.grown m2)
  clear m2
  cases h2 : textOk o.text
  · go_wp2_with fail
    go_ret
    exact ⟨by rw [HR.out]; simp [insOk, h1, h2], M2.out⟩
  by_cases h3 : o.slen = 0
  · have hd3 : decide ((o.slen : Int) = 0) = true := by simp [h3]
    rw [h3] at c6
    go_wp2_with fail
    refine (len_any o.text _ T2.out hsz).mono ?_
    rintro e w3 ⟨rfl, m3⟩
    have M3 := Lib.hid (M2.out.trans m3)
    have hu : -1 ≤ ulen o.text := by unfold ulen; split <;> omega
    clear m3
    by_cases h4 : ulen o.text ≤ 20000 - size
    · have hd4 : decide (ulen o.text ≤ 20000 - size) = true := by simpa using h4
      go_wp2_with fail
      go_ret
      exact ⟨by rw [HR.out]; simp [insOk, h1, h2, h3]; omega, M3.out⟩
    · have hd4 : decide (ulen o.text ≤ 20000 - size) = false := by simp; omega
      go_wp2_with fail
      go_ret
      exact ⟨by rw [HR.out]; simp [insOk, h1, h2, h3]; omega, M3.out⟩
  · have hd3 : decide ((o.slen : Int) = 0) = false := by simp; omega
    go_wp2_with fail
    go_ret
    exact ⟨by rw [HR.out]; simp [insOk, h1, h2, h3], M2.out⟩

end Go.Proofs.Ytficfoedofkhhaa
