/-
  Texts on which the claim rests, one behind the other: Rop1 Rdm1 Rru1 Rdo2 Rdr1 Mad1 Rrn1 Rgo1 Rft4 Sam1 Sam2 Fin1 Sta2 Cpl1 RowK.
-/
import Derived.Test.YthicagfeaekmoaaGreatDoorPl4
import Derived.Deep.Upon
import Derived.Outline
import Derived.Test.YthicagfeaekmoaaGreatDoorRows
import Derived.Test.YthicagfeaekmoaaGreatDoorCards
import Derived.Test.YthicagfeaekmoaaGreatDoorTie
import Derived.ProofKit
import Derived.OpenShut
import Derived.LaidMore
import Derived.Lay
import Derived.SevenTiedAt
import Derived.Stop.Joined
import Derived.Lib.LaidU8T
import Derived.PinnedBridge
import Derived.Lib.SmallJoins

namespace Go.Proofs.YthicagfeaekmoaaGreatDoor
open Go.RowKit Go.Mine

theorem nameOk_bools (s q : Int) : nameOk s q = (decide (1 ≤ s) && decide (s ≤ 16) && decide (1 ≤ q) && decide (q ≤ 1099511627776)) := by
  unfold nameOk inB
  rw [Bool.eq_iff_iff]
  simp only [decide_eq_true_eq, Bool.and_eq_true]
  omega

set_option maxHeartbeats 1000000 in
set_option maxRecDepth 1000000 in
theorem rname_any (s q : Int) (w : World) : Calls Tryz.prog 84 #[.agg #[.int .i64 s, .int .i64 q]] w fun e w' => e = .returned (.bool (nameOk s q)) ∧ Mine.Mod none_ w w' := by
  have m0 := (Mine.Mod.refl none_ w).alloc (.cells #[.int .i64 s, .int .i64 q] 28)
  rw [nameOk_bools]
  go_enter Tryz.func84, Tryz.ntmps84
  cases h0 : decide (1 ≤ s)
  · go_wp2_with fail
    go_ret
    exact ⟨rfl, m0⟩
  · cases h1 : decide (s ≤ 16)
    · go_wp2_with fail
      go_ret
      exact ⟨rfl, m0⟩
    · cases h2 : decide (1 ≤ q)
      · go_wp2_with fail
        go_ret
        exact ⟨rfl, m0⟩
      · cases h3 : decide (q ≤ 1099511627776)
        · go_wp2_with fail
          go_ret
          exact ⟨rfl, m0⟩
        · go_wp2_with fail
          go_ret
          exact ⟨rfl, m0⟩

theorem textOk_bools (s : ByteArray) (h : ¬ 800 < (s.size : Int)) : textOk s = (decide (1 ≤ ulen s) && decide (ulen s ≤ 200)) := by
  unfold textOk inB
  rw [Bool.eq_iff_iff]
  simp only [decide_eq_true_eq, Bool.and_eq_true]
  omega

set_option maxHeartbeats 1000000 in
set_option maxRecDepth 1000000 in
theorem rtextOk_any (s : ByteArray) (w : World) (hsz : s.size < 4611686018427387904) : Calls Tryz.prog 102 #[.string s] w fun e w' => e = .returned (.bool (textOk s)) ∧ Mine.Mod none_ w w' := by
  by_cases h8 : 800 < (s.size : Int)
  · have HE := Lib.hid (show textOk s = false by unfold textOk; simp; omega)
    have hd : decide (800 < (s.size : Int)) = true := by simpa using h8
    go_enter Tryz.func102, Tryz.ntmps102
    go_wp2_with fail
    go_ret
    exact ⟨by rw [HE.out]; rfl, Mine.Mod.refl _ _⟩
  · have HE := Lib.hid (textOk_bools s h8)
    have hd : decide (800 < (s.size : Int)) = false := by simpa using h8
    have HL := Lib.hid (rlen_any s w (by omega))
    obtain ⟨n, hn⟩ : ∃ n, n = ulen s := ⟨_, rfl⟩
    rw [← hn] at HL HE
    clear hn
    go_enter Tryz.func102, Tryz.ntmps102
    go_wp2_with fail
    refine HL.out.mono ?_
    rintro e w1 ⟨rfl, m1⟩
    have M1 := Lib.hid m1
    clear m1
    cases h1 : decide (1 ≤ n)
    · go_wp2_with fail
      go_ret
      exact ⟨by rw [HE.out, h1]; rfl, M1.out⟩
    · cases h2 : decide (n ≤ 200)
      · go_wp2_with fail
        go_ret
        exact ⟨by rw [HE.out, h1, h2]; rfl, M1.out⟩
      · go_wp2_with fail
        go_ret
        exact ⟨by rw [HE.out, h1, h2]; rfl, M1.out⟩

theorem spansFrom_last : ∀ (l : List (Int × Int)) (last : Int), spansFrom last l = true → ∀ y, l.getLast? = some y → ∀ x ∈ l, x.1 + x.2 ≤ y.1 + y.2
  | [], _, _, y, hy, x, hx => by cases hx
  | a :: r, last, h, y, hy, x, hx => by
    unfold spansFrom at h
    simp only [Bool.and_eq_true, decide_eq_true_eq] at h
    cases hr : r with
    | nil =>
      subst hr
      simp at hy hx
      subst hy; subst hx
      exact Int.le_refl _
    | cons b t =>
      rw [hr] at hy
      have hy2 : (b :: t).getLast? = some y := by simpa [List.getLast?_cons_cons] using hy
      rw [← hr] at hy2
      rcases List.mem_cons.1 hx with rfl | hx
      · have hb : b ∈ r := by rw [hr]; exact List.mem_cons_self ..
        have h2 := spansFrom_last r _ h.2 y hy2 b hb
        have h3 := h.2
        rw [hr] at h3
        unfold spansFrom at h3
        simp only [Bool.and_eq_true, decide_eq_true_eq] at h3
        omega
      · exact spansFrom_last r _ h.2 y hy2 x hx
theorem lastLe_all {l : List (Int × Int)} {size : Int} (h : spansOk l = true) : lastLe l size = l.all fun x => decide (x.1 + x.2 ≤ size) := by
  rw [Bool.eq_iff_iff]
  unfold lastLe
  constructor
  · intro hl
    rw [List.all_eq_true]
    intro x hx
    rw [decide_eq_true_eq]
    cases hy : l.getLast? with
    | none => rw [List.getLast?_eq_none_iff.1 hy] at hx; cases hx
    | some y =>
      rw [hy] at hl
      simp only [decide_eq_true_eq] at hl
      have := spansFrom_last l _ h y hy x hx
      omega
  · intro ha
    cases hy : l.getLast? with
    | none => rfl
    | some y => exact List.all_eq_true.1 ha y (List.mem_of_getLast? hy)
theorem text_empty {s : ByteArray} (h : s.toList.isEmpty = true) : s = ⟨#[]⟩ := by
  have h : s.toList = [] := by simpa using h
  have h3 : s.size = 0 := by
    have := congrArg List.length h
    rw [List.length_nil, ByteArray.toList_eq] at this
    rw [← this]; exact (Array.length_toList (xs := s.data)).symm
  exact ByteArray.ext (Array.eq_empty_of_size_eq_zero (by rw [← h3]; rfl))

set_option maxHeartbeats 8000000 in
set_option maxRecDepth 1000000 in
theorem rmayOp_any (o : OpV) (size : Int) (w : World) (l : List (Int × Int)) (h : o.ok w l) (hsb : -9223372036854775808 ≤ size ∧ size ≤ 9223372036854775807) :
    Calls Tryz.prog 78 #[o.v, .int .i64 size] w fun e w' => e = .returned (.bool (inB size 0 20000 && opMay o l size)) ∧ Mine.Mod none_ w w' := by
  have hsz := h.sz
  have hle := h.sp.le
  have hbig := h.sp.big
  unfold maxLen at hbig
  have HN := Lib.hid h.sp.n
  obtain ⟨W0, hW0⟩ : ∃ W0, w.alloc (.cells o.cs.toArray 31) = W0 := ⟨_, rfl⟩
  obtain ⟨m0, kB⟩ := opBox1 hW0
  obtain ⟨K, hK⟩ : ∃ K, w.heap.size = K := ⟨_, rfl⟩
  rw [hK] at kB
  have H0 := Lib.hid (h.grown m0)
  have M0 := Lib.hid m0
  have K0 := Lib.hid kB
  have c0 : W0.cell? ⟨K, 0, none⟩ = some (.int .i64 o.site) := by rw [kB.cell]; rfl
  have c1 : W0.cell? ⟨K, 1, none⟩ = some (.int .i64 o.seq) := by rw [kB.cell]; rfl
  have c2 : W0.cell? ⟨K, 2, none⟩ = some (.int .i64 o.num) := by rw [kB.cell]; rfl
  obtain ⟨R, hR⟩ : ∃ R, R = (inB size 0 20000 && opMay o l size) := ⟨_, rfl⟩
  rw [← hR]
  have HR := Lib.hid hR
  clear h m0 kB hR
  go_enter Tryz.func78, Tryz.ntmps78
  go_upto_region 1 with fail
  clear hW0 hK
  by_cases h1 : size < 0
  · have HE := Lib.hid (show R = false by rw [HR.out]; simp [inB]; omega)
    have d1 : decide (size < 0) = true := by simpa using h1
    clear c0 c1 c2
    go_wp2_with fail
    go_ret
    exact ⟨by rw [HE.out]; rfl, M0.out⟩
  have d1 : decide (size < 0) = false := by simpa using h1
  by_cases h2 : 20000 < size
  · have HE := Lib.hid (show R = false by rw [HR.out]; simp [inB]; omega)
    have d2 : decide (20000 < size) = true := by simpa using h2
    clear c0 c1 c2
    go_wp2_with fail
    go_ret
    exact ⟨by rw [HE.out]; rfl, M0.out⟩
  have d2 : decide (20000 < size) = false := by simpa using h2
  have HR1 := Lib.hid (show R = opMay o l size by rw [HR.out]; simp [inB]; omega)
  clear HR
  cases h3 : nameOk o.site o.seq
  · have HE := Lib.hid (show R = false by rw [HR1.out]; simp [opMay, h3])
    go_wp2_with fail
    refine (rname_any o.site o.seq _).mono ?_
    rintro e w1 ⟨rfl, m1⟩
    rw [h3]
    have M1 := Lib.hid (M0.out.trans m1)
    clear m1 c0 c1 c2
    go_wp2_with fail
    go_ret
    exact ⟨by rw [HE.out]; rfl, M1.out⟩
  go_wp2_with fail
  refine (rname_any o.site o.seq _).mono ?_
  rintro e w1 ⟨rfl, m1⟩
  rw [h3]
  have M1 := Lib.hid (M0.out.trans m1)
  have H1 := Lib.hid (H0.out.grown m1)
  have K1 := Lib.hid (K0.out.mod m1 (fun e => e))
  have c2 : w1.cell? ⟨K, 2, none⟩ = some (.int .i64 o.num) := by rw [K1.out.cell]; rfl
  have c3 : w1.cell? ⟨K, 3, none⟩ = some (.int .i64 o.kind) := by rw [K1.out.cell]; rfl
  have c4 : w1.cell? ⟨K, 4, none⟩ = some (.int .i64 o.at_) := by rw [K1.out.cell]; rfl
  have c5 : w1.cell? ⟨K, 5, none⟩ = some (.string o.text) := by rw [K1.out.cell]; rfl
  have c6 : w1.cell? ⟨K, 6, none⟩ = some (.slice o.sa o.slen o.scap) := by rw [K1.out.cell]; rfl
  clear m1 M0 H0 K0
  by_cases h4 : o.num < 0
  · have HE := Lib.hid (show R = false by rw [HR1.out]; simp [opMay, inB]; omega)
    have d4 : decide (o.num < 0) = true := by simpa using h4
    go_wp2_with fail
    go_ret
    exact ⟨by rw [HE.out]; rfl, M1.out⟩
  have d4 : decide (o.num < 0) = false := by simpa using h4
  by_cases h5 : 1099511627776 < o.num
  · have HE := Lib.hid (show R = false by rw [HR1.out]; simp [opMay, inB]; omega)
    have d5 : decide (1099511627776 < o.num) = true := by simpa using h5
    go_wp2_with fail
    go_ret
    exact ⟨by rw [HE.out]; rfl, M1.out⟩
  have d5 : decide (1099511627776 < o.num) = false := by simpa using h5
  have HR2 := Lib.hid (show R = if o.kind = 1 then insOk o size else if o.kind = 2 then delOk o size l else false by
    have : inB o.num 0 1099511627776 = true := by simp [inB]; omega
    rw [HR1.out]; unfold opMay; rw [h3, this]; rfl)
  clear HR1 h3
  by_cases hk1 : o.kind = 1
  · have b1 : (o.kind == 1) = true := by simpa using hk1
    have HR3 := Lib.hid (show R = insOk o size by rw [HR2.out, if_pos hk1])
    clear HR2 hk1
    cases e1 : decide (0 ≤ o.at_)
    · have HE := Lib.hid (show R = false by rw [HR3.out]; simp at e1; simp [insOk, inB]; omega)
      go_wp2_with fail
      go_ret
      exact ⟨by rw [HE.out]; rfl, M1.out⟩
    cases e2 : decide (o.at_ ≤ size)
    · have HE := Lib.hid (show R = false by rw [HR3.out]; simp at e2; simp [insOk, inB]; omega)
      go_wp2_with fail
      go_ret
      exact ⟨by rw [HE.out]; rfl, M1.out⟩
    have HAT := Lib.hid (show inB o.at_ 0 size = true by simp at e1 e2; simp [inB]; omega)
    cases e3 : textOk o.text
    · have HE := Lib.hid (show R = false by rw [HR3.out]; simp [insOk, e3])
      go_wp2_with fail
      refine (rtextOk_any o.text _ hsz).mono ?_
      rintro e w2 ⟨rfl, m2⟩
      rw [e3]
      have M2 := Lib.hid (M1.out.trans m2)
      clear m2 c2 c3 c4 c5 c6
      go_wp2_with fail
      go_ret
      exact ⟨by rw [HE.out]; rfl, M2.out⟩
    go_wp2_with fail
    refine (rtextOk_any o.text _ hsz).mono ?_
    rintro e w2 ⟨rfl, m2⟩
    rw [e3]
    have M2 := Lib.hid (M1.out.trans m2)
    have K2 := Lib.hid (K1.out.mod m2 (fun e => e))
    have hs8 : o.text.size ≤ 800 ∧ 1 ≤ ulen o.text ∧ ulen o.text ≤ 200 := by
      unfold textOk inB at e3
      simp only [Bool.and_eq_true, decide_eq_true_eq] at e3
      omega
    have E3 := Lib.hid e3
    have c5 : w2.cell? ⟨K, 5, none⟩ = some (.string o.text) := by rw [K2.out.cell]; rfl
    have c6 : w2.cell? ⟨K, 6, none⟩ = some (.slice o.sa o.slen o.scap) := by rw [K2.out.cell]; rfl
    clear m2 c2 c3 c4 e3
    by_cases h6 : o.slen = 0
    · have b6 : ((o.slen : Int) == 0) = true := by simpa using h6
      have b6' : (o.slen == 0) = true := by simpa using h6
      go_wp2_with fail
      refine (rlen_any o.text _ (by omega)).mono ?_
      rintro e w3 ⟨rfl, m3⟩
      obtain ⟨n, hn⟩ : ∃ n, n = ulen o.text := ⟨_, rfl⟩
      rw [← hn] at hs8 ⊢
      have hw : IntKind.i64.wrap (size + n) = size + n := by rw [IntKind.wrap_i64]; omega
      have HF := Lib.hid (show R = decide (size + n ≤ 20000) by
        rw [HR3.out]
        unfold insOk
        rw [HAT.out, E3.out, ← hn]
        rw [Bool.eq_iff_iff]
        simp [h6]
        omega)
      have M3 := Lib.hid (M2.out.trans m3)
      clear m3 hn c5 c6 h6 b6 b6'
      go_wp2_with fail
      go_ret
      exact ⟨by rw [HF.out]; rfl, M3.out⟩
    · have b6 : ((o.slen : Int) == 0) = false := by simpa using h6
      have b6' : (o.slen == 0) = false := by simpa using h6
      have HE := Lib.hid (show R = false by rw [HR3.out]; simp [insOk, h6])
      go_wp2_with fail
      go_ret
      exact ⟨by rw [HE.out]; rfl, M2.out⟩
  have b1 : (o.kind == 1) = false := by simpa using hk1
  by_cases hk2 : o.kind = 2
  · have b2 : (o.kind == 2) = true := by simpa using hk2
    have HR3 := Lib.hid (show R = delOk o size l by rw [HR2.out, if_neg hk1, if_pos hk2])
    clear HR2 hk1
    by_cases h6 : o.at_ = 0
    · have b6 : (o.at_ == 0) = true := by simpa using h6
      have HAT := Lib.hid h6
      cases h7 : o.text.toList.isEmpty
      · have HE := Lib.hid (show R = false by rw [HR3.out]; simp [delOk, h7])
        have h7' : ¬ o.text.toList = [] := by simpa using h7
        clear h7
        go_wp2_with fail
        go_ret
        exact ⟨by rw [HE.out]; rfl, M1.out⟩
      · have H7 := Lib.hid h7
        rw [text_empty h7] at c5
        clear h7
        have HSM := Lib.hid (rspansMay_any w1 o.sa o.slen o.scap l H1.out.sp)
        cases h8 : spansOk l
        · have HE := Lib.hid (show R = false by rw [HR3.out]; simp [delOk, h8])
          rw [h8] at HSM
          go_wp2_with fail
          refine HSM.out.mono ?_
          rintro e w2 ⟨rfl, m2⟩
          have M2 := Lib.hid (M1.out.trans m2)
          clear m2 c2 c3 c4 c5 c6
          go_wp2_with fail
          go_ret
          exact ⟨by rw [HE.out]; rfl, M2.out⟩
        · rw [h8] at HSM
          have H8 := Lib.hid h8
          have HR4 := Lib.hid (show R = l.all fun x => decide (x.1 + x.2 ≤ size) by
            rw [HR3.out, ← lastLe_all h8]
            unfold delOk
            rw [HAT.out, H7.out, h8]; rfl)
          clear h8 HR3
          go_wp2_with fail
          refine HSM.out.mono ?_
          rintro e w2 ⟨rfl, m2⟩
          have M2 := Lib.hid (M1.out.trans m2)
          have H2 := Lib.hid (H1.out.grown m2)
          have K2 := Lib.hid (K1.out.mod m2 (fun e => e))
          clear m2 c2 c3 c4 c5 c6 HSM
          go_wp2_with fail
          go_loopg [5] o.slen (fun g s5 wx => ∃ k : Nat, g = o.slen - k ∧ s5 = .int .i64 k ∧ k ≤ o.slen ∧ Mine.Mod none_ w2 wx ∧ RowKit.Hid (∀ (j : Nat) (x : Int × Int), j < k → l[j]? = some x → x.1 + x.2 ≤ size))
          case atStart => exact ⟨0, rfl, rfl, Nat.zero_le _, Mine.Mod.refl _ _, Lib.hid (fun j x hj => absurd hj (by omega))⟩
          case round =>
            obtain ⟨k, rfl, rfl, hk, mx, hst⟩ := hrel
            have MX := Lib.hid (M2.out.trans mx)
            have kx := K2.out.mod mx (fun e => e)
            have c6 : wr.cell? ⟨K, 6, none⟩ = some (.slice o.sa o.slen o.scap) := by rw [kx.cell]; rfl
            by_cases hlk : k < o.slen
            · obtain ⟨⟨f, n⟩, hx⟩ : ∃ x, l[k]? = some x := ⟨l[k]'(by rw [HN.out]; exact hlk), by simp⟩
              obtain ⟨b, off, hsa, e0, e1⟩ := (H2.out.sp.grown mx).cells k _ hx
              obtain ⟨f1, f2, f3, f4⟩ := spansFrom_ok l _ H8.out _ (List.mem_of_getElem? hx)
              dsimp only at e0 e1 f1 f2 f3 f4
              have hw : IntKind.i64.wrap (f + n) = f + n := by rw [IntKind.wrap_i64]; omega
              have MX0 := Lib.hid mx
              rw [hsa] at c6
              have HX := Lib.hid hx
              clear hsa kx mx hx
              by_cases hgt : size < f + n
              · have HE := Lib.hid (show R = false by
                  rw [HR4.out, List.all_eq_false]
                  exact ⟨_, List.mem_of_getElem? HX.out, by simp; omega⟩)
                have dg : decide (size < f + n) = true := by simpa using hgt
                go_upto_region 10 with fail
                go_quiet (fail)
                have MQ := Lib.hid (MX.out.drewN nq)
                generalize wr.drewN nq = wq at MQ ⊢
                clear c6 e0 e1
                go_wp2_with fail
                go_ret
                exact ⟨by rw [HE.out]; rfl, MQ.out⟩
              · have HST := Lib.hid (show ∀ (j : Nat) (x : Int × Int), j < k + 1 → l[j]? = some x → x.1 + x.2 ≤ size from fun j x hj hx2 => by
                  by_cases hjk : j = k
                  · subst hjk
                    rw [HX.out] at hx2
                    obtain rfl := Option.some.inj hx2
                    show f + n ≤ size
                    omega
                  · exact hst.out j x (by omega) hx2)
                have dg : decide (size < f + n) = false := by simpa using hgt
                clear hst
                go_upto_region 10 with fail
                go_quiet (fail)
                have MQ := Lib.hid (MX0.out.drewN nq)
                generalize wr.drewN nq = wq at MQ ⊢
                clear c6 e0 e1
                go_wp2_with fail
                go_roundg (o.slen - (k + 1))
                all_goals first
                  | omega
                  | exact ⟨k + 1, rfl, by go_num, by omega, MQ.out, HST⟩
            · obtain hkl : k = o.slen := by omega
              have HE := Lib.hid (show R = true by
                rw [HR4.out, List.all_eq_true]
                intro x hx
                obtain ⟨j, hj, rfl⟩ := List.getElem_of_mem hx
                rw [decide_eq_true_eq]
                have hn := HN.out
                exact hst.out j _ (by omega) (List.getElem?_eq_getElem hj))
              subst hkl
              clear hst mx kx
              go_wp2_with fail
              go_ret
              exact ⟨by rw [HE.out]; rfl, MX.out⟩
    · have b6 : (o.at_ == 0) = false := by simpa using h6
      have HE := Lib.hid (show R = false by rw [HR3.out]; simp [delOk, h6])
      go_wp2_with fail
      go_ret
      exact ⟨by rw [HE.out]; rfl, M1.out⟩
  · have b2 : (o.kind == 2) = false := by simpa using hk2
    have HE := Lib.hid (show R = false by rw [HR2.out, if_neg hk1, if_neg hk2])
    go_wp2_with fail
    go_ret
    exact ⟨by rw [HE.out]; rfl, M1.out⟩
end Go.Proofs.YthicagfeaekmoaaGreatDoor

namespace Go.Proofs.YthicagfeaekmoaaGreatDoor
open Go.RowKit Go.Mine
open Classical

theorem nodup_snoc {α : Type} {l : List α} {x : α} (h : l.Nodup) (hx : ∀ y ∈ l, y ≠ x) : (l ++ [x]).Nodup := by
  rw [List.nodup_append]
  exact ⟨h, by simp, fun a ha b hb => by rw [List.mem_singleton.1 hb]; exact hx a ha⟩
theorem ids_take {l : List CellV} {k : Nat} {y : CellV} (hy : l[k]? = some y) : (l.take (k + 1)).map CellV.id = (l.take k).map CellV.id ++ [y.id] := by
  obtain ⟨hk', e⟩ := List.getElem?_eq_some_iff.1 hy
  rw [List.take_succ_eq_append_getElem hk', e, List.map_append]; rfl

set_option maxHeartbeats 8000000 in
set_option maxRecDepth 1000000 in
theorem rmayDoc_any (w : World) (a : Option Addr) (len cap : Nat) (l : List CellV) (h : IsCells w a len cap l) (hl : len ≤ 1099511627776) :
    Calls Tryz.prog 38 #[.slice a len cap] w fun e w' => e = .returned (.int .i64 (newE l)) ∧ Mine.Mod none_ w w' := by
  have hle := h.le
  have hcap := h.big
  unfold maxLen at hcap
  have H := Lib.hid h
  have HN := Lib.hid h.n
  obtain ⟨R, hR⟩ : ∃ R, R = newE l := ⟨_, rfl⟩
  rw [← hR]
  have HR := Lib.hid hR
  clear h hR
  go_enter Tryz.func38, Tryz.ntmps38
  go_wp2_with fail
  go_loopg [3] len (fun g s3 wx => ∃ k : Nat, g = len - k ∧ s3 = .int .i64 k ∧ k ≤ len ∧ Mine.Mod none_ w wx ∧ RowKit.Hid (∀ c ∈ l.take k, cellOk c = true))
  case atStart => exact ⟨0, rfl, rfl, Nat.zero_le _, Mine.Mod.refl _ _, Lib.hid (fun c hc => by simp at hc)⟩
  case round =>
    obtain ⟨k, rfl, rfl, hk, mx, hst⟩ := hrel
    have MX := Lib.hid mx
    by_cases hlk : k < len
    · obtain ⟨x, hx⟩ : ∃ x, l[k]? = some x := ⟨l[k]'(by rw [HN.out]; exact hlk), by simp⟩
      have HX := Lib.hid hx
      have HBAD := Lib.hid (show cellOk x = false → R = 1 from fun hb => by
        rw [HR.out]; unfold newE
        rw [if_neg]
        intro ha
        have := List.all_eq_true.1 ha x (List.mem_of_getElem? HX.out)
        rw [hb] at this; cases this)
      have HST := Lib.hid (show cellOk x = true → ∀ c ∈ l.take (k + 1), cellOk c = true from fun hb c hc => by
        obtain ⟨hk', e⟩ := List.getElem?_eq_some_iff.1 HX.out
        rw [List.take_succ_eq_append_getElem hk', e] at hc
        rcases List.mem_append.1 hc with hc | hc
        · exact hst.out c hc
        · rw [List.mem_singleton.1 hc]; exact hb)
      obtain ⟨b, off, rfl, hr⟩ := (H.out.grown mx).cells k x hx
      have c0 := hr 0 _ rfl
      have c1 := hr 1 _ rfl
      have c2 := hr 2 _ rfl
      have c3 := hr 3 _ rfl
      rw [Nat.add_zero] at c0
      clear mx hx hst
      cases h1 : nameOk x.site x.seq
      · have HE := Lib.hid (HBAD.out (by unfold cellOk; rw [h1]; rfl))
        clear HST hr
        go_wp2_with fail
        refine (rname_any x.site x.seq _).mono ?_
        rintro e w1 ⟨rfl, m1⟩
        rw [h1]
        have M1 := Lib.hid (MX.out.trans m1)
        clear m1 c0 c1 c2 c3
        go_wp2_with fail
        go_ret
        exact ⟨by rw [HE.out]; rfl, M1.out⟩
      · go_wp2_with fail
        refine (rname_any x.site x.seq _).mono ?_
        rintro e w1 ⟨rfl, m1⟩
        rw [h1]
        have d2 := m1.cell (fun e => e) c2
        have d3 := m1.cell (fun e => e) c3
        have M1 := Lib.hid (MX.out.trans m1)
        clear m1 c0 c1 c2 c3 hr
        by_cases h2 : x.off < 0
        · have HE := Lib.hid (HBAD.out (by unfold cellOk; simp; omega))
          have e2 : decide (x.off < 0) = true := by simpa using h2
          clear HST
          go_wp2_with fail
          go_ret
          exact ⟨by rw [HE.out]; rfl, M1.out⟩
        have e2 : decide (x.off < 0) = false := by simpa using h2
        by_cases h3 : 199 < x.off
        · have HE := Lib.hid (HBAD.out (by unfold cellOk; simp; omega))
          have e3 : decide (199 < x.off) = true := by simpa using h3
          clear HST
          go_wp2_with fail
          go_ret
          exact ⟨by rw [HE.out]; rfl, M1.out⟩
        have e3 : decide (199 < x.off) = false := by simpa using h3
        cases h4 : Lib.validRune x.r
        · have HE := Lib.hid (HBAD.out (by unfold cellOk; rw [h4, Bool.and_false]))
          clear HST
          go_wp2_with fail
          refine (ris_any x.r _).mono ?_
          rintro e w2 ⟨rfl, rfl⟩
          rw [h4]
          go_wp2_with fail
          go_ret
          exact ⟨by rw [HE.out]; rfl, M1.out⟩
        · have HT := Lib.hid (HST.out (by unfold cellOk; rw [h1, h4]; simp; omega))
          clear HST HBAD
          go_wp2_with fail
          refine (ris_any x.r _).mono ?_
          rintro e w2 ⟨rfl, rfl⟩
          rw [h4]
          go_wp2_with fail
          go_roundg (len - (k + 1))
          all_goals first
            | omega
            | exact ⟨k + 1, rfl, by go_num, by omega, M1.out, HT⟩
    · obtain rfl : k = len := by omega
      have HALL := Lib.hid (show l.all cellOk = true by
        rw [List.all_eq_true]
        intro c hc
        exact hst.out c (by rw [List.take_of_length_le (by rw [HN.out]; exact Nat.le_refl _)]; exact hc))
      clear mx hst
      obtain ⟨w0, rfl⟩ : ∃ w0, w0 = wr := ⟨_, rfl⟩
      go_wp2_with fail
      go_loopg [4] k (fun g s4 wx => ∃ n : Nat, g = k - n ∧ s4 = .int .i64 n ∧ n ≤ k ∧ Mine.Mod none_ w wx ∧ RowKit.Hid (((l.take n).map CellV.id).Nodup))
      case atStart => exact ⟨0, rfl, rfl, Nat.zero_le _, MX.out, Lib.hid (by simp)⟩
      case round =>
        obtain ⟨n, rfl, rfl, hn, my, hnd⟩ := hrel
        obtain ⟨wy, rfl⟩ : ∃ wy, wy = wr := ⟨_, rfl⟩
        have MY := Lib.hid my
        by_cases hln : n < k
        · obtain ⟨y, hy⟩ : ∃ y, l[n]? = some y := ⟨l[n]'(by rw [HN.out]; exact hln), by simp⟩
          have HY := Lib.hid hy
          clear my hy
          go_wp2_with fail
          go_loopg [5] n (fun g s5 wx => ∃ j : Nat, g = n - j ∧ s5 = .int .i64 j ∧ j ≤ n ∧ Mine.Mod none_ w wx ∧ RowKit.Hid (∀ (i : Nat) (x : CellV), i < j → l[i]? = some x → x.id ≠ y.id))
          case atStart => exact ⟨0, rfl, rfl, Nat.zero_le _, MY.out, Lib.hid (fun i x hi => absurd hi (by omega))⟩
          case round =>
            obtain ⟨j, rfl, rfl, hj, mz, hne⟩ := hrel
            have MZ := Lib.hid mz
            by_cases hlj : j < n
            · obtain ⟨x, hx⟩ : ∃ x, l[j]? = some x := ⟨l[j]'(by rw [HN.out]; omega), by simp⟩
              have HX := Lib.hid hx
              obtain ⟨b, off, rfl, hr⟩ := (H.out.grown mz).cells n y HY.out
              have d0 := hr 0 _ rfl
              have d1 := hr 1 _ rfl
              have d2 := hr 2 _ rfl
              rw [Nat.add_zero] at d0
              obtain ⟨b2, off2, hbe, hr2⟩ := (H.out.grown mz).cells j x hx
              obtain ⟨rfl, rfl⟩ : b = b2 ∧ off = off2 := by simpa using hbe
              have c0 := hr2 0 _ rfl
              have c1 := hr2 1 _ rfl
              have c2 := hr2 2 _ rfl
              rw [Nat.add_zero] at c0
              have HNE := Lib.hid (show x.id ≠ y.id → ∀ (i : Nat) (z : CellV), i < j + 1 → l[i]? = some z → z.id ≠ y.id from fun hxy i z hi hz => by
                by_cases hij : i = j
                · subst hij
                  rw [HX.out] at hz
                  obtain rfl := Option.some.inj hz
                  exact hxy
                · exact hne.out i z (by omega) hz)
              clear hr hr2 hbe mz hx hne
              by_cases e1 : x.site = y.site
              · by_cases e2 : x.seq = y.seq
                · by_cases e3 : x.off = y.off
                  · have HE := Lib.hid (show R = 15 by
                      rw [HR.out]; unfold newE
                      rw [if_pos HALL.out, if_neg]
                      intro hnd2
                      have hid : x.id = y.id := by unfold CellV.id; rw [e1, e2, e3]
                      have hj1 := List.getElem?_eq_some_iff.1 HX.out
                      have hj2 := List.getElem?_eq_some_iff.1 HY.out
                      obtain ⟨p1, q1⟩ := hj1
                      obtain ⟨p2, q2⟩ := hj2
                      refine List.pairwise_iff_getElem.1 hnd2 j n (by rw [List.length_map]; exact p1) (by rw [List.length_map]; exact p2) hlj ?_
                      rw [List.getElem_map, List.getElem_map, q1, q2, hid])
                    rw [e1] at c0
                    rw [e2] at c1
                    rw [e3] at c2
                    clear e1 e2 e3 HNE
                    go_upto_region 12 with fail
                    go_quiet (fail)
                    have MQ := Lib.hid (MZ.out.drewN nq)
                    generalize wr.drewN nq = wq at MQ ⊢
                    clear c0 c1 c2 d0 d1 d2
                    go_wp2_with fail
                    go_ret
                    exact ⟨by rw [HE.out]; rfl, MQ.out⟩
                  · have b3 : (x.off == y.off) = false := by simpa using e3
                    rw [e1] at c0
                    rw [e2] at c1
                    have HT := Lib.hid (HNE.out (by unfold CellV.id; simp [e3]))
                    clear HNE e1 e2
                    go_upto_region 12 with fail
                    go_quiet (fail)
                    have MQ := Lib.hid (MZ.out.drewN nq)
                    generalize wr.drewN nq = wq at MQ ⊢
                    clear c0 c1 c2 d0 d1 d2
                    go_wp2_with fail
                    go_roundg (n - (j + 1))
                    all_goals first
                      | omega
                      | exact ⟨j + 1, rfl, by go_num, by omega, MQ.out, HT⟩
                · have b2 : (x.seq == y.seq) = false := by simpa using e2
                  rw [e1] at c0
                  have HT := Lib.hid (HNE.out (by unfold CellV.id; simp [e2]))
                  clear HNE e1
                  go_upto_region 12 with fail
                  go_quiet (fail)
                  have MQ := Lib.hid (MZ.out.drewN nq)
                  generalize wr.drewN nq = wq at MQ ⊢
                  clear c0 c1 c2 d0 d1 d2
                  go_wp2_with fail
                  go_roundg (n - (j + 1))
                  all_goals first
                    | omega
                    | exact ⟨j + 1, rfl, by go_num, by omega, MQ.out, HT⟩
              · have b1 : (x.site == y.site) = false := by simpa using e1
                have HT := Lib.hid (HNE.out (by unfold CellV.id; simp [e1]))
                clear HNE
                go_upto_region 12 with fail
                go_quiet (fail)
                have MQ := Lib.hid (MZ.out.drewN nq)
                generalize wr.drewN nq = wq at MQ ⊢
                clear c0 c1 c2 d0 d1 d2
                go_wp2_with fail
                go_roundg (n - (j + 1))
                all_goals first
                  | omega
                  | exact ⟨j + 1, rfl, by go_num, by omega, MQ.out, HT⟩
            · obtain rfl : j = n := by omega
              have HND := Lib.hid (show ((l.take (j + 1)).map CellV.id).Nodup by
                rw [ids_take HY.out]
                refine nodup_snoc hnd.out (fun z hz => ?_)
                obtain ⟨c, hc, rfl⟩ := List.mem_map.1 hz
                obtain ⟨i, hi, rfl⟩ := List.getElem_of_mem hc
                rw [List.length_take] at hi
                rw [List.getElem_take]
                exact hne.out i _ (by omega) (List.getElem?_eq_getElem (by omega)))
              clear mz hne hnd
              go_wp2_with fail
              go_roundg (k - (j + 1))
              all_goals first
                | omega
                | exact ⟨j + 1, rfl, by go_num, by omega, MZ.out, HND⟩
        · obtain rfl : n = k := by omega
          have HND := Lib.hid (show (l.map CellV.id).Nodup by
            have := hnd.out
            rw [List.take_of_length_le (by rw [HN.out]; exact Nat.le_refl _)] at this
            exact this)
          clear my hnd
          by_cases hbig : 20000 < (n : Int)
          · have HE := Lib.hid (show R = 4 by
              rw [HR.out]; unfold newE
              rw [if_pos HALL.out, if_pos HND.out, if_neg]
              rw [HN.out]; omega)
            have eb : decide (20000 < (n : Int)) = true := by simpa using hbig
            go_wp2_with fail
            go_ret
            exact ⟨by rw [HE.out]; rfl, MY.out⟩
          · have HE := Lib.hid (show R = 0 by
              rw [HR.out]; unfold newE
              rw [if_pos HALL.out, if_pos HND.out, if_pos]
              rw [HN.out]; omega)
            have eb : decide (20000 < (n : Int)) = false := by simpa using hbig
            go_wp2_with fail
            go_ret
            exact ⟨by rw [HE.out]; rfl, MY.out⟩
end Go.Proofs.YthicagfeaekmoaaGreatDoor

namespace Go.Proofs.YthicagfeaekmoaaGreatDoor
open Go.RowKit Go.Shelf Go.Mine Go.Deep
open Classical

theorem src_zero {P : Program} {size : Nat} {tx e' : TypeId} (w : World) (hk : P.underlying tx = some (.slice e')) (a : Option Addr) (c : Nat) : Src P size tx (.slice a 0 c) 0 [] w := by
  cases a with
  | none => exact Src.ofNil w hk c
  | some a => exact Src.ofSlice w hk a 0 c [] (by simp) (fun j u h => by simp at h) (fun u h => by cases h)
theorem step_append_runI {P : Program} {ops : Array Oper} {o : Oper} {a : Act} {w w' : World} {K : Act → World → Prop} {Q : Exit → Act → World → Prop} {E : Prop} (hgd : o.guard = none) (s x : Operand) (t : TypeId)
    (hop : o.op = Op.call { callee := Callee.builtin Builtin.append, args := #[s, x], argTypes := #[t, t] }) (v u v' : Value) (hs : a.eval s = v) (hx : a.eval x = u)
    (hrun : (Builtin.append_ #[t, t] o.type #[v, u]).run P w = .ok v' w') (hK : K (a.put o.dst v') w') :
    if Region.wanted o (yielded ops a.tmps) = true then Oper.wp P o a w K Q else E := by
  have hw : Region.wanted o (yielded ops a.tmps) = true := by simp [Region.wanted, hgd]
  rw [if_pos hw]
  unfold Oper.wp
  simp [execOp, hop, resolve, invoke, builtin, hs, hx, hrun, Result.andThen]
  exact hK
/-- Cells behind others: append. -/
theorem app_cells {W : World} {B n vc len cap : Nat} {va a : Option Addr} {xs l : List CellV} (ho : W.ownsRow B 47 5 (.slice va n vc) n (flat CellV.cs xs)) (h : IsCells W a len cap l) (hb : n + len ≤ 1099511627776) (hB : B ≤ W.heap.size) :
    ∃ va' vc' w', (Builtin.append_ #[22, 22] 22 #[.slice va n vc, .slice a len cap]).run Tryz.prog W = .ok (.slice va' (n + len) vc') w' ∧
      w'.ownsRow B 47 5 (.slice va' (n + len) vc') (n + len) (flat CellV.cs (xs ++ l)) ∧ Mine.Mod (fun k => (Value.slice va n vc).ownBlock = some k) W w' := by
  obtain ⟨i0, hi0, hz0, hz1, hz2⟩ := info_parts infoCell
  by_cases hl0 : len = 0
  · subst hl0
    have hl : l = [] := List.eq_nil_of_length_eq_zero h.n
    subst hl
    have hle : n ≤ vc := by
      rcases ownsRow_blk ho with ⟨h1, h2, _⟩ | ⟨g, cap, more, h1, _, _, h2, _⟩
      · omega
      · cases h1; exact h2
    refine ⟨va, vc, W, ?_, by simpa using ho, Mine.Mod.refl _ _⟩
    have hs := src_zero (P := Tryz.prog) (size := i0.size) W Tryz.underlying22 a cap
    have := run_append_nothing (P := Tryz.prog) W 22 22 22 47 i0 Tryz.underlying22 hi0 va n vc hle _ hs
    simpa using this
  · obtain ⟨c, hc⟩ : ∃ x, l[0]? = some x := ⟨l[0]'(by rw [h.n]; omega), by simp⟩
    obtain ⟨b, off, rfl, _⟩ := h.cells 0 c hc
    have hr := h.row
    obtain ⟨v', w', hrun, hown, hgrow, _⟩ := run_append_own (P := Tryz.prog) W B 22 22 47 i0 _ 5 32 Tryz.underlying22 hi0 hz0 hz1 hz2 rfl (by decide) (.slice va n vc) n _ ho ⟨b, off, none⟩ len cap (flat CellV.cs l) (by rw [flat_length CellV.len, h.n]) (fun j u hj => by rw [Addr.add_lit]; exact hr j u hj) (flat_ones l) (by unfold maxLen; omega) (by omega) hB
    obtain ⟨va', vc', rfl⟩ : ∃ va' vc', v' = .slice va' (n + len) vc' := by
      rcases ownsRow_blk hown with ⟨_, h0, _⟩ | ⟨g', c', _, rfl, _⟩
      · omega
      · exact ⟨_, c', rfl⟩
    refine ⟨va', vc', w', hrun, ?_, (Mine.Mod.refl _ _).grown hgrow (fun k e _ => e)⟩
    rw [flat_append]; exact hown
theorem own_cells {w : World} {B n vc : Nat} {va : Option Addr} {xs : List CellV} (h : w.ownsRow B 47 5 (.slice va n vc) n (flat CellV.cs xs)) (ok : ∀ c ∈ xs, c.ok) : IsCells w va n vc xs := by
  have hl := h.1
  rw [flat_length CellV.len] at hl
  rcases ownsRow_blk h with ⟨h1, h2, h3⟩ | ⟨g, cap, more, h1, _, hb, hc, hm, _⟩
  · cases h1
    have : xs = [] := List.eq_nil_of_length_eq_zero (by omega)
    subst this
    exact ⟨rfl, Nat.le_refl _, Nat.zero_le _, ok, fun i x hx => by simp at hx⟩
  · cases h1
    refine ⟨by omega, hc, hm, ok, fun i x hx => ⟨g, 0, rfl, ?_⟩⟩
    intro j v hj
    rw [Nat.zero_add]
    have hj5 : j < 5 := by have := (List.getElem?_eq_some_iff.1 hj).1; exact this
    rw [Blk.elem CellV.len hb i j x hx hj5]
    exact hj
theorem IsCells.take {w : World} {a : Option Addr} {len cap : Nat} {l : List CellV} (h : IsCells w a len cap l) (k : Nat) (hk : k ≤ len) : IsCells w a k cap (l.take k) :=
  ⟨by rw [List.length_take, h.n]; omega, Nat.le_trans hk h.le, h.big, fun c hc => h.ok c (List.mem_of_mem_take hc), fun i c hc => h.cells i c (by
    rw [List.getElem?_take] at hc
    split at hc
    · exact hc
    · cases hc)⟩

theorem IsCells.drop {w : World} {b off len cap : Nat} {l : List CellV} (h : IsCells w (some ⟨b, off, none⟩) len cap l) (k : Nat) (hk : k ≤ len) : IsCells w (some ⟨b, off + k * 5, none⟩) (len - k) (cap - k) (l.drop k) :=
  ⟨by rw [List.length_drop, h.n], Nat.sub_le_sub_right h.le _, Nat.le_trans (Nat.sub_le _ _) h.big, fun c hc => h.ok c (List.mem_of_mem_drop hc), fun i c hc => by
    rw [List.getElem?_drop] at hc
    obtain ⟨b2, off2, e, hr⟩ := h.cells (k + i) c hc
    cases e
    refine ⟨b, off + k * 5, rfl, ?_⟩
    rw [show off + k * 5 + i * 5 = off + (k + i) * 5 by omega]
    exact hr⟩
theorem IsCells.one {W : World} {X : Nat} {c : CellV} (k : Blk W X c.cs 47) (hc : c.ok) : IsCells W (some ⟨X, 0, none⟩) 1 1 [c] :=
  ⟨rfl, Nat.le_refl _, by unfold maxLen; omega, fun x hx => by rw [List.mem_singleton.1 hx]; exact hc, fun i x hx => by
    obtain ⟨hi, e⟩ := List.getElem?_eq_some_iff.1 hx
    have hi0 : i = 0 := by simpa using hi
    subst hi0
    refine ⟨X, 0, rfl, fun j v hj => ?_⟩
    have e2 : c = x := by simpa using e
    subst e2
    have e3 : 0 + 0 * 5 + j = j := by omega
    rw [e3, k.cell]
    exact hj⟩
theorem take_snoc {α : Type} {l : List α} {k : Nat} {x : α} (h : l[k]? = some x) : l.take (k + 1) = l.take k ++ [x] := by
  obtain ⟨hk, e⟩ := List.getElem?_eq_some_iff.1 h
  rw [List.take_succ_eq_append_getElem hk, e]

/-- What the document's Run leaves. -/
noncomputable def runL9 (o : OpV) (sp : List (Int × Int)) (l : List CellV) : List CellV := if o.kind = 2 then markS sp 0 l else l.take o.at_.toNat ++ freshC o (runesD o.text) ++ l.drop o.at_.toNat
def Run9To (w : World) (o : OpV) (sp : List (Int × Int)) (l : List CellV) (e : Ending) (w' : World) : Prop :=
  (∃ va n vc, e = .returned (.slice va n vc) ∧ w'.ownsRow w.heap.size 47 5 (.slice va n vc) n (flat CellV.cs (runL9 o sp l)) ∧ ∀ c ∈ runL9 o sp l, c.ok) ∧ Mine.Mod none_ w w'

set_option maxHeartbeats 8000000 in
set_option maxRecDepth 1000000 in
theorem rrun9_any (w : World) (a : Option Addr) (len cap : Nat) (l : List CellV) (h : IsCells w a len cap l) (o : OpV) (sp : List (Int × Int)) (ho : o.ok w sp) (hm : opMay o sp len = true) (hlen : len ≤ 20000) (htx : o.text.size ≤ 1099511627776) :
    Calls Tryz.prog 77 #[.slice a len cap, o.v] w (Run9To w o sp l) := by
  have hle := h.le
  have hcap := h.big
  unfold maxLen at hcap
  obtain ⟨W0, hW0⟩ : ∃ W0, w.alloc (.cells o.cs.toArray 31) = W0 := ⟨_, rfl⟩
  obtain ⟨m0, kB⟩ := opBox1 hW0
  obtain ⟨K, hK⟩ : ∃ K, w.heap.size = K := ⟨_, rfl⟩
  rw [hK] at kB
  have HA := Lib.hid h
  have HO0 := Lib.hid ho
  have H := Lib.hid (h.grown m0)
  have H0 := Lib.hid (ho.grown m0)
  have M0 := Lib.hid m0
  have K0 := Lib.hid kB
  have HN := Lib.hid h.n
  have c3 : W0.cell? ⟨K, 3, none⟩ = some (.int .i64 o.kind) := by rw [kB.cell]; rfl
  have c4 : W0.cell? ⟨K, 4, none⟩ = some (.int .i64 o.at_) := by rw [kB.cell]; rfl
  have hKw : w.heap.size ≤ K := by omega
  clear h ho m0 kB
  by_cases hk : o.kind = 2
  · have hdel : spansOk sp = true ∧ (sp.all fun x => decide (x.1 + x.2 ≤ (len : Int))) = true := by
      unfold opMay at hm
      rw [if_neg (by omega), if_pos hk] at hm
      simp only [Bool.and_eq_true] at hm
      have h2 := hm.2
      unfold delOk at h2
      simp only [Bool.and_eq_true] at h2
      exact ⟨h2.1.2, by rw [← lastLe_all h2.1.2]; exact h2.2⟩
    have hkb : (o.kind == 1) = false := by rw [hk]; rfl
    have HD := Lib.hid hdel
    have HEQ := Lib.hid (show runL9 o sp l = markP (hasPl sp) l by
      unfold runL9
      rw [if_pos hk]
      unfold markS
      simp only [Nat.zero_add])
    have HSN := Lib.hid HO0.out.sp.n
    obtain ⟨va1, vc1, w1, hrun1, hown1, hmod1⟩ := app_cells (W := W0) (B := K) (va := none) (n := 0) (vc := 0) (xs := []) ⟨rfl, .inl ⟨rfl, rfl⟩⟩ H.out (by omega) (by rw [← hK]; exact M0.out.size)
    rw [Nat.zero_add] at hrun1 hown1
    have HRUN1 := Lib.hid hrun1
    have M1 := Lib.hid (M0.out.trans (hmod1.mono (fun k _ e => by cases e)))
    have K1 := Lib.hid (K0.out.mod hmod1 (fun e => by cases e))
    have O1 := Lib.hid (show w1.ownsRow K 47 5 (.slice va1 len vc1) len (flat CellV.cs (markP (hasPl (sp.take 0)) l)) by
      have e : markP (hasPl (sp.take 0)) l = l := markP_none (fun i _ => by simp [hasPl])
      rw [e]
      simpa using hown1)
    have hle5 := HO0.out.sp.le
    have hbig5 := HO0.out.sp.big
    unfold maxLen at hbig5
    clear hrun1 hk hm hown1 hmod1 c4 hdel
    go_enter Tryz.func77, Tryz.ntmps77
    go_upto_region 2 with fail
    clear hW0 hK
    go_wp2_with (at_builtin; refine Lib.wpList_append_run _ rfl (.tmp 49) (.tmp 50) 22 22 rfl _ _ rfl rfl _ _ HRUN1.out ?_)
    clear HRUN1 M0 K0 H H0 c3
    go_loopg [9] o.slen (fun g s9 wx => ∃ (i : Nat), g = o.slen - i ∧ s9 = .int .i64 i ∧ i ≤ o.slen ∧ Mine.Mod none_ w wx ∧ RowKit.Hid (Blk wx K o.cs 31 ∧ wx.ownsRow K 47 5 (.slice va1 len vc1) len (flat CellV.cs (markP (hasPl (sp.take i)) l))))
    case atStart => exact ⟨0, rfl, rfl, Nat.zero_le _, M1.out, Lib.hid ⟨K1.out, O1.out⟩⟩
    case round =>
      obtain ⟨i, rfl, rfl, hi, mx, hst⟩ := hrel
      obtain ⟨wx, rfl⟩ : ∃ wx, wx = wr := ⟨_, rfl⟩
      have MX := Lib.hid mx
      have c6 : wx.cell? ⟨K, 6, none⟩ = some (.slice o.sa o.slen o.scap) := by rw [hst.out.1.cell]; rfl
      by_cases hli : i < o.slen
      · obtain ⟨⟨f, n⟩, hx⟩ : ∃ x, sp[i]? = some x := ⟨sp[i]'(by rw [HSN.out]; exact hli), by simp⟩
        obtain ⟨sb, so, hsa, _, _⟩ := HO0.out.sp.cells i _ hx
        obtain ⟨f1, f2, f3, f4⟩ := spansFrom_ok sp _ HD.out.1 _ (List.mem_of_getElem? hx)
        have f5 := List.all_eq_true.1 HD.out.2 _ (List.mem_of_getElem? hx)
        simp only [decide_eq_true_eq] at f5
        dsimp only at f1 f2 f3 f4
        obtain ⟨F, rfl⟩ : ∃ F : Nat, f = F := ⟨f.toNat, by omega⟩
        obtain ⟨N, rfl⟩ : ∃ N : Nat, n = N := ⟨n.toNat, by omega⟩
        have hFN : F + N ≤ len := by omega
        have hN1 : 1 ≤ N := by omega
        obtain ⟨G, hvc, hG⟩ : ∃ G, va1 = some ⟨G, 0, none⟩ ∧ K ≤ G := by
          rcases ownsRow_blk hst.out.2 with ⟨_, h0, _⟩ | ⟨g, cap2, more, h1, hg, _⟩
          · omega
          · cases h1; exact ⟨g, rfl, hg⟩
        have HX := Lib.hid hx
        have HSA := Lib.hid hsa
        subst hvc
        rw [hsa] at c6
        clear f1 f2 f3 f4 f5 hx hsa
        go_wp2_with fail
        go_loopg [10] N (fun g s10 wy => ∃ (j : Nat), g = N - j ∧ s10 = .int .i64 j ∧ j ≤ N ∧ Mine.Mod none_ w wy ∧ RowKit.Hid (Blk wy K o.cs 31 ∧ wy.ownsRow K 47 5 (.slice (some ⟨G, 0, none⟩) len vc1) len (flat CellV.cs (markP (fun p => hasPl (sp.take i) p || decide (F ≤ p ∧ p < F + j)) l))))
        case atStart => exact ⟨0, rfl, rfl, Nat.zero_le _, MX.out, by
          have e : (fun p => hasPl (sp.take i) p || decide (F ≤ p ∧ p < F + 0)) = hasPl (sp.take i) := by
            funext p
            have : decide (F ≤ p ∧ p < F + 0) = false := decide_eq_false (by omega)
            rw [this, Bool.or_false]
          rw [e]
          exact hst⟩
        case round =>
          obtain ⟨j, rfl, rfl, hj, my, hst2⟩ := hrel
          have MY := Lib.hid my
          obtain ⟨b2, o2, hsa2, e0, e1⟩ := (HO0.out.sp.grown my).cells i _ HX.out
          rw [HSA.out] at hsa2
          obtain ⟨rfl, rfl⟩ : sb = b2 ∧ so = o2 := by simpa using hsa2
          dsimp only at e0 e1
          have c7 : wr.cell? ⟨K, 6, none⟩ = some (.slice o.sa o.slen o.scap) := by rw [hst2.out.1.cell]; rfl
          rw [HSA.out] at c7
          by_cases hlj : j < N
          · obtain ⟨c, hc⟩ : ∃ c, l[F + j]? = some c := ⟨l[F + j]'(by rw [HN.out]; omega), by simp⟩
            obtain ⟨kx, ox⟩ := hst2.out
            rcases ownsRow_blk ox with ⟨_, h0, _⟩ | ⟨g, cap2, more, h1, hg, hb, hcap2, hcm, hll⟩
            · omega
            obtain ⟨rfl, rfl⟩ : G = g ∧ vc1 = cap2 := by simpa using h1
            have hmg : (markP (fun p => hasPl (sp.take i) p || decide (F ≤ p ∧ p < F + j)) l)[F + j]? = some (if (hasPl (sp.take i) (F + j) || decide (F ≤ F + j ∧ F + j < F + j)) then goneC c else c) := by rw [markP_get, hc]; rfl
            have d4 : wr.cell? ⟨G, (F + j) * 5 + 4, none⟩ = (CellV.cs (if (hasPl (sp.take i) (F + j) || decide (F ≤ F + j ∧ F + j < F + j)) then goneC c else c))[4]? := Blk.elem CellV.len hb (F + j) 4 _ hmg (by decide)
            have d4' : wr.cell? ⟨G, (F + j) * 5 + 4, none⟩ = some (.bool (if (hasPl (sp.take i) (F + j) || decide (F ≤ F + j ∧ F + j < F + j)) then goneC c else c).gone) := d4
            have fz := hb.frozen ((F + j) * 5 + 4)
            have kb := hb.set ((F + j) * 5 + 4) (.bool true)
            have hmk : (markP (fun p => hasPl (sp.take i) p || decide (F ≤ p ∧ p < F + j)) l).set (F + j) (goneC (if (hasPl (sp.take i) (F + j) || decide (F ≤ F + j ∧ F + j < F + j)) then goneC c else c)) = markP (fun p => hasPl (sp.take i) p || decide (F ≤ p ∧ p < F + (j + 1))) l := by
              have eg : ∀ b : Bool, goneC (if b then goneC c else c) = goneC c := fun b => by cases b <;> rfl
              have h2 := markP_set (fun p => hasPl (sp.take i) p || decide (F ≤ p ∧ p < F + j)) l (F + j) c hc
              rw [eg, ← h2]
              refine markP_congr (fun p _ => ?_)
              have e3 : decide (F ≤ p ∧ p < F + (j + 1)) = (decide (F ≤ p ∧ p < F + j) || decide (p = F + j)) := by
                rw [Bool.eq_iff_iff]
                simp only [decide_eq_true_eq, Bool.or_eq_true]
                omega
              rw [e3, Bool.or_assoc]
            rw [flat_gone _ _ _ hmg, hmk] at kb
            have mG : Mine.Mod (one G) wr (wr.setCell ⟨G, (F + j) * 5 + 4, none⟩ (.bool true)) := (Mine.Mod.refl (one G) wr).setCell ⟨G, (F + j) * 5 + 4, none⟩ (fun _ => rfl) _
            have hKG : ¬ K = G := fun e => by
              subst e
              have e2 := Option.some.inj (kx.symm.trans hb)
              injection e2 with _ h2 _
              exact absurd h2 (by decide)
            have FIN := Lib.hid (show Mine.Mod none_ w (wr.setCell ⟨G, (F + j) * 5 + 4, none⟩ (.bool true)) ∧ Blk (wr.setCell ⟨G, (F + j) * 5 + 4, none⟩ (.bool true)) K o.cs 31 ∧ (wr.setCell ⟨G, (F + j) * 5 + 4, none⟩ (.bool true)).ownsRow K 47 5 (.slice (some ⟨G, 0, none⟩) len vc1) len (flat CellV.cs (markP (fun p => hasPl (sp.take i) p || decide (F ≤ p ∧ p < F + (j + 1))) l)) from
              ⟨my.transIn mG (fun b hb e => by have e' : b = G := e; omega), kx.mod mG (fun e => hKG e), blk_ownsRow hG kb (by rw [flat_length CellV.len, markP_len, HN.out]) hcap2 hcm (by rw [flat_length CellV.len, markP_len]; rw [flat_length CellV.len, markP_len] at hll; exact hll)⟩)
            generalize (if (hasPl (sp.take i) (F + j) || decide (F ≤ F + j ∧ F + j < F + j)) then goneC c else c).gone = bv at d4'
            clear hst2 kx ox h1 hb hll hmg d4 kb hmk mG hKG my hc hsa2
            obtain ⟨p, hp⟩ : ∃ p, p = F + j := ⟨_, rfl⟩
            have hwi : (F : Int) + (j : Int) = (p : Int) := by omega
            have hpl : p < len := by omega
            rw [← hp] at d4' fz FIN
            clear hp
            go_wp2_with fail
            go_roundg (N - (j + 1))
            all_goals first
              | omega
              | exact ⟨j + 1, rfl, by go_num, by omega, FIN.out.1, Lib.hid FIN.out.2⟩
          · obtain rfl : j = N := by omega
            have HPL := Lib.hid (show (fun p => hasPl (sp.take i) p || decide (F ≤ p ∧ p < F + j)) = hasPl (sp.take (i + 1)) from by
              funext p
              rw [hasPl_take sp i F j HX.out])
            have hx2 := hst2.out
            rw [HPL.out] at hx2
            have HS := Lib.hid hx2
            clear hst2 my hx2 hsa2
            go_wp2_with fail
            go_roundg (o.slen - (i + 1))
            all_goals first
              | omega
              | exact ⟨i + 1, rfl, by go_num, by omega, MY.out, HS⟩
      · obtain hik : i = o.slen := by omega
        have htk : sp.take i = sp := List.take_of_length_le (by rw [HSN.out]; omega)
        have HF := Lib.hid (show Run9To w o sp l (.returned (.slice va1 len vc1)) wx from by
          have h2 := hst.out.2
          rw [htk] at h2
          refine ⟨⟨_, _, _, rfl, ?_, ?_⟩, MX.out⟩
          · rw [HEQ.out]; exact ownsRow_base h2 hKw
          · rw [HEQ.out]; exact markP_ok HA.out.ok)
        clear hst mx htk
        go_wp2_with fail
        go_ret
        exact HF.out
  · have hk1 : o.kind = 1 ∧ insOk o len = true := by
      unfold opMay at hm
      by_cases h1 : o.kind = 1
      · rw [if_pos h1] at hm
        simp only [Bool.and_eq_true] at hm
        exact ⟨h1, hm.2⟩
      · rw [if_neg h1, if_neg hk] at hm
        simp at hm
    have hin : (0 ≤ o.at_ ∧ o.at_ ≤ (len : Int)) ∧ textOk o.text = true := by
      have := hk1.2
      unfold insOk inB at this
      simp only [Bool.and_eq_true, decide_eq_true_eq] at this
      exact ⟨this.1.1.1, this.1.1.2⟩
    obtain ⟨at', hat⟩ : ∃ at' : Nat, o.at_ = at' := ⟨o.at_.toNat, by omega⟩
    have hkb : (o.kind == 1) = true := by simpa using hk1.1
    have hatl : at' ≤ len := by omega
    rw [hat] at c4
    have HIN := Lib.hid hin
    have HAT := Lib.hid hat
    have HATE := Lib.hid hat
    obtain ⟨va1, vc1, w1, hrun1, hown1, hmod1⟩ := app_cells (W := W0) (B := K) (va := none) (n := 0) (vc := 0) (xs := []) ⟨rfl, .inl ⟨rfl, rfl⟩⟩ (H.out.take at' hatl) (by omega) (by rw [← hK]; exact M0.out.size)
    have HRUN1 := Lib.hid hrun1
    have M1 := Lib.hid (M0.out.trans (hmod1.mono (fun k _ e => by cases e)))
    have K1 := Lib.hid (K0.out.mod hmod1 (fun e => by cases e))
    have H1 := Lib.hid (H.out.grown (hmod1.mono (fun k _ e => by cases e)))
    have O1 := Lib.hid hown1
    obtain ⟨rs, hr1, hr2, hr3, hr4, hr5, hr6, hr7, hr8, hr9⟩ := ins_runes hk1.2
    have HRS := Lib.hid hr1
    have HR9 := Lib.hid hr9
    have hrl : rs.length ≤ 200 := hr5
    have hrl1 : 1 ≤ rs.length := hr4
    have HEQ := Lib.hid (show runL9 o sp l = l.take at' ++ freshC o rs ++ l.drop at' by
      unfold runL9
      rw [if_neg hk, hr2, hat, Int.toNat_natCast])
    have HOI := Lib.hid (And.intro H0.out.i1 H0.out.i2)
    have HFL := Lib.hid (show (freshC o rs).length = rs.length by unfold freshC; rw [List.length_mapIdx])
    have c5 : w1.cell? ⟨K, 5, none⟩ = some (.string o.text) := by rw [K1.out.cell]; rfl
    clear hrun1 hk hk1 hm hin hat hown1 hmod1 hr1 hr2 hr3 hr4 hr5 hr6 hr7 hr8 hr9 HAT HIN
    go_enter Tryz.func77, Tryz.ntmps77
    go_upto_region 2 with fail
    clear hW0
    go_wp2_with (at_builtin; refine Lib.wpList_append_run _ rfl (.tmp 14) (.tmp 18) 22 22 rfl _ _ rfl rfl _ _ HRUN1.out ?_)
    refine (rsplit_any o.text w1 htx).mono ?_
    rintro e w2 ⟨m2, _, hsp⟩
    obtain ⟨rv, rfl, hro⟩ := hsp rs HRS.out
    obtain ⟨rg, rc, rfl⟩ : ∃ rg rc, rv = .slice (some ⟨rg, 0, none⟩) rs.length rc := by
      rcases ownsRow_blk hro with ⟨h1, h2, _⟩ | ⟨g, cap, more, h1, _⟩
      · omega
      · exact ⟨_, _, h1⟩
    have RO := Lib.hid hro
    have M2 := Lib.hid (M1.out.trans m2)
    have K2 := Lib.hid (K1.out.mod m2 (fun e => e))
    have H2 := Lib.hid (H1.out.grown m2)
    have O2 := Lib.hid (ownsRow_mod O1.out m2 (fun _ _ e => e))
    obtain ⟨B2, hB2⟩ : ∃ B2, B2 = w1.heap.size := ⟨_, rfl⟩
    rw [← hB2] at RO
    obtain ⟨L, hL⟩ : ∃ L, L = rs.length := ⟨_, rfl⟩
    have HL := Lib.hid hL
    rw [← hL] at RO hrl ⊢
    clear m2 hsp hro c3 c4 c5 hB2 hL hK M0 K0 H0 HRUN1 M1 K1 H1 O1 H
    go_wp2_with fail
    go_loopg [5, 8] L (fun g s5 s8 wx => ∃ (k : Nat) (va : Option Addr) (vc : Nat), g = L - k ∧ s5 = .slice va (at' + k) vc ∧ s8 = .int .i64 k ∧ k ≤ L ∧ Mine.Mod none_ w wx ∧ RowKit.Hid (Blk wx K o.cs 31 ∧ IsCells wx a len cap l ∧ wx.ownsRow B2 21 1 (.slice (some ⟨rg, 0, none⟩) L rc) L (runeCs rs) ∧ wx.ownsRow K 47 5 (.slice va (at' + k) vc) (at' + k) (flat CellV.cs (l.take at' ++ (freshC o rs).take k))))
    case atStart => exact ⟨0, va1, vc1, rfl, by simp, rfl, Nat.zero_le _, M2.out, Lib.hid ⟨K2.out, H2.out, RO.out, by simpa using O2.out⟩⟩
    case round =>
      obtain ⟨k, va, vc, rfl, rfl, rfl, hk, mx, hst⟩ := hrel
      have MX := Lib.hid mx
      obtain ⟨kx, hx, rx, ox⟩ := hst.out
      by_cases hlk : k < L
      · obtain ⟨r, hr⟩ : ∃ r, rs[k]? = some r := ⟨rs[k]'(by rw [← HL.out]; exact hlk), by simp⟩
        have rblk : wr.cell? ⟨rg, k, none⟩ = some (.int .i32 (r : Int)) := by
          rcases ownsRow_blk rx with ⟨h1, h2, _⟩ | ⟨g, cap2, more, h1, _, hb, _⟩
          · omega
          · cases h1
            rw [hb.cell, List.getElem?_append_left (by rw [List.length_map]; exact (List.getElem?_eq_some_iff.1 hr).1), List.getElem?_map, hr]
            rfl
        have hrb := HR9.out r (List.mem_of_getElem? hr)
        obtain ⟨c, hcdef⟩ : ∃ c : CellV, c = ⟨o.site, o.seq, (k : Int), (r : Int), false⟩ := ⟨_, rfl⟩
        have hcok : c.ok := by
          rw [hcdef]
          exact ⟨HOI.out.1, HOI.out.2, by simp only; omega, by simp only; omega⟩
        have hfr : (freshC o rs).take (k + 1) = (freshC o rs).take k ++ [c] := by
          refine take_snoc ?_
          unfold freshC
          rw [List.getElem?_mapIdx, hr, hcdef]
          rfl
        have mY : Mine.Mod none_ wr (wr.drew.alloc (.cells c.cs.toArray 47)) := ((Mine.Mod.refl none_ wr).drew).alloc _
        have kY := Blk.new (w := wr.drew) (cs := c.cs) (t := 47)
        have hBw : K ≤ wr.heap.size := Nat.le_of_lt kx.lt
        obtain ⟨va', vc', w4, hrun, hown, hmod⟩ := app_cells (W := wr.drew.alloc (.cells c.cs.toArray 47)) (B := K) (ownsRow_mod ox mY (fun _ _ e => e)) (IsCells.one kY hcok) (by omega) (Nat.le_trans hBw mY.size)
        have mW : Mine.Mod (fun j => (Value.slice va (at' + k) vc).ownBlock = some j) wr w4 := (mY.mono (fun _ _ e => e.elim)).trans hmod
        have hne : ∀ j, (Value.slice va (at' + k) vc).ownBlock = some j → ∀ cs t, Blk wr j cs t → t = 47 := fun j hj cs t hb => by
          obtain ⟨cs2, hb2⟩ := ownsRow_type ox hj
          unfold Blk at hb hb2
          rw [hb] at hb2
          cases hb2; rfl
        have hlo : ∀ j, (Value.slice va (at' + k) vc).ownBlock = some j → w.heap.size ≤ j := fun j hj => Nat.le_trans hKw (ox.lt j hj).1
        have k4 : Blk w4 K o.cs 31 := kx.mod mW (fun e => absurd (hne K e _ _ kx) (by decide))
        have FIN := Lib.hid (show Mine.Mod none_ w w4 ∧ Blk w4 K o.cs 31 ∧ IsCells w4 a len cap l ∧ w4.ownsRow B2 21 1 (.slice (some ⟨rg, 0, none⟩) L rc) L (runeCs rs) ∧ w4.ownsRow K 47 5 (.slice va' (at' + (k + 1)) vc') (at' + (k + 1)) (flat CellV.cs (l.take at' ++ (freshC o rs).take (k + 1))) from by
          refine ⟨mx.transIn mW (fun b hb e => by have := hlo b e; omega), k4, HA.out.grown (mx.transIn mW (fun b hb e => by have := hlo b e; omega)), ?_, ?_⟩
          · exact ownsRow_mod rx mW (fun j hj e => by
              obtain ⟨cs2, hb2⟩ := ownsRow_type rx hj
              exact absurd (hne j e _ _ hb2) (by decide))
          · rw [hfr, ← List.append_assoc, ← Nat.add_assoc]
            exact hown)
        have r4 : w4.cell? ⟨rg, k, none⟩ = some (.int .i32 (r : Int)) := by
          refine mW.cell (fun e => ?_) rblk
          obtain ⟨cs2, hb2⟩ := ownsRow_type rx (k := rg) rfl
          exact absurd (hne rg e _ _ hb2) (by decide)
        have e0 : wr.cell? ⟨K, 0, none⟩ = some (.int .i64 o.site) := by rw [kx.cell]; rfl
        have e1 : wr.cell? ⟨K, 1, none⟩ = some (.int .i64 o.seq) := by rw [kx.cell]; rfl
        have e04 : w4.cell? ⟨K, 0, none⟩ = some (.int .i64 o.site) := by rw [k4.cell]; rfl
        have e14 : w4.cell? ⟨K, 1, none⟩ = some (.int .i64 o.seq) := by rw [k4.cell]; rfl
        rw [hcdef] at hrun
        have HRUN := Lib.hid hrun
        have mA := ((Mine.Mod.refl none_ wr).drew).alloc (.cells #[.int .i64 o.site, .int .i64 o.seq, .int .i64 (k : Int), .int .i32 (r : Int), .bool false] 47)
        have SA := Lib.hid (And.intro (mA.cell (fun e => e) e0) (And.intro (mA.cell (fun e => e) e1) (mA.cell (fun e => e) rblk)))
        have S4 := Lib.hid (And.intro e04 (And.intro e14 r4))
        clear hst kx hx rx ox hr hrb hfr mY kY hown hmod hne hcok hcdef hrun mA e04 e14 r4 mW hlo k4 mx
        go_upto_region 8 with fail
        refine wp_region_held_drew (S := fun w' => w'.cell? ⟨K, 0, none⟩ = some (.int .i64 o.site) ∧ w'.cell? ⟨K, 1, none⟩ = some (.int .i64 o.seq) ∧ w'.cell? ⟨rg, k, none⟩ = some (.int .i32 (r : Int))) (by kernel_rfl) ⟨e0, e1, rblk⟩ (fun hS => ?_)
        refine wpAnyH_take (i := 0) (v := .slice va (at' + k) vc) rfl (by kernel_rfl) (by kernel_rfl) (by kernel_rfl) (fun _ _ _ h => h) (Or.inl ⟨by kernel_rfl, ?_⟩) hS ?_
        · rintro w' ⟨q0, q1, q2⟩; go_simp
        try simp only [Act.put, List.setIfInBounds_toArray]
        refine wpAnyH_take (i := 1) (v := .pointer (some ⟨K, 0, none⟩)) rfl (by kernel_rfl) (by kernel_rfl) (by kernel_rfl) (fun _ _ _ h => h) (Or.inl ⟨by kernel_rfl, ?_⟩) hS ?_
        · rintro w' ⟨q0, q1, q2⟩; go_simp
        try simp only [Act.put]
        refine wpAnyH_take (i := 2) (v := .agg #[.int .i64 o.site, .int .i64 o.seq]) rfl (by kernel_rfl) (by kernel_rfl) (by kernel_rfl) (fun _ _ _ h => h) (Or.inl ⟨by kernel_rfl, ?_⟩) hS ?_
        · rintro w' ⟨q0, q1, q2⟩; go_simp
        try simp only [Act.put]
        refine wpAnyH_take (i := 3) (v := .int .i64 (k : Int)) rfl (by kernel_rfl) (by kernel_rfl) (by kernel_rfl) (fun _ _ _ h => h) (Or.inl ⟨by kernel_rfl, ?_⟩) hS ?_
        · rintro w' ⟨q0, q1, q2⟩; go_simp
        try simp only [Act.put]
        refine wpAnyH_take (i := 4) (v := .slice (some ⟨rg, 0, none⟩) L rc) rfl (by kernel_rfl) (by kernel_rfl) (by kernel_rfl) (fun _ _ _ h => h) (Or.inl ⟨by kernel_rfl, ?_⟩) hS ?_
        · rintro w' ⟨q0, q1, q2⟩; go_simp
        try simp only [Act.put]
        refine wpAnyH_take (i := 5) (v := .int .i64 (k : Int)) rfl (by kernel_rfl) (by kernel_rfl) (by kernel_rfl) (fun _ _ _ h => h) (Or.inl ⟨by kernel_rfl, ?_⟩) hS ?_
        · rintro w' ⟨q0, q1, q2⟩; go_simp
        try simp only [Act.put]
        refine wpAnyH_take (i := 6) (v := .pointer (some ⟨rg, k, none⟩)) rfl (by kernel_rfl) (by kernel_rfl) (by kernel_rfl) (fun _ _ _ h => h) (Or.inl ⟨by kernel_rfl, ?_⟩) hS ?_
        · rintro w' ⟨q0, q1, q2⟩; go_simp
        try simp only [Act.put]
        refine wpAnyH_take (i := 7) (v := .int .i32 (r : Int)) rfl (by kernel_rfl) (by kernel_rfl) (by kernel_rfl) (fun _ _ _ h => h) (Or.inl ⟨by kernel_rfl, ?_⟩) hS ?_
        · rintro w' ⟨q0, q1, q2⟩; go_simp
        try simp only [Act.put]
        refine wpAnyH_take (i := 8) (v := .agg #[.int .i64 o.site, .int .i64 o.seq, .int .i64 (k : Int), .int .i32 (r : Int), .bool false]) rfl (by kernel_rfl) (by kernel_rfl) (by kernel_rfl) (fun _ _ _ h => h) (Or.inl ⟨by kernel_rfl, ?_⟩) hS ?_
        · rintro w' ⟨q0, q1, q2⟩; go_simp
        try simp only [Act.put]
        refine wpAnyH_ready (rs := [9]) (by kernel_rfl) (by simp) (AllReadyH.cons rfl (fun K2 hK2 => ?_) <| AllReadyH.nil)
        go_simp
        refine hK2.out _ _ SA.out (fun hS => ?_)
        clear hK2 K2
        try simp only [Act.put, List.setIfInBounds_toArray, List.set_cons_zero, List.set_cons_succ]
        refine wpAnyH_ready (rs := [10]) (by kernel_rfl) (by simp) (AllReadyH.cons rfl (fun K2 hK2 => ?_) <| AllReadyH.nil)
        refine step_append_runI rfl (.tmp 32) (.tmp 41) 22 rfl _ _ _ rfl rfl HRUN.out ?_
        refine hK2.out _ _ S4.out (fun hS => ?_)
        clear hK2 K2
        try simp only [Act.put, List.setIfInBounds_toArray]
        refine wpAnyH_take (i := 11) (v := .slice va' (at' + k + 1) vc') rfl (by kernel_rfl) (by kernel_rfl) (by kernel_rfl) (fun _ _ _ h => h) (Or.inl ⟨by kernel_rfl, ?_⟩) hS ?_
        · rintro w' ⟨q0, q1, q2⟩; go_simp
        try simp only [Act.put]
        refine wpAnyH_done (by kernel_rfl) ?_ _
        try simp only [List.getElem_toArray, List.getElem_cons_succ, List.getElem_cons_zero]
        try simp only [List.setIfInBounds_toArray, List.set_cons_zero, List.set_cons_succ]
        clear hS e0 e1 rblk
        go_wp2_with fail
        go_roundg (L - (k + 1))
        all_goals first
          | omega
          | exact ⟨k + 1, va', vc', rfl, rfl, by go_num, by omega, FIN.out.1, Lib.hid FIN.out.2⟩
      · obtain rfl : k = L := by omega
        have hfl : (freshC o rs).take k = freshC o rs := List.take_of_length_le (by rw [HFL.out, ← HL.out]; exact Nat.le_refl _)
        rw [hfl] at ox
        have HO := Lib.hid ox
        have HX := Lib.hid hx
        have HKL := Lib.hid (Nat.le_of_lt kx.lt)
        have e4 : wr.cell? ⟨K, 4, none⟩ = some (.int .i64 o.at_) := by rw [kx.cell]; rfl
        rw [HATE.out] at e4
        clear hst kx hx rx ox hfl mx
        go_upto_region 9 with fail
        have hB9 : K ≤ wr.heap.size := HKL.out
        have hend : ∀ (a2 : Option Addr) (c2 : Nat), IsCells wr a2 (len - at') c2 (l.drop at') → ∃ va' vc' w', (Builtin.append_ #[22, 22] 22 #[.slice va (at' + k) vc, .slice a2 (len - at') c2]).run Tryz.prog wr = .ok (.slice va' (at' + k + (len - at')) vc') w' ∧ Run9To w o sp l (.returned (.slice va' (at' + k + (len - at')) vc')) w' := fun a2 c2 h2 => by
          obtain ⟨va', vc', w', hrun, hown, hmod⟩ := app_cells HO.out h2 (by omega) hB9
          refine ⟨va', vc', w', hrun, ⟨_, _, _, rfl, ?_, ?_⟩, MX.out.transIn hmod (fun b hb e => by have := (HO.out.lt b e).1; omega)⟩
          · rw [HEQ.out]; exact ownsRow_base hown hKw
          · rw [HEQ.out]
            intro c hc
            rcases List.mem_append.1 hc with hc | hc
            · rcases List.mem_append.1 hc with hc | hc
              · exact HX.out.ok c (List.mem_of_mem_take hc)
              · obtain ⟨i, hi, rfl⟩ := List.mem_mapIdx.1 hc
                have := HR9.out _ (List.getElem_mem hi)
                have hLL := HL.out
                exact ⟨HOI.out.1, HOI.out.2, by simp only; omega, by simp only; omega⟩
            · exact HX.out.ok c (List.mem_of_mem_drop hc)
        have HE := Lib.hid hend
        clear hend
        by_cases hce : cap = at'
        · subst hce
          obtain rfl : len = cap := by omega
          obtain ⟨va', vc', w5, hrun, hfin⟩ := HE.out a 0 (by
            have hd : l.drop len = [] := List.drop_eq_nil_of_le (by rw [HN.out]; exact Nat.le_refl _)
            rw [hd, Nat.sub_self]
            exact ⟨rfl, Nat.le_refl _, Nat.zero_le _, (fun c hc => by cases hc), (fun i c hc => by simp at hc)⟩)
          rw [Nat.sub_self] at hrun hfin
          have HF := Lib.hid hfin
          have HRUN := Lib.hid hrun
          clear hrun hfin
          go_wp2_with (at_builtin; refine Lib.wpList_append_run _ rfl (.tmp 43) (.tmp 47) 22 22 rfl _ _ rfl rfl _ _ HRUN.out ?_)
          go_ret
          exact HF.out
        · by_cases hl0 : len = 0
          · have hln : l = [] := List.eq_nil_of_length_eq_zero (by rw [HN.out]; exact hl0)
            have hz : len - at' = 0 := by omega
            have hce3 : ¬ at' = cap := fun e => hce e.symm
            cases a with
            | none =>
              obtain ⟨va', vc', w5, hrun, hfin⟩ := HE.out none (cap - at') (by
                rw [hln, hz, List.drop_nil]
                exact ⟨rfl, Nat.zero_le _, by unfold maxLen; omega, (fun c hc => by cases hc), (fun i c hc => by simp at hc)⟩)
              have HF := Lib.hid hfin
              have HRUN := Lib.hid hrun
              clear hrun hfin hln hz hl0
              go_wp2_with (at_builtin; refine Lib.wpList_append_run _ rfl (.tmp 43) (.tmp 47) 22 22 rfl _ _ rfl rfl _ _ HRUN.out ?_)
              go_ret
              exact HF.out
            | some x =>
              obtain rfl : at' = 0 := by omega
              subst hl0
              obtain ⟨va', vc', w5, hrun, hfin⟩ := HE.out (some (x.add 0)) (cap - 0) (by
                rw [hln]
                exact ⟨rfl, Nat.zero_le _, by unfold maxLen; omega, (fun c hc => by cases hc), (fun i c hc => by simp at hc)⟩)
              simp only [Nat.zero_add, Nat.sub_self, Nat.add_zero] at hfin
              have HF := Lib.hid hfin
              have HRUN := Lib.hid hrun
              clear hrun hfin hln
              go_wp2_with (at_builtin; refine Lib.wpList_append_run _ rfl (.tmp 43) (.tmp 47) 22 22 rfl _ _ rfl rfl _ _ HRUN.out ?_)
              go_ret
              exact HF.out
          · obtain ⟨b, off, rfl⟩ : ∃ b off, a = some ⟨b, off, none⟩ := by
              obtain ⟨c, hc⟩ : ∃ x, l[0]? = some x := ⟨l[0]'(by rw [HN.out]; omega), by simp⟩
              obtain ⟨b, off, e, _⟩ := HX.out.cells 0 c hc
              exact ⟨b, off, e⟩
            obtain ⟨va', vc', w5, hrun, hfin⟩ := HE.out _ _ (HX.out.drop at' hatl)
            have HF := Lib.hid hfin
            have HRUN := Lib.hid hrun
            clear hrun hfin
            have hce2 : ¬ cap - at' = 0 := by omega
            have hce3 : ¬ at' = cap := fun e => hce e.symm
            go_wp2_with (at_builtin; refine Lib.wpList_append_run _ rfl (.tmp 43) (.tmp 47) 22 22 rfl _ _ rfl rfl _ _ HRUN.out ?_)
            go_ret
            exact HF.out
end Go.Proofs.YthicagfeaekmoaaGreatDoor

namespace Go.Proofs.YthicagfeaekmoaaGreatDoor
open Go.RowKit Go.Mine
open Classical

/-- Where a list lies: where one lay that was handed in, or in new memory. -/
def newAt (w : World) (a : Option Addr) (len : Nat) (va : Option Addr) (n : Nat) : Prop := (va = a ∧ n = len) ∨ ∀ b off t, va = some ⟨b, off, t⟩ → 0 < n → w.heap.size ≤ b
def RDoTo (w : World) (a : Option Addr) (len : Nat) (o : OpV) (sp : List (Int × Int)) (l : List CellV) (e : Ending) (w' : World) : Prop :=
  (∃ va n vc, e = .returned (.tuple #[.slice va n vc, .int .i64 (doE o sp l)]) ∧ IsCells w' va n vc (doL o sp l) ∧ newAt w a len va n) ∧ Mine.Mod none_ w w'
theorem own_new {w w' : World} {va : Option Addr} {n vc size : Nat} {e : TypeId} {xs : List Value} (a : Option Addr) (len : Nat) (h : w'.ownsRow w.heap.size e size (.slice va n vc) n xs) : newAt w a len va n := by
  refine .inr (fun b off t hb hn => ?_)
  rcases ownsRow_blk h with ⟨h1, _⟩ | ⟨g, cap, more, h1, h2, _⟩
  · cases h1; cases hb
  · cases h1; cases hb; exact h2

set_option maxHeartbeats 8000000 in
set_option maxRecDepth 1000000 in
theorem rdo_any (w : World) (a : Option Addr) (len cap : Nat) (l : List CellV) (h : IsCells w a len cap l) (o : OpV) (sp : List (Int × Int)) (ho : o.ok w sp) (hlen : len ≤ 20000) (htx : o.text.size ≤ 1099511627776) :
    Calls Tryz.prog 41 #[.slice a len cap, o.v] w (RDoTo w a len o sp l) := by
  have hle := h.le
  have hcap := h.big
  unfold maxLen at hcap
  obtain ⟨W0, hW0⟩ : ∃ W0, w.alloc (.cells o.cs.toArray 31) = W0 := ⟨_, rfl⟩
  obtain ⟨m0, kB⟩ := opBox1 hW0
  obtain ⟨K, hK⟩ : ∃ K, w.heap.size = K := ⟨_, rfl⟩
  rw [hK] at kB
  have HA := Lib.hid h
  have HO0 := Lib.hid ho
  have HN := Lib.hid h.n
  have HCS := Lib.hid (show ∀ W, Mine.Mod none_ w W → Calls Tryz.prog 78 #[o.v, .int .i64 (len : Int)] W fun e w' => e = .returned (.bool (opMay o sp l.length)) ∧ Mine.Mod none_ W w' from fun W m => by
    have := rmayOp_any o (len : Int) W sp (ho.grown m) (by omega)
    have e : inB (len : Int) 0 20000 = true := by simp [inB]; omega
    rw [e, Bool.true_and] at this
    rw [h.n]
    exact this)
  have M0 := Lib.hid m0
  have K0 := Lib.hid kB
  have hld : ∀ W, Blk W K o.cs 31 → W.rangeAt K 0 o.cs := fun W k j v hj => by rw [Nat.zero_add, k.cell]; exact hj
  have HLD := Lib.hid hld
  have r0 := kB
  have c0 : W0.cell? ⟨K, 0, none⟩ = some (.int .i64 o.site) := by rw [kB.cell]; rfl
  have c1 : W0.cell? ⟨K, 1, none⟩ = some (.int .i64 o.seq) := by rw [kB.cell]; rfl
  have c2 : W0.cell? ⟨K, 2, none⟩ = some (.int .i64 o.num) := by rw [kB.cell]; rfl
  have c3 : W0.cell? ⟨K, 3, none⟩ = some (.int .i64 o.kind) := by rw [kB.cell]; rfl
  have c4 : W0.cell? ⟨K, 4, none⟩ = some (.int .i64 o.at_) := by rw [kB.cell]; rfl
  have c5 : W0.cell? ⟨K, 5, none⟩ = some (.string o.text) := by rw [kB.cell]; rfl
  have c6 : W0.cell? ⟨K, 6, none⟩ = some (.slice o.sa o.slen o.scap) := by rw [kB.cell]; rfl
  obtain ⟨may, hmay⟩ : ∃ may, may = opMay o sp l.length := ⟨_, rfl⟩
  rw [← hmay] at HCS
  clear h ho m0 kB r0 hld
  cases hmb : may
  · have HE := Lib.hid (show doE o sp l = 1 ∧ doL o sp l = l by
      unfold doE doL
      rw [← hmay, hmb]
      exact ⟨rfl, rfl⟩)
    rw [hmb] at HCS
    clear hmay hmb
    go_enter Tryz.func41, Tryz.ntmps41
    go_upto_region 1 with fail
    clear hW0 hK
    go_wp2_with fail
    refine (HCS.out _ M0.out).mono ?_
    rintro e w1 ⟨rfl, m1⟩
    have M1 := Lib.hid (M0.out.trans m1)
    clear m1 c0 c1 c2 c3 c4 c5 c6
    go_wp2_with fail
    go_ret2
    exact ⟨⟨a, len, cap, by rw [HE.out.1]; rfl, by rw [HE.out.2]; exact HA.out.grown M1.out, .inl ⟨rfl, rfl⟩⟩, M1.out⟩
  · rw [hmb] at hmay HCS
    have HM := Lib.hid hmay.symm
    have hkind : o.kind = 1 ∨ o.kind = 2 := by
      have := hmay.symm
      unfold opMay at this
      by_cases h1 : o.kind = 1
      · exact .inl h1
      · by_cases h2 : o.kind = 2
        · exact .inr h2
        · rw [if_neg h1, if_neg h2] at this; simp at this
    have HRUN := Lib.hid (show ∀ W, Mine.Mod none_ w W → Calls Tryz.prog 77 #[.slice a len cap, o.v] W (Run9To W o sp l) from fun W m =>
      rrun9_any W a len cap l (HA.out.grown m) o sp (HO0.out.grown m) (by rw [← HN.out]; exact HM.out) hlen htx)
    clear hmay hmb
    go_enter Tryz.func41, Tryz.ntmps41
    go_upto_region 1 with fail
    clear hW0 hK
    go_wp2_with fail
    refine (HCS.out _ M0.out).mono ?_
    rintro e w1 ⟨rfl, m1⟩
    have M1 := Lib.hid (M0.out.trans m1)
    have K1 := Lib.hid (K0.out.mod m1 (fun e => e))
    clear m1 c0 c1 c2 c3 c4 c5 c6 M0 K0
    go_wp2_with fail
    have hfin : ∀ wx, Mine.Mod none_ w wx → (o.kind = 2 ∨ ¬ o.name ∈ l.map CellV.name) → ∀ va n vc w', w'.ownsRow wx.heap.size 47 5 (.slice va n vc) n (flat CellV.cs (runL9 o sp l)) → (∀ c ∈ runL9 o sp l, c.ok) → Mine.Mod none_ wx w' → RDoTo w a len o sp l (.returned (.tuple #[.slice va n vc, .int .i64 0])) w' := fun wx m hk va n vc w' hown hok m2 => by
      have he : doE o sp l = 0 ∧ doL o sp l = runL9 o sp l := by
        unfold doE doL runL9
        rw [if_pos HM.out, if_pos HM.out]
        rcases hk with hk | hk
        · rw [if_pos hk, if_pos hk, if_pos hk]; exact ⟨rfl, rfl⟩
        · by_cases h2 : o.kind = 2
          · rw [if_pos h2, if_pos h2, if_pos h2]; exact ⟨rfl, rfl⟩
          · rw [if_neg h2, if_neg h2, if_neg h2, if_neg hk, if_neg hk]; exact ⟨rfl, rfl⟩
      refine ⟨⟨va, n, vc, by rw [he.1], by rw [he.2]; exact own_cells hown hok, own_new a len (ownsRow_base hown m.size)⟩, m.trans m2⟩
    have HFIN := Lib.hid hfin
    clear hfin
    rcases hkind with hk | hk
    · go_loopg [6] len (fun g s6 wx => ∃ k : Nat, g = len - k ∧ s6 = .int .i64 k ∧ k ≤ len ∧ Mine.Mod none_ w wx ∧ RowKit.Hid (Blk wx K o.cs 31 ∧ ∀ (j : Nat) (c : CellV), j < k → l[j]? = some c → c.name ≠ o.name))
      case atStart => exact ⟨0, rfl, rfl, Nat.zero_le _, M1.out, Lib.hid ⟨K1.out, fun j c hj => absurd hj (by omega)⟩⟩
      case round =>
        obtain ⟨k, rfl, rfl, hkl, mx, hst⟩ := hrel
        have MX := Lib.hid mx
        have kx := hst.out.1
        have c0 : wr.cell? ⟨K, 0, none⟩ = some (.int .i64 o.site) := by rw [kx.cell]; rfl
        have c1 : wr.cell? ⟨K, 1, none⟩ = some (.int .i64 o.seq) := by rw [kx.cell]; rfl
        have c2 : wr.cell? ⟨K, 2, none⟩ = some (.int .i64 o.num) := by rw [kx.cell]; rfl
        have c3 : wr.cell? ⟨K, 3, none⟩ = some (.int .i64 o.kind) := by rw [kx.cell]; rfl
        have c4 : wr.cell? ⟨K, 4, none⟩ = some (.int .i64 o.at_) := by rw [kx.cell]; rfl
        have c5 : wr.cell? ⟨K, 5, none⟩ = some (.string o.text) := by rw [kx.cell]; rfl
        have c6 : wr.cell? ⟨K, 6, none⟩ = some (.slice o.sa o.slen o.scap) := by rw [kx.cell]; rfl
        have hkb : (o.kind == 1) = true := by simpa using hk
        by_cases hlk : k < len
        · obtain ⟨x, hx⟩ : ∃ x, l[k]? = some x := ⟨l[k]'(by rw [HN.out]; exact hlk), by simp⟩
          have HX := Lib.hid hx
          obtain ⟨b, off, hab, hr⟩ := (HA.out.grown mx).cells k x hx
          have d0 := hr 0 _ rfl
          have d1 := hr 1 _ rfl
          rw [Nat.add_zero] at d0
          subst hab
          have HST := Lib.hid (show x.name ≠ o.name → Blk wr K o.cs 31 ∧ ∀ (j : Nat) (c : CellV), j < k + 1 → l[j]? = some c → c.name ≠ o.name from fun hxo => ⟨kx, fun j c hj hc => by
            by_cases hjk : j = k
            · subst hjk
              rw [HX.out] at hc
              obtain rfl := Option.some.inj hc
              exact hxo
            · exact hst.out.2 j c (by omega) hc⟩)
          clear hr mx hx kx hst c2 c4 c5 c6 HRUN HFIN HCS
          by_cases e1 : x.site = o.site
          · by_cases e2 : x.seq = o.seq
            · have HE := Lib.hid (show doE o sp l = 15 ∧ doL o sp l = l by
                have hmem : o.name ∈ l.map CellV.name := List.mem_map.2 ⟨x, List.mem_of_getElem? HX.out, by show Value.agg #[.int .i64 x.site, .int .i64 x.seq] = _; rw [e1, e2]⟩
                have h2 : ¬ o.kind = 2 := by omega
                unfold doE doL
                rw [if_pos HM.out, if_pos HM.out, if_neg h2, if_neg h2, if_pos hmem, if_pos hmem]
                exact ⟨rfl, rfl⟩)
              rw [e1] at d0
              rw [e2] at d1
              clear e1 e2 HST hk
              go_upto_region 6 with fail
              go_quiet (fail)
              have MQ := Lib.hid (MX.out.drewN nq)
              generalize wr.drewN nq = wq at MQ ⊢
              clear c0 c1 c3 d0 d1
              go_wp2_with fail
              go_ret2
              exact ⟨⟨_, len, cap, by rw [HE.out.1]; rfl, by rw [HE.out.2]; exact HA.out.grown MQ.out, .inl ⟨rfl, rfl⟩⟩, MQ.out⟩
            · have HT := Lib.hid (HST.out (by simp [e2]))
              have b2 : (x.seq == o.seq) = false := by simpa using e2
              rw [e1] at d0
              clear e1 e2 HST hk
              go_upto_region 6 with fail
              go_quiet (fail)
              have MQ := Lib.hid (MX.out.drewN nq)
              have KQ := Lib.hid (And.intro (HT.out.1.mod ((Mine.Mod.refl none_ wr).drewN nq) (fun e => e)) HT.out.2)
              generalize wr.drewN nq = wq at MQ KQ ⊢
              clear c0 c1 c3 d0 d1
              go_wp2_with fail
              go_roundg (len - (k + 1))
              all_goals first
                | omega
                | exact ⟨k + 1, rfl, by go_num, by omega, MQ.out, KQ⟩
          · have HT := Lib.hid (HST.out (by simp [e1]))
            have b1 : (x.site == o.site) = false := by simpa using e1
            clear e1 HST hk
            go_upto_region 6 with fail
            go_quiet (fail)
            have MQ := Lib.hid (MX.out.drewN nq)
            have KQ := Lib.hid (And.intro (HT.out.1.mod ((Mine.Mod.refl none_ wr).drewN nq) (fun e => e)) HT.out.2)
            generalize wr.drewN nq = wq at MQ KQ ⊢
            clear c0 c1 c3 d0 d1
            go_wp2_with fail
            go_roundg (len - (k + 1))
            all_goals first
              | omega
              | exact ⟨k + 1, rfl, by go_num, by omega, MQ.out, KQ⟩
        · obtain hkl2 : k = len := by omega
          have HNM := Lib.hid (show ¬ o.name ∈ l.map CellV.name from fun hm => by
            obtain ⟨c, hc, e⟩ := List.mem_map.1 hm
            obtain ⟨j, hj, rfl⟩ := List.getElem_of_mem hc
            have hn := HN.out
            exact hst.out.2 j _ (by omega) (List.getElem?_eq_getElem hj) e)
          have hnlt : decide ((k : Int) < (len : Int)) = false := by simp; omega
          clear hst mx kx hk hkl2 HCS
          go_wp2_with fail
          refine (HRUN.out _ MX.out).mono ?_
          rintro e w3 ⟨⟨va, n, vc, rfl, hown, hok⟩, m3⟩
          have HF := Lib.hid (HFIN.out _ MX.out (.inr HNM.out) va n vc w3 hown hok m3)
          clear hown hok m3 HRUN HFIN c0 c1 c2 c3 c4 c5 c6
          go_wp2_with fail
          go_ret2
          exact HF.out
    · go_loopg [6] 0 (fun g s6 wx => g = 0 ∧ s6 = .int .i64 0 ∧ wx = w1)
      case atStart => exact ⟨rfl, rfl, rfl⟩
      case round =>
        obtain ⟨rfl, rfl, rfl⟩ := hrel
        have c0 : wr.cell? ⟨K, 0, none⟩ = some (.int .i64 o.site) := by rw [K1.out.cell]; rfl
        have c1 : wr.cell? ⟨K, 1, none⟩ = some (.int .i64 o.seq) := by rw [K1.out.cell]; rfl
        have c2 : wr.cell? ⟨K, 2, none⟩ = some (.int .i64 o.num) := by rw [K1.out.cell]; rfl
        have c3 : wr.cell? ⟨K, 3, none⟩ = some (.int .i64 o.kind) := by rw [K1.out.cell]; rfl
        have c4 : wr.cell? ⟨K, 4, none⟩ = some (.int .i64 o.at_) := by rw [K1.out.cell]; rfl
        have c5 : wr.cell? ⟨K, 5, none⟩ = some (.string o.text) := by rw [K1.out.cell]; rfl
        have c6 : wr.cell? ⟨K, 6, none⟩ = some (.slice o.sa o.slen o.scap) := by rw [K1.out.cell]; rfl
        have hkb : (o.kind == 1) = false := by rw [hk]; rfl
        have HK := Lib.hid hk
        clear hk HCS
        by_cases hl0 : len = 0
        · have hz : decide (0 < len) = false := by rw [hl0]; rfl
          have hz2 : decide (0 < (len : Int)) = false := by rw [hl0]; rfl
          clear hl0
          go_wp2_with fail
          refine (HRUN.out _ M1.out).mono ?_
          rintro e w3 ⟨⟨va, n, vc, rfl, hown, hok⟩, m3⟩
          have HF := Lib.hid (HFIN.out _ M1.out (.inl HK.out) va n vc w3 hown hok m3)
          clear hown hok m3 HRUN HFIN c0 c1 c2 c3 c4 c5 c6
          go_wp2_with fail
          go_ret2
          exact HF.out
        · have hz : decide (0 < len) = true := by simp; omega
          clear hl0
          go_wp2_with fail
          refine (HRUN.out _ M1.out).mono ?_
          rintro e w3 ⟨⟨va, n, vc, rfl, hown, hok⟩, m3⟩
          have HF := Lib.hid (HFIN.out _ M1.out (.inl HK.out) va n vc w3 hown hok m3)
          clear hown hok m3 HRUN HFIN c0 c1 c2 c3 c4 c5 c6
          go_wp2_with fail
          go_ret2
          exact HF.out
end Go.Proofs.YthicagfeaekmoaaGreatDoor

namespace Go.Proofs.YthicagfeaekmoaaGreatDoor
open Go.RowKit Go.Shelf Go.Mine
open Classical

theorem hasPl_high {sp : List (Int × Int)} (h : spansOk sp = true) {n : Nat} (he : endS sp ≤ n) {q : Nat} (hq : n ≤ q) : hasPl sp q = false := by
  unfold hasPl
  rw [List.any_eq_false]
  intro x hx
  cases hy : sp.getLast? with
  | none => rw [List.getLast?_eq_none_iff.1 hy] at hx; cases hx
  | some y =>
    have h1 := spansFrom_last sp _ h y hy x hx
    unfold endS at he
    rw [hy] at he
    simp only at he
    simp only [decide_eq_true_eq]
    omega
theorem hasPl_end {sp : List (Int × Int)} (h : spansOk sp = true) {n : Nat} (he : (n : Int) < endS sp) : ∃ q : Nat, n ≤ q ∧ q < 20000 ∧ hasPl sp q = true := by
  unfold endS at he
  cases hy : sp.getLast? with
  | none => rw [hy] at he; simp only at he; omega
  | some y =>
    rw [hy] at he
    simp only at he
    have hm := List.mem_of_getLast? hy
    have h2 := spansFrom_ok sp _ h y hm
    refine ⟨(y.1 + y.2 - 1).toNat, by omega, by omega, ?_⟩
    unfold hasPl
    rw [List.any_eq_true]
    exact ⟨y, hm, by simp only [decide_eq_true_eq]; omega⟩

def RDropTo (w : World) (a : Option Addr) (len : Nat) (sp : List (Int × Int)) (l : List CellV) (e : Ending) (w' : World) : Prop :=
  (∃ va n vc, e = .returned (.tuple #[.slice va n vc, .int .i64 (dropE sp l)]) ∧ IsCells w' va n vc (dropL sp l) ∧ newAt w a len va n) ∧ Mine.Mod none_ w w'

set_option maxHeartbeats 8000000 in
set_option maxRecDepth 1000000 in
theorem rdrop_any (w : World) (a : Option Addr) (len cap : Nat) (l : List CellV) (h : IsCells w a len cap l) (sa : Option Addr) (sn sc : Nat) (sp : List (Int × Int)) (hs : IsSpans w sa sn sc sp) (hlen : len ≤ 20000) :
    Calls Tryz.prog 39 #[.slice a len cap, .slice sa sn sc] w (RDropTo w a len sp l) := by
  have hle := h.le
  have hcap := h.big
  unfold maxLen at hcap
  have HA := Lib.hid h
  have HN := Lib.hid h.n
  have HSM := Lib.hid (rspansMay_any w sa sn sc sp hs)
  have HMK := Lib.hid (fun (W : World) (m : Mine.Mod none_ w W) (hok : spansOk sp = true) => marks_any W sa sn sc sp (hs.grown m) hok)
  clear h hs
  cases hok : spansOk sp
  · have HE := Lib.hid (show dropE sp l = 1 ∧ dropL sp l = l by
      have : dropE sp l = 1 := by unfold dropE; rw [hok]; rfl
      exact ⟨this, by unfold dropL; rw [this]; rfl⟩)
    rw [hok] at HSM
    go_enter Tryz.func39, Tryz.ntmps39
    go_wp2_with fail
    refine HSM.out.mono ?_
    rintro e w1 ⟨rfl, m1⟩
    have M1 := Lib.hid m1
    clear m1
    go_wp2_with fail
    go_ret2
    exact ⟨⟨a, len, cap, by rw [HE.out.1]; rfl, by rw [HE.out.2]; exact HA.out.grown M1.out, .inl ⟨rfl, rfl⟩⟩, M1.out⟩
  · rw [hok] at HSM
    have HOK := Lib.hid hok
    clear hok
    go_enter Tryz.func39, Tryz.ntmps39
    go_wp2_with fail
    refine HSM.out.mono ?_
    rintro e w1 ⟨rfl, m1⟩
    have M1 := Lib.hid m1
    clear m1
    go_wp2_with fail
    refine (HMK.out w1 M1.out HOK.out).mono ?_
    rintro e w2 ⟨rfl, kG, m2⟩
    obtain ⟨G, hG⟩ : ∃ G, G = w1.heap.size := ⟨_, rfl⟩
    rw [← hG] at kG ⊢
    have hGw : w.heap.size ≤ G := by rw [hG]; exact M1.out.size
    have M2 := Lib.hid (M1.out.trans m2)
    have KG := Lib.hid kG
    clear hG m2 kG HSM HMK
    go_wp2_with fail
    go_loopg [8] (20000 - len) (fun g s8 wx => ∃ (p : Nat), g = 20000 - p ∧ s8 = .int .i64 p ∧ len ≤ p ∧ p ≤ 20000 ∧ wx = w2 ∧ RowKit.Hid (∀ q, len ≤ q → q < p → hasPl sp q = false))
    case atStart => exact ⟨len, rfl, rfl, Nat.le_refl _, hlen, rfl, Lib.hid (fun q h1 h2 => by omega)⟩
    case round =>
      obtain ⟨p, rfl, rfl, hp1, hp2, rfl, hst⟩ := hrel
      by_cases hlp : p < 20000
      · have c0 : wr.cell? ⟨G, p, none⟩ = some (.bool (hasPl sp p)) := by rw [KG.out.cell, marksOf_at _ p hlp]
        have hpd : decide ((p : Int) < 20000) = true := by simp; omega
        cases hpl : hasPl sp p
        · rw [hpl] at c0
          have HST := Lib.hid (show ∀ q, len ≤ q → q < p + 1 → hasPl sp q = false from fun q h1 h2 => by
            by_cases hq : q = p
            · subst hq; exact hpl
            · exact hst.out q h1 (by omega))
          clear hst hpl
          go_wp2_with fail
          go_roundg (20000 - (p + 1))
          all_goals first
            | omega
            | exact ⟨p + 1, rfl, by go_num, by omega, by omega, rfl, HST⟩
        · rw [hpl] at c0
          have HE := Lib.hid (show dropE sp l = 1 ∧ dropL sp l = l by
            have : dropE sp l = 1 := by
              unfold dropE
              rw [HOK.out]
              simp only [if_true]
              rw [if_pos]
              rcases Int.lt_or_le ((l.length : Nat) : Int) (endS sp) with h1 | h1
              · exact h1
              · have := hasPl_high HOK.out (n := l.length) h1 (q := p) (by rw [HN.out]; exact hp1)
                rw [hpl] at this; cases this
            exact ⟨this, by unfold dropL; rw [this]; rfl⟩)
          clear hst hpl
          go_wp2_with fail
          go_ret2
          exact ⟨⟨a, len, cap, by rw [HE.out.1]; rfl, by rw [HE.out.2]; exact HA.out.grown M2.out, .inl ⟨rfl, rfl⟩⟩, M2.out⟩
      · obtain hp : p = 20000 := by omega
        have HEN := Lib.hid (show ¬ ((l.length : Nat) : Int) < endS sp from fun h1 => by
          obtain ⟨q, q1, q2, q3⟩ := hasPl_end HOK.out h1
          have := hst.out q (by rw [← HN.out]; exact q1) (by omega)
          rw [q3] at this; cases this)
        have hpd : decide ((p : Int) < 20000) = false := by simp; omega
        obtain ⟨i0, hi0, hz0, hz1, hz2⟩ := info_parts infoCell
        have HI0 := Lib.hid hi0
        have HZ0 := Lib.hid hz0
        have HZ1 := Lib.hid hz1
        have HZ2 := Lib.hid hz2
        obtain ⟨wb, rfl⟩ : ∃ wb, wb = wr := ⟨_, rfl⟩
        clear hst hlp hi0 hz0 hz1 hz2
        go_wp2_with fail
        go_loopg [9, 10] len (fun g s9 s10 wx => ∃ (k n : Nat) (va : Option Addr) (vc : Nat), g = len - k ∧ s9 = .slice va n vc ∧ s10 = .int .i64 k ∧ k ≤ len ∧ n ≤ k ∧ Mine.Mod none_ w wx ∧ RowKit.Hid (Blk wx G (marksOf (hasPl sp)) 4 ∧ wx.ownsRow w.heap.size 47 5 (.slice va n vc) n (flat CellV.cs (dropFrom sp 0 (l.take k))) ∧ hitFrom sp 0 (l.take k) = false))
        case atStart => exact ⟨0, 0, none, 0, rfl, rfl, rfl, Nat.zero_le _, Nat.le_refl _, M2.out, Lib.hid ⟨KG.out, ⟨by simp [dropFrom], .inl ⟨rfl, rfl⟩⟩, rfl⟩⟩
        case round =>
          obtain ⟨k, n, va, vc, rfl, rfl, rfl, hk, hnk, mx, hst⟩ := hrel
          have MX := Lib.hid mx
          obtain ⟨kx, ox, hit⟩ := hst.out
          by_cases hlk : k < len
          · obtain ⟨c, hx⟩ : ∃ x, l[k]? = some x := ⟨l[k]'(by rw [HN.out]; exact hlk), by simp⟩
            have htk := take_snoc hx
            have hlt : (l.take k).length = k := by rw [List.length_take, HN.out]; omega
            have hdr := dropFrom_append sp (l.take k) [c] 0
            have hhi := hitFrom_append sp (l.take k) [c] 0
            rw [← htk, hlt, Nat.zero_add, dropFrom_one] at hdr
            rw [← htk, hlt, Nat.zero_add, hitFrom_one, hit, Bool.false_or] at hhi
            have d0 : wr.cell? ⟨G, k, none⟩ = some (.bool (hasPl sp k)) := by rw [kx.cell, marksOf_at _ k (by omega)]
            obtain ⟨b, off, hab, hr⟩ := (HA.out.grown mx).cells k c hx
            have c0 := hr 0 _ rfl
            have c1 := hr 1 _ rfl
            have c2 := hr 2 _ rfl
            have c3 := hr 3 _ rfl
            have c4 := hr 4 _ rfl
            rw [Nat.add_zero] at c0
            subst hab
            cases hpl : hasPl sp k
            · rw [hpl] at d0 hdr hhi
              simp only [Bool.and_false] at hhi
              simp only [Bool.false_eq_true, if_false] at hdr
              have mY : Mine.Mod none_ wr (wr.alloc (.cells c.cs.toArray 47)) := (Mine.Mod.refl none_ wr).alloc _
              have kY := Blk.new (w := wr) (cs := c.cs) (t := 47)
              obtain ⟨va', vc', w4, hrun, hown, hmod⟩ := app_cells (W := wr.alloc (.cells c.cs.toArray 47)) (B := w.heap.size) (ownsRow_mod ox mY (fun _ _ e => e)) (IsCells.one kY (HA.out.ok c (List.mem_of_getElem? hx))) (by omega) (Nat.le_trans mx.size mY.size)
              have mW : Mine.Mod (fun j => (Value.slice va n vc).ownBlock = some j) wr w4 := (mY.mono (fun _ _ e => e.elim)).trans hmod
              have FIN := Lib.hid (show Mine.Mod none_ w w4 ∧ Blk w4 G (marksOf (hasPl sp)) 4 ∧ w4.ownsRow w.heap.size 47 5 (.slice va' (n + 1) vc') (n + 1) (flat CellV.cs (dropFrom sp 0 (l.take (k + 1)))) ∧ hitFrom sp 0 (l.take (k + 1)) = false from by
                refine ⟨mx.transIn mW (fun j hb e => by have := (ox.lt j e).1; omega), kx.mod mW (fun e => ?_), by rw [hdr]; exact hown, hhi⟩
                obtain ⟨cs2, hb2⟩ := ownsRow_type ox e
                unfold Blk at kx hb2
                have e2 := Option.some.inj (kx.symm.trans hb2)
                injection e2 with _ h2 _
                exact absurd h2 (by decide))
              have HRUN := Lib.hid hrun
              clear mx kx ox hit hst hx htk hlt hdr hhi hr hpl mY kY hrun hown hmod mW
              go_wp2_with (at_builtin; refine Lib.wpList_append_run _ rfl (.tmp 55) (.tmp 60) 22 22 rfl _ _ rfl rfl _ _ HRUN.out ?_)
              go_roundg (len - (k + 1))
              all_goals first
                | omega
                | exact ⟨k + 1, n + 1, va', vc', rfl, rfl, by go_num, by omega, by omega, FIN.out.1, Lib.hid FIN.out.2⟩
            · rw [hpl] at d0 hdr hhi
              simp only [Bool.and_true] at hhi
              simp only [if_true, List.append_nil] at hdr
              cases hg : c.gone
              · have HE := Lib.hid (show dropE sp l = 13 ∧ dropL sp l = l by
                  have hh : hitFrom sp 0 l = true := by
                    have e := hitFrom_append sp (l.take (k + 1)) (l.drop (k + 1)) 0
                    rw [List.take_append_drop, hhi, hg] at e
                    rw [e]; rfl
                  have : dropE sp l = 13 := by
                    unfold dropE
                    rw [HOK.out]
                    simp only [if_true]
                    rw [if_neg (by have := HEN.out; omega), hh]
                    rfl
                  exact ⟨this, by unfold dropL; rw [this]; rfl⟩)
                rw [hg] at c4
                clear mx kx ox hit hst hx htk hlt hdr hhi hr hpl hg
                go_wp2_with fail
                go_ret2
                exact ⟨⟨_, len, cap, by rw [HE.out.1]; rfl, by rw [HE.out.2]; exact HA.out.grown MX.out, .inl ⟨rfl, rfl⟩⟩, MX.out⟩
              · rw [hg] at c4 hhi
                have FIN := Lib.hid (show Blk wr G (marksOf (hasPl sp)) 4 ∧ wr.ownsRow w.heap.size 47 5 (.slice va n vc) n (flat CellV.cs (dropFrom sp 0 (l.take (k + 1)))) ∧ hitFrom sp 0 (l.take (k + 1)) = false from
                  ⟨kx, by rw [hdr]; exact ox, by rw [hhi]; rfl⟩)
                clear mx kx ox hit hst hx htk hlt hdr hhi hr hpl hg
                go_wp2_with fail
                go_roundg (len - (k + 1))
                all_goals first
                  | omega
                  | exact ⟨k + 1, n, va, vc, rfl, rfl, by go_num, by omega, by omega, MX.out, FIN⟩
          · obtain rfl : k = len := by omega
            have e : l.take k = l := List.take_of_length_le (by rw [HN.out]; exact Nat.le_refl _)
            rw [e] at ox hit
            have HF := Lib.hid (show RDropTo w a k sp l (.returned (.tuple #[.slice va n vc, .int .i64 0])) wr from by
              have h0 : dropE sp l = 0 := by
                unfold dropE
                rw [HOK.out]
                simp only [if_true]
                rw [if_neg (by have := HEN.out; omega), hit]
                rfl
              have h1 : dropL sp l = dropFrom sp 0 l := by unfold dropL; rw [if_pos h0]
              refine ⟨⟨va, n, vc, by rw [h0], ?_, own_new a k ox⟩, mx⟩
              rw [h1]
              exact own_cells ox (fun c hc => HA.out.ok c ((dropFrom_sub sp l 0).subset hc)))
            clear mx kx ox hit hst e
            go_wp2_with fail
            go_ret2
            exact HF.out
end Go.Proofs.YthicagfeaekmoaaGreatDoor

namespace Go.Proofs.YthicagfeaekmoaaGreatDoor
open Go.RowKit Go.Shelf Go.Mine
attribute [local go_sem ↓] app_fold

theorem plsOf_last {P : Nat → Bool} {i : Nat} (h : P i = true) : ∃ (n1 : Nat) (f m : Int), (plsOf P (i + 1)).length = n1 + 1 ∧ (plsOf P (i + 1))[n1]? = some (f, m) ∧ f + m = (i : Int) + 1 := by
  rw [plsOf, h]
  simp only [if_true]
  unfold addPl
  cases hl : (plsOf P i).getLast? with
  | none => exact ⟨0, (i : Int), 1, rfl, rfl, rfl⟩
  | some y =>
    obtain ⟨f, m⟩ := y
    simp only
    have hpos : 0 < (plsOf P i).length := by
      cases he : plsOf P i with
      | nil => rw [he] at hl; cases hl
      | cons a b => simp
    split
    · rename_i he
      refine ⟨(plsOf P i).length - 1, f, m + 1, by rw [List.length_append, List.length_dropLast]; rfl, ?_, by omega⟩
      rw [List.getElem?_append_right (by simp)]
      simp
    · exact ⟨(plsOf P i).length, (i : Int), 1, by simp, by simp, rfl⟩
theorem plsOf_new {P : Nat → Bool} {i : Nat} (h : i = 0 ∨ P (i - 1) = false) : addPl (plsOf P i) i = plsOf P i ++ [((i : Int), 1)] := by
  cases i with
  | zero => rfl
  | succ j =>
    have hp : P j = false := by
      rcases h with h | h
      · cases h
      · simpa using h
    have e : plsOf P (j + 1) = plsOf P j := by rw [plsOf, hp]; rfl
    rw [e]
    unfold addPl
    cases hl : (plsOf P j).getLast? with
    | none =>
      have : plsOf P j = [] := List.getLast?_eq_none_iff.1 hl
      rw [this]; rfl
    | some y =>
      obtain ⟨f, m⟩ := y
      have := plsOf_in P j _ (List.mem_of_getLast? hl)
      simp only at this ⊢
      rw [if_neg (by omega)]
/-- The spans so far. -/
def madI (w : World) (P : Nat → Bool) (k n : Nat) (v : Value) (W : World) : Prop := Mod none_ w W ∧ W.ownsRow w.heap.size 49 2 v n (flat spCs (plsOf P k)) ∧ n = (plsOf P k).length

set_option maxHeartbeats 8000000 in
set_option maxRecDepth 1000000 in
theorem made_any (w : World) (g N cap : Nat) (bs : List Bool) (P : Nat → Bool) (h : Blk w g (bs.map Value.bool) 4) (hn : bs.length = N) (hP : ∀ i, i < N → bs[i]? = some (P i)) (hc : N ≤ cap) (hN : N ≤ 1099511627776) :
    Calls Tryz.prog 88 #[.slice (some ⟨g, 0, none⟩) N cap] w fun e w' => (∃ va n vc, e = .returned (.slice va n vc) ∧ w'.ownsRow w.heap.size 49 2 (.slice va n vc) n (flat spCs (plsOf P N))) ∧ Mod none_ w w' := by
  have H := Lib.hid h
  have HP := Lib.hid (show ∀ i, i < N → w.cell? ⟨g, i, none⟩ = some (.bool (P i)) from fun i hi => by
    rw [h.cell, List.getElem?_map, hP i hi]; rfl)
  clear h hP
  go_enter Tryz.func88, Tryz.ntmps88
  go_wp2_with fail
  go_loopg [3, 4] N (fun gg s3 s4 wx => ∃ (k n : Nat) (va : Option Addr) (vc : Nat), gg = N - k ∧ s3 = .slice va n vc ∧ s4 = .int .i64 k ∧ k ≤ N ∧ RowKit.Hid (madI w P k n (.slice va n vc) wx))
  case atStart => exact ⟨0, 0, none, 0, rfl, rfl, rfl, Nat.zero_le _, Lib.hid ⟨Mod.refl _ _, ⟨by simp [plsOf], .inl ⟨rfl, rfl⟩⟩, rfl⟩⟩
  case round =>
    obtain ⟨k, n, va, vc, rfl, rfl, rfl, hk, hst⟩ := hrel
    obtain ⟨mx, ho, hnn⟩ := hst.out
    by_cases hlk : k < N
    · have c0 := mx.cell (fun e => e) (HP.out k hlk)
      have hnk : n ≤ k := by rw [hnn]; exact plsOf_len P k
      cases hp : P k
      · rw [hp] at c0
        have FIN := Lib.hid (show madI w P (k + 1) n (.slice va n vc) wr from by
          have e : plsOf P (k + 1) = plsOf P k := by rw [plsOf, hp]; rfl
          unfold madI
          rw [e]
          exact ⟨mx, ho, hnn⟩)
        clear mx ho hnn hp hst
        go_wp2_with fail
        go_roundg (N - (k + 1))
        all_goals first
          | omega
          | exact ⟨k + 1, n, va, vc, rfl, rfl, by go_num, by omega, FIN⟩
      · rw [hp] at c0
        have hpl : plsOf P (k + 1) = addPl (plsOf P k) k := by rw [plsOf, hp]; rfl
        by_cases hb : k = 0 ∨ P (k - 1) = false
        · have hadd := plsOf_new hb
          obtain ⟨i0, hi0, hz0, hz1, hz2⟩ := info_parts infoSpan
          have mY : Mod none_ wr (wr.alloc (.cells #[.int .i64 (k : Int), .int .i64 1] 49)) := (Mod.refl none_ wr).alloc _
          have kY := Blk.new (w := wr) (cs := [.int .i64 (k : Int), .int .i64 1]) (t := 49)
          have hoY := ownsRow_mod ho mY (fun _ _ e => e)
          obtain ⟨v', w4, hrun, hown, hgrow, _⟩ := run_append_own (P := Tryz.prog) (wr.alloc (.cells #[.int .i64 (k : Int), .int .i64 1] 49)) w.heap.size 29 29 49 i0 _ 2 16 Tryz.underlying29 hi0 hz0 hz1 hz2 rfl (by decide) (.slice va n vc) n _ hoY ⟨wr.heap.size, 0, none⟩ 1 1 [.int .i64 (k : Int), .int .i64 1] rfl (World.news_of_block kY) (fun u hu => by simp at hu; rcases hu with rfl | rfl <;> rfl) (by unfold maxLen; omega) (by omega) (Nat.le_trans mx.size mY.size)
          obtain ⟨va', vc', rfl⟩ : ∃ va' vc', v' = .slice va' (n + 1) vc' := by
            rcases ownsRow_blk hown with ⟨_, h0, _⟩ | ⟨g', c', _, rfl, _⟩
            · omega
            · exact ⟨_, c', rfl⟩
          have mg : Mod (fun k' => (Value.slice va n vc).ownBlock = some k') (wr.alloc (.cells #[.int .i64 (k : Int), .int .i64 1] 49)) w4 := (Mod.refl _ _).grown hgrow (fun k e _ => e)
          have FIN := Lib.hid (show madI w P (k + 1) (n + 1) (.slice va' (n + 1) vc') w4 from by
            unfold madI
            rw [hpl, hadd]
            exact ⟨(mx.trans mY).transIn mg (fun b hb e => by have := (ho.lt b e).1; omega), by simpa using hown, by simp [hnn]⟩)
          have HRUN := Lib.hid hrun
          have HC1 := Lib.hid (show ∀ j, k = j + 1 → wr.cell? ⟨g, j, none⟩ = some (.bool (P j)) from fun j hj => mx.cell (fun e => e) (HP.out j (by omega)))
          clear hrun mx ho hnn hp hst hpl hadd hi0 hz0 hz1 hz2 mY kY hoY hown hgrow mg
          rcases Nat.eq_zero_or_pos k with hk0 | hk0
          · subst hk0
            have h2 := HRUN.out
            rw [show ((0 : Nat) : Int) = 0 from rfl] at h2
            have HRUN := Lib.hid h2
            clear h2
            go_wp2_with (at_builtin; refine Lib.wpList_append_run _ rfl (.tmp 35) (.tmp 38) 29 29 rfl _ _ rfl rfl _ _ HRUN.out ?_)
            go_roundg (N - 1)
            all_goals first
              | omega
              | exact ⟨1, n + 1, va', vc', rfl, rfl, by go_num, by omega, FIN⟩
          · obtain ⟨j, rfl⟩ : ∃ j, k = j + 1 := ⟨k - 1, by omega⟩
            have hpj : P j = false := by
              rcases hb with hb | hb
              · omega
              · simpa using hb
            have c1 := HC1.out j rfl
            rw [hpj] at c1
            have hwj : IntKind.i64.wrap ((j : Int) + 1 - 1) = (j : Int) := by rw [IntKind.wrap_i64]; omega
            have hjp : decide (0 < (j : Int) + 1) = true := by rw [decide_eq_true_eq]; omega
            clear hpj hb
            go_wp2_with (at_builtin; refine Lib.wpList_append_run _ rfl (.tmp 35) (.tmp 38) 29 29 rfl _ _ rfl rfl _ _ HRUN.out ?_)
            go_roundg (N - (j + 1 + 1))
            all_goals first
              | omega
              | exact ⟨j + 1 + 1, n + 1, va', vc', rfl, rfl, by go_num, by omega, FIN⟩
        · have hb1 : ¬ k = 0 := fun h => hb (.inl h)
          obtain ⟨j, rfl⟩ : ∃ j, k = j + 1 := ⟨k - 1, by omega⟩
          have hpj : P j = true := by
            cases h : P j with
            | true => rfl
            | false => exact absurd (.inr (by simpa using h)) hb
          obtain ⟨n1, f, m, hl1, hl2, hfm⟩ := plsOf_last hpj
          have hadd : addPl (plsOf P (j + 1)) (j + 1) = (plsOf P (j + 1)).dropLast ++ [(f, m + 1)] := by
            rw [addPl_some hl1 hl2, if_pos (by omega)]
          obtain rfl : n = n1 + 1 := by omega
          rcases ownsRow_blk ho with ⟨_, h0, _⟩ | ⟨g2, cap2, more, hsl, hgb, kg, hnc, hcm, hll⟩
          · omega
          obtain ⟨rfl, rfl⟩ : va = some ⟨g2, 0, none⟩ ∧ vc = cap2 := by simpa using hsl
          have hin := plsOf_in P (j + 1) _ (List.mem_of_getElem? hl2)
          simp only at hin
          have d1 : wr.cell? ⟨g2, n1 * 2 + 1, none⟩ = some (.int .i64 m) := Blk.elem spCs_len kg n1 1 _ hl2 (by decide)
          have r1 := kg.frozen (n1 * 2 + 1)
          have c1 := mx.cell (fun e => e) (HP.out j (by omega))
          rw [hpj] at c1
          have hwj : IntKind.i64.wrap ((j : Int) + 1 - 1) = (j : Int) := by rw [IntKind.wrap_i64]; omega
          have hjp : decide (0 < (j : Int) + 1) = true := by rw [decide_eq_true_eq]; omega
          have hix : ¬ ((n1 : Int) + 1 ≤ (n1 : Int)) := by omega
          have hwm : IntKind.i64.wrap (m + 1) = m + 1 := by rw [IntKind.wrap_i64]; omega
          have hwn : IntKind.i64.wrap ((n1 : Int) + 1 - 1) = (n1 : Int) := by rw [IntKind.wrap_i64]; omega
          have hcm' := hcm
          unfold maxLen at hcm'
          have mS : Mod (one g2) wr (wr.setCell ⟨g2, n1 * 2 + 1, none⟩ (.int .i64 (m + 1))) := (Mod.refl (one g2) wr).setCell ⟨g2, n1 * 2 + 1, none⟩ (fun _ => rfl) _
          have kg' := kg.set (n1 * 2 + 1) (.int .i64 (m + 1))
          rw [flat_more _ n1 f m hl1 hl2 more, ← hadd, ← hpl] at kg'
          have hL2 : (plsOf P (j + 1 + 1)).length = n1 + 1 := by rw [hpl, hadd]; simp [hl1]
          have FIN := Lib.hid (show madI w P (j + 1 + 1) (n1 + 1) (.slice (some ⟨g2, 0, none⟩) (n1 + 1) vc) (wr.setCell ⟨g2, n1 * 2 + 1, none⟩ (.int .i64 (m + 1))) from
            ⟨mx.transIn mS (fun b hb e => by have e' : b = g2 := e; omega), blk_ownsRow hgb kg' (by rw [flat_length spCs_len, hL2]) hnc hcm (by rw [flat_length spCs_len, hL2]; rw [flat_length spCs_len, hl1] at hll; exact hll), hL2.symm⟩)
          clear mx ho hnn hp hst hpl hadd hb hb1 hpj hl1 hl2 hfm hsl hgb kg hll mS kg' hL2 hin hcm
          go_wp2_with fail
          go_roundg (N - (j + 1 + 1))
          all_goals first
            | omega
            | exact ⟨j + 1 + 1, n1 + 1, _, vc, rfl, rfl, by go_num, by omega, FIN⟩
    · obtain rfl : k = N := by omega
      have HO := Lib.hid ho
      have MX := Lib.hid mx
      clear mx ho hnn hst
      go_wp2_with fail
      go_ret
      exact ⟨⟨va, n, vc, rfl, HO.out⟩, MX.out⟩
end Go.Proofs.YthicagfeaekmoaaGreatDoor

namespace Go.Proofs.YthicagfeaekmoaaGreatDoor
open Go.RowKit Go.Mine
open Classical

theorem marksOf_put (M : Nat → Bool) (i : Nat) (b : Bool) (hi : i < 20000) : (marksOf M).set i (.bool b) = marksOf (fun j => if j = i then b else M j) := by
  apply List.ext_getElem?
  intro j
  rw [List.getElem?_set, marksOf_len]
  by_cases hj : j < 20000
  · rw [marksOf_at M j hj, marksOf_at _ j hj]
    by_cases hij : i = j
    · rw [if_pos hij, if_pos hi]
      simp [hij]
    · rw [if_neg hij]
      have : ¬ j = i := fun h => hij h.symm
      simp [this]
  · have h1 : (marksOf M)[j]? = none := List.getElem?_eq_none (by rw [marksOf_len]; omega)
    have h2 : (marksOf (fun j => if j = i then b else M j))[j]? = none := List.getElem?_eq_none (by rw [marksOf_len]; omega)
    rw [h1, h2, if_neg (by omega)]
theorem plsOf_stop {P : Nat → Bool} {m : Nat} (h : ∀ j, m ≤ j → P j = false) : ∀ d, plsOf P (m + d) = plsOf P m
  | 0 => rfl
  | d + 1 => by rw [show m + (d + 1) = (m + d) + 1 by omega, plsOf, h (m + d) (by omega)]; exact plsOf_stop h d
theorem runP_far {l : List CellV} {i n : Int} {j : Nat} (h : l.length ≤ j) : runP l i n j = false := by
  unfold runP
  rw [List.getElem?_eq_none h]; rfl

end Go.Proofs.YthicagfeaekmoaaGreatDoor

namespace Go.Proofs.YthicagfeaekmoaaGreatDoor
open Go.RowKit Go.Mine
open Classical

set_option maxHeartbeats 8000000 in
set_option maxRecDepth 1000000 in
theorem rgone_any (w : World) (a : Option Addr) (len cap : Nat) (l : List CellV) (h : IsCells w a len cap l) (hl : len ≤ 20000) :
    Calls Tryz.prog 40 #[.slice a len cap] w fun e w' => (∃ va m vc, e = .returned (.slice va m vc) ∧ IsSpans w' va m vc (goneL l) ∧ ∀ b off, va = some ⟨b, off, none⟩ → 0 < m → w.heap.size ≤ b) ∧ Mine.Mod none_ w w' := by
  have hle := h.le
  have hcap := h.big
  unfold maxLen at hcap
  have H := Lib.hid h
  have HN := Lib.hid h.n
  clear h
  obtain ⟨P, hP⟩ : ∃ P : Nat → Bool, P = fun i => (l[i]?.map CellV.gone).getD false := ⟨_, rfl⟩
  have HP := Lib.hid hP
  have HPC := Lib.hid (show ∀ (k : Nat) (c : CellV), l[k]? = some c → P k = c.gone from fun k c hc => by rw [hP]; simp only [hc]; rfl)
  have HPF := Lib.hid (show ∀ j, len ≤ j → P j = false from fun j hj => by
    rw [hP]
    simp only
    rw [List.getElem?_eq_none (by rw [HN.out]; exact hj)]
    rfl)
  clear hP
  have hmk : ∀ w, (Instr.makeSlice 136 (.int .i64 20000) (.int .i64 20000)).run Tryz.prog w = .ok (.slice (some ⟨w.heap.size, 0, none⟩) 20000 20000) (w.alloc (.cells (madeCells #[.bool false] 20000) 4)) := fun w => by
    exact run_make_row' (P := Tryz.prog) 136 4 (.bool false) 1 Tryz.underlying136 (by kernel_rfl) rfl .i64 .i64 20000 (by decide) (by decide) w
  have kG := marksOf_made w
  have mG := (Mine.Mod.refl none_ w).alloc (.cells (madeCells #[.bool false] 20000) 4)
  obtain ⟨G, hG⟩ : ∃ G, G = w.heap.size := ⟨_, rfl⟩
  have hGw : w.heap.size ≤ G := by omega
  rw [← hG] at kG
  have KG := Lib.hid (show Blk (w.alloc (.cells (madeCells #[.bool false] 20000) 4)) G (marksOf (fun j => decide (j < 0) && P j)) 4 from by
    have e : (fun j => decide (j < 0) && P j) = hasPl [] := by funext j; simp [hasPl]
    rw [e]
    exact kG)
  have MG := Lib.hid mG
  clear kG mG
  go_enter Tryz.func40, Tryz.ntmps40
  go_upto_region 2 with fail
  rw [← hG]
  clear hG hmk
  generalize w.alloc (.cells (madeCells #[.bool false] 20000) 4) = w3 at KG MG ⊢
  go_wp2_with fail
  go_loopg [4] len (fun g s4 wx => ∃ (k : Nat), g = len - k ∧ s4 = .int .i64 k ∧ k ≤ len ∧ Mine.Mod none_ w wx ∧ RowKit.Hid (Blk wx G (marksOf (fun j => decide (j < k) && P j)) 4))
  case atStart => exact ⟨0, rfl, rfl, Nat.zero_le _, MG.out, KG⟩
  case round =>
    obtain ⟨k, rfl, rfl, hk, mx, hst⟩ := hrel
    have MX := Lib.hid mx
    have kx := hst.out
    by_cases hlk : k < len
    · obtain ⟨x, hx⟩ : ∃ x, l[k]? = some x := ⟨l[k]'(by rw [HN.out]; exact hlk), by simp⟩
      obtain ⟨b, off, rfl, hr⟩ := (H.out.grown mx).cells k x hx
      have c4 := hr 4 _ rfl
      have hpc := HPC.out k x hx
      have cG : wr.cell? ⟨G, k, none⟩ = some (.bool false) := by rw [kx.cell, marksOf_at _ k (by omega)]; simp
      have fG := kx.frozen k
      have kn := kx.set k (.bool x.gone)
      rw [marksOf_put _ k _ (by omega)] at kn
      have e2 : (fun j => if j = k then x.gone else (decide (j < k) && P j)) = fun j => decide (j < k + 1) && P j := by
        funext j
        by_cases hj : j = k
        · subst hj; simp [hpc]
        · have : (j < k) = (j < k + 1) := propext ⟨fun h => by omega, fun h => by omega⟩
          rw [if_neg hj]
          simp only [this]
      rw [e2] at kn
      have FIN := Lib.hid (And.intro (MX.out.setCell ⟨G, k, none⟩ (fun h => absurd h (by simp; omega)) (.bool x.gone)) kn)
      clear hr hx kx kn e2 hst mx hpc
      go_wp2_with fail
      go_roundg (len - (k + 1))
      all_goals first
        | omega
        | exact ⟨k + 1, rfl, by go_num, by omega, FIN.out.1, Lib.hid FIN.out.2⟩
    · obtain rfl : k = len := by omega
      have HMD := Lib.hid (made_any wr G 20000 20000 ((List.range 20000).map fun j => decide (j < k) && P j) P (by
          have := hst.out
          unfold marksOf at this
          rw [List.map_map]
          exact this) (by rw [List.length_map, List.length_range]) (fun j hj => by
          rw [List.getElem?_map, List.getElem?_range hj]
          by_cases hjk : j < k
          · simp [hjk]
          · have := HPF.out j (by omega)
            simp [hjk, this]) (by omega) (by omega))
      have hst' : plsOf P 20000 = goneL l := by
        have := plsOf_stop (P := P) (m := l.length) (fun j hj => HPF.out j (by rw [← HN.out]; exact hj)) (20000 - l.length)
        rw [show l.length + (20000 - l.length) = 20000 by rw [HN.out]; omega] at this
        rw [this, HP.out]
        rfl
      rw [hst'] at HMD
      clear hst mx hst' kx
      go_wp2_with fail
      refine HMD.out.mono ?_
      rintro e w4 ⟨⟨va, m, vc, rfl, ho⟩, m4⟩
      have hgl : (goneL l).length ≤ 20000 := by
        have := plsOf_len (fun i => (l[i]?.map CellV.gone).getD false) l.length
        unfold goneL
        have := HN.out
        omega
      have HO := Lib.hid (spans_owned (ownsRow_base ho MX.out.size) (goneL_ok (by rw [HN.out]; exact hl)) hgl)
      have M4 := Lib.hid (MX.out.trans m4)
      clear ho m4
      go_wp2_with fail
      go_ret
      exact ⟨⟨va, m, vc, rfl, HO.out.1, HO.out.2⟩, M4.out⟩
end Go.Proofs.YthicagfeaekmoaaGreatDoor

namespace Go.Proofs.YthicagfeaekmoaaGreatDoor
open Go.RowKit Go.Shelf Go.Mine

theorem encCs_cells (n : Nat) (h : Lib.validRune (n : Int) = true) : encCs n = Lib.runeCells (n : Int) := by
  obtain ⟨m, hm, hc⟩ := vR_cases h
  obtain rfl : n = m := by omega
  unfold encCs encR Lib.runeCells
  rcases hc with h1 | ⟨h0, h1⟩ | ⟨h0, h1, h2⟩ | ⟨h0, h1⟩
  · rw [if_pos h1, Lib.encodeRuneZ_one (by omega) (by omega)]
    rfl
  · rw [if_neg (by omega), if_pos h1, Lib.encodeRuneZ_two (by omega) (by omega)]
    simp
  · rw [if_neg (by omega), if_neg (by omega), if_pos h1, Lib.encodeRuneZ_three (by omega)]
    simp
  · rw [if_neg (by omega), if_neg (by omega), if_neg (by omega), Lib.encodeRuneZ_four (by omega) (by omega)]
    simp
theorem encR_len (n : Nat) (h : Lib.validRune (n : Int) = true) : (encR n).length = (Lib.runeCells (n : Int)).length := by
  rw [← encCs_cells n h, List.length_map]

/-- What the document's Join answers. -/
def rjoinV (l : List Int) : Value := if l.all Lib.validRune then .tuple #[.string ⟨(bytesOf l).toArray⟩, .bool true] else .tuple #[.string ⟨#[]⟩, .bool false]

set_option maxHeartbeats 4000000 in
set_option maxRecDepth 1000000 in
theorem rjoin_any (w : World) (a : Option Addr) (len cap : Nat) (l : List Int) (h : IsI32 w a len cap l) (hlen : len ≤ 1099511627776) :
    Calls Tryz.prog 94 #[.slice a len cap] w fun e w' => e = .returned (rjoinV l) ∧ Mine.Mod none_ w w' := by
  have hle := h.le
  have hbig := h.big
  unfold maxLen at hbig
  have H := Lib.hid h
  have HN := Lib.hid h.n
  obtain ⟨R, hR⟩ : ∃ R, R = rjoinV l := ⟨_, rfl⟩
  rw [← hR]
  have HR := Lib.hid hR
  clear h hR
  obtain ⟨i0, hi0, hz0, hz1, hz2⟩ := info_parts infoB
  have HI0 := Lib.hid hi0
  have HZ0 := Lib.hid hz0
  have HZ1 := Lib.hid hz1
  have HZ2 := Lib.hid hz2
  clear hi0 hz0 hz1 hz2
  go_enter Tryz.func94, Tryz.ntmps94
  go_wp2_with fail
  go_loopg [4, 5] len (fun g s4 s5 wx => ∃ k : Nat, g = len - k ∧ s5 = .int .i64 k ∧ k ≤ len ∧ Mine.Mod none_ w wx ∧ wx.ownsRow w.heap.size 5 1 s4 ((l.take k).flatMap Lib.runeCells).length ((l.take k).flatMap Lib.runeCells) ∧ RowKit.Hid ((l.take k).all Lib.validRune = true))
  case atStart => exact ⟨0, rfl, rfl, Nat.zero_le _, Mine.Mod.refl _ _, ⟨rfl, .inl ⟨rfl, rfl⟩⟩, Lib.hid rfl⟩
  case round =>
    obtain ⟨k, rfl, rfl, hk, m1, ho, hall⟩ := hrel
    have M1 := Lib.hid m1
    have O1 := Lib.hid ho
    by_cases hlk : k < len
    · obtain ⟨x, hx⟩ : ∃ x, l[k]? = some x := ⟨l[k]'(by rw [HN.out]; exact hlk), by simp⟩
      obtain ⟨b, off, rfl, c0⟩ := H.out.cells k _ hx
      have c0' := m1.cell (fun e => e) c0
      have htk : l.take (k + 1) = l.take k ++ [x] := by
        obtain ⟨hk', e⟩ := List.getElem?_eq_some_iff.1 hx
        rw [List.take_succ_eq_append_getElem hk', e]
      have hlb := block_lt_of_cell c0'
      have HT := Lib.hid htk
      have hfl := flat_len (l.take k)
      rw [List.length_take] at hfl
      have hfl2 : ((l.take k).flatMap Lib.runeCells).length + 4 ≤ 140737488355328 := by omega
      have hB : w.heap.size ≤ wr.heap.size := m1.size
      have HX := Lib.hid hx
      cases hv : Lib.validRune x
      · have HE := Lib.hid (show R = .tuple #[.string ⟨#[]⟩, .bool false] by
          rw [HR.out]; unfold rjoinV
          rw [if_neg]
          intro h
          rw [List.all_eq_true] at h
          have := h x (List.mem_of_getElem? HX.out)
          rw [hv] at this; cases this)
        clear c0 hx htk hfl m1 ho
        go_wp2_with fail
        refine (ris_any x wr).mono ?_
        rintro e w1 ⟨rfl, rfl⟩
        rw [hv]
        go_wp2_with fail
        go_ret2
        exact ⟨by rw [HE.out]; rfl, M1.out⟩
      · have hv2 := hv
        unfold Lib.validRune at hv2
        rw [decide_eq_true_eq] at hv2
        obtain ⟨n, rfl⟩ : ∃ n : Nat, x = n := ⟨x.toNat, by omega⟩
        have hn : n ≤ 1114111 := by omega
        have HNL := Lib.hid (encR_len n hv)
        have HNC := Lib.hid (encCs_cells n hv)
        have hel : (Lib.runeCells (n : Int)).length ≤ 4 := by
          have := enc_len (n : Int)
          have e : (Lib.runeCells (n : Int)).length = (Lib.encodeRuneZ (n : Int)).length := by unfold Lib.runeCells; simp
          omega
        clear hv2 c0 hx htk hfl m1 ho
        go_wp2_with fail
        refine (ris_any (n : Int) wr).mono ?_
        rintro e w1 ⟨rfl, rfl⟩
        rw [hv]
        go_wp2_with fail
        refine (rbytes_any n _ hn).mono ?_
        rintro e w2 ⟨⟨g, rfl, hgw, kg⟩, m2⟩
        have M2 := Lib.hid (M1.out.trans m2)
        have O2 := Lib.hid (ownsRow_mod O1.out m2 (fun _ _ e => e))
        have KG := Lib.hid kg
        have hsz2 := M2.out.size
        obtain ⟨nl, hnl⟩ : ∃ nl, nl = (encR n).length := ⟨_, rfl⟩
        have HNL2 := Lib.hid hnl
        have hnl4 : nl ≤ 4 := by rw [hnl, HNL.out]; exact hel
        rw [← hnl]
        clear m2 kg hnl
        go_wp2_with (at_builtin; refine wpList_append_own _ rfl (.tmp 18) (.tmp 23) 189 rfl w.heap.size 5 i0 _ 1 1 Tryz.underlying189 HI0.out HZ0.out HZ1.out HZ2.out rfl (by decide) _ _ _ rfl O2.out ⟨g, 0, none⟩ nl nl (encCs n) rfl (by rw [List.length_map, HNL2.out]; omega) (World.news_of_block KG.out) (fun u hu => by obtain ⟨z, _, rfl⟩ := List.mem_map.1 hu; rfl) (by unfold maxLen; omega) (by omega) (by omega) ?_; intro v' w5 ho5 hg5 _; have M5 := Lib.hid (M2.out.grown hg5 (fun j e hj => absurd hj (by have := (O2.out.lt j e).1; omega))); have O5 := Lib.hid ho5; clear ho5 hg5)
        go_roundg (len - (k + 1))
        case measure => omega
        case rel =>
          refine ⟨k + 1, rfl, by go_num, by omega, M5.out, ?_, Lib.hid ?_⟩
          · rw [HT.out, List.flatMap_append, List.length_append]
            have := O5.out
            rw [HNC.out] at this
            have e2 : ([((n : Nat) : Int)].flatMap Lib.runeCells) = Lib.runeCells (n : Int) := by simp
            rw [e2, ← HNL.out, ← HNL2.out]
            exact this
          · rw [HT.out, List.all_append, hall.out]; simp [hv]
    · obtain rfl : k = len := by omega
      have e : l.take k = l := List.take_of_length_le (by rw [HN.out]; omega)
      rw [e] at hall
      have HE := Lib.hid (show R = .tuple #[.string ⟨(bytesOf l).toArray⟩, .bool true] by
        rw [HR.out]; unfold rjoinV; rw [if_pos hall.out])
      have ho' := O1.out
      rw [e] at ho'
      have hbl : (bytesOf l).length = (l.flatMap Lib.runeCells).length := by rw [← bytesOf_cells l, List.length_map]
      rcases ownsRow_blk ho' with ⟨rfl, h0, _⟩ | ⟨g, cap2, more, rfl, _, hblk, _, _, _⟩
      · have hnil : bytesOf l = [] := List.eq_nil_of_length_eq_zero (by omega)
        have hcv := Lib.run_convert_nil_bytes (P := Tryz.prog) wr 189 9 5 0 Tryz.underlying189 Tryz.underlying5 Tryz.underlying9
        clear hall ho' O1 m1 ho hbl e
        go_wp2_with fail
        go_ret2
        exact ⟨by rw [HE.out, hnil]; rfl, M1.out⟩
      · have hcv : (convert 189 9 (.slice (some ⟨g, 0, none⟩) (l.flatMap Lib.runeCells).length cap2)).run Tryz.prog wr = .ok (.string ⟨(bytesOf l).toArray⟩) wr := by
          rw [← hbl]
          refine run_convert_bytes_back wr _ _ _ ⟨g, 0, none⟩ cap2 (bytesOf l) Tryz.underlying189 Tryz.underlying5 Tryz.underlying9 (fun j hj => ?_)
          have ea : (⟨g, 0, none⟩ : Addr).add j = ⟨g, j, none⟩ := by rw [Addr.add_lit, Nat.zero_add]
          rw [ea, hblk.cell, ← bytesOf_cells l, List.getElem?_append_left (by rw [List.length_map]; exact hj), List.getElem?_map, List.getElem?_eq_getElem hj]
          rfl
        clear hall ho' O1 m1 ho hbl e hblk
        generalize (l.flatMap Lib.runeCells).length = NN at hcv ⊢
        go_wp2_with fail
        go_ret2
        exact ⟨by rw [HE.out]; rfl, M1.out⟩

set_option maxHeartbeats 4000000 in
set_option maxRecDepth 1000000 in
theorem rtext_any (w : World) (a : Option Addr) (len cap : Nat) (l : List CellV) (h : IsCells w a len cap l) (hl : len ≤ 1099511627776) :
    Calls Tryz.prog 47 #[.slice a len cap] w fun e w' => e = .returned (.string (textB l)) ∧ Mine.Mod none_ w w' := by
  have hle := h.le
  have hcap := h.big
  unfold maxLen at hcap
  have H := Lib.hid h
  have HN := Lib.hid h.n
  obtain ⟨R, hR⟩ : ∃ R, R = textB l := ⟨_, rfl⟩
  rw [← hR]
  have HR := Lib.hid hR
  obtain ⟨i0, hi0, hz0, hz1, hz2⟩ := info_parts infoI32
  have HI0 := Lib.hid hi0
  have HZ0 := Lib.hid hz0
  have HZ1 := Lib.hid hz1
  have HZ2 := Lib.hid hz2
  clear h hR hi0 hz0 hz1 hz2
  go_enter Tryz.func47, Tryz.ntmps47
  go_wp2_with fail
  go_loopg [3, 4] len (fun g s3 s4 wx => ∃ (k n : Nat), g = len - k ∧ s4 = .int .i64 k ∧ k ≤ len ∧ n ≤ k ∧ Mine.Mod none_ w wx ∧ wx.ownsRow w.heap.size 21 1 s3 n (r32s (liveR (l.take k))))
  case atStart => exact ⟨0, 0, rfl, rfl, Nat.zero_le _, Nat.le_refl _, Mine.Mod.refl _ _, ⟨rfl, .inl ⟨rfl, rfl⟩⟩⟩
  case round =>
    obtain ⟨k, n, rfl, rfl, hk, hnk, mx, ho⟩ := hrel
    have MX := Lib.hid mx
    have OX := Lib.hid ho
    by_cases hlk : k < len
    · obtain ⟨c, hx⟩ : ∃ x, l[k]? = some x := ⟨l[k]'(by rw [HN.out]; exact hlk), by simp⟩
      obtain ⟨b, off, rfl, hr⟩ := (H.out.grown mx).cells k c hx
      have c2 := hr 3 _ rfl
      have c4 := hr 4 _ rfl
      have hlb := block_lt_of_cell c2
      have htk : l.take (k + 1) = l.take k ++ [c] := by
        obtain ⟨hk', e⟩ := List.getElem?_eq_some_iff.1 hx
        rw [List.take_succ_eq_append_getElem hk', e]
      have hs := liveR_snoc (l.take k) c
      rw [← htk] at hs
      have hB : w.heap.size ≤ wr.heap.size := mx.size
      cases hg : c.gone
      · rw [hg] at c4 hs
        have HS := Lib.hid hs
        clear hr mx hx ho htk hs hg
        go_wp2_with (at_builtin; refine wpList_append_own _ rfl (.tmp 19) (.tmp 25) 145 rfl w.heap.size 21 i0 _ 1 4 Tryz.underlying145 HI0.out HZ0.out HZ1.out HZ2.out rfl (by decide) _ _ _ rfl (OX.out.alloc _) ⟨wr.heap.size, 0, none⟩ 1 1 [.int .i32 c.r] rfl rfl (World.news_of_block (heap_alloc_new wr _)) (fun u hu => by rw [List.mem_singleton.1 hu]; rfl) (by unfold maxLen; omega) (by omega) (by rw [World.size_alloc]; omega) ?_; intro v' w5 ho5 hg5 _; have M5 := Lib.hid ((MX.out.alloc (.cells #[.int .i32 c.r] 21)).grown hg5 (fun j e hj => absurd hj (by have := (OX.out.lt j e).1; omega))); have O5 := Lib.hid ho5; clear ho5 hg5)
        go_roundg (len - (k + 1))
        case measure => omega
        case rel =>
          refine ⟨k + 1, n + 1, rfl, by go_num, by omega, by omega, M5.out, ?_⟩
          rw [HS.out]
          have := O5.out
          simpa [r32s] using this
      · rw [hg] at c4 hs
        have HS := Lib.hid hs
        clear hr mx hx ho htk hs hg
        go_wp2_with fail
        go_roundg (len - (k + 1))
        case measure => omega
        case rel =>
          refine ⟨k + 1, n, rfl, by go_num, by omega, by omega, MX.out, ?_⟩
          rw [HS.out]
          have := OX.out
          simpa [r32s] using this
    · obtain rfl : k = len := by omega
      have e : l.take k = l := List.take_of_length_le (by rw [HN.out]; omega)
      rw [e] at ho
      obtain ⟨va, vc, rfl⟩ : ∃ va vc, u3 = .slice va n vc := by
        rcases ownsRow_blk ho with ⟨h1, h2, _⟩ | ⟨g, cap, more, h1, _⟩
        · exact ⟨none, 0, by rw [h1, h2]⟩
        · exact ⟨_, _, h1⟩
      have hI := own_i32 ho (fun r hr => by
        unfold liveR at hr
        obtain ⟨c, hc, rfl⟩ := List.mem_map.1 hr
        exact (H.out.ok c (List.mem_filter.1 hc).1).i4)
      have HJ := Lib.hid (rjoin_any wr va n vc (liveR l) hI (by omega))
      obtain ⟨ok, hj⟩ : ∃ ok, rjoinV (liveR l) = .tuple #[.string R, .bool ok] := by
        rw [HR.out]
        unfold rjoinV textB
        split
        · exact ⟨true, rfl⟩
        · exact ⟨false, rfl⟩
      rw [hj] at HJ
      clear mx ho hj hI OX e
      go_wp2_with fail
      refine HJ.out.mono ?_
      rintro e w1 ⟨rfl, m1⟩
      have M1 := Lib.hid (MX.out.trans m1)
      clear m1
      go_wp2_with fail
      go_ret
      exact ⟨rfl, M1.out⟩
end Go.Proofs.YthicagfeaekmoaaGreatDoor

namespace Go.Proofs.YthicagfeaekmoaaGreatDoor
open Go.RowKit Go.Mine

set_option maxHeartbeats 4000000 in
set_option maxRecDepth 1000000 in
theorem same_cells (w : World) (a b : Option Addr) (n c d : Nat) (l : List CellV) (ha : IsCells w a n c l) (hb : IsCells w b n d l) :
    Calls Tryz.prog 34 #[.slice a n c, .slice b n d] w fun e w' => e = .returned (.bool true) ∧ Mod none_ w w' := by
  have hale := ha.le
  have habig := ha.big
  have hbbig := hb.big
  unfold maxLen at habig hbbig
  have HA := Lib.hid ha
  have HB := Lib.hid hb
  have hble := hb.le
  clear ha hb
  go_enter Tryz.func34, Tryz.ntmps34
  go_wp2_with fail
  go_loopg [5] n (fun g s5 wx => ∃ k : Nat, g = n - k ∧ s5 = .int .i64 k ∧ k ≤ n ∧ Mod none_ w wx)
  case atStart => exact ⟨0, rfl, rfl, Nat.zero_le _, Mod.refl _ _⟩
  case round =>
    obtain ⟨k, rfl, rfl, hk, mx⟩ := hrel
    have MX := Lib.hid mx
    by_cases hlk : k < n
    · obtain ⟨x, hx⟩ : ∃ x, l[k]? = some x := ⟨l[k]'(by rw [HA.out.n]; exact hlk), by simp⟩
      obtain ⟨b1, o1, rfl, hr1⟩ := (HA.out.grown mx).cells k x hx
      obtain ⟨b2, o2, rfl, hr2⟩ := (HB.out.grown mx).cells k x hx
      have c0 := hr1 0 _ rfl
      have c1 := hr1 1 _ rfl
      have c2 := hr1 2 _ rfl
      have c3 := hr1 3 _ rfl
      have c4 := hr1 4 _ rfl
      have d0 := hr2 0 _ rfl
      have d1 := hr2 1 _ rfl
      have d2 := hr2 2 _ rfl
      have d3 := hr2 3 _ rfl
      have d4 := hr2 4 _ rfl
      rw [Nat.add_zero] at c0 d0
      clear hr1 hr2 hx mx
      go_upto_region 6 with fail
      go_quiet (fail)
      have MQ := Lib.hid (MX.out.drewN nq)
      generalize wr.drewN nq = wq at MQ ⊢
      clear c0 c1 c2 c3 c4 d0 d1 d2 d3 d4
      go_wp2_with fail
      go_roundg (n - (k + 1))
      all_goals first
        | omega
        | exact ⟨k + 1, rfl, by go_num, by omega, MQ.out⟩
    · obtain rfl : k = n := by omega
      clear mx
      go_wp2_with fail
      go_ret
      exact ⟨rfl, MX.out⟩
end Go.Proofs.YthicagfeaekmoaaGreatDoor

namespace Go.Proofs.YthicagfeaekmoaaGreatDoor
open Go.RowKit Go.Mine

set_option maxHeartbeats 4000000 in
set_option maxRecDepth 1000000 in
theorem same_spans (w : World) (a b : Option Addr) (n c d : Nat) (l : List (Int × Int)) (ha : IsSpans w a n c l) (hb : IsSpans w b n d l) :
    Calls Tryz.prog 49 #[.slice a n c, .slice b n d] w fun e w' => e = .returned (.bool true) ∧ Mod none_ w w' := by
  have hale := ha.le
  have habig := ha.big
  have hbbig := hb.big
  unfold maxLen at habig hbbig
  have HA := Lib.hid ha
  have HB := Lib.hid hb
  have hble := hb.le
  clear ha hb
  go_enter Tryz.func49, Tryz.ntmps49
  go_wp2_with fail
  go_loopg [5] n (fun g s5 wx => ∃ k : Nat, g = n - k ∧ s5 = .int .i64 k ∧ k ≤ n ∧ Mod none_ w wx)
  case atStart => exact ⟨0, rfl, rfl, Nat.zero_le _, Mod.refl _ _⟩
  case round =>
    obtain ⟨k, rfl, rfl, hk, mx⟩ := hrel
    have MX := Lib.hid mx
    by_cases hlk : k < n
    · obtain ⟨x, hx⟩ : ∃ x, l[k]? = some x := ⟨l[k]'(by rw [HA.out.n]; exact hlk), by simp⟩
      obtain ⟨b1, o1, rfl, c0, c1⟩ := (HA.out.grown mx).cells k x hx
      obtain ⟨b2, o2, rfl, d0, d1⟩ := (HB.out.grown mx).cells k x hx
      clear hx mx
      go_upto_region 6 with fail
      go_quiet (fail)
      have MQ := Lib.hid (MX.out.drewN nq)
      generalize wr.drewN nq = wq at MQ ⊢
      clear c0 c1 d0 d1
      go_wp2_with fail
      go_roundg (n - (k + 1))
      all_goals first
        | omega
        | exact ⟨k + 1, rfl, by go_num, by omega, MQ.out⟩
    · obtain rfl : k = n := by omega
      clear mx
      go_wp2_with fail
      go_ret
      exact ⟨rfl, MX.out⟩
end Go.Proofs.YthicagfeaekmoaaGreatDoor

namespace Go.Proofs.YthicagfeaekmoaaGreatDoor
open Go.RowKit Go.Shelf Go.Mine
attribute [local go_sem] Oper.semAt_some

def hitB (s q f : Int) (c : CellV) : Bool := c.site == s && c.seq == q && c.off == f
def findV (s q f : Int) (l : List CellV) : Value := match l.findIdx? (hitB s q f) with
  | some p => .tuple #[.int .i64 (p : Int), .bool true]
  | none => .tuple #[.int .i64 0, .bool false]
def fndI (w : World) (D MB : Nat) (v : Value) (bl : List BV) (s q f : Int) (st : Nat) (W : World) : Prop :=
  Mod none_ w W ∧ DocV W D v MB bl ∧ Blk W w.heap.size [.int .i64 s, .int .i64 q] 28 ∧ Blk W (w.heap.size + 1) [.int .i64 f] 3 ∧ Blk W (w.heap.size + 2) [.int .i64 0] 3 ∧ Blk W (w.heap.size + 3) [.bool false] 4 ∧ Blk W (w.heap.size + 4) [.pointer (some ⟨D, 0, none⟩)] 79 ∧ ∀ c ∈ (cellsOf bl).take st, hitB s q f c = false

end Go.Proofs.YthicagfeaekmoaaGreatDoor

namespace Go.Proofs.YthicagfeaekmoaaGreatDoor
open Go.RowKit Go.Mine
open Classical

theorem behind.find {s q f p : Int} {l : List CellV} (h : behind s q f l p) (hn : (l.map CellV.id).Nodup) : findV s q f l = .tuple #[.int .i64 (p - 1), .bool true] := by
  obtain ⟨i, c, hc, h1, h2, h3, hp⟩ := h
  obtain ⟨hi, e⟩ := List.getElem?_eq_some_iff.1 hc
  have : l.findIdx? (hitB s q f) = some i := by
    rw [List.findIdx?_eq_some_iff_getElem]
    refine ⟨hi, by rw [e]; unfold hitB; simp [h1, h2, h3], fun j hj hb => ?_⟩
    unfold List.Nodup at hn
    rw [List.pairwise_iff_getElem] at hn
    refine hn j i (by simp; omega) (by simpa using hi) hj ?_
    unfold hitB at hb
    simp at hb
    simp [CellV.id, e, h1, h2, h3, hb]
  unfold findV
  rw [this]
  simp [hp]

/-- What Do leaves of it. -/
structure StaD (w : World) (E : Nat → Prop) (wx : World) (D KM KN : Nat) (s q f p : Int) (L' : List CellV) (w' : World) : Prop where
  m : Mod none_ w w'
  doc : ∃ S, DocS w' S D L' ∧ ∀ k, S k → w.heap.size ≤ k ∧ ¬ E k
  sz : wx.heap.size ≤ w'.heap.size
  bs : ∀ (b : Nat) (cs : List Value) (t : TypeId), E b → Blk wx b cs t → Blk w' b cs t
  cl : Cl L'
end Go.Proofs.YthicagfeaekmoaaGreatDoor

namespace Go.Proofs.YthicagfeaekmoaaGreatDoor
open Go.RowKit Go.Mine Go.Deep
open Classical

/-- A document of cells L, made since w, and cells M in memory that the document does not touch. -/
structure CplI (w : World) (E : Nat → Prop) (wx : World) (D : Nat) (ma : Option Addr) (mn mc : Nat) (L M : List CellV) : Prop where
  p : DocP w E wx D L
  c : IsCells wx ma mn mc M
  kp : ∀ b off t, ma = some ⟨b, off, t⟩ → 0 < mn → b < w.heap.size ∨ E b
theorem CplI.grown {w wx wy : World} {E : Nat → Prop} {D mn mc : Nat} {ma : Option Addr} {L M : List CellV} (h : CplI w E wx D ma mn mc L M) (m : Mine.Mod none_ wx wy) : CplI w E wy D ma mn mc L M :=
  ⟨h.p.grown m, h.c.grown m, h.kp⟩
/-- Another list of cells. -/
theorem CplI.next {w wx wy : World} {E : Nat → Prop} {D mn mc n vc : Nat} {ma va : Option Addr} {L M M' : List CellV} (h : CplI w E wx D ma mn mc L M) (m : Mine.Mod none_ wx wy) (hc : IsCells wy va n vc M') (hn : newAt wx ma mn va n) :
    ∃ E', CplI w E' wy D va n vc L M' := by
  refine ⟨_, h.p.box m, hc, fun b off t e h0 => ?_⟩
  rcases hn with ⟨rfl, rfl⟩ | hn
  · rcases h.kp b off t e h0 with h1 | h1
    · exact .inl h1
    · exact .inr (.inl h1)
  · refine .inr (.inr ⟨hn b off t e h0, ?_⟩)
    obtain ⟨x, hx⟩ : ∃ x, M'[0]? = some x := ⟨M'[0]'(by rw [hc.n]; exact h0), by simp⟩
    obtain ⟨b2, off2, e2, hr⟩ := hc.cells 0 x hx
    rw [e] at e2
    cases e2
    exact block_lt_of_cell (hr 0 _ rfl)
/-- An act of the document. -/
theorem CplI.act {w wx wy : World} {E : Nat → Prop} {D mn mc : Nat} {ma : Option Addr} {L L' M : List CellV} (h : CplI w E wx D ma mn mc L M) (q : DocQ w E wx D L' wy) : CplI w E wy D ma mn mc L' M := by
  refine ⟨q.p, ⟨h.c.n, h.c.le, h.c.big, h.c.ok, fun i x hx => ?_⟩, h.kp⟩
  obtain ⟨b, off, e, hr⟩ := h.c.cells i x hx
  refine ⟨b, off, e, fun j v hj => ?_⟩
  have h0 : 0 < mn := by
    have := (List.getElem?_eq_some_iff.1 hx).1
    rw [h.c.n] at this
    omega
  have hc := hr j v hj
  rcases h.kp b off none e h0 with h1 | h1
  · have e1 := h.p.f.m.block b h1 (fun e => e)
    have e2 := q.p.f.m.block b h1 (fun e => e)
    have e3 : wy.cell? ⟨b, off + i * 5 + j, none⟩ = wx.cell? ⟨b, off + i * 5 + j, none⟩ := World.cell?_of_block (e2.trans e1.symm)
    rw [e3]
    exact hc
  · exact q.mo.cell (fun hne => hne h1) hc

set_option maxHeartbeats 16000000 in
set_option maxRecDepth 1000000 in
theorem cellsPlays_any (w : World) (ca : Option Addr) (clen ccap : Nat) (l : List CellV) (hc : IsCells w ca clen ccap l) (aa : Option Addr) (alen acap : Nat) (acts : List ActV) (ha : IsActs w aa alen acap acts) :
    Calls Tryz.prog 7 #[.slice ca clen ccap, .slice aa alen acap] w fun e w' => e = .returned (.bool true) ∧ Mine.Mod none_ w w' := by
  have hale := ha.le
  have habig := ha.big
  unfold maxLen at habig
  have HC := Lib.hid hc
  have HA := Lib.hid ha
  have HAN := Lib.hid ha.n
  clear hc ha
  go_enter Tryz.func7, Tryz.ntmps7
  go_wp2_with fail
  refine (alive12_any w).mono ?_
  rintro e w1 ⟨rfl, m1⟩
  have M1 := Lib.hid m1
  have HG := Lib.hid (great_acts w1 ca clen ccap HC.out.le HC.out.big aa alen acap acts (HA.out.grown M1.out))
  clear m1
  go_wp2_with fail
  refine HG.out.mono ?_
  rintro e w2 ⟨rfl, m2⟩
  have M2 := Lib.hid (M1.out.trans m2)
  clear m2 HG M1
  cases hg : greatB clen acts
  case true =>
    go_wp2_with fail
    go_ret
    exact ⟨rfl, M2.out⟩
  have HGB := Lib.hid hg
  have hcl : clen ≤ 250 := by unfold greatB at hg; simp at hg; omega
  have hal : alen ≤ 25 := by have := HAN.out; unfold greatB at hg; simp at hg; omega
  clear hg
  have HN := Lib.hid (new_any w2 ca clen ccap l (HC.out.grown M2.out) (by omega))
  go_wp2_with fail
  refine HN.out.mono ?_
  rintro e w3 ⟨m3, hbad, hgood⟩
  have M3 := Lib.hid (M2.out.trans m3)
  have HMY := Lib.hid (rmayDoc_any w3 ca clen ccap l (HC.out.grown M3.out) (by omega))
  by_cases hne0 : ¬ newE l = 0
  · have hne := hne0
    obtain ⟨E, hE⟩ : ∃ E, E = newE l := ⟨_, rfl⟩
    rw [hbad hne, ← hE]
    rw [← hE] at hne HMY
    have hne2 : (E == 0) = false := by simpa using hne
    have hne3 : (E != 0) = true := by simpa using hne
    clear hE hbad hgood m3 HN hne0
    go_wp2_with fail
    refine HMY.out.mono ?_
    rintro e w4 ⟨rfl, m4⟩
    have M4 := Lib.hid (M3.out.trans m4)
    clear m4
    go_wp2_with fail
    go_ret
    exact ⟨rfl, M4.out⟩
  have hne : newE l = 0 := Classical.not_not.1 hne0
  clear hne0
  obtain ⟨D, rfl, hdoc⟩ := hgood hne
  rw [hne] at HMY
  obtain ⟨E, hE⟩ : ∃ E : Nat → Prop, E = fun _ => False := ⟨_, rfl⟩
  have hP3 : DocP w E w3 D l := by
    have hlen : l.length ≤ 20000 := by rw [HC.out.n]; omega
    refine ⟨⟨M3.out, ⟨_, hdoc.s, fun k hk => ⟨Nat.le_trans M2.out.size hk, fun e => ?_⟩⟩, fun k hk => ?_, Cl.new hne HC.out.ok hlen⟩, Good.of hne HC.out.ok hlen⟩
    · rw [hE] at e
      exact e
    · rw [hE] at hk
      exact hk.elim
  have P3 := Lib.hid (show CplI w E w3 D ca clen ccap l l from ⟨hP3, HC.out.grown M3.out, fun b off t e h0 => by
    obtain ⟨x, hx⟩ : ∃ x, l[0]? = some x := ⟨l[0]'(by rw [HC.out.n]; exact h0), by simp⟩
    obtain ⟨b2, off2, e2, hr⟩ := HC.out.cells 0 x hx
    rw [e] at e2
    cases e2
    exact .inl (block_lt_of_cell (hr 0 _ rfl))⟩)
  clear hdoc hne hbad hgood m3 HN hP3 hE M3
  go_wp2_with fail
  refine HMY.out.mono ?_
  rintro e w4 ⟨rfl, m4⟩
  have P4 := Lib.hid (P3.out.grown m4)
  clear m4 HMY P3
  go_wp2_with fail
  go_loopg [7, 8] alen (fun g s7 s8 wx => ∃ (k : Nat) (ma : Option Addr) (mn mc : Nat) (L : List CellV) (E : Nat → Prop), g = alen - k ∧ s7 = .slice ma mn mc ∧ s8 = .int .i64 k ∧ k ≤ alen ∧ RowKit.Hid (CplI w E wx D ma mn mc L L))
  case atStart => exact ⟨0, ca, clen, ccap, l, E, rfl, rfl, rfl, Nat.zero_le _, P4⟩
  case round =>
    obtain ⟨k, ma, mn, mc, L, E2, rfl, rfl, rfl, hk, hst⟩ := hrel
    by_cases hlk : k < alen
    · obtain ⟨x, hx⟩ : ∃ x, acts[k]? = some x := ⟨acts[k]'(by rw [HAN.out]; exact hlk), by simp⟩
      have HX := Lib.hid hx
      have hmem := List.mem_of_getElem? hx
      have hbig : bigOp x.o = false := by
        have h := HGB.out
        unfold greatB at h
        simp only [Bool.or_eq_false_iff] at h
        have := List.any_eq_false.1 h.2 x hmem
        simpa using this
      have hsz : x.o.text.size ≤ 1000 := by unfold bigOp at hbig; simp at hbig; omega
      have hok : x.o.ok w x.sp := (HA.out.ok x hmem).1.ok (by omega)
      have HOK := Lib.hid hok
      have hkk := (HA.out.ok x hmem).2
      have HKK := Lib.hid hkk
      have HAX := HA.out.grown hst.out.p.f.m
      obtain ⟨b, off, rfl, hk0, hr0⟩ := HAX.acts k x hx
      have hr := act_cell hk0 hr0
      have c0 := hr 0 _ rfl
      have c1 := hr 1 _ rfl
      have c2 := hr 2 _ rfl
      have c3 := hr 3 _ rfl
      have c4 := hr 4 _ rfl
      have c5 := hr 5 _ rfl
      have c6 := hr 6 _ rfl
      have c7 := hr 7 _ rfl
      rw [Nat.add_zero] at c0
      have hLn := hst.out.c.n
      have hLb := hst.out.p.f.cl.big
      have hmle := hst.out.c.le
      have hmbig := hst.out.c.big
      unfold maxLen at hmbig
      have hmn : mn ≤ 20000 := by omega
      have HLN := Lib.hid hLn
      obtain ⟨r, hr5⟩ : ∃ r, r = x.k % 5 := ⟨_, rfl⟩
      have HR := Lib.hid hr5
      obtain ⟨EE, hEE⟩ : ∃ EE, EE = actE x L := ⟨_, rfl⟩
      have HEE := Lib.hid hEE
      clear hr hx HAX hmem hbig hok hk0 hr0 hLn hr5 hEE
      go_upto_block 2 with fail
      rw [← HR.out]
      go_cut [7, 9] from 34 to 121 (fun s7 s9 wx => ∃ (ma' : Option Addr) (mn' mc' : Nat) (E' : Nat → Prop), s7 = .slice ma' mn' mc' ∧ s9 = .int .i64 EE ∧ RowKit.Hid (CplI w E' wx D ma' mn' mc' L (actL x L)))
      case first =>
        by_cases h3 : r = 3
        · have hb3 : (r == 3) = true := by simpa using h3
          have HE := Lib.hid (show EE = dropE x.sp L by rw [HEE.out]; unfold actE; rw [if_pos (by rw [← HR.out]; exact h3)])
          have HL := Lib.hid (show actL x L = dropL x.sp L by unfold actL; rw [if_pos (by rw [← HR.out]; exact h3)])
          have HDR := Lib.hid (rdrop_any wr ma mn mc L hst.out.c x.o.sa x.o.slen x.o.scap x.sp (HOK.out.sp.grown hst.out.p.f.m) hmn)
          clear h3
          go_wp2_with fail
          refine HDR.out.mono ?_
          rintro e w8 ⟨⟨va, n, vc, rfl, hcs, hnw⟩, m8⟩
          obtain ⟨E8, h8⟩ := hst.out.next m8 hcs hnw
          rw [← HE.out]
          rw [← HL.out] at h8
          have H8 := Lib.hid h8
          clear hcs hnw m8 h8 HDR hst
          go_wp2_with fail
          go_meet
          all_goals exact ⟨va, n, vc, E8, rfl, rfl, H8⟩
        have hb3 : (r == 3) = false := by simpa using h3
        by_cases h4 : r = 4
        · have hb4 : (r == 4) = true := by simpa using h4
          have HE := Lib.hid (show EE = dropE (goneL L) L by rw [HEE.out]; unfold actE; rw [if_neg (by rw [← HR.out]; exact h3), if_pos (by rw [← HR.out]; exact h4)])
          have HL := Lib.hid (show actL x L = dropL (goneL L) L by unfold actL; rw [if_neg (by rw [← HR.out]; exact h3), if_pos (by rw [← HR.out]; exact h4)])
          have HGN := Lib.hid (rgone_any wr ma mn mc L hst.out.c hmn)
          clear h3 h4
          go_wp2_with fail
          refine HGN.out.mono ?_
          rintro e w7 ⟨⟨ga, gm, gc, rfl, hgs, _⟩, m7⟩
          have HDR := Lib.hid (rdrop_any w7 ma mn mc L (hst.out.c.grown m7) ga gm gc (goneL L) hgs hmn)
          have S7 := Lib.hid (hst.out.grown m7)
          clear hgs m7 hst HGN
          go_wp2_with fail
          refine HDR.out.mono ?_
          rintro e w8 ⟨⟨va, n, vc, rfl, hcs, hnw⟩, m8⟩
          obtain ⟨E8, h8⟩ := S7.out.next m8 hcs hnw
          rw [← HE.out]
          rw [← HL.out] at h8
          have H8 := Lib.hid h8
          clear hcs hnw m8 h8 HDR S7
          go_wp2_with fail
          go_meet
          all_goals exact ⟨va, n, vc, E8, rfl, rfl, H8⟩
        have hb4 : (r == 4) = false := by simpa using h4
        have HE := Lib.hid (show EE = doE x.o x.sp L by rw [HEE.out]; unfold actE; rw [if_neg (by rw [← HR.out]; exact h3), if_neg (by rw [← HR.out]; exact h4)])
        have HL := Lib.hid (show actL x L = doL x.o x.sp L by unfold actL; rw [if_neg (by rw [← HR.out]; exact h3), if_neg (by rw [← HR.out]; exact h4)])
        have HDO := Lib.hid (rdo_any wr ma mn mc L hst.out.c x.o x.sp (HOK.out.grown hst.out.p.f.m) hmn (by omega))
        clear h3 h4
        go_wp2_with fail
        refine HDO.out.mono ?_
        rintro e w8 ⟨⟨va, n, vc, rfl, hcs, hnw⟩, m8⟩
        obtain ⟨E8, h8⟩ := hst.out.next m8 hcs hnw
        rw [← HE.out]
        rw [← HL.out] at h8
        have H8 := Lib.hid h8
        clear hcs hnw m8 h8 HDO hst
        go_wp2_with fail
        go_meet
        all_goals exact ⟨va, n, vc, E8, rfl, rfl, H8⟩
      case rest =>
        obtain ⟨ma', mn', mc', E', rfl, rfl, hcut⟩ := hcut
        obtain ⟨L', hL'⟩ : ∃ L', L' = actL x L := ⟨_, rfl⟩
        rw [← hL'] at hcut
        have HL' := Lib.hid hL'
        obtain ⟨wa, rfl⟩ : ∃ wa, wa = wc := ⟨_, rfl⟩
        have HAX := HA.out.grown hcut.out.p.f.m
        obtain ⟨b2, off2, hbe, hk0, hr0⟩ := HAX.acts k x HX.out
        obtain ⟨rfl, rfl⟩ : b = b2 ∧ off = off2 := by simpa using hbe
        have hr := act_cell hk0 hr0
        have d0 := hr 0 _ rfl
        have d1 := hr 1 _ rfl
        have d2 := hr 2 _ rfl
        have d3 := hr 3 _ rfl
        have d4 := hr 4 _ rfl
        have d5 := hr 5 _ rfl
        have d6 := hr 6 _ rfl
        have d7 := hr 7 _ rfl
        rw [Nat.add_zero] at d0
        have HACT := Lib.hid (hcut.out.p.act x HOK.out (by omega) HKK.out)
        rw [← HEE.out, ← HL'.out] at HACT
        obtain rfl : mn' = L'.length := hcut.out.c.n.symm
        clear hr HAX hbe hk0 hr0 hL' hst c0 c1 c2 c3 c4 c5 c6 c7
        go_wp2_with fail
        refine HACT.out.mono ?_
        rintro e w8 ⟨rfl, hQ⟩
        have I8 := Lib.hid (hcut.out.act hQ)
        have hLb2 := hQ.p.f.cl.big
        have hmle2 := hcut.out.c.le
        have hmbig2 := hcut.out.c.big
        unfold maxLen at hmbig2
        have HSZ := Lib.hid (size_any w8 0 D L' I8.out.p.f.is (by omega))
        clear hQ hcut HACT d0 d1 d2 d3 d4 d5 d6 d7
        go_wp2_with fail
        refine HSZ.out.mono ?_
        rintro e w9 ⟨rfl, m9⟩
        have I9 := Lib.hid (I8.out.grown m9)
        have HLV := Lib.hid (live_any w9 0 D L' I9.out.p.f.is (by omega))
        clear m9 I8 HSZ
        go_wp2_with fail
        refine HLV.out.mono ?_
        rintro e w10 ⟨rfl, m10⟩
        have I10 := Lib.hid (I9.out.grown m10)
        have HRL := Lib.hid (rlive_any w10 ma' L'.length mc' L' I10.out.c)
        clear m10 I9 HLV
        go_wp2_with fail
        refine HRL.out.mono ?_
        rintro e w11 ⟨rfl, m11⟩
        have I11 := Lib.hid (I10.out.grown m11)
        have HTX := I11.out.p.text
        obtain ⟨T, hT⟩ : ∃ T, T = textB L' := ⟨_, rfl⟩
        rw [← hT] at HTX
        have HTX := Lib.hid HTX
        have HTE := Lib.hid hT
        clear m11 I10 HRL hT
        go_wp2_with fail
        refine HTX.out.mono ?_
        rintro e w12 ⟨rfl, m12⟩
        have I12 := Lib.hid (I11.out.grown m12)
        have HRT := rtext_any w12 ma' L'.length mc' L' I12.out.c (by omega)
        rw [← HTE.out] at HRT
        have HRT := Lib.hid HRT
        clear m12 I11 HTX
        go_wp2_with fail
        refine HRT.out.mono ?_
        rintro e w13 ⟨rfl, m13⟩
        have I13 := Lib.hid (I12.out.grown m13)
        have HCE := Lib.hid I13.out.p.cells
        clear m13 I12 HRT
        go_wp2_with fail
        refine HCE.out.mono ?_
        rintro e w14 ⟨⟨va, vc, rfl, hm⟩, m14⟩
        have I14 := Lib.hid (I13.out.grown m14)
        have HSM := Lib.hid (same_cells w14 va ma' L'.length vc mc' L' hm I14.out.c)
        clear m14 I13 HCE hm
        go_wp2_with fail
        refine HSM.out.mono ?_
        rintro e w15 ⟨rfl, m15⟩
        have I15 := Lib.hid (I14.out.grown m15)
        have HGO := Lib.hid I15.out.p.gone
        clear m15 I14 HSM
        go_wp2_with fail
        refine HGO.out.mono ?_
        rintro e w16 ⟨⟨ga, gm, gc, rfl, hgs, _⟩, m16⟩
        have I16 := Lib.hid (I15.out.grown m16)
        have HGS := Lib.hid hgs
        have HRG := Lib.hid (rgone_any w16 ma' L'.length mc' L' I16.out.c hLb2)
        clear m16 I15 HGO hgs
        go_wp2_with fail
        refine HRG.out.mono ?_
        rintro e w17 ⟨⟨ga2, gm2, gc2, rfl, hgs2, _⟩, m17⟩
        have I17 := Lib.hid (I16.out.grown m17)
        obtain rfl : gm2 = gm := hgs2.n.symm.trans HGS.out.n
        have HSS := Lib.hid (same_spans w17 ga ga2 gm2 gc gc2 (goneL L') (HGS.out.grown m17) hgs2)
        clear m17 I16 HRG hgs2 HGS
        go_wp2_with fail
        refine HSS.out.mono ?_
        rintro e w18 ⟨rfl, m18⟩
        have I18 := Lib.hid (I17.out.grown m18)
        clear m18 I17 HSS
        go_wp2_with fail
        go_roundg (alen - (k + 1))
        all_goals first
          | omega
          | exact ⟨k + 1, ma', L'.length, mc', L', E', rfl, rfl, by go_num, by omega, I18⟩
    · obtain rfl : k = alen := by omega
      have MF := Lib.hid hst.out.p.f.m
      clear hst
      go_wp2_with fail
      go_ret
      exact ⟨rfl, MF.out⟩
end Go.Proofs.YthicagfeaekmoaaGreatDoor

namespace Go.Proofs.YthicagfeaekmoaaGreatDoor
open Go.ChangeShapes Go.WideShapes Go.ChangeAt Go.RowKit Go.Mine Go.Deep

theorem Tryz.own5 : ownKnob Tryz.prog.godebug = none := by kernel_rfl
theorem Tryz.laidOut5 : laidOutB Tryz.prog = true := by kernel_rfl

theorem accept_eq : (Rows.laid_unicode_utf8_acceptRanges : DataW Unit) = Lib.acceptData := by kernel_rfl
theorem u8types : U8Types Tryz.prog Tryz.lays197_ren := { Tryz.lays197 with }
theorem tabs_of {W : World} (h : laidMetH Tryz.prog [("unicode/utf8.acceptRanges", Rows.laid_unicode_utf8_acceptRanges), ("unicode/utf8.first", Rows.laid_unicode_utf8_first)] W) : tabsOk W := by
  rw [MakeChecks.laidMetH_plain _ _ _ (by kernel_rfl)] at h
  have h4 := Lib.laidMet.reads h (n := "unicode/utf8.acceptRanges") (.head _)
  have h3 := Lib.laidMet.reads h (n := "unicode/utf8.first") (.tail _ (.head _))
  rw [accept_eq] at h4
  have h3' : Lib.VarReads Tryz.prog W "unicode/utf8.first" Lib.firstData := by
    have := h3
    unfold Rows.laid_unicode_utf8_first at this
    rwa [Pinned.utf8First_eq] at this
  exact utf8Tabs_of_readsT u8types ⟨by kernel_rfl, by kernel_rfl, by kernel_rfl, by kernel_rfl, by kernel_rfl, by kernel_rfl, by kernel_rfl⟩ h3' h4
theorem okWide_three {P : Program} {w : World} {r : Reach} {b0 : Nat} {t e : TypeId} {v : Value} (ht : P.underlying t = some (.array 3 e)) (hC : P.cellsOf t = 3) (h : Value.okWide P w r b0 t v) : ∃ c0 c1 c2, v = .agg #[c0, c1, c2] := by
  simp only [Value.okWide, ht] at h
  obtain ⟨cs, rfl, h2, _⟩ := h
  obtain ⟨c0, c1, c2, rfl⟩ := Go.Joins.array3 (h2.trans hC)
  exact ⟨c0, c1, c2, rfl⟩
theorem okWide_two {P : Program} {w : World} {r : Reach} {b0 : Nat} {t e : TypeId} {v : Value} (ht : P.underlying t = some (.array 2 e)) (hC : P.cellsOf t = 2) (h : Value.okWide P w r b0 t v) : ∃ c0 c1, v = .agg #[c0, c1] := by
  simp only [Value.okWide, ht] at h
  obtain ⟨cs, rfl, h2, _⟩ := h
  obtain ⟨l⟩ := cs
  match l, h2.trans hC with
  | [c0, c1], _ => exact ⟨c0, c1, rfl⟩
theorem ints_two {H : Type} {enc : TypeId × Value → H} {P : Program} {w : World} {base : Nat} {sp : Nat → Bool} {held : Bool} {fuel : Nat} {t e : TypeId} {v0 v1 : Value} {x : DataW H × List MemPlace} (ht : P.underlying t = some (.array 2 e)) (he : P.underlying e = some (.int .i64)) (hC : P.cellsOf e = 1) (h : DataW.trod enc P w base sp held fuel t [v0, v1] = some x) :
    ∃ m0 m1 : Int, (-9223372036854775808 ≤ m0 ∧ m0 ≤ 9223372036854775807) ∧ (-9223372036854775808 ≤ m1 ∧ m1 ≤ 9223372036854775807) ∧ v0 = .int .i64 m0 ∧ v1 = .int .i64 m1 := by
  obtain ⟨ys, m, _, _, _, hyl, hg⟩ := DataW.trod_array ht h
  have h0 := hg 0 (by omega)
  have h1 := hg 1 (by omega)
  rw [hC] at h0 h1
  rw [List.getElem?_eq_getElem (by omega)] at h0 h1
  obtain ⟨m0, e0, _, w0⟩ := DataW.trod_int he h0
  obtain ⟨m1, e1, _, w1⟩ := DataW.trod_int he h1
  simp only [Nat.zero_mul, Nat.one_mul, List.drop_zero, List.drop_succ_cons, List.take_succ_cons, List.take_zero, List.cons.injEq, and_true] at e0 e1
  exact ⟨m0, m1, bounds_i64 w0, bounds_i64 w1, e0, e1⟩
theorem okWide_four {P : Program} {w : World} {r : Reach} {b0 : Nat} {t e : TypeId} {v : Value} (ht : P.underlying t = some (.array 4 e)) (hC : P.cellsOf t = 4) (h : Value.okWide P w r b0 t v) : ∃ c0 c1 c2 c3, v = .agg #[c0, c1, c2, c3] := by
  simp only [Value.okWide, ht] at h
  obtain ⟨cs, rfl, h2, _⟩ := h
  obtain ⟨l⟩ := cs
  match l, h2.trans hC with
  | [c0, c1, c2, c3], _ => exact ⟨c0, c1, c2, c3, rfl⟩
theorem ints_four {H : Type} {enc : TypeId × Value → H} {P : Program} {w : World} {base : Nat} {sp : Nat → Bool} {held : Bool} {fuel : Nat} {t e : TypeId} {v0 v1 v2 v3 : Value} {x : DataW H × List MemPlace} (ht : P.underlying t = some (.array 4 e)) (he : P.underlying e = some (.int .i64)) (hC : P.cellsOf e = 1) (h : DataW.trod enc P w base sp held fuel t [v0, v1, v2, v3] = some x) :
    ∃ m0 m1 m2 m3 : Int, (-9223372036854775808 ≤ m0 ∧ m0 ≤ 9223372036854775807) ∧ (-9223372036854775808 ≤ m3 ∧ m3 ≤ 9223372036854775807) ∧ v0 = .int .i64 m0 ∧ v1 = .int .i64 m1 ∧ v2 = .int .i64 m2 ∧ v3 = .int .i64 m3 := by
  obtain ⟨ys, m, _, _, _, hyl, hg⟩ := DataW.trod_array ht h
  have h0 := hg 0 (by omega)
  have h1 := hg 1 (by omega)
  have h2 := hg 2 (by omega)
  have h3 := hg 3 (by omega)
  rw [hC, List.getElem?_eq_getElem (by omega)] at h0 h1 h2 h3
  obtain ⟨m0, e0, _, w0⟩ := DataW.trod_int he h0
  obtain ⟨m1, e1, _, _⟩ := DataW.trod_int he h1
  obtain ⟨m2, e2, _, _⟩ := DataW.trod_int he h2
  obtain ⟨m3, e3, _, w3⟩ := DataW.trod_int he h3
  simp only [Nat.zero_mul, Nat.mul_one, List.drop_zero, List.drop_succ_cons, List.take_succ_cons, List.take_zero, List.cons.injEq, and_true] at e0 e1 e2 e3
  exact ⟨m0, m1, m2, m3, bounds_i64 w0, bounds_i64 w3, e0, e1, e2, e3⟩
end Go.Proofs.YthicagfeaekmoaaGreatDoor
