/-
  Texts on which the claim rests, one behind the other: Rls1 His2 His3 His4 Rve1 Rve2 His14 His5 His8 His15 His9 Sam2 His13 Apt1 His10 His7 Add0 His30 Rpl1 His20 His21 His17 His22 Sam1 His24 Rdm1 His6 His25 His19 Read2 His26 Apt2.
-/
import Derived.Test.YtjgjjlolhdlofaaGreatDoorPs4
import Derived.Lib.SmallJoins

set_option linter.unusedSimpArgs false
set_option linter.unusedVariables false

namespace Go.Proofs.YtjgjjlolhdlofaaGreatDoor
open Go.RowKit Go.Mine
open Classical

set_option maxHeartbeats 2000000 in
set_option maxRecDepth 1000000 in
theorem radds_any (o : OpV) (w : World) (h : o.kind = 1 → o.text.size ≤ 1099511627776) :
    Calls Tryz.prog 63 #[o.v] w fun e w' => e = .returned (.int .i64 (addsOf o)) ∧ Mine.Mod none_ w w' := by
  obtain ⟨W0, hW0⟩ : ∃ W0, w.alloc (.cells o.cs.toArray 58) = W0 := ⟨_, rfl⟩
  obtain ⟨m0, kB⟩ := opBox1 hW0
  obtain ⟨K, hK⟩ : ∃ K, w.heap.size = K := ⟨_, rfl⟩
  rw [hK] at kB
  have M0 := Lib.hid m0
  have K0 := Lib.hid kB
  have c2 : W0.cell? ⟨K, 3, none⟩ = some (.int .i64 o.kind) := by rw [kB.cell]; rfl
  have c5 : W0.cell? ⟨K, 5, none⟩ = some (.string o.text) := by rw [kB.cell]; rfl
  have HS := Lib.hid h
  clear m0 kB h
  go_enter Tryz.func63, Tryz.ntmps63
  go_upto_region 1 with fail
  clear hW0 hK
  by_cases hk : o.kind = 1
  · have HL := Lib.hid (fun (W : World) => rlen_any o.text W (HS.out hk))
    have HA := Lib.hid (show addsOf o = max 0 (ulen o.text) by unfold addsOf; rw [if_pos hk])
    obtain ⟨n, hn⟩ : ∃ n, n = ulen o.text := ⟨_, rfl⟩
    have hnb : -1 ≤ n := by
      rw [hn]
      unfold ulen
      split <;> omega
    rw [← hn] at HL HA
    rw [hk] at c2
    clear hk HS hn
    go_wp2_with fail
    refine (HL.out W0).mono ?_
    rintro e w1 ⟨rfl, m1⟩
    have M1 := Lib.hid (M0.out.trans m1)
    have d5 : w1.cell? ⟨K, 5, none⟩ = some (.string o.text) := by rw [(K0.out.mod m1 (fun e => e)).cell]; rfl
    clear m1
    by_cases h0 : n < 0
    · have HE := Lib.hid (show addsOf o = 0 by rw [HA.out]; omega)
      have d0 : decide (n < 0) = true := by simpa using h0
      go_wp2_with fail
      go_ret
      exact ⟨by rw [HE.out]; rfl, M1.out⟩
    · have HE := Lib.hid (show addsOf o = n by rw [HA.out]; omega)
      have d0 : decide (n < 0) = false := by simpa using h0
      go_wp2_with fail
      refine (HL.out w1).mono ?_
      rintro e w2 ⟨rfl, m2⟩
      have M2 := Lib.hid (M1.out.trans m2)
      clear m2
      go_wp2_with fail
      go_ret
      exact ⟨by rw [HE.out]; rfl, M2.out⟩
  · have HE := Lib.hid (show addsOf o = 0 by unfold addsOf; rw [if_neg hk])
    have hb : (o.kind == 1) = false := by simpa using hk
    go_wp2_with fail
    go_ret
    exact ⟨by rw [HE.out]; rfl, M0.out⟩

set_option maxHeartbeats 8000000 in
set_option maxRecDepth 1000000 in
theorem rlistRun_any (w : World) (a : Option Addr) (len cap : Nat) (l : List OpS) (n0 : Int) (h : IsOps w a len cap l) :
    Calls Tryz.prog 28 #[.slice a len cap, .int .i64 n0] w fun e w' => e = .returned (listV l n0) ∧ Mine.Mod none_ w w' := by
  have hle := h.le
  have hcap := h.big
  unfold maxLen at hcap
  have H := Lib.hid h
  have HN := Lib.hid h.n
  obtain ⟨R, hR⟩ : ∃ R, R = listV l n0 := ⟨_, rfl⟩
  rw [← hR]
  have HR := Lib.hid hR
  have HBAD := Lib.hid (show listRun l n0 = none → R = .tuple #[.int .i64 0, .bool false] from fun hb => by rw [hR]; unfold listV; rw [hb])
  clear h hR
  go_enter Tryz.func28, Tryz.ntmps28
  by_cases h1 : n0 < 0
  · have HE := Lib.hid (HBAD.out (by
      unfold listRun
      rw [if_neg]
      rintro ⟨_, hb⟩
      unfold inB at hb
      simp only [decide_eq_true_eq] at hb
      omega))
    have d1 : decide (n0 < 0) = true := by simpa using h1
    go_wp2_with fail
    go_ret2
    exact ⟨by rw [HE.out]; rfl, Mine.Mod.refl _ _⟩
  have d1 : decide (n0 < 0) = false := by simpa using h1
  by_cases h2 : 20000 < n0
  · have HE := Lib.hid (HBAD.out (by
      unfold listRun
      rw [if_neg]
      rintro ⟨_, hb⟩
      unfold inB at hb
      simp only [decide_eq_true_eq] at hb
      omega))
    have d2 : decide (20000 < n0) = true := by simpa using h2
    go_wp2_with fail
    go_ret2
    exact ⟨by rw [HE.out]; rfl, Mine.Mod.refl _ _⟩
  have d2 : decide (20000 < n0) = false := by simpa using h2
  have HNB := Lib.hid (show inB n0 0 20000 = true by unfold inB; simp; omega)
  go_wp2_with fail
  go_loopg [1, 6] len (fun g s1 s6 wx => ∃ (k : Nat) (n : Int), g = len - k ∧ s1 = .int .i64 n ∧ s6 = .int .i64 k ∧ k ≤ len ∧ Mine.Mod none_ w wx ∧ RowKit.Hid (runOps (l.take k) n0 = some n ∧ ((l.take k).map OpS.nm).Nodup))
  case atStart => exact ⟨0, n0, rfl, rfl, rfl, Nat.zero_le _, Mine.Mod.refl _ _, Lib.hid ⟨rfl, by simp⟩⟩
  case round =>
    obtain ⟨k, n, rfl, rfl, rfl, hk, mx, hst⟩ := hrel
    have MX := Lib.hid mx
    by_cases hlk : k < len
    · obtain ⟨x, hx⟩ : ∃ x, l[k]? = some x := ⟨l[k]'(by rw [HN.out]; exact hlk), by simp⟩
      have hnb := runOps_in _ _ _ HNB.out hst.out.1
      obtain ⟨b, off, rfl, hr⟩ := (H.out.grown mx).ops k x hx
      have c0 := hr 0 _ rfl
      have c1 := hr 1 _ rfl
      have c2 := hr 2 _ rfl
      have c3 := hr 3 _ rfl
      have c4 := hr 4 _ rfl
      have c5 := hr 5 _ rfl
      have c6 := hr 6 _ rfl
      rw [Nat.add_zero] at c0
      have hxk : x.o.ok wr x.sp := (H.out.ok x (List.mem_of_getElem? hx)).grown mx
      have HXK := Lib.hid hxk
      have hstep := runOps_append (l.take k) [x] n0
      rw [← ops_snoc hx, hst.out.1] at hstep
      have hst1 : runOps (l.take (k + 1)) n0 = if opMay x.o x.sp n then some (n + addsOf x.o) else none := by rw [hstep]; rfl
      have hrest := runOps_append (l.take (k + 1)) (l.drop (k + 1)) n0
      rw [List.take_append_drop] at hrest
      have HST1 := Lib.hid hst1
      have HRE := Lib.hid hrest
      have hsn : ((l.take (k + 1)).map OpS.nm).Nodup ↔ ((l.take k).map OpS.nm).Nodup ∧ x.nm ∉ (l.take k).map OpS.nm := by
        rw [ops_snoc hx, List.map_append]
        exact nodup_snoc'
      have HSN := Lib.hid hsn
      have HNM := Lib.hid (fun (W : World) (m : Mine.Mod none_ wr W) => rnamed_any W (some ⟨b, off, none⟩) k cap (l.take k) x.o.site x.o.seq (((H.out.grown mx).grown m).take k (by omega)))
      have HMY := Lib.hid (fun (W : World) (m : Mine.Mod none_ wr W) => by
        have := rmayOp_any x.o n W x.sp (hxk.grown m) (by unfold inB at hnb; simp only [decide_eq_true_eq] at hnb; omega)
        rw [hnb, Bool.true_and] at this
        exact this)
      have HNBX := Lib.hid hnb
      clear hr mx hx hsn hst1 hrest hstep hxk hnb
      cases hdup : (l.take k).any (sameNm x.o.site x.o.seq)
      · cases hm : opMay x.o x.sp n
        · have HE := Lib.hid (HBAD.out (by
            unfold listRun
            have h3 : runOps l n0 = none := by rw [HRE.out, HST1.out, hm]; rfl
            rw [h3]
            split <;> rfl))
          go_upto_region 6 with fail
          refine wp_region_held_drew (S := fun w' => Mine.Mod none_ wr w' ∧ w'.cell? ⟨b, off + k * 7, none⟩ = some (.int .i64 x.o.site) ∧ w'.cell? ⟨b, off + k * 7 + 1, none⟩ = some (.int .i64 x.o.seq) ∧ w'.cell? ⟨b, off + k * 7 + 2, none⟩ = some (.int .i64 x.o.num) ∧ w'.cell? ⟨b, off + k * 7 + 3, none⟩ = some (.int .i64 x.o.kind) ∧ w'.cell? ⟨b, off + k * 7 + 4, none⟩ = some (.int .i64 x.o.at_) ∧ w'.cell? ⟨b, off + k * 7 + 5, none⟩ = some (.string x.o.text) ∧ w'.cell? ⟨b, off + k * 7 + 6, none⟩ = some (.slice x.o.sa x.o.slen x.o.scap)) (by kernel_rfl) ⟨Mine.Mod.drew (Mine.Mod.refl none_ wr), c0, c1, c2, c3, c4, c5, c6⟩ (fun hS => ?_)
          refine wpAnyH_take (i := 0) (v := .slice (some ⟨b, off, none⟩) len cap) rfl (by kernel_rfl) (by kernel_rfl) (by kernel_rfl) (fun _ _ _ h => h) (Or.inl ⟨by kernel_rfl, ?_⟩) hS ?_
          · rintro w' ⟨_, q0, q1, q2, q3, q4, q5, q6⟩; go_simp
          try simp only [Act.put, List.setIfInBounds_toArray, List.set_cons_zero, List.set_cons_succ]
          refine wpAnyH_take (i := 1) (v := .int .i64 (k : Int)) rfl (by kernel_rfl) (by kernel_rfl) (by kernel_rfl) (fun _ _ _ h => h) (Or.inl ⟨by kernel_rfl, ?_⟩) hS ?_
          · rintro w' ⟨_, q0, q1, q2, q3, q4, q5, q6⟩; go_simp
          try simp only [Act.put, List.setIfInBounds_toArray, List.set_cons_zero, List.set_cons_succ]
          refine wpAnyH_take (i := 2) (v := .slice (some ⟨b, off, none⟩) k cap) rfl (by kernel_rfl) (by kernel_rfl) (by kernel_rfl) (fun _ _ _ h => h) (Or.inl ⟨by kernel_rfl, ?_⟩) hS ?_
          · rintro w' ⟨_, q0, q1, q2, q3, q4, q5, q6⟩; go_simp <;> (intro h; omega)
          try simp only [Act.put, List.setIfInBounds_toArray, List.set_cons_zero, List.set_cons_succ]
          refine wpAnyH_take (i := 3) (v := .slice (some ⟨b, off, none⟩) len cap) rfl (by kernel_rfl) (by kernel_rfl) (by kernel_rfl) (fun _ _ _ h => h) (Or.inl ⟨by kernel_rfl, ?_⟩) hS ?_
          · rintro w' ⟨_, q0, q1, q2, q3, q4, q5, q6⟩; go_simp
          try simp only [Act.put, List.setIfInBounds_toArray, List.set_cons_zero, List.set_cons_succ]
          refine wpAnyH_take (i := 4) (v := .int .i64 (k : Int)) rfl (by kernel_rfl) (by kernel_rfl) (by kernel_rfl) (fun _ _ _ h => h) (Or.inl ⟨by kernel_rfl, ?_⟩) hS ?_
          · rintro w' ⟨_, q0, q1, q2, q3, q4, q5, q6⟩; go_simp
          try simp only [Act.put, List.setIfInBounds_toArray, List.set_cons_zero, List.set_cons_succ]
          refine wpAnyH_take (i := 5) (v := .pointer (some ⟨b, off + k * 7, none⟩)) rfl (by kernel_rfl) (by kernel_rfl) (by kernel_rfl) (fun _ _ _ h => h) (Or.inl ⟨by kernel_rfl, ?_⟩) hS ?_
          · rintro w' ⟨_, q0, q1, q2, q3, q4, q5, q6⟩; go_simp
          try simp only [Act.put, List.setIfInBounds_toArray, List.set_cons_zero, List.set_cons_succ]
          refine wpAnyH_take (i := 6) (v := .pointer (some ⟨b, off + k * 7, none⟩)) rfl (by kernel_rfl) (by kernel_rfl) (by kernel_rfl) (fun _ _ _ h => h) (Or.inl ⟨by kernel_rfl, ?_⟩) hS ?_
          · rintro w' ⟨_, q0, q1, q2, q3, q4, q5, q6⟩; go_simp
          try simp only [Act.put, List.setIfInBounds_toArray, List.set_cons_zero, List.set_cons_succ]
          refine wpAnyH_take (i := 7) (v := .agg #[.int .i64 x.o.site, .int .i64 x.o.seq]) rfl (by kernel_rfl) (by kernel_rfl) (by kernel_rfl) (fun _ _ _ h => h) (Or.inl ⟨by kernel_rfl, ?_⟩) hS ?_
          · rintro w' ⟨_, q0, q1, q2, q3, q4, q5, q6⟩; go_simp
          try simp only [Act.put, List.setIfInBounds_toArray, List.set_cons_zero, List.set_cons_succ]
          refine wpAnyH_ready (rs := [8]) (by kernel_rfl) (by simp) (AllReadyH.cons rfl (fun K2 hK2 => ?_) <| AllReadyH.nil)
          go_simp
          refine (HNM.out _ hS.1).mono ?_
          rintro e w1 ⟨rfl, m1⟩
          rw [hdup]
          refine hK2.out _ _ ⟨hS.1.trans m1, m1.cell (fun e => e) hS.2.1, m1.cell (fun e => e) hS.2.2.1, m1.cell (fun e => e) hS.2.2.2.1, m1.cell (fun e => e) hS.2.2.2.2.1, m1.cell (fun e => e) hS.2.2.2.2.2.1, m1.cell (fun e => e) hS.2.2.2.2.2.2.1, m1.cell (fun e => e) hS.2.2.2.2.2.2.2⟩ (fun hS => ?_)
          clear hK2 K2 m1
          try simp only [Act.put, List.setIfInBounds_toArray, List.set_cons_zero, List.set_cons_succ]
          refine wpAnyH_take (i := 9) (v := .bool false) rfl (by kernel_rfl) (by kernel_rfl) (by kernel_rfl) (fun _ _ _ h => h) (Or.inl ⟨by kernel_rfl, ?_⟩) hS ?_
          · rintro w' ⟨_, q0, q1, q2, q3, q4, q5, q6⟩; go_simp
          try simp only [Act.put, List.setIfInBounds_toArray, List.set_cons_zero, List.set_cons_succ]
          refine wpAnyH_take (i := 10) (v := .slice (some ⟨b, off, none⟩) len cap) rfl (by kernel_rfl) (by kernel_rfl) (by kernel_rfl) (fun _ _ _ h => h) (Or.inl ⟨by kernel_rfl, ?_⟩) hS ?_
          · rintro w' ⟨_, q0, q1, q2, q3, q4, q5, q6⟩; go_simp
          try simp only [Act.put, List.setIfInBounds_toArray, List.set_cons_zero, List.set_cons_succ]
          refine wpAnyH_take (i := 11) (v := .int .i64 (k : Int)) rfl (by kernel_rfl) (by kernel_rfl) (by kernel_rfl) (fun _ _ _ h => h) (Or.inl ⟨by kernel_rfl, ?_⟩) hS ?_
          · rintro w' ⟨_, q0, q1, q2, q3, q4, q5, q6⟩; go_simp
          try simp only [Act.put, List.setIfInBounds_toArray, List.set_cons_zero, List.set_cons_succ]
          refine wpAnyH_take (i := 12) (v := .pointer (some ⟨b, off + k * 7, none⟩)) rfl (by kernel_rfl) (by kernel_rfl) (by kernel_rfl) (fun _ _ _ h => h) (Or.inl ⟨by kernel_rfl, ?_⟩) hS ?_
          · rintro w' ⟨_, q0, q1, q2, q3, q4, q5, q6⟩; go_simp
          try simp only [Act.put, List.setIfInBounds_toArray, List.set_cons_zero, List.set_cons_succ]
          refine wpAnyH_take (i := 13) (v := x.o.v) rfl (by kernel_rfl) (by kernel_rfl) (by kernel_rfl) (fun _ _ _ h => h) (Or.inl ⟨by kernel_rfl, ?_⟩) hS ?_
          · rintro w' ⟨_, q0, q1, q2, q3, q4, q5, q6⟩; go_simp
          try simp only [Act.put, List.setIfInBounds_toArray, List.set_cons_zero, List.set_cons_succ]
          refine wpAnyH_take (i := 14) (v := .int .i64 n) rfl (by kernel_rfl) (by kernel_rfl) (by kernel_rfl) (fun _ _ _ h => h) (Or.inl ⟨by kernel_rfl, ?_⟩) hS ?_
          · rintro w' ⟨_, q0, q1, q2, q3, q4, q5, q6⟩; go_simp
          try simp only [Act.put, List.setIfInBounds_toArray, List.set_cons_zero, List.set_cons_succ]
          refine wpAnyH_ready (rs := [15]) (by kernel_rfl) (by simp) (AllReadyH.cons rfl (fun K2 hK2 => ?_) <| AllReadyH.nil)
          rw [if_pos (by kernel_rfl)]
          go_simp
          refine (HMY.out _ hS.1).mono ?_
          rintro e w1 ⟨rfl, m1⟩
          rw [hm]
          refine hK2.out _ _ ⟨hS.1.trans m1, m1.cell (fun e => e) hS.2.1, m1.cell (fun e => e) hS.2.2.1, m1.cell (fun e => e) hS.2.2.2.1, m1.cell (fun e => e) hS.2.2.2.2.1, m1.cell (fun e => e) hS.2.2.2.2.2.1, m1.cell (fun e => e) hS.2.2.2.2.2.2.1, m1.cell (fun e => e) hS.2.2.2.2.2.2.2⟩ (fun hS => ?_)
          clear hK2 K2 m1
          try simp only [Act.put, List.setIfInBounds_toArray, List.set_cons_zero, List.set_cons_succ]
          refine wpAnyH_take (i := 16) (v := .bool true) rfl (by kernel_rfl) (by kernel_rfl) (by kernel_rfl) (fun _ _ _ h => h) (Or.inl ⟨by kernel_rfl, ?_⟩) hS ?_
          · rintro w' ⟨_, q0, q1, q2, q3, q4, q5, q6⟩; go_simp
          try simp only [Act.put, List.setIfInBounds_toArray, List.set_cons_zero, List.set_cons_succ]
          refine wpAnyH_take (i := 17) (v := .bool true) rfl (by kernel_rfl) (by kernel_rfl) (by kernel_rfl) (fun _ _ _ h => h) (Or.inl ⟨by kernel_rfl, ?_⟩) hS ?_
          · rintro w' ⟨_, q0, q1, q2, q3, q4, q5, q6⟩; go_simp
          try simp only [Act.put, List.setIfInBounds_toArray, List.set_cons_zero, List.set_cons_succ]
          refine wpAnyH_done (by kernel_rfl) ?_ _
          try simp only [List.getElem_toArray, List.getElem_cons_succ, List.getElem_cons_zero]
          try simp only [Act.put, List.setIfInBounds_toArray, List.set_cons_zero, List.set_cons_succ]
          have MF := Lib.hid (MX.out.trans hS.1)
          clear hS c0 c1 c2 c3 c4 c5 c6 hst hdup HNM HMY
          go_wp2_with fail
          go_ret2
          exact ⟨by rw [HE.out]; rfl, MF.out⟩
        · obtain ⟨_, ha1, ha2⟩ := adds_in HNBX.out hm
          have hn2 := HNBX.out
          unfold inB at hn2
          simp only [decide_eq_true_eq] at hn2
          have hw : IntKind.i64.wrap (n + addsOf x.o) = n + addsOf x.o := by rw [IntKind.wrap_i64]; omega
          have HAD := Lib.hid (fun (W : World) => radds_any x.o W (fun hk1 => by
            unfold opMay at hm
            rw [if_pos hk1] at hm
            simp only [Bool.and_eq_true] at hm
            have h4 := hm.2
            unfold insOk textOk at h4
            simp only [Bool.and_eq_true, decide_eq_true_eq] at h4
            omega))
          have HST := Lib.hid (show runOps (l.take (k + 1)) n0 = some (n + addsOf x.o) ∧ ((l.take (k + 1)).map OpS.nm).Nodup from ⟨by rw [HST1.out, hm]; rfl, HSN.out.2 ⟨hst.out.2, fun hmm => by rw [any_nm.2 hmm] at hdup; cases hdup⟩⟩)
          obtain ⟨ad, had⟩ : ∃ ad, ad = addsOf x.o := ⟨_, rfl⟩
          rw [← had] at hw ha1 ha2 HAD HST
          clear had
          go_upto_region 6 with fail
          refine wp_region_held_drew (S := fun w' => Mine.Mod none_ wr w' ∧ w'.cell? ⟨b, off + k * 7, none⟩ = some (.int .i64 x.o.site) ∧ w'.cell? ⟨b, off + k * 7 + 1, none⟩ = some (.int .i64 x.o.seq) ∧ w'.cell? ⟨b, off + k * 7 + 2, none⟩ = some (.int .i64 x.o.num) ∧ w'.cell? ⟨b, off + k * 7 + 3, none⟩ = some (.int .i64 x.o.kind) ∧ w'.cell? ⟨b, off + k * 7 + 4, none⟩ = some (.int .i64 x.o.at_) ∧ w'.cell? ⟨b, off + k * 7 + 5, none⟩ = some (.string x.o.text) ∧ w'.cell? ⟨b, off + k * 7 + 6, none⟩ = some (.slice x.o.sa x.o.slen x.o.scap)) (by kernel_rfl) ⟨Mine.Mod.drew (Mine.Mod.refl none_ wr), c0, c1, c2, c3, c4, c5, c6⟩ (fun hS => ?_)
          refine wpAnyH_take (i := 0) (v := .slice (some ⟨b, off, none⟩) len cap) rfl (by kernel_rfl) (by kernel_rfl) (by kernel_rfl) (fun _ _ _ h => h) (Or.inl ⟨by kernel_rfl, ?_⟩) hS ?_
          · rintro w' ⟨_, q0, q1, q2, q3, q4, q5, q6⟩; go_simp
          try simp only [Act.put, List.setIfInBounds_toArray, List.set_cons_zero, List.set_cons_succ]
          refine wpAnyH_take (i := 1) (v := .int .i64 (k : Int)) rfl (by kernel_rfl) (by kernel_rfl) (by kernel_rfl) (fun _ _ _ h => h) (Or.inl ⟨by kernel_rfl, ?_⟩) hS ?_
          · rintro w' ⟨_, q0, q1, q2, q3, q4, q5, q6⟩; go_simp
          try simp only [Act.put, List.setIfInBounds_toArray, List.set_cons_zero, List.set_cons_succ]
          refine wpAnyH_take (i := 2) (v := .slice (some ⟨b, off, none⟩) k cap) rfl (by kernel_rfl) (by kernel_rfl) (by kernel_rfl) (fun _ _ _ h => h) (Or.inl ⟨by kernel_rfl, ?_⟩) hS ?_
          · rintro w' ⟨_, q0, q1, q2, q3, q4, q5, q6⟩; go_simp <;> (intro h; omega)
          try simp only [Act.put, List.setIfInBounds_toArray, List.set_cons_zero, List.set_cons_succ]
          refine wpAnyH_take (i := 3) (v := .slice (some ⟨b, off, none⟩) len cap) rfl (by kernel_rfl) (by kernel_rfl) (by kernel_rfl) (fun _ _ _ h => h) (Or.inl ⟨by kernel_rfl, ?_⟩) hS ?_
          · rintro w' ⟨_, q0, q1, q2, q3, q4, q5, q6⟩; go_simp
          try simp only [Act.put, List.setIfInBounds_toArray, List.set_cons_zero, List.set_cons_succ]
          refine wpAnyH_take (i := 4) (v := .int .i64 (k : Int)) rfl (by kernel_rfl) (by kernel_rfl) (by kernel_rfl) (fun _ _ _ h => h) (Or.inl ⟨by kernel_rfl, ?_⟩) hS ?_
          · rintro w' ⟨_, q0, q1, q2, q3, q4, q5, q6⟩; go_simp
          try simp only [Act.put, List.setIfInBounds_toArray, List.set_cons_zero, List.set_cons_succ]
          refine wpAnyH_take (i := 5) (v := .pointer (some ⟨b, off + k * 7, none⟩)) rfl (by kernel_rfl) (by kernel_rfl) (by kernel_rfl) (fun _ _ _ h => h) (Or.inl ⟨by kernel_rfl, ?_⟩) hS ?_
          · rintro w' ⟨_, q0, q1, q2, q3, q4, q5, q6⟩; go_simp
          try simp only [Act.put, List.setIfInBounds_toArray, List.set_cons_zero, List.set_cons_succ]
          refine wpAnyH_take (i := 6) (v := .pointer (some ⟨b, off + k * 7, none⟩)) rfl (by kernel_rfl) (by kernel_rfl) (by kernel_rfl) (fun _ _ _ h => h) (Or.inl ⟨by kernel_rfl, ?_⟩) hS ?_
          · rintro w' ⟨_, q0, q1, q2, q3, q4, q5, q6⟩; go_simp
          try simp only [Act.put, List.setIfInBounds_toArray, List.set_cons_zero, List.set_cons_succ]
          refine wpAnyH_take (i := 7) (v := .agg #[.int .i64 x.o.site, .int .i64 x.o.seq]) rfl (by kernel_rfl) (by kernel_rfl) (by kernel_rfl) (fun _ _ _ h => h) (Or.inl ⟨by kernel_rfl, ?_⟩) hS ?_
          · rintro w' ⟨_, q0, q1, q2, q3, q4, q5, q6⟩; go_simp
          try simp only [Act.put, List.setIfInBounds_toArray, List.set_cons_zero, List.set_cons_succ]
          refine wpAnyH_ready (rs := [8]) (by kernel_rfl) (by simp) (AllReadyH.cons rfl (fun K2 hK2 => ?_) <| AllReadyH.nil)
          go_simp
          refine (HNM.out _ hS.1).mono ?_
          rintro e w1 ⟨rfl, m1⟩
          rw [hdup]
          refine hK2.out _ _ ⟨hS.1.trans m1, m1.cell (fun e => e) hS.2.1, m1.cell (fun e => e) hS.2.2.1, m1.cell (fun e => e) hS.2.2.2.1, m1.cell (fun e => e) hS.2.2.2.2.1, m1.cell (fun e => e) hS.2.2.2.2.2.1, m1.cell (fun e => e) hS.2.2.2.2.2.2.1, m1.cell (fun e => e) hS.2.2.2.2.2.2.2⟩ (fun hS => ?_)
          clear hK2 K2 m1
          try simp only [Act.put, List.setIfInBounds_toArray, List.set_cons_zero, List.set_cons_succ]
          refine wpAnyH_take (i := 9) (v := .bool false) rfl (by kernel_rfl) (by kernel_rfl) (by kernel_rfl) (fun _ _ _ h => h) (Or.inl ⟨by kernel_rfl, ?_⟩) hS ?_
          · rintro w' ⟨_, q0, q1, q2, q3, q4, q5, q6⟩; go_simp
          try simp only [Act.put, List.setIfInBounds_toArray, List.set_cons_zero, List.set_cons_succ]
          refine wpAnyH_take (i := 10) (v := .slice (some ⟨b, off, none⟩) len cap) rfl (by kernel_rfl) (by kernel_rfl) (by kernel_rfl) (fun _ _ _ h => h) (Or.inl ⟨by kernel_rfl, ?_⟩) hS ?_
          · rintro w' ⟨_, q0, q1, q2, q3, q4, q5, q6⟩; go_simp
          try simp only [Act.put, List.setIfInBounds_toArray, List.set_cons_zero, List.set_cons_succ]
          refine wpAnyH_take (i := 11) (v := .int .i64 (k : Int)) rfl (by kernel_rfl) (by kernel_rfl) (by kernel_rfl) (fun _ _ _ h => h) (Or.inl ⟨by kernel_rfl, ?_⟩) hS ?_
          · rintro w' ⟨_, q0, q1, q2, q3, q4, q5, q6⟩; go_simp
          try simp only [Act.put, List.setIfInBounds_toArray, List.set_cons_zero, List.set_cons_succ]
          refine wpAnyH_take (i := 12) (v := .pointer (some ⟨b, off + k * 7, none⟩)) rfl (by kernel_rfl) (by kernel_rfl) (by kernel_rfl) (fun _ _ _ h => h) (Or.inl ⟨by kernel_rfl, ?_⟩) hS ?_
          · rintro w' ⟨_, q0, q1, q2, q3, q4, q5, q6⟩; go_simp
          try simp only [Act.put, List.setIfInBounds_toArray, List.set_cons_zero, List.set_cons_succ]
          refine wpAnyH_take (i := 13) (v := x.o.v) rfl (by kernel_rfl) (by kernel_rfl) (by kernel_rfl) (fun _ _ _ h => h) (Or.inl ⟨by kernel_rfl, ?_⟩) hS ?_
          · rintro w' ⟨_, q0, q1, q2, q3, q4, q5, q6⟩; go_simp
          try simp only [Act.put, List.setIfInBounds_toArray, List.set_cons_zero, List.set_cons_succ]
          refine wpAnyH_take (i := 14) (v := .int .i64 n) rfl (by kernel_rfl) (by kernel_rfl) (by kernel_rfl) (fun _ _ _ h => h) (Or.inl ⟨by kernel_rfl, ?_⟩) hS ?_
          · rintro w' ⟨_, q0, q1, q2, q3, q4, q5, q6⟩; go_simp
          try simp only [Act.put, List.setIfInBounds_toArray, List.set_cons_zero, List.set_cons_succ]
          refine wpAnyH_ready (rs := [15]) (by kernel_rfl) (by simp) (AllReadyH.cons rfl (fun K2 hK2 => ?_) <| AllReadyH.nil)
          rw [if_pos (by kernel_rfl)]
          go_simp
          refine (HMY.out _ hS.1).mono ?_
          rintro e w1 ⟨rfl, m1⟩
          rw [hm]
          refine hK2.out _ _ ⟨hS.1.trans m1, m1.cell (fun e => e) hS.2.1, m1.cell (fun e => e) hS.2.2.1, m1.cell (fun e => e) hS.2.2.2.1, m1.cell (fun e => e) hS.2.2.2.2.1, m1.cell (fun e => e) hS.2.2.2.2.2.1, m1.cell (fun e => e) hS.2.2.2.2.2.2.1, m1.cell (fun e => e) hS.2.2.2.2.2.2.2⟩ (fun hS => ?_)
          clear hK2 K2 m1
          try simp only [Act.put, List.setIfInBounds_toArray, List.set_cons_zero, List.set_cons_succ]
          refine wpAnyH_take (i := 16) (v := .bool false) rfl (by kernel_rfl) (by kernel_rfl) (by kernel_rfl) (fun _ _ _ h => h) (Or.inl ⟨by kernel_rfl, ?_⟩) hS ?_
          · rintro w' ⟨_, q0, q1, q2, q3, q4, q5, q6⟩; go_simp
          try simp only [Act.put, List.setIfInBounds_toArray, List.set_cons_zero, List.set_cons_succ]
          refine wpAnyH_take (i := 17) (v := .bool false) rfl (by kernel_rfl) (by kernel_rfl) (by kernel_rfl) (fun _ _ _ h => h) (Or.inl ⟨by kernel_rfl, ?_⟩) hS ?_
          · rintro w' ⟨_, q0, q1, q2, q3, q4, q5, q6⟩; go_simp
          try simp only [Act.put, List.setIfInBounds_toArray, List.set_cons_zero, List.set_cons_succ]
          refine wpAnyH_done (by kernel_rfl) ?_ _
          try simp only [List.getElem_toArray, List.getElem_cons_succ, List.getElem_cons_zero]
          try simp only [Act.put, List.setIfInBounds_toArray, List.set_cons_zero, List.set_cons_succ]
          have MF := Lib.hid (MX.out.trans hS.1)
          obtain ⟨_, e0, e1, e2, e3, e4, e5, e6⟩ := hS
          clear c0 c1 c2 c3 c4 c5 c6 hst hdup HNM HMY hm
          go_wp2_with fail
          refine (HAD.out _).mono ?_
          rintro e w9 ⟨rfl, m9⟩
          have M9 := Lib.hid (MF.out.trans m9)
          clear m9 HAD e0 e1 e2 e3 e4 e5 e6
          go_wp2_with fail
          go_roundg (len - (k + 1))
          all_goals first
            | omega
            | exact ⟨k + 1, n + ad, rfl, rfl, by go_num, by omega, M9.out, HST⟩
      · have HE := Lib.hid (HBAD.out (by
          unfold listRun
          rw [if_neg]
          rintro ⟨hnd, _⟩
          have h2 : ((l.take (k + 1)).map OpS.nm).Nodup := by
            rw [List.map_take]
            exact nodup_take hnd _
          exact (HSN.out.1 h2).2 (any_nm.1 hdup)))
        go_upto_region 6 with fail
        refine wp_region_held_drew (S := fun w' => Mine.Mod none_ wr w' ∧ w'.cell? ⟨b, off + k * 7, none⟩ = some (.int .i64 x.o.site) ∧ w'.cell? ⟨b, off + k * 7 + 1, none⟩ = some (.int .i64 x.o.seq) ∧ w'.cell? ⟨b, off + k * 7 + 2, none⟩ = some (.int .i64 x.o.num) ∧ w'.cell? ⟨b, off + k * 7 + 3, none⟩ = some (.int .i64 x.o.kind) ∧ w'.cell? ⟨b, off + k * 7 + 4, none⟩ = some (.int .i64 x.o.at_) ∧ w'.cell? ⟨b, off + k * 7 + 5, none⟩ = some (.string x.o.text) ∧ w'.cell? ⟨b, off + k * 7 + 6, none⟩ = some (.slice x.o.sa x.o.slen x.o.scap)) (by kernel_rfl) ⟨Mine.Mod.drew (Mine.Mod.refl none_ wr), c0, c1, c2, c3, c4, c5, c6⟩ (fun hS => ?_)
        refine wpAnyH_take (i := 0) (v := .slice (some ⟨b, off, none⟩) len cap) rfl (by kernel_rfl) (by kernel_rfl) (by kernel_rfl) (fun _ _ _ h => h) (Or.inl ⟨by kernel_rfl, ?_⟩) hS ?_
        · rintro w' ⟨_, q0, q1, q2, q3, q4, q5, q6⟩; go_simp
        try simp only [Act.put, List.setIfInBounds_toArray, List.set_cons_zero, List.set_cons_succ]
        refine wpAnyH_take (i := 1) (v := .int .i64 (k : Int)) rfl (by kernel_rfl) (by kernel_rfl) (by kernel_rfl) (fun _ _ _ h => h) (Or.inl ⟨by kernel_rfl, ?_⟩) hS ?_
        · rintro w' ⟨_, q0, q1, q2, q3, q4, q5, q6⟩; go_simp
        try simp only [Act.put, List.setIfInBounds_toArray, List.set_cons_zero, List.set_cons_succ]
        refine wpAnyH_take (i := 2) (v := .slice (some ⟨b, off, none⟩) k cap) rfl (by kernel_rfl) (by kernel_rfl) (by kernel_rfl) (fun _ _ _ h => h) (Or.inl ⟨by kernel_rfl, ?_⟩) hS ?_
        · rintro w' ⟨_, q0, q1, q2, q3, q4, q5, q6⟩; go_simp <;> (intro h; omega)
        try simp only [Act.put, List.setIfInBounds_toArray, List.set_cons_zero, List.set_cons_succ]
        refine wpAnyH_take (i := 3) (v := .slice (some ⟨b, off, none⟩) len cap) rfl (by kernel_rfl) (by kernel_rfl) (by kernel_rfl) (fun _ _ _ h => h) (Or.inl ⟨by kernel_rfl, ?_⟩) hS ?_
        · rintro w' ⟨_, q0, q1, q2, q3, q4, q5, q6⟩; go_simp
        try simp only [Act.put, List.setIfInBounds_toArray, List.set_cons_zero, List.set_cons_succ]
        refine wpAnyH_take (i := 4) (v := .int .i64 (k : Int)) rfl (by kernel_rfl) (by kernel_rfl) (by kernel_rfl) (fun _ _ _ h => h) (Or.inl ⟨by kernel_rfl, ?_⟩) hS ?_
        · rintro w' ⟨_, q0, q1, q2, q3, q4, q5, q6⟩; go_simp
        try simp only [Act.put, List.setIfInBounds_toArray, List.set_cons_zero, List.set_cons_succ]
        refine wpAnyH_take (i := 5) (v := .pointer (some ⟨b, off + k * 7, none⟩)) rfl (by kernel_rfl) (by kernel_rfl) (by kernel_rfl) (fun _ _ _ h => h) (Or.inl ⟨by kernel_rfl, ?_⟩) hS ?_
        · rintro w' ⟨_, q0, q1, q2, q3, q4, q5, q6⟩; go_simp
        try simp only [Act.put, List.setIfInBounds_toArray, List.set_cons_zero, List.set_cons_succ]
        refine wpAnyH_take (i := 6) (v := .pointer (some ⟨b, off + k * 7, none⟩)) rfl (by kernel_rfl) (by kernel_rfl) (by kernel_rfl) (fun _ _ _ h => h) (Or.inl ⟨by kernel_rfl, ?_⟩) hS ?_
        · rintro w' ⟨_, q0, q1, q2, q3, q4, q5, q6⟩; go_simp
        try simp only [Act.put, List.setIfInBounds_toArray, List.set_cons_zero, List.set_cons_succ]
        refine wpAnyH_take (i := 7) (v := .agg #[.int .i64 x.o.site, .int .i64 x.o.seq]) rfl (by kernel_rfl) (by kernel_rfl) (by kernel_rfl) (fun _ _ _ h => h) (Or.inl ⟨by kernel_rfl, ?_⟩) hS ?_
        · rintro w' ⟨_, q0, q1, q2, q3, q4, q5, q6⟩; go_simp
        try simp only [Act.put, List.setIfInBounds_toArray, List.set_cons_zero, List.set_cons_succ]
        refine wpAnyH_ready (rs := [8]) (by kernel_rfl) (by simp) (AllReadyH.cons rfl (fun K2 hK2 => ?_) <| AllReadyH.nil)
        go_simp
        refine (HNM.out _ hS.1).mono ?_
        rintro e w1 ⟨rfl, m1⟩
        rw [hdup]
        refine hK2.out _ _ ⟨hS.1.trans m1, m1.cell (fun e => e) hS.2.1, m1.cell (fun e => e) hS.2.2.1, m1.cell (fun e => e) hS.2.2.2.1, m1.cell (fun e => e) hS.2.2.2.2.1, m1.cell (fun e => e) hS.2.2.2.2.2.1, m1.cell (fun e => e) hS.2.2.2.2.2.2.1, m1.cell (fun e => e) hS.2.2.2.2.2.2.2⟩ (fun hS => ?_)
        clear hK2 K2 m1
        try simp only [Act.put, List.setIfInBounds_toArray, List.set_cons_zero, List.set_cons_succ]
        refine wpAnyH_take (i := 9) (v := .bool true) rfl (by kernel_rfl) (by kernel_rfl) (by kernel_rfl) (fun _ _ _ h => h) (Or.inl ⟨by kernel_rfl, ?_⟩) hS ?_
        · rintro w' ⟨_, q0, q1, q2, q3, q4, q5, q6⟩; go_simp
        try simp only [Act.put, List.setIfInBounds_toArray, List.set_cons_zero, List.set_cons_succ]
        refine wpAnyH_take (i := 10) (v := undef) rfl (by kernel_rfl) (by kernel_rfl) (by kernel_rfl) (fun _ _ _ h => h) (Or.inr ⟨by kernel_rfl, rfl⟩) hS ?_
        try simp only [Act.put, List.setIfInBounds_toArray, List.set_cons_zero, List.set_cons_succ]
        refine wpAnyH_take (i := 11) (v := undef) rfl (by kernel_rfl) (by kernel_rfl) (by kernel_rfl) (fun _ _ _ h => h) (Or.inr ⟨by kernel_rfl, rfl⟩) hS ?_
        try simp only [Act.put, List.setIfInBounds_toArray, List.set_cons_zero, List.set_cons_succ]
        refine wpAnyH_take (i := 12) (v := undef) rfl (by kernel_rfl) (by kernel_rfl) (by kernel_rfl) (fun _ _ _ h => h) (Or.inr ⟨by kernel_rfl, rfl⟩) hS ?_
        try simp only [Act.put, List.setIfInBounds_toArray, List.set_cons_zero, List.set_cons_succ]
        refine wpAnyH_take (i := 13) (v := undef) rfl (by kernel_rfl) (by kernel_rfl) (by kernel_rfl) (fun _ _ _ h => h) (Or.inr ⟨by kernel_rfl, rfl⟩) hS ?_
        try simp only [Act.put, List.setIfInBounds_toArray, List.set_cons_zero, List.set_cons_succ]
        refine wpAnyH_take (i := 14) (v := undef) rfl (by kernel_rfl) (by kernel_rfl) (by kernel_rfl) (fun _ _ _ h => h) (Or.inr ⟨by kernel_rfl, rfl⟩) hS ?_
        try simp only [Act.put, List.setIfInBounds_toArray, List.set_cons_zero, List.set_cons_succ]
        refine wpAnyH_take (i := 15) (v := undef) rfl (by kernel_rfl) (by kernel_rfl) (by kernel_rfl) (fun _ _ _ h => h) (Or.inr ⟨by kernel_rfl, rfl⟩) hS ?_
        try simp only [Act.put, List.setIfInBounds_toArray, List.set_cons_zero, List.set_cons_succ]
        refine wpAnyH_take (i := 16) (v := undef) rfl (by kernel_rfl) (by kernel_rfl) (by kernel_rfl) (fun _ _ _ h => h) (Or.inr ⟨by kernel_rfl, rfl⟩) hS ?_
        try simp only [Act.put, List.setIfInBounds_toArray, List.set_cons_zero, List.set_cons_succ]
        refine wpAnyH_take (i := 17) (v := .bool true) rfl (by kernel_rfl) (by kernel_rfl) (by kernel_rfl) (fun _ _ _ h => h) (Or.inl ⟨by kernel_rfl, ?_⟩) hS ?_
        · rintro w' ⟨_, q0, q1, q2, q3, q4, q5, q6⟩; go_simp
        try simp only [Act.put, List.setIfInBounds_toArray, List.set_cons_zero, List.set_cons_succ]
        refine wpAnyH_done (by kernel_rfl) ?_ _
        try simp only [List.getElem_toArray, List.getElem_cons_succ, List.getElem_cons_zero]
        try simp only [Act.put, List.setIfInBounds_toArray, List.set_cons_zero, List.set_cons_succ]
        have MF := Lib.hid (MX.out.trans hS.1)
        clear hS c0 c1 c2 c3 c4 c5 c6 hst hdup HNM HMY
        go_wp2_with fail
        go_ret2
        exact ⟨by rw [HE.out]; rfl, MF.out⟩
    · obtain rfl : k = len := by omega
      have HE := Lib.hid (show R = .tuple #[.int .i64 n, .bool true] by
        have h3 := hst.out
        rw [List.take_of_length_le (by rw [HN.out]; omega)] at h3
        rw [HR.out]
        unfold listV listRun
        rw [if_pos ⟨h3.2, HNB.out⟩, h3.1])
      clear mx hst
      go_wp2_with fail
      go_ret2
      exact ⟨by rw [HE.out]; rfl, MX.out⟩
end Go.Proofs.YtjgjjlolhdlofaaGreatDoor

namespace Go.Proofs.YtjgjjlolhdlofaaGreatDoor
open Go.RowKit Go.Shelf Go.Mine
open Classical

/-- From, Num and the count of entries. -/
def numsOk (h : HistV) : Bool := decide (0 ≤ h.from_) && decide (h.from_ ≤ h.num) && decide (h.num ≤ 1099511627776) && decide (h.ll ≤ 400)
def unkn (V : List Int) (c : CellV) : Bool := !decide (c.seq ≤ cntV V c.site)
/-- The base and its vector. -/
noncomputable def baseOk (B : List CellV) (V : List Int) : Bool := decide (newE B = 0) && vecOk V && !B.any (unkn V)
/-- An entry by itself. -/
def entOk (x : EntV) : Bool := editOk x.ed && decide (x.ed.site = x.o.site) && decide (x.ed.seq = x.o.seq) && decide (x.ed.kind = x.o.kind)
noncomputable def entsOk (E : List EntV) (n : Int) : Bool := E.all entOk && (listRun (opsOf E) n).isSome
/-- The order of the entries. -/
def orderL : Int → Int → List Int → Int → List EntV → Bool
  | _, _, _, _, [] => true
  | last, p, V, num, x :: r => if raiseE V x.o.site x.o.seq = 0 then
      (if x.o.num = 0 then (if p = 0 ∨ p = x.o.site then orderL last x.o.site (raiseL V x.o.site) num r else false)
       else (if p = 0 ∧ last < x.o.num ∧ x.o.num ≤ num then orderL x.o.num 0 (raiseL V x.o.site) num r else false))
    else false
/-- May a history be? -/
noncomputable def histOk (h : HistV) (B : List CellV) (V : List Int) (E : List EntV) : Bool := numsOk h && baseOk B V && entsOk E (h.bl : Int) && orderL h.from_ 0 V h.num E
theorem newE_cells {B : List CellV} (h : newE B = 0) : ∀ c ∈ B, cellOk c = true := by
  unfold newE at h
  by_cases ha : B.all cellOk = true
  · exact List.all_eq_true.1 ha
  · rw [if_neg ha] at h; omega
theorem cellOk_name {c : CellV} (h : cellOk c = true) : nameOk c.site c.seq = true := by
  unfold cellOk at h
  simp only [Bool.and_eq_true] at h
  exact h.1.1.1

set_option maxHeartbeats 4000000 in
set_option maxRecDepth 1000000 in
theorem numbers_any (w : World) (h : HistV) :
    Calls Tryz.prog 51 #[h.v] w fun e w' => e = .returned (.bool (numsOk h)) ∧ Mine.Mod none_ w w' := by
  obtain ⟨R, hR⟩ : ∃ R, R = numsOk h := ⟨_, rfl⟩
  rw [← hR]
  obtain ⟨xba, xbl, xbc, xva, xvl, xvc, xfr, xnum, xla, xll, xlc⟩ := h
  have HB := Lib.hid (show R = (decide (0 ≤ xfr) && decide (xfr ≤ xnum) && decide (xnum ≤ 1099511627776) && decide ((xll : Int) ≤ 400)) by
    rw [hR]; unfold numsOk
    have : decide (xll ≤ 400) = decide ((xll : Int) ≤ 400) := by rw [Bool.eq_iff_iff]; simp; omega
    rw [← this])
  clear hR
  obtain ⟨W0, hW0⟩ : ∃ W0, w.alloc (.cells #[.slice xba xbl xbc, .slice xva xvl xvc, .int .i64 xfr, .int .i64 xnum, .slice xla xll xlc] 32) = W0 := ⟨_, rfl⟩
  obtain ⟨K, hK⟩ : ∃ K, w.heap.size = K := ⟨_, rfl⟩
  have m0 : Mine.Mod none_ w W0 := by rw [← hW0]; exact (Mine.Mod.refl none_ w).alloc _
  have k0 : Blk W0 K [.slice xba xbl xbc, .slice xva xvl xvc, .int .i64 xfr, .int .i64 xnum, .slice xla xll xlc] 32 := by rw [← hW0, ← hK]; exact Blk.new (w := w) (cs := [.slice xba xbl xbc, .slice xva xvl xvc, .int .i64 xfr, .int .i64 xnum, .slice xla xll xlc])
  obtain ⟨cs0, hcs0⟩ : ∃ cs0 : List Value, cs0 = [.slice xba xbl xbc, .slice xva xvl xvc, .int .i64 xfr, .int .i64 xnum, .slice xla xll xlc] := ⟨_, rfl⟩
  rw [← hcs0] at k0
  have HC2 := Lib.hid (show ∀ W, Blk W K cs0 32 → W.cell? ⟨K, 2, none⟩ = some (.int .i64 xfr) from fun W k => by rw [k.cell, hcs0]; rfl)
  have HC3 := Lib.hid (show ∀ W, Blk W K cs0 32 → W.cell? ⟨K, 3, none⟩ = some (.int .i64 xnum) from fun W k => by rw [k.cell, hcs0]; rfl)
  have HC4 := Lib.hid (show ∀ W, Blk W K cs0 32 → W.cell? ⟨K, 4, none⟩ = some (.slice xla xll xlc) from fun W k => by rw [k.cell, hcs0]; rfl)
  have M0 := Lib.hid m0
  have K0 := Lib.hid k0
  have hKw : w.heap.size ≤ K := by omega
  have c2 := HC2.out W0 k0
  have c3 := HC3.out W0 k0
  have c4 := HC4.out W0 k0
  clear m0 k0 hcs0
  go_enter Tryz.func51, Tryz.ntmps51
  go_upto_region 1 with fail
  clear hW0 hK
  cases q1 : decide (0 ≤ xfr)
  case false =>
    have HE := Lib.hid (show R = false by rw [HB.out, q1]; rfl)
    go_wp2_with fail
    go_ret
    exact ⟨by rw [HE.out]; rfl, M0.out⟩
  cases q2 : decide (xfr ≤ xnum)
  case false =>
    have HE := Lib.hid (show R = false by rw [HB.out, q1, q2]; rfl)
    go_wp2_with fail
    go_ret
    exact ⟨by rw [HE.out]; rfl, M0.out⟩
  cases q3 : decide (xnum ≤ 1099511627776)
  case false =>
    have HE := Lib.hid (show R = false by rw [HB.out, q1, q2, q3]; rfl)
    go_wp2_with fail
    go_ret
    exact ⟨by rw [HE.out]; rfl, M0.out⟩
  cases q4 : decide ((xll : Int) ≤ 400)
  case false =>
    have HE := Lib.hid (show R = false by rw [HB.out, q1, q2, q3, q4]; rfl)
    go_wp2_with fail
    go_ret
    exact ⟨by rw [HE.out]; rfl, M0.out⟩
  have HE := Lib.hid (show R = true by rw [HB.out, q1, q2, q3, q4]; rfl)
  go_wp2_with fail
  go_ret
  exact ⟨by rw [HE.out]; rfl, M0.out⟩

set_option maxHeartbeats 4000000 in
set_option maxRecDepth 1000000 in
theorem base1_any (w : World) (h : HistV) (c : CellV) (P : Nat) (V : List Int) (k : Blk w P h.cs 32) (hv : IsVec w h.va h.vl h.vc V) (hV : vecOk V = true) (hn : nameOk c.site c.seq = true) :
    Calls Tryz.prog 76 #[c.v, .pointer (some ⟨P, 0, none⟩)] w fun e w' => e = .returned (.bool (unkn V c)) ∧ Mine.Mod none_ w w' := by
  obtain ⟨xba, xbl, xbc, xva, xvl, xvc, xfr, xnum, xla, xll, xlc⟩ := h
  obtain ⟨W0, hW0⟩ : ∃ W0, w.alloc (.cells c.cs.toArray 53) = W0 := ⟨_, rfl⟩
  obtain ⟨K, hK⟩ : ∃ K, w.heap.size = K := ⟨_, rfl⟩
  have m0 : Mine.Mod none_ w W0 := by rw [← hW0]; exact (Mine.Mod.refl none_ w).alloc _
  have kB : Blk W0 K c.cs 53 := by rw [← hW0, ← hK]; exact Blk.new (w := w) (cs := c.cs)
  have M0 := Lib.hid m0
  have kP := k.mod m0 (fun e => e)
  have d1 : W0.cell? ⟨P, 1, none⟩ = some (.slice xva xvl xvc) := by rw [kP.cell]; rfl
  have c0 : W0.cell? ⟨K, 0, none⟩ = some (.int .i64 c.site) := by rw [kB.cell]; rfl
  have c1 : W0.cell? ⟨K, 1, none⟩ = some (.int .i64 c.seq) := by rw [kB.cell]; rfl
  have HH := Lib.hid (vhas_any W0 xva xvl xvc V c.site c.seq (hv.grown m0) hV hn)
  obtain ⟨b, hb⟩ : ∃ b, b = decide (c.seq ≤ cntV V c.site) := ⟨_, rfl⟩
  have HE := Lib.hid (show unkn V c = !b by rw [hb]; rfl)
  rw [← hb] at HH
  clear k m0 kB kP hv hn hV hb
  go_enter Tryz.func76, Tryz.ntmps76
  go_upto_region 1 with fail
  clear hW0 hK
  go_wp2_with fail
  refine HH.out.mono ?_
  rintro e w1 ⟨rfl, m1⟩
  have M1 := Lib.hid (M0.out.trans m1)
  clear m1
  go_wp2_with fail
  go_ret
  exact ⟨by rw [HE.out]; rfl, M1.out⟩

set_option maxHeartbeats 4000000 in
set_option maxRecDepth 1000000 in
theorem baseIx_any (w : World) (h : HistV) (a : Option Addr) (len cap : Nat) (l : List CellV) (P : Nat) (V : List Int) (hc : IsCells w a len cap l) (k : Blk w P h.cs 32) (hv : IsVec w h.va h.vl h.vc V) (hV : vecOk V = true) (hn : ∀ c ∈ l, cellOk c = true) :
    Calls Tryz.prog 105 #[.slice a len cap, .func (.func 76) #[] #[.pointer (some ⟨P, 0, none⟩)]] w fun e w' => (∃ r : Int, e = .returned (.int .i64 r) ∧ -1 ≤ r ∧ r ≤ 9223372036854775807 ∧ decide (0 ≤ r) = l.any (unkn V)) ∧ Mine.Mod none_ w w' := by
  have hle := hc.le
  have hcap := hc.big
  unfold maxLen at hcap
  have H := Lib.hid hc
  have HN := Lib.hid hc.n
  have HF := Lib.hid (show ∀ W, Mine.Mod none_ w W → ∀ c ∈ l, Calls Tryz.prog 76 #[c.v, .pointer (some ⟨P, 0, none⟩)] W fun e w' => e = .returned (.bool (unkn V c)) ∧ Mine.Mod none_ W w' from fun W m c hcl => base1_any W h c P V (k.mod m (fun e => e)) (hv.grown m) hV (cellOk_name (hn c hcl)))
  clear hc k hv hV hn
  go_enter Tryz.func105, Tryz.ntmps105
  go_wp2_with fail
  go_loopg [8] len (fun g s8 wx => ∃ k : Nat, g = len - k ∧ s8 = .int .i64 k ∧ k ≤ len ∧ Mine.Mod none_ w wx ∧ RowKit.Hid ((l.take k).any (unkn V) = false))
  case atStart => exact ⟨0, rfl, rfl, Nat.zero_le _, Mine.Mod.refl _ _, Lib.hid rfl⟩
  case round =>
    obtain ⟨k, rfl, rfl, hk, mx, hst⟩ := hrel
    have MX := Lib.hid mx
    by_cases hlk : k < len
    · obtain ⟨x, hx⟩ : ∃ x, l[k]? = some x := ⟨l[k]'(by rw [HN.out]; exact hlk), by simp⟩
      obtain ⟨b, off, rfl, hr⟩ := (H.out.grown mx).cells k x hx
      have c0 := hr 0 _ rfl
      have c1 := hr 1 _ rfl
      have c2 := hr 2 _ rfl
      have c3 := hr 3 _ rfl
      have c4 := hr 4 _ rfl
      rw [Nat.add_zero] at c0
      have HC := Lib.hid (HF.out wr mx x (List.mem_of_getElem? hx))
      have HT := Lib.hid (show (l.take (k + 1)).any (unkn V) = unkn V x by
        obtain ⟨hi, e⟩ := List.getElem?_eq_some_iff.1 hx
        rw [List.take_succ_eq_append_getElem hi, List.any_append, hst.out, e]; simp)
      have HA := Lib.hid (fun (hb : unkn V x = true) => (show l.any (unkn V) = true from List.any_eq_true.2 ⟨x, List.mem_of_getElem? hx, hb⟩))
      generalize unkn V x = bb at HC HT HA
      clear hx hst mx hr
      cases bb
      · go_wp2_with fail
        refine HC.out.mono ?_
        rintro e w1 ⟨rfl, m1⟩
        have M1 := Lib.hid (MX.out.trans m1)
        clear m1
        go_wp2_with fail
        go_roundg (len - (k + 1))
        all_goals first
          | omega
          | exact ⟨k + 1, rfl, by go_num, by omega, M1.out, HT⟩
      · go_wp2_with fail
        refine HC.out.mono ?_
        rintro e w1 ⟨rfl, m1⟩
        have M1 := Lib.hid (MX.out.trans m1)
        clear m1
        go_wp2_with fail
        go_ret
        exact ⟨⟨k, rfl, by omega, by omega, by rw [HA.out trivial]; simp⟩, M1.out⟩
    · obtain rfl : k = len := by omega
      have hF : l.any (unkn V) = false := by
        have := hst.out
        rwa [List.take_of_length_le (by rw [HN.out]; omega)] at this
      have HF := Lib.hid hF
      clear hst mx hF
      go_wp2_with fail
      go_ret
      exact ⟨⟨-1, rfl, by omega, by omega, by rw [HF.out]; rfl⟩, MX.out⟩

set_option maxHeartbeats 4000000 in
set_option maxRecDepth 1000000 in
theorem baseHas_any (w : World) (h : HistV) (a : Option Addr) (len cap : Nat) (l : List CellV) (P : Nat) (V : List Int) (hc : IsCells w a len cap l) (k : Blk w P h.cs 32) (hv : IsVec w h.va h.vl h.vc V) (hV : vecOk V = true) (hn : ∀ c ∈ l, cellOk c = true) :
    Calls Tryz.prog 79 #[.slice a len cap, .func (.func 76) #[] #[.pointer (some ⟨P, 0, none⟩)]] w fun e w' => e = .returned (.bool (l.any (unkn V))) ∧ Mine.Mod none_ w w' := by
  have HI := Lib.hid (baseIx_any w h a len cap l P V hc k hv hV hn)
  clear hc k hv hV hn
  go_enter Tryz.func79, Tryz.ntmps79
  go_wp2_with fail
  refine HI.out.mono ?_
  rintro e w2 ⟨⟨r, rfl, h1, h2, h3⟩, m2⟩
  have M2 := Lib.hid m2
  have H3 := Lib.hid h3
  clear m2 h3
  go_wp2_with fail
  go_ret
  exact ⟨by rw [← H3.out]; rfl, M2.out⟩

set_option maxHeartbeats 4000000 in
set_option maxRecDepth 1000000 in
theorem base_any (w : World) (h : HistV) (B : List CellV) (V : List Int) (hB : IsCells w h.ba h.bl h.bc B) (hV : IsVec w h.va h.vl h.vc V) (hl : h.bl ≤ 1099511627776) :
    Calls Tryz.prog 52 #[h.v] w fun e w' => e = .returned (.bool (baseOk B V)) ∧ Mine.Mod none_ w w' := by
  obtain ⟨R, hR⟩ : ∃ R, R = baseOk B V := ⟨_, rfl⟩
  rw [← hR]
  have HB := Lib.hid hR
  have HHAS := Lib.hid (show ∀ W P, Mine.Mod none_ w W → Blk W P h.cs 32 → vecOk V = true → newE B = 0 → Calls Tryz.prog 79 #[.slice h.ba h.bl h.bc, .func (.func 76) #[] #[.pointer (some ⟨P, 0, none⟩)]] W fun e w' => e = .returned (.bool (B.any (unkn V))) ∧ Mine.Mod none_ W w' from fun W P m k hv he => baseHas_any W h _ _ _ B P V (hB.grown m) k (hV.grown m) hv (newE_cells he))
  obtain ⟨xba, xbl, xbc, xva, xvl, xvc, xfr, xnum, xla, xll, xlc⟩ := h
  dsimp only at hl hB hV HHAS
  have HHB := Lib.hid hB
  have HHV := Lib.hid hV
  clear hR hB hV
  obtain ⟨W0, hW0⟩ : ∃ W0, w.alloc (.cells #[.slice xba xbl xbc, .slice xva xvl xvc, .int .i64 xfr, .int .i64 xnum, .slice xla xll xlc] 32) = W0 := ⟨_, rfl⟩
  obtain ⟨K, hK⟩ : ∃ K, w.heap.size = K := ⟨_, rfl⟩
  have m0 : Mine.Mod none_ w W0 := by rw [← hW0]; exact (Mine.Mod.refl none_ w).alloc _
  have k0 : Blk W0 K [.slice xba xbl xbc, .slice xva xvl xvc, .int .i64 xfr, .int .i64 xnum, .slice xla xll xlc] 32 := by rw [← hW0, ← hK]; exact Blk.new (w := w) (cs := [.slice xba xbl xbc, .slice xva xvl xvc, .int .i64 xfr, .int .i64 xnum, .slice xla xll xlc])
  obtain ⟨cs0, hcs0⟩ : ∃ cs0 : List Value, cs0 = [.slice xba xbl xbc, .slice xva xvl xvc, .int .i64 xfr, .int .i64 xnum, .slice xla xll xlc] := ⟨_, rfl⟩
  rw [← hcs0] at k0
  have HC0 := Lib.hid (show ∀ W, Blk W K cs0 32 → W.cell? ⟨K, 0, none⟩ = some (.slice xba xbl xbc) from fun W k => by rw [k.cell, hcs0]; rfl)
  have HC1 := Lib.hid (show ∀ W, Blk W K cs0 32 → W.cell? ⟨K, 1, none⟩ = some (.slice xva xvl xvc) from fun W k => by rw [k.cell, hcs0]; rfl)
  have M0 := Lib.hid m0
  have K0 := Lib.hid k0
  have hKw : w.heap.size ≤ K := by omega
  have HCS := Lib.hid hcs0
  have c0 := HC0.out W0 k0
  have c1 := HC1.out W0 k0
  clear m0 k0 hcs0
  go_enter Tryz.func52, Tryz.ntmps52
  go_upto_region 1 with fail
  clear hW0 hK
  go_wp2_with fail
  refine (new_any W0 xba xbl xbc B (HHB.out.grown M0.out) hl).mono ?_
  rintro e w1 ⟨m1, hbad, hgood⟩
  have M1 := Lib.hid (M0.out.trans m1)
  have K1 := Lib.hid (K0.out.mod m1 (fun e => e))
  have HG := Lib.hid hgood
  have HBD := Lib.hid hbad
  have d0 := HC0.out w1 K1.out
  have d1 := HC1.out w1 K1.out
  clear m1 c0 c1 M0 K0 hbad hgood
  by_cases hn : newE B = 0
  · obtain ⟨D, rfl, hD⟩ := HG.out hn
    have HN := Lib.hid hn
    clear hD hn HG HBD
    cases hv : vecOk V
    · have HE := Lib.hid (show R = false by rw [HB.out]; unfold baseOk; rw [hv, Bool.and_false]; rfl)
      go_wp2_with fail
      refine (vmay_any w1 xva xvl xvc V (HHV.out.grown M1.out)).mono ?_
      rintro e w2 ⟨rfl, m2⟩
      rw [hv]
      have M2 := Lib.hid (M1.out.trans m2)
      clear m2 d0 d1
      go_wp2_with fail
      go_ret
      exact ⟨by rw [HE.out]; rfl, M2.out⟩
    · have HE := Lib.hid (show R = !B.any (unkn V) by rw [HB.out]; unfold baseOk; rw [hv, HN.out]; rfl)
      go_wp2_with fail
      refine (vmay_any w1 xva xvl xvc V (HHV.out.grown M1.out)).mono ?_
      rintro e w2 ⟨rfl, m2⟩
      rw [hv]
      have M2 := Lib.hid (M1.out.trans m2)
      have K2 := Lib.hid (K1.out.mod m2 (fun e => e))
      have e0 := HC0.out w2 K2.out
      have e1 := HC1.out w2 K2.out
      clear m2 d0 d1 M1 K1
      have HH := Lib.hid (HHAS.out w2 K M2.out (by have := K2.out; rwa [HCS.out] at this) hv HN.out)
      generalize B.any (unkn V) = bb at HH HE
      clear hv
      go_wp2_with fail
      refine HH.out.mono ?_
      rintro e w3 ⟨rfl, m3⟩
      have M3 := Lib.hid (M2.out.trans m3)
      clear m3
      go_wp2_with fail
      go_ret
      exact ⟨by rw [HE.out]; rfl, M3.out⟩
  · have he := HBD.out hn
    subst he
    have hb : (newE B == 0) = false := by simpa using hn
    have HE := Lib.hid (show R = false by rw [HB.out]; unfold baseOk; simp [hn])
    clear hn HG HBD
    go_wp2_with fail
    go_ret
    exact ⟨by rw [HE.out]; rfl, M1.out⟩
end Go.Proofs.YtjgjjlolhdlofaaGreatDoor

namespace Go.Proofs.YtjgjjlolhdlofaaGreatDoor
open Go.RowKit Go.Shelf Go.Mine
open Classical

theorem all_snocE {E : List EntV} {k : Nat} {x : EntV} (hx : E[k]? = some x) (h : (E.take k).all entOk = true) (hk : entOk x = true) : (E.take (k + 1)).all entOk = true := by
  rw [ents_snoc hx, List.all_append, h]; simp [hk]
theorem not_allE {E : List EntV} {x : EntV} {k : Nat} {n : Int} (hx : E[k]? = some x) (hk : entOk x = false) : entsOk E n = false := by
  unfold entsOk
  have : E.all entOk = false := by
    rw [List.all_eq_false]
    exact ⟨x, List.mem_of_getElem? hx, by rw [hk]; simp⟩
  rw [this]; rfl
theorem raise_vec {V : List Int} {s q : Int} (h : raiseE V s q = 0) : vecOk V = true ∧ nameOk s q = true := by
  unfold raiseE at h
  by_cases hc : (vecOk V && nameOk s q) = true
  · simpa using hc
  · rw [if_neg hc] at h; omega
theorem nameOk_site {s q : Int} (h : nameOk s q = true) : 1 ≤ s ∧ s ≤ 16 := by
  unfold nameOk inB at h
  simp only [Bool.and_eq_true, decide_eq_true_eq] at h
  exact h.1
theorem raiseL_i64 {V : List Int} {s : Int} (h : vecOk V = true) (hV : ∀ x ∈ V, -9223372036854775808 ≤ x ∧ x ≤ 9223372036854775807) : ∀ x ∈ raiseL V s, -9223372036854775808 ≤ x ∧ x ≤ 9223372036854775807 := by
  intro x hx
  have hc := cntV_le h s
  unfold raiseL at hx
  rcases List.mem_or_eq_of_mem_set hx with hx | rfl
  · rcases List.mem_append.1 hx with hx | hx
    · exact hV x hx
    · have := (List.mem_replicate.1 hx).2
      omega
  · omega
theorem listV_shape (l : List OpS) (n : Int) : ∃ ov : Int, listV l n = .tuple #[.int .i64 ov, .bool (listRun l n).isSome] := by
  unfold listV
  cases listRun l n <;> exact ⟨_, rfl⟩
theorem drop_cons {α : Type} {l : List α} {k : Nat} {x : α} (h : l[k]? = some x) : l.drop k = x :: l.drop (k + 1) := by
  obtain ⟨hi, e⟩ := List.getElem?_eq_some_iff.1 h
  rw [← e]; exact List.drop_eq_getElem_cons hi

set_option maxHeartbeats 4000000 in
set_option maxRecDepth 1000000 in
theorem entries_any (w : World) (h : HistV) (E : List EntV) (he : IsEnts w h.la h.ll h.lc E) (hl : h.ll ≤ 100000) :
    Calls Tryz.prog 53 #[h.v] w fun e w' => e = .returned (.bool (entsOk E (h.bl : Int))) ∧ Mine.Mod none_ w w' := by
  obtain ⟨R, hR⟩ : ∃ R, R = entsOk E (h.bl : Int) := ⟨_, rfl⟩
  rw [← hR]
  have hle := he.le
  have hcap := he.big
  unfold maxLen at hcap
  obtain ⟨xba, xbl, xbc, xva, xvl, xvc, xfr, xnum, xla, xll, xlc⟩ := h
  dsimp only at hle hcap hl he hR
  have HB := Lib.hid hR
  have H := Lib.hid he
  have HN := Lib.hid he.n
  clear hR he
  obtain ⟨W0, hW0⟩ : ∃ W0, w.alloc (.cells #[.slice xba xbl xbc, .slice xva xvl xvc, .int .i64 xfr, .int .i64 xnum, .slice xla xll xlc] 32) = W0 := ⟨_, rfl⟩
  obtain ⟨K, hK⟩ : ∃ K, w.heap.size = K := ⟨_, rfl⟩
  have m0 : Mine.Mod none_ w W0 := by rw [← hW0]; exact (Mine.Mod.refl none_ w).alloc _
  have k0 : Blk W0 K [.slice xba xbl xbc, .slice xva xvl xvc, .int .i64 xfr, .int .i64 xnum, .slice xla xll xlc] 32 := by rw [← hW0, ← hK]; exact Blk.new (w := w) (cs := [.slice xba xbl xbc, .slice xva xvl xvc, .int .i64 xfr, .int .i64 xnum, .slice xla xll xlc])
  obtain ⟨cs0, hcs0⟩ : ∃ cs0 : List Value, cs0 = [.slice xba xbl xbc, .slice xva xvl xvc, .int .i64 xfr, .int .i64 xnum, .slice xla xll xlc] := ⟨_, rfl⟩
  rw [← hcs0] at k0
  have HC0 := Lib.hid (show ∀ W, Blk W K cs0 32 → W.cell? ⟨K, 0, none⟩ = some (.slice xba xbl xbc) from fun W k => by rw [k.cell, hcs0]; rfl)
  have HC1 := Lib.hid (show ∀ W, Blk W K cs0 32 → W.cell? ⟨K, 1, none⟩ = some (.slice xva xvl xvc) from fun W k => by rw [k.cell, hcs0]; rfl)
  have HC2 := Lib.hid (show ∀ W, Blk W K cs0 32 → W.cell? ⟨K, 2, none⟩ = some (.int .i64 xfr) from fun W k => by rw [k.cell, hcs0]; rfl)
  have HC3 := Lib.hid (show ∀ W, Blk W K cs0 32 → W.cell? ⟨K, 3, none⟩ = some (.int .i64 xnum) from fun W k => by rw [k.cell, hcs0]; rfl)
  have HC4 := Lib.hid (show ∀ W, Blk W K cs0 32 → W.cell? ⟨K, 4, none⟩ = some (.slice xla xll xlc) from fun W k => by rw [k.cell, hcs0]; rfl)
  have M0 := Lib.hid m0
  have K0 := Lib.hid k0
  have hKw : w.heap.size ≤ K := by omega
  have c0 := HC0.out W0 k0
  have c1 := HC1.out W0 k0
  have c2 := HC2.out W0 k0
  have c3 := HC3.out W0 k0
  have c4 := HC4.out W0 k0
  clear m0 k0 hcs0
  go_enter Tryz.func53, Tryz.ntmps53
  go_upto_region 1 with fail
  clear hW0 hK
  go_wp2_with fail
  clear c0 c1 c2 c3 c4
  go_loopg [10] xll (fun g s10 wx => ∃ k : Nat, g = xll - k ∧ s10 = .int .i64 k ∧ k ≤ xll ∧ Mine.Mod none_ w wx ∧ RowKit.Hid (Blk wx K cs0 32 ∧ (E.take k).all entOk = true))
  case atStart => exact ⟨0, rfl, rfl, Nat.zero_le _, M0.out, Lib.hid ⟨K0.out, rfl⟩⟩
  case round =>
    obtain ⟨k, rfl, rfl, hk, mx, hst⟩ := hrel
    have MX := Lib.hid mx
    obtain ⟨kx, hall⟩ := hst.out
    by_cases hlk : k < xll
    · obtain ⟨x, hx⟩ : ∃ x, E[k]? = some x := ⟨E[k]'(by rw [HN.out]; exact hlk), by simp⟩
      have KX := Lib.hid kx
      have HALL := Lib.hid (fun (hb : entOk x = true) => all_snocE hx hall hb)
      have HBAD := Lib.hid (fun (hb : entOk x = false) => show R = false by rw [HB.out]; exact not_allE hx hb)
      have hxo := (H.out.grown mx).ok x (List.mem_of_getElem? hx)
      obtain ⟨b, off, rfl, hr⟩ := (H.out.grown mx).ents k x hx
      have c0 := hr 0 _ rfl
      have c1 := hr 1 _ rfl
      have c2 := hr 2 _ rfl
      have c3 := hr 3 _ rfl
      have c4 := hr 4 _ rfl
      have c5 := hr 5 _ rfl
      have c6 := hr 6 _ rfl
      have c7 := hr 7 _ rfl
      have c8 := hr 8 _ rfl
      have c9 := hr 9 _ rfl
      have c10 := hr 10 _ rfl
      have c11 := hr 11 _ rfl
      have c12 := hr 12 _ rfl
      have c13 := hr 13 _ rfl
      rw [Nat.add_zero] at c0
      have mE : Mine.Mod none_ wr (wr.alloc (.cells x.cs.toArray 62)) := (Mine.Mod.refl none_ wr).alloc _
      have ME := Lib.hid mE
      have KE := Lib.hid (Blk.new (w := wr) (cs := x.cs) (t := 62))
      have HM := Lib.hid (mayEdit_any x.ed _ (hxo.2.grown mE))
      dsimp only [EntV.cs] at ME KE HM
      clear kx hall hst hx hxo hr mE mx
      go_wp2_with fail
      refine HM.out.mono ?_
      rintro e w1 ⟨rfl, m1⟩
      have M1 := Lib.hid (MX.out.trans (ME.out.trans m1))
      have K1 := Lib.hid ((KX.out.mod ME.out (fun e => e)).mod m1 (fun e => e))
      have KE1 := Lib.hid (KE.out.mod m1 (fun e => e))
      have e0 : w1.cell? ⟨wr.heap.size, 0, none⟩ = some (.int .i64 x.o.site) := by rw [KE1.out.cell]; rfl
      have e1 : w1.cell? ⟨wr.heap.size, 1, none⟩ = some (.int .i64 x.o.seq) := by rw [KE1.out.cell]; rfl
      have e3 : w1.cell? ⟨wr.heap.size, 3, none⟩ = some (.int .i64 x.o.kind) := by rw [KE1.out.cell]; rfl
      have e7 : w1.cell? ⟨wr.heap.size, 7, none⟩ = some (.int .i64 x.ed.site) := by rw [KE1.out.cell]; rfl
      have e8 : w1.cell? ⟨wr.heap.size, 8, none⟩ = some (.int .i64 x.ed.seq) := by rw [KE1.out.cell]; rfl
      have e10 : w1.cell? ⟨wr.heap.size, 10, none⟩ = some (.int .i64 x.ed.kind) := by rw [KE1.out.cell]; rfl
      clear m1 c0 c1 c2 c3 c4 c5 c6 c7 c8 c9 c10 c11 c12 c13 HM ME KE KE1 KX MX
      cases ho : editOk x.ed
      case false =>
        have HE := Lib.hid (HBAD.out (by unfold entOk; rw [ho]; rfl))
        go_wp2_with fail
        go_ret
        exact ⟨by rw [HE.out]; rfl, M1.out⟩
      by_cases h1 : x.ed.site = x.o.site
      case neg =>
        have HE := Lib.hid (HBAD.out (by unfold entOk; simp [h1]))
        have b1 : (x.ed.site == x.o.site) = false := by simpa using h1
        go_wp2_with fail
        go_ret
        exact ⟨by rw [HE.out]; rfl, M1.out⟩
      by_cases h2 : x.ed.seq = x.o.seq
      case neg =>
        have HE := Lib.hid (HBAD.out (by unfold entOk; simp [h2]))
        have b2 : (x.ed.seq == x.o.seq) = false := by simpa using h2
        rw [h1] at e7
        clear h1
        go_wp2_with fail
        go_ret
        exact ⟨by rw [HE.out]; rfl, M1.out⟩
      by_cases h3 : x.ed.kind = x.o.kind
      case neg =>
        have HE := Lib.hid (HBAD.out (by unfold entOk; simp [h3]))
        have b3 : (x.ed.kind == x.o.kind) = false := by simpa using h3
        rw [h1] at e7
        rw [h2] at e8
        clear h1 h2
        go_wp2_with fail
        go_ret
        exact ⟨by rw [HE.out]; rfl, M1.out⟩
      have HG := Lib.hid (HALL.out (by unfold entOk; rw [ho]; simp [h1, h2, h3]))
      rw [h1] at e7
      rw [h2] at e8
      rw [h3] at e10
      clear h1 h2 h3
      go_wp2_with fail
      go_roundg (xll - (k + 1))
      all_goals first
        | omega
        | exact ⟨k + 1, rfl, by go_num, by omega, M1.out, Lib.hid ⟨K1.out, HG.out⟩⟩
    · have hkl : k = xll := by omega
      rw [List.take_of_length_le (by rw [HN.out]; omega)] at hall
      have f0 := HC0.out wr kx
      have f1 := HC1.out wr kx
      have f2 := HC2.out wr kx
      have f3 := HC3.out wr kx
      have f4 := HC4.out wr kx
      have ha := hall_any wr.drew ⟨xba, xbl, xbc, xva, xvl, xvc, xfr, xnum, xla, xll, xlc⟩ E ((H.out.grown mx).grown (Mine.Mod.drew (Mine.Mod.refl none_ wr))) (by show xll ≤ 100000; omega)
      have HA := Lib.hid ha
      have KX := Lib.hid kx
      clear kx mx hst ha
      go_upto_region 7 with fail
      refine wp_region_held_drew (S := fun w' => w'.cell? ⟨K, 0, none⟩ = some (.slice xba xbl xbc) ∧ w'.cell? ⟨K, 1, none⟩ = some (.slice xva xvl xvc) ∧ w'.cell? ⟨K, 2, none⟩ = some (.int .i64 xfr) ∧ w'.cell? ⟨K, 3, none⟩ = some (.int .i64 xnum) ∧ w'.cell? ⟨K, 4, none⟩ = some (.slice xla xll xlc)) (by kernel_rfl) ⟨f0, f1, f2, f3, f4⟩ (fun hS => ?_)
      refine wpAnyH_take (i := 0) (v := .agg #[.slice xba xbl xbc, .slice xva xvl xvc, .int .i64 xfr, .int .i64 xnum, .slice xla xll xlc]) rfl (by kernel_rfl) (by kernel_rfl) (by kernel_rfl) (fun _ _ _ h => h) (Or.inl ⟨by kernel_rfl, ?_⟩) hS ?_
      · rintro w' ⟨q0, q1, q2, q3, q4⟩; go_simp
      try simp only [Act.put, List.setIfInBounds_toArray, List.set_cons_zero, List.set_cons_succ]
      refine wpAnyH_take (i := 2) (v := .pointer (some ⟨K, 0, none⟩)) rfl (by kernel_rfl) (by kernel_rfl) (by kernel_rfl) (fun _ _ _ h => h) (Or.inl ⟨by kernel_rfl, ?_⟩) hS ?_
      · rintro w' ⟨q0, q1, q2, q3, q4⟩; go_simp
      try simp only [Act.put, List.setIfInBounds_toArray, List.set_cons_zero, List.set_cons_succ]
      refine wpAnyH_take (i := 3) (v := .slice xba xbl xbc) rfl (by kernel_rfl) (by kernel_rfl) (by kernel_rfl) (fun _ _ _ h => h) (Or.inl ⟨by kernel_rfl, ?_⟩) hS ?_
      · rintro w' ⟨q0, q1, q2, q3, q4⟩; go_simp
      try simp only [Act.put, List.setIfInBounds_toArray, List.set_cons_zero, List.set_cons_succ]
      refine wpAnyH_take (i := 4) (v := .int .i64 (xbl : Int)) rfl (by kernel_rfl) (by kernel_rfl) (by kernel_rfl) (fun _ _ _ h => h) (Or.inl ⟨by kernel_rfl, ?_⟩) hS ?_
      · rintro w' ⟨q0, q1, q2, q3, q4⟩; go_simp
      try simp only [Act.put, List.setIfInBounds_toArray, List.set_cons_zero, List.set_cons_succ]
      refine wpAnyH_ready (rs := [1]) (by kernel_rfl) (by simp) (AllReadyH.cons rfl (fun K hK => ?_) <| AllReadyH.nil)
      go_simp
      refine HA.out.mono ?_
      rintro e w1 ⟨⟨va, n, vc, rfl, ho⟩, m1⟩
      have MA := Lib.hid m1
      have KA := Lib.hid ((KX.out.mod (Mine.Mod.drew (Mine.Mod.refl none_ wr)) (fun e => e)).mod m1 (fun e => e))
      have HO := Lib.hid (own_ops ho (fun y hy => by obtain ⟨z, hz, rfl⟩ := List.mem_map.1 hy; exact (((H.out.grown MX.out).ok z hz).1.grown (Mine.Mod.drew (Mine.Mod.refl none_ wr))).grown m1))
      refine hK.out _ _ ⟨HC0.out _ KA.out, HC1.out _ KA.out, HC2.out _ KA.out, HC3.out _ KA.out, HC4.out _ KA.out⟩ (fun hS => ?_)
      clear hK K
      try simp only [Act.put, List.setIfInBounds_toArray, List.set_cons_zero, List.set_cons_succ]
      clear ho m1
      refine wpAnyH_ready (rs := [5]) (by kernel_rfl) (by simp) (AllReadyH.cons rfl (fun K hK => ?_) <| AllReadyH.nil)
      go_simp
      refine (listRun_any w1 va n vc (opsOf E) (xbl : Int) HO.out).mono ?_
      rintro e w2 ⟨rfl, m2⟩
      have M2 := Lib.hid ((MX.out.trans (Mine.Mod.drew (Mine.Mod.refl none_ wr))).trans (MA.out.trans m2))
      have KB := Lib.hid (KA.out.mod m2 (fun e => e))
      clear m2
      obtain ⟨ov, hov⟩ := listV_shape (opsOf E) (xbl : Int)
      rw [hov]
      obtain ⟨ob, hob⟩ : ∃ ob, ob = (listRun (opsOf E) (xbl : Int)).isSome := ⟨_, rfl⟩
      rw [← hob]
      have HE := Lib.hid (show R = ob by rw [HB.out, hob]; unfold entsOk; rw [hall]; rfl)
      clear hov hob
      refine hK.out _ _ ⟨HC0.out _ KB.out, HC1.out _ KB.out, HC2.out _ KB.out, HC3.out _ KB.out, HC4.out _ KB.out⟩ (fun hS => ?_)
      clear hK K
      try simp only [Act.put, List.setIfInBounds_toArray, List.set_cons_zero, List.set_cons_succ]
      refine wpAnyH_take (i := 6) (v := .tuple #[.int .i64 ov, .bool ob]) rfl (by kernel_rfl) (by kernel_rfl) (by kernel_rfl) (fun _ _ _ h => h) (Or.inl ⟨by kernel_rfl, ?_⟩) hS ?_
      · rintro w' ⟨q0, q1, q2, q3, q4⟩; go_simp
      try simp only [Act.put, List.setIfInBounds_toArray, List.set_cons_zero, List.set_cons_succ]
      refine wpAnyH_take (i := 7) (v := .int .i64 ov) rfl (by kernel_rfl) (by kernel_rfl) (by kernel_rfl) (fun _ _ _ h => h) (Or.inl ⟨by kernel_rfl, ?_⟩) hS ?_
      · rintro w' ⟨q0, q1, q2, q3, q4⟩; go_simp
      try simp only [Act.put, List.setIfInBounds_toArray, List.set_cons_zero, List.set_cons_succ]
      refine wpAnyH_take (i := 8) (v := .bool ob) rfl (by kernel_rfl) (by kernel_rfl) (by kernel_rfl) (fun _ _ _ h => h) (Or.inl ⟨by kernel_rfl, ?_⟩) hS ?_
      · rintro w' ⟨q0, q1, q2, q3, q4⟩; go_simp
      try simp only [Act.put, List.setIfInBounds_toArray, List.set_cons_zero, List.set_cons_succ]
      refine wpAnyH_take (i := 9) (v := .int .i64 ov) rfl (by kernel_rfl) (by kernel_rfl) (by kernel_rfl) (fun _ _ _ h => h) (Or.inl ⟨by kernel_rfl, ?_⟩) hS ?_
      · rintro w' ⟨q0, q1, q2, q3, q4⟩; go_simp
      try simp only [Act.put, List.setIfInBounds_toArray, List.set_cons_zero, List.set_cons_succ]
      refine wpAnyH_take (i := 10) (v := .bool ob) rfl (by kernel_rfl) (by kernel_rfl) (by kernel_rfl) (fun _ _ _ h => h) (Or.inl ⟨by kernel_rfl, ?_⟩) hS ?_
      · rintro w' ⟨q0, q1, q2, q3, q4⟩; go_simp
      try simp only [Act.put, List.setIfInBounds_toArray, List.set_cons_zero, List.set_cons_succ]
      refine wpAnyH_done (by kernel_rfl) ?_ _
      try simp only [List.getElem_toArray, List.getElem_cons_succ, List.getElem_cons_zero]
      try simp only [Act.put, List.setIfInBounds_toArray, List.set_cons_zero, List.set_cons_succ]
      go_wp2_with fail
      go_ret
      exact ⟨by rw [HE.out]; rfl, M2.out⟩

end Go.Proofs.YtjgjjlolhdlofaaGreatDoor

namespace Go.Proofs.YtjgjjlolhdlofaaGreatDoor
open Go.RowKit Go.Shelf Go.Mine
open Classical

theorem orderL_cons {last p : Int} {V : List Int} {num : Int} {x : EntV} {r : List EntV} : orderL last p V num (x :: r) = if raiseE V x.o.site x.o.seq = 0 then
      (if x.o.num = 0 then (if p = 0 ∨ p = x.o.site then orderL last x.o.site (raiseL V x.o.site) num r else false)
       else (if p = 0 ∧ last < x.o.num ∧ x.o.num ≤ num then orderL x.o.num 0 (raiseL V x.o.site) num r else false))
    else false := rfl

set_option maxHeartbeats 4000000 in
set_option maxRecDepth 1000000 in
theorem order_any (w : World) (h : HistV) (V : List Int) (E : List EntV) (hv : IsVec w h.va h.vl h.vc V) (he : IsEnts w h.la h.ll h.lc E) :
    Calls Tryz.prog 54 #[h.v] w fun e w' => e = .returned (.bool (orderL h.from_ 0 V h.num E)) ∧ Mine.Mod none_ w w' := by
  obtain ⟨R, hR⟩ : ∃ R, R = orderL h.from_ 0 V h.num E := ⟨_, rfl⟩
  rw [← hR]
  have hle := he.le
  have hcap := he.big
  unfold maxLen at hcap
  obtain ⟨xba, xbl, xbc, xva, xvl, xvc, xfr, xnum, xla, xll, xlc⟩ := h
  dsimp only at hle hcap he hv hR
  have HB := Lib.hid hR
  have H := Lib.hid he
  have HV := Lib.hid hv
  have HN := Lib.hid he.n
  clear hR he hv
  obtain ⟨W0, hW0⟩ : ∃ W0, w.alloc (.cells #[.slice xba xbl xbc, .slice xva xvl xvc, .int .i64 xfr, .int .i64 xnum, .slice xla xll xlc] 32) = W0 := ⟨_, rfl⟩
  obtain ⟨K, hK⟩ : ∃ K, w.heap.size = K := ⟨_, rfl⟩
  have m0 : Mine.Mod none_ w W0 := by rw [← hW0]; exact (Mine.Mod.refl none_ w).alloc _
  have k0 : Blk W0 K [.slice xba xbl xbc, .slice xva xvl xvc, .int .i64 xfr, .int .i64 xnum, .slice xla xll xlc] 32 := by rw [← hW0, ← hK]; exact Blk.new (w := w) (cs := [.slice xba xbl xbc, .slice xva xvl xvc, .int .i64 xfr, .int .i64 xnum, .slice xla xll xlc])
  obtain ⟨cs0, hcs0⟩ : ∃ cs0 : List Value, cs0 = [.slice xba xbl xbc, .slice xva xvl xvc, .int .i64 xfr, .int .i64 xnum, .slice xla xll xlc] := ⟨_, rfl⟩
  rw [← hcs0] at k0
  have HC0 := Lib.hid (show ∀ W, Blk W K cs0 32 → W.cell? ⟨K, 0, none⟩ = some (.slice xba xbl xbc) from fun W k => by rw [k.cell, hcs0]; rfl)
  have HC1 := Lib.hid (show ∀ W, Blk W K cs0 32 → W.cell? ⟨K, 1, none⟩ = some (.slice xva xvl xvc) from fun W k => by rw [k.cell, hcs0]; rfl)
  have HC2 := Lib.hid (show ∀ W, Blk W K cs0 32 → W.cell? ⟨K, 2, none⟩ = some (.int .i64 xfr) from fun W k => by rw [k.cell, hcs0]; rfl)
  have HC3 := Lib.hid (show ∀ W, Blk W K cs0 32 → W.cell? ⟨K, 3, none⟩ = some (.int .i64 xnum) from fun W k => by rw [k.cell, hcs0]; rfl)
  have HC4 := Lib.hid (show ∀ W, Blk W K cs0 32 → W.cell? ⟨K, 4, none⟩ = some (.slice xla xll xlc) from fun W k => by rw [k.cell, hcs0]; rfl)
  have M0 := Lib.hid m0
  have K0 := Lib.hid k0
  have hKw : w.heap.size ≤ K := by omega
  have c0 := HC0.out W0 k0
  have c1 := HC1.out W0 k0
  have c2 := HC2.out W0 k0
  have c3 := HC3.out W0 k0
  have c4 := HC4.out W0 k0
  clear m0 k0 hcs0
  go_enter Tryz.func54, Tryz.ntmps54
  go_upto_region 1 with fail
  clear hW0 hK
  go_quiet (fail)
  have MQ := Lib.hid (M0.out.trans ((Mine.Mod.refl none_ W0).drewN nq))
  have KQ := Lib.hid (K0.out.mod ((Mine.Mod.refl none_ W0).drewN nq) (fun e => e))
  generalize W0.drewN nq = WQ at MQ KQ ⊢
  clear c0 c1 c2 c3 c4
  have c4 := HC4.out WQ KQ.out
  go_wp2_with fail
  clear c4
  go_loopg [3, 4, 5, 17] xll (fun g s3 s4 s5 s17 wx => ∃ (k : Nat) (last p : Int) (va : Option Addr) (vn vc : Nat) (V' : List Int), g = xll - k ∧ s3 = .int .i64 last ∧ s4 = .int .i64 p ∧ s5 = .slice va vn vc ∧ s17 = .int .i64 k ∧ k ≤ xll ∧ Mine.Mod none_ w wx ∧ RowKit.Hid (Blk wx K cs0 32 ∧ IsVec wx va vn vc V' ∧ R = orderL last p V' xnum (E.drop k)))
  case atStart => exact ⟨0, xfr, 0, xva, xvl, xvc, V, rfl, rfl, rfl, rfl, rfl, Nat.zero_le _, MQ.out, Lib.hid ⟨KQ.out, HV.out.grown MQ.out, HB.out⟩⟩
  case round =>
    obtain ⟨k, last, p, va, vn, vc, V', rfl, rfl, rfl, rfl, rfl, hk, mx, hst⟩ := hrel
    have MX := Lib.hid mx
    obtain ⟨kx, hv, hR⟩ := hst.out
    by_cases hlk : k < xll
    · obtain ⟨x, hx⟩ : ∃ x, E[k]? = some x := ⟨E[k]'(by rw [HN.out]; exact hlk), by simp⟩
      rw [drop_cons hx, orderL_cons] at hR
      have HR := Lib.hid hR
      have KX := Lib.hid kx
      have hxo := (H.out.grown mx).ok x (List.mem_of_getElem? hx)
      obtain ⟨b, off, rfl, hr⟩ := (H.out.grown mx).ents k x hx
      have c0 := hr 0 _ rfl
      have c1 := hr 1 _ rfl
      have c2 := hr 2 _ rfl
      have c3 := hr 3 _ rfl
      have c4 := hr 4 _ rfl
      have c5 := hr 5 _ rfl
      have c6 := hr 6 _ rfl
      have c7 := hr 7 _ rfl
      have c8 := hr 8 _ rfl
      have c9 := hr 9 _ rfl
      have c10 := hr 10 _ rfl
      have c11 := hr 11 _ rfl
      have c12 := hr 12 _ rfl
      have c13 := hr 13 _ rfl
      rw [Nat.add_zero] at c0
      have mE : Mine.Mod none_ wr (wr.alloc (.cells x.cs.toArray 62)) := (Mine.Mod.refl none_ wr).alloc _
      have ME := Lib.hid mE
      have KE := Lib.hid (Blk.new (w := wr) (cs := x.cs) (t := 62))
      have HS := Lib.hid (show ((-9223372036854775808 ≤ x.o.site ∧ x.o.site ≤ 9223372036854775807)) from hxo.1.i1)
      have HM := Lib.hid (vraise_any _ va vn vc V' x.o.site x.o.seq (hv.grown mE) HS.out)
      have HVI := Lib.hid hv.ok
      dsimp only [EntV.cs] at ME KE HM
      clear kx hv hR hst hx hxo hr mE mx
      go_wp2_with fail
      refine HM.out.mono ?_
      rintro e w1 ⟨hr, m1⟩
      have M1 := Lib.hid (MX.out.trans (ME.out.trans m1))
      have K1 := Lib.hid ((KX.out.mod ME.out (fun e => e)).mod m1 (fun e => e))
      have KE1 := Lib.hid (KE.out.mod m1 (fun e => e))
      have e0 : w1.cell? ⟨wr.heap.size, 0, none⟩ = some (.int .i64 x.o.site) := by rw [KE1.out.cell]; rfl
      have e2 : w1.cell? ⟨wr.heap.size, 2, none⟩ = some (.int .i64 x.o.num) := by rw [KE1.out.cell]; rfl
      have d3 := HC3.out w1 K1.out
      clear m1 c0 c1 c2 c3 c4 c5 c6 c7 c8 c9 c10 c11 c12 c13 HM ME KE KE1 KX MX
      rcases hr with ⟨hne, rfl⟩ | ⟨hz, va', vn', vc', rfl, ho⟩
      · have hb : (raiseE V' x.o.site x.o.seq == 0) = false := by simpa using hne
        have HE := Lib.hid (show R = false by rw [HR.out, if_neg hne])
        generalize raiseE V' x.o.site x.o.seq = ee at hne hb ⊢
        clear HR HVI
        go_wp2_with fail
        go_ret
        exact ⟨by rw [HE.out]; rfl, M1.out⟩
      have HR2 := Lib.hid (HR.out.trans (if_pos hz))
      have hrv := raise_vec hz
      have HV1 := Lib.hid (own_vec ho (raiseL_i64 hrv.1 HVI.out))
      have hs1 := (nameOk_site hrv.2).1
      clear ho hz hrv HR HVI
      by_cases hn : x.o.num = 0
      · have HR3 := Lib.hid (HR2.out.trans (if_pos hn))
        rw [hn] at e2
        clear hn HR2
        by_cases hp : p = 0
        · have HG := Lib.hid (HR3.out.trans (if_pos (Or.inl hp)))
          subst hp
          clear HR3
          go_wp2_with fail
          go_roundg (xll - (k + 1))
          all_goals first
            | omega
            | exact ⟨k + 1, _, _, va', vn', vc', _, rfl, rfl, rfl, rfl, by go_num, by omega, M1.out, Lib.hid ⟨K1.out, HV1.out, HG.out⟩⟩
        have hb1 : (p == 0) = false := by simpa using hp
        by_cases hq : p = x.o.site
        · have HG := Lib.hid (HR3.out.trans (if_pos (Or.inr hq)))
          rw [← hq] at e0 HG HV1 hs1
          clear hq HR3
          go_wp2_with fail
          go_roundg (xll - (k + 1))
          all_goals first
            | omega
            | exact ⟨k + 1, _, _, va', vn', vc', _, rfl, rfl, rfl, rfl, by go_num, by omega, M1.out, Lib.hid ⟨K1.out, HV1.out, HG.out⟩⟩
        have HE := Lib.hid (HR3.out.trans (if_neg (fun e => e.elim hp hq)))
        have hb2 : (p == x.o.site) = false := by simpa using hq
        have hb6 : (p != x.o.site) = true := by simpa using hq
        clear HR3
        go_wp2_with fail
        go_ret
        exact ⟨by rw [HE.out]; rfl, M1.out⟩
      have HR3 := Lib.hid (HR2.out.trans (if_neg hn))
      have hb3 : (x.o.num == 0) = false := by simpa using hn
      have hb4 : (x.o.num != 0) = true := by simpa using hn
      by_cases hp : p = 0
      case neg =>
        have hb1 : (p == 0) = false := by simpa using hp
        have hb5 : (p != 0) = true := by simpa using hp
        have HE := Lib.hid (HR3.out.trans (if_neg (fun e => hp e.1)))
        clear HR3 HR2
        go_wp2_with fail
        go_ret
        exact ⟨by rw [HE.out]; rfl, M1.out⟩
      subst hp
      clear HR2
      cases hl1 : decide (x.o.num ≤ last)
      case true =>
        have HE := Lib.hid (HR3.out.trans (if_neg (fun e => by simp at hl1; omega)))
        clear HR3
        go_wp2_with fail
        go_ret
        exact ⟨by rw [HE.out]; rfl, M1.out⟩
      cases hl2 : decide (xnum < x.o.num)
      case true =>
        have HE := Lib.hid (HR3.out.trans (if_neg (fun e => by simp at hl2; omega)))
        clear HR3
        go_wp2_with fail
        go_ret
        exact ⟨by rw [HE.out]; rfl, M1.out⟩
      have HG := Lib.hid (HR3.out.trans (if_pos (by simp at hl1 hl2; omega)))
      clear HR3
      go_wp2_with fail
      go_roundg (xll - (k + 1))
      all_goals first
        | omega
        | exact ⟨k + 1, _, _, va', vn', vc', _, rfl, rfl, rfl, rfl, by go_num, by omega, M1.out, Lib.hid ⟨K1.out, HV1.out, HG.out⟩⟩
    · have hkl : k = xll := by omega
      rw [List.drop_of_length_le (by rw [HN.out]; omega)] at hR
      have HE := Lib.hid (show R = true from hR)
      clear kx hv hR hst mx
      go_wp2_with fail
      go_ret
      exact ⟨by rw [HE.out]; rfl, MX.out⟩

end Go.Proofs.YtjgjjlolhdlofaaGreatDoor

namespace Go.Proofs.YtjgjjlolhdlofaaGreatDoor
open Go.RowKit Go.Shelf Go.Mine

set_option maxHeartbeats 2000000 in
set_option maxRecDepth 1000000 in
theorem rvmay_any (w : World) (a : Option Addr) (len cap : Nat) (l : List Int) (h : IsVec w a len cap l) :
    Calls Tryz.prog 27 #[.slice a len cap] w fun e w' => e = .returned (.bool (vecOk l)) ∧ Mine.Mod none_ w w' := by
  have hle := h.le
  have hcap := h.big
  unfold maxLen at hcap
  have H := Lib.hid h
  have HN := Lib.hid h.n
  obtain ⟨R, hR⟩ : ∃ R, R = vecOk l := ⟨_, rfl⟩
  rw [← hR]
  have HR := Lib.hid hR
  clear h hR
  go_enter Tryz.func27, Tryz.ntmps27
  by_cases h16 : 16 < (len : Int)
  · have d16 : decide (16 < (len : Int)) = true := by simpa using h16
    have HE := Lib.hid (show R = false by
      rw [HR.out]; unfold vecOk
      have : decide (l.length ≤ 16) = false := by rw [HN.out]; simp; omega
      rw [this, Bool.and_false, Bool.false_and])
    go_wp2_with fail
    go_ret
    exact ⟨by rw [HE.out]; rfl, Mine.Mod.refl _ _⟩
  have d16 : decide (16 < (len : Int)) = false := by simpa using h16
  go_wp2_with fail
  go_loopg [3] len (fun g s3 wx => ∃ k : Nat, g = len - k ∧ s3 = .int .i64 k ∧ k ≤ len ∧ wx = w ∧ RowKit.Hid (((l.take k).all fun x => inB x 0 1099511627776) = true))
  case atStart => exact ⟨0, rfl, rfl, Nat.zero_le _, rfl, Lib.hid rfl⟩
  case round =>
    obtain ⟨k, rfl, rfl, hk, rfl, hst⟩ := hrel
    by_cases hlk : k < len
    · obtain ⟨x, hx⟩ : ∃ x, l[k]? = some x := ⟨l[k]'(by rw [HN.out]; exact hlk), by simp⟩
      obtain ⟨b, off, rfl, c0⟩ := H.out.cells k x hx
      have HX := Lib.hid hx
      have HBAD := Lib.hid (show inB x 0 1099511627776 = false → R = false from fun hb => by
        rw [HR.out]; unfold vecOk
        have : (l.all fun x => inB x 0 1099511627776) = false := by
          rw [List.all_eq_false]
          exact ⟨x, List.mem_of_getElem? HX.out, by rw [hb]; simp⟩
        rw [this]; rfl)
      clear hx
      by_cases h1 : x < 0
      · have HE := Lib.hid (HBAD.out (by unfold inB; simp; omega))
        have e1 : decide (x < 0) = true := by simpa using h1
        clear hst
        go_wp2_with fail
        go_ret
        exact ⟨by rw [HE.out]; rfl, Mine.Mod.refl _ _⟩
      have e1 : decide (x < 0) = false := by simpa using h1
      by_cases h2 : 1099511627776 < x
      · have HE := Lib.hid (HBAD.out (by unfold inB; simp; omega))
        have e2 : decide (1099511627776 < x) = true := by simpa using h2
        clear hst
        go_wp2_with fail
        go_ret
        exact ⟨by rw [HE.out]; rfl, Mine.Mod.refl _ _⟩
      have e2 : decide (1099511627776 < x) = false := by simpa using h2
      have HST := Lib.hid (show ((l.take (k + 1)).all fun x => inB x 0 1099511627776) = true by
        rw [vec_snoc HX.out, List.all_append, hst.out]
        simp [inB]; omega)
      clear hst
      go_wp2_with fail
      go_roundg (len - (k + 1))
      all_goals first
        | omega
        | exact ⟨k + 1, rfl, by go_num, by omega, rfl, HST⟩
    · obtain rfl : k = len := by omega
      have HALL := Lib.hid (show (l.all fun x => inB x 0 1099511627776) = true by
        have := hst.out
        rw [List.take_of_length_le (by rw [HN.out]; exact Nat.le_refl _)] at this
        exact this)
      clear hst
      cases k with
      | zero =>
        have HE := Lib.hid (show R = true by
          rw [HR.out]; unfold vecOk
          rw [HALL.out]
          have : l = [] := List.eq_nil_of_length_eq_zero HN.out
          rw [this]; rfl)
        go_wp2_with fail
        go_ret
        exact ⟨by rw [HE.out]; rfl, Mine.Mod.refl _ _⟩
      | succ n =>
        obtain ⟨x, hx⟩ : ∃ x, l[n]? = some x := ⟨l[n]'(by rw [HN.out]; omega), by simp⟩
        obtain ⟨b, off, rfl, c0⟩ := H.out.cells n x hx
        have hx0 : 0 ≤ x := by
          have := List.all_eq_true.1 HALL.out x (List.mem_of_getElem? hx)
          unfold inB at this
          simp only [decide_eq_true_eq] at this
          omega
        have HE := Lib.hid (show R = decide (0 < x) by
          rw [HR.out]; unfold vecOk
          rw [HALL.out, lastPos_at HN.out hx, HN.out]
          have : decide (n + 1 ≤ 16) = true := by simp; omega
          rw [this]; rfl)
        have hz : ((n : Int) + 1 == 0) = false := by rw [beq_eq_false_iff_ne]; omega
        have hw1 : IntKind.i64.wrap ((n : Int) + 1 - 1) = (n : Int) := by rw [IntKind.wrap_i64]; omega
        clear hx
        by_cases h0 : x = 0
        · have HE2 := Lib.hid (show R = false by rw [HE.out]; simp; omega)
          clear hx0
          go_wp2_with fail
          go_ret
          exact ⟨by rw [HE2.out]; rfl, Mine.Mod.refl _ _⟩
        · have HE2 := Lib.hid (show R = true by rw [HE.out]; simp; omega)
          have hb0 : (x == 0) = false := by simpa using h0
          have hb1 : (x != 0) = true := by simpa using h0
          go_wp2_with fail
          go_ret
          exact ⟨by rw [HE2.out]; rfl, Mine.Mod.refl _ _⟩

set_option maxHeartbeats 2000000 in
set_option maxRecDepth 1000000 in
theorem rvcount_any (w : World) (a : Option Addr) (len cap : Nat) (l : List Int) (s : Int) (h : IsVec w a len cap l) (_hs : -9223372036854775808 ≤ s ∧ s ≤ 9223372036854775807) :
    Calls Tryz.prog 30 #[.slice a len cap, .int .i64 s] w fun e w' => e = .returned (.int .i64 (cntV l s)) ∧ w' = w := by
  have hle := h.le
  have hcap := h.big
  unfold maxLen at hcap
  have H := Lib.hid h
  have HN := Lib.hid h.n
  clear h
  go_enter Tryz.func30, Tryz.ntmps30
  by_cases h1 : 1 ≤ s
  · have d1 : decide (1 ≤ s) = true := by simpa using h1
    by_cases h2 : s ≤ (len : Int)
    · have d2 : decide (s ≤ (len : Int)) = true := by simpa using h2
      obtain ⟨n, rfl⟩ : ∃ n : Nat, s = (n : Int) + 1 := ⟨(s - 1).toNat, by omega⟩
      have hnl : n < len := by omega
      obtain ⟨x, hx⟩ : ∃ x, l[n]? = some x := ⟨l[n]'(by rw [HN.out]; exact hnl), by simp⟩
      obtain ⟨b, off, rfl, c0⟩ := H.out.cells n x hx
      have HE := Lib.hid (show cntV l ((n : Int) + 1) = x by
        unfold cntV inB
        rw [HN.out, if_pos (by simpa using ⟨by omega, h2⟩), show ((n : Int) + 1 - 1).toNat = n by omega, hx]; rfl)
      have hw1 : IntKind.i64.wrap ((n : Int) + 1 - 1) = (n : Int) := by rw [IntKind.wrap_i64]; omega
      clear hx
      go_wp2_with fail
      go_ret
      exact ⟨by rw [HE.out]; rfl, rfl⟩
    · have d2 : decide (s ≤ (len : Int)) = false := by simpa using h2
      have HE := Lib.hid (show cntV l s = 0 by unfold cntV inB; rw [HN.out, if_neg (by simp; omega)])
      go_wp2_with fail
      go_ret
      exact ⟨by rw [HE.out]; rfl, rfl⟩
  · have d1 : decide (1 ≤ s) = false := by simpa using h1
    have HE := Lib.hid (show cntV l s = 0 by unfold cntV inB; rw [HN.out, if_neg (by simp; omega)])
    go_wp2_with fail
    go_ret
    exact ⟨by rw [HE.out]; rfl, rfl⟩

/-- What Made makes of sixteen counts: those up to the last one that is not nought. -/
def MadeOf (L : List Int) (n : Nat) : Prop := n ≤ 16 ∧ (∀ i, n ≤ i → i < 16 → L[i]? = some 0) ∧ (n = 0 ∨ ∃ x, L[n - 1]? = some x ∧ x ≠ 0)

set_option maxHeartbeats 4000000 in
set_option maxRecDepth 1000000 in
theorem rvmade_any (w : World) (L : List Int) (hL : L.length = 16) :
    Calls Tryz.prog 65 #[.agg (intCs L).toArray] w fun e w' => (∃ va n vc, e = .returned (.slice va n vc) ∧ MadeOf L n ∧ w'.ownsRow w.heap.size 3 1 (.slice va n vc) n (intCs (L.take n))) ∧ Mine.Mod none_ w w' := by
  obtain ⟨W0, hW0⟩ : ∃ W0, w.alloc (.cells (intCs L).toArray 119) = W0 := ⟨_, rfl⟩
  obtain ⟨K, hK⟩ : ∃ K, w.heap.size = K := ⟨_, rfl⟩
  have m0 : Mine.Mod none_ w W0 := by rw [← hW0]; exact (Mine.Mod.refl none_ w).alloc _
  have k0 : Blk W0 K (intCs L) 119 := by rw [← hW0, ← hK]; exact Blk.new (w := w) (cs := intCs L)
  have M0 := Lib.hid m0
  have K0 := Lib.hid k0
  have HL := Lib.hid hL
  have HK := Lib.hid hK
  have hat : ∀ W, Blk W K (intCs L) 119 → ∀ (i : Nat) (x : Int), L[i]? = some x → W.cell? ⟨K, i, none⟩ = some (.int .i64 x) := fun W k i x hx => by rw [k.cell, List.getElem?_map, hx]; rfl
  have HAT := Lib.hid hat
  obtain ⟨i0, hi0, hz0, hz1, hz2⟩ := info_parts infoInt
  have HI0 := Lib.hid hi0
  have HZ0 := Lib.hid hz0
  have HZ1 := Lib.hid hz1
  have HZ2 := Lib.hid hz2
  clear m0 k0 hL hat hi0 hz0 hz1 hz2
  go_enter Tryz.func65, Tryz.ntmps65
  go_upto_region 1 with fail
  clear hW0 hK
  go_wp2_with fail
  go_loopg [3] 16 (fun g s3 wx => ∃ n : Nat, n = g ∧ s3 = .int .i64 n ∧ n ≤ 16 ∧ wx = W0 ∧ RowKit.Hid (∀ i, n ≤ i → i < 16 → L[i]? = some 0))
  case atStart => exact ⟨16, rfl, rfl, Nat.le_refl _, rfl, Lib.hid (fun i h1 h2 => by omega)⟩
  case round =>
    obtain ⟨n, rfl, rfl, hn, rfl, hst⟩ := hrel
    cases n with
    | zero =>
      have HM := Lib.hid (show MadeOf L 0 from ⟨Nat.zero_le _, hst.out, .inl rfl⟩)
      clear hst
      go_wp2_with fail
      go_loopg [4, 5] (0) (fun g s4 s5 wx => ∃ (k : Nat) (va : Option Addr) (vc : Nat), g = 0 - k ∧ s4 = .slice va k vc ∧ s5 = .int .i64 k ∧ k ≤ 0 ∧ Mine.Mod none_ w wx ∧ RowKit.Hid (Blk wx K (intCs L) 119 ∧ wx.ownsRow w.heap.size 3 1 (.slice va k vc) k (intCs (L.take k))))
      case atStart => exact ⟨0, none, 0, rfl, rfl, rfl, Nat.zero_le _, M0.out, Lib.hid ⟨K0.out, ⟨rfl, .inl ⟨rfl, rfl⟩⟩⟩⟩
      case round =>
        obtain ⟨k, va, vc, rfl, rfl, rfl, hk, mx, hst⟩ := hrel
        have MX := Lib.hid mx
        obtain ⟨kx, ox⟩ := hst.out
        have OX := Lib.hid ox
        by_cases hlk : k < 0
        · omega
        · have hkn : k = 0 := by omega
          have HO := Lib.hid ox
          clear hst mx kx ox
          go_wp2_with fail
          go_ret
          exact ⟨⟨va, k, vc, rfl, by rw [hkn]; exact HM.out, HO.out⟩, MX.out⟩
    | succ m =>
      obtain ⟨x, hx⟩ : ∃ x, L[m]? = some x := ⟨L[m]'(by rw [HL.out]; omega), by simp⟩
      have c0 := HAT.out _ K0.out m x hx
      have hw1 : IntKind.i64.wrap ((m : Int) + 1 - 1) = (m : Int) := by rw [IntKind.wrap_i64]; omega
      have hpos : decide (0 < (m : Int) + 1) = true := by rw [decide_eq_true_eq]; omega
      by_cases h0 : x = 0
      · subst h0
        have HST := Lib.hid (show ∀ i, m ≤ i → i < 16 → L[i]? = some 0 from fun i h1 h2 => by
          by_cases him : i = m
          · subst him; exact hx
          · exact hst.out i (by omega) h2)
        clear hst hx
        go_wp2_with fail
        go_roundg m
        all_goals first
          | omega
          | exact ⟨m, rfl, by go_num, by omega, rfl, HST⟩
      · have HM := Lib.hid (show MadeOf L (m + 1) from ⟨hn, hst.out, .inr ⟨x, by rw [Nat.add_sub_cancel]; exact hx, h0⟩⟩)
        have hb0 : (x == 0) = false := by simpa using h0
        clear hx
        clear hst
        go_wp2_with fail
        go_loopg [4, 5] (m + 1) (fun g s4 s5 wx => ∃ (k : Nat) (va : Option Addr) (vc : Nat), g = m + 1 - k ∧ s4 = .slice va k vc ∧ s5 = .int .i64 k ∧ k ≤ m + 1 ∧ Mine.Mod none_ w wx ∧ RowKit.Hid (Blk wx K (intCs L) 119 ∧ wx.ownsRow w.heap.size 3 1 (.slice va k vc) k (intCs (L.take k))))
        case atStart => exact ⟨0, none, 0, rfl, rfl, rfl, Nat.zero_le _, M0.out, Lib.hid ⟨K0.out, ⟨rfl, .inl ⟨rfl, rfl⟩⟩⟩⟩
        case round =>
          obtain ⟨k, va, vc, rfl, rfl, rfl, hk, mx, hst⟩ := hrel
          have MX := Lib.hid mx
          obtain ⟨kx, ox⟩ := hst.out
          have OX := Lib.hid ox
          by_cases hlk : k < m + 1
          · obtain ⟨y, hy⟩ : ∃ y, L[k]? = some y := ⟨L[k]'(by rw [HL.out]; omega), by simp⟩
            have c1 := HAT.out _ kx k y hy
            have mY : Mine.Mod none_ wr (wr.alloc (.cells #[.int .i64 y] 3)) := (Mine.Mod.refl none_ wr).alloc _
            obtain ⟨v', w5, hrun, ho5, hg5, _⟩ := run_append_own (P := Tryz.prog) (wr.alloc (.cells #[.int .i64 y] 3)) w.heap.size 23 23 3 i0 _ 1 8 Tryz.underlying23 HI0.out HZ0.out HZ1.out HZ2.out rfl (by decide) (.slice va k vc) k _ (ownsRow_mod ox mY (fun _ _ e => e)) ⟨wr.heap.size, 0, none⟩ 1 1 [.int .i64 y] rfl (World.news_of_block (heap_alloc_new wr _)) (fun u hu => by rw [List.mem_singleton.1 hu]; rfl) (by unfold maxLen; omega) (by omega) (Nat.le_trans mx.size mY.size)
            obtain ⟨va', vc', rfl⟩ : ∃ va' vc', v' = .slice va' (k + 1) vc' := by
              rcases ownsRow_blk ho5 with ⟨_, h0, _⟩ | ⟨g', c', _, h1, _⟩
              · omega
              · exact ⟨_, _, h1⟩
            have mW : Mine.Mod (fun j => (Value.slice va k vc).ownBlock = some j) wr w5 := (mY.mono (fun _ _ e => e.elim)).trans ((Mine.Mod.refl _ _).grown hg5 (fun j e _ => e))
            have FIN := Lib.hid (show Mine.Mod none_ w w5 ∧ Blk w5 K (intCs L) 119 ∧ w5.ownsRow w.heap.size 3 1 (.slice va' (k + 1) vc') (k + 1) (intCs (L.take (k + 1))) from by
              refine ⟨mx.transIn mW (fun j hb e => by have := (ox.lt j e).1; omega), kx.mod mW (fun e => ?_), ?_⟩
              · obtain ⟨cs2, hb2⟩ := ownsRow_type ox e
                have e2 := Option.some.inj (kx.symm.trans hb2)
                injection e2 with _ h2 _
                exact absurd h2 (by decide)
              · rw [vec_snoc hy]
                unfold intCs at ho5 ⊢
                rw [List.map_append]
                exact ho5)
            have HRUN := Lib.hid hrun
            clear hst mx kx ox hy mY hrun ho5 hg5 mW OX
            go_wp2_with (at_builtin; refine Lib.wpList_append_run _ rfl (.tmp 22) (.tmp 26) 23 23 rfl _ _ rfl rfl _ _ HRUN.out ?_)
            go_roundg (m + 1 - (k + 1))
            all_goals first
              | omega
              | exact ⟨k + 1, va', vc', rfl, rfl, by go_num, by omega, FIN.out.1, Lib.hid FIN.out.2⟩
          · have hkn : k = m + 1 := by omega
            have HO := Lib.hid ox
            clear hst mx kx ox
            go_wp2_with fail
            go_ret
            exact ⟨⟨va, k, vc, rfl, by rw [hkn]; exact HM.out, HO.out⟩, MX.out⟩
end Go.Proofs.YtjgjjlolhdlofaaGreatDoor

namespace Go.Proofs.YtjgjjlolhdlofaaGreatDoor
open Go.RowKit Go.Mine

theorem list16 (L : List Int) (h : L.length = 16) : ∃ x0 x1 x2 x3 x4 x5 x6 x7 x8 x9 x10 x11 x12 x13 x14 x15, L = [x0, x1, x2, x3, x4, x5, x6, x7, x8, x9, x10, x11, x12, x13, x14, x15] := by
  match L, h with
  | [x0, x1, x2, x3, x4, x5, x6, x7, x8, x9, x10, x11, x12, x13, x14, x15], _ => exact ⟨x0, x1, x2, x3, x4, x5, x6, x7, x8, x9, x10, x11, x12, x13, x14, x15, rfl⟩
/-- The first i counts, and noughts. -/
def cntsTo (l : List Int) (i : Nat) : List Int := (List.range 16).map fun (j : Nat) => if j < i then cntV l ((j : Int) + 1) else 0
theorem cntsTo_len (l : List Int) (i : Nat) : (cntsTo l i).length = 16 := by unfold cntsTo; rw [List.length_map, List.length_range]
theorem cntsTo_at (l : List Int) (i j : Nat) (hj : j < 16) : (cntsTo l i)[j]? = some (if j < i then cntV l ((j : Int) + 1) else 0) := by
  unfold cntsTo
  rw [List.getElem?_map, List.getElem?_range hj]; rfl
theorem cntsTo_set (l : List Int) (i : Nat) (hi : i < 16) : (cntsTo l i).set i (cntV l ((i : Int) + 1)) = cntsTo l (i + 1) := by
  apply List.ext_getElem?
  intro j
  rw [List.getElem?_set, cntsTo_len]
  by_cases hj : j < 16
  · rw [cntsTo_at l i j hj, cntsTo_at l (i + 1) j hj]
    by_cases hij : i = j
    · subst hij
      rw [if_pos rfl, if_pos hi, if_pos (Nat.lt_succ_self _)]
    · rw [if_neg hij]
      by_cases h : j < i
      · rw [if_pos h, if_pos (by omega)]
      · rw [if_neg h, if_neg (by omega)]
  · rw [if_neg (by omega), List.getElem?_eq_none (by rw [cntsTo_len]; omega), List.getElem?_eq_none (by rw [cntsTo_len]; omega)]
theorem cntV_off (l : List Int) (j : Nat) (h : l.length ≤ j) : cntV l ((j : Int) + 1) = 0 := by
  unfold cntV inB
  rw [if_neg (by simp; omega)]
theorem cntV_in (l : List Int) (j : Nat) (x : Int) (h : l[j]? = some x) : cntV l ((j : Int) + 1) = x := by
  have hj := (List.getElem?_eq_some_iff.1 h).1
  unfold cntV inB
  rw [if_pos (by simp; omega), show ((j : Int) + 1 - 1).toNat = j by omega, h]; rfl
/-- All counts, that of the site raised. -/
theorem raised_at (l : List Int) (S : Nat) (hS : S < 16) (hl : l.length ≤ 16) (j : Nat) (hj : j < 16) : ((cntsTo l 16).set S (cntV l ((S : Int) + 1) + 1))[j]? = some ((raiseL l ((S : Int) + 1))[j]?.getD 0) := by
  have hs1 : ((S : Int) + 1).toNat = S + 1 := by omega
  unfold raiseL
  rw [hs1, Nat.add_sub_cancel, List.getElem?_set, List.getElem?_set, cntsTo_len, List.length_append, List.length_replicate]
  by_cases hij : S = j
  · subst hij
    rw [if_pos rfl, if_pos rfl, if_pos hS, if_pos (by omega)]; rfl
  · rw [if_neg hij, if_neg hij, cntsTo_at l 16 j hj, if_pos hj]
    by_cases h : j < l.length
    · rw [List.getElem?_append_left h, cntV_in l j l[j] (List.getElem?_eq_getElem h), List.getElem?_eq_getElem h]; rfl
    · rw [cntV_off l j (by omega), List.getElem?_append_right (by omega), List.getElem?_replicate]
      split <;> rfl
theorem raiseL_last {l : List Int} (hv : vecOk l = true) (S : Nat) : ∃ x, (raiseL l ((S : Int) + 1))[max l.length (S + 1) - 1]? = some x ∧ x ≠ 0 := by
  have hs1 : ((S : Int) + 1).toNat = S + 1 := by omega
  have hc := cntV_le hv ((S : Int) + 1)
  unfold raiseL
  rw [hs1, Nat.add_sub_cancel, List.getElem?_set, List.length_append, List.length_replicate]
  by_cases hm : S = max l.length (S + 1) - 1
  · rw [if_pos hm, if_pos (by omega)]
    exact ⟨_, rfl, by omega⟩
  · rw [if_neg hm, List.getElem?_append_left (by omega), show max l.length (S + 1) - 1 = l.length - 1 by omega]
    unfold vecOk at hv
    simp only [Bool.and_eq_true] at hv
    have hlp := hv.2
    unfold lastPos at hlp
    rw [List.getLast?_eq_getElem?] at hlp
    have hlt : l.length - 1 < l.length := by omega
    rw [List.getElem?_eq_getElem hlt] at hlp ⊢
    simp only [decide_eq_true_eq] at hlp
    exact ⟨_, rfl, by omega⟩
/-- What Made makes of them is the raised vector. -/
theorem made_raise {l : List Int} (hv : vecOk l = true) (S : Nat) (hS : S < 16) {n : Nat} (h : MadeOf ((cntsTo l 16).set S (cntV l ((S : Int) + 1) + 1)) n) : ((cntsTo l 16).set S (cntV l ((S : Int) + 1) + 1)).take n = raiseL l ((S : Int) + 1) := by
  have hl16 : l.length ≤ 16 := by
    unfold vecOk at hv
    simp only [Bool.and_eq_true, decide_eq_true_eq] at hv
    exact hv.1.2
  obtain ⟨x, hx, hx0⟩ := raiseL_last hv S
  have hlen := raiseL_len l ((S : Int) + 1)
  rw [show ((S : Int) + 1).toNat = S + 1 by omega] at hlen
  obtain ⟨h1, h2, h3⟩ := h
  have hT : n = max l.length (S + 1) := by
    rcases Nat.lt_trichotomy n (max l.length (S + 1)) with hlt | heq | hgt
    · have e := h2 (max l.length (S + 1) - 1) (by omega) (by omega)
      rw [raised_at l S hS hl16 _ (by omega), hx] at e
      simp only [Option.getD_some, Option.some.injEq] at e
      exact absurd e hx0
    · exact heq
    · rcases h3 with h3 | ⟨y, hy, hy0⟩
      · omega
      · rw [raised_at l S hS hl16 _ (by omega), List.getElem?_eq_none (by omega)] at hy
        simp only [Option.getD_none, Option.some.injEq] at hy
        exact absurd hy.symm hy0
  apply List.ext_getElem?
  intro j
  rw [List.getElem?_take]
  by_cases hj : j < n
  · rw [if_pos hj, raised_at l S hS hl16 j (by omega), List.getElem?_eq_getElem (by omega)]; rfl
  · rw [if_neg hj, List.getElem?_eq_none (by omega)]

set_option maxHeartbeats 8000000 in
set_option maxRecDepth 1000000 in
theorem rvraise_any (w : World) (a : Option Addr) (len cap : Nat) (l : List Int) (s q : Int) (h : IsVec w a len cap l) (hs : -9223372036854775808 ≤ s ∧ s ≤ 9223372036854775807) :
    Calls Tryz.prog 32 #[.slice a len cap, .agg #[.int .i64 s, .int .i64 q]] w (RaiseTo w l s q) := by
  have hle := h.le
  have hcap := h.big
  unfold maxLen at hcap
  obtain ⟨W0, hW0⟩ : ∃ W0, w.alloc (.cells #[.int .i64 s, .int .i64 q] 42) = W0 := ⟨_, rfl⟩
  obtain ⟨K, hK⟩ : ∃ K, w.heap.size = K := ⟨_, rfl⟩
  have m0 : Mine.Mod none_ w W0 := by rw [← hW0]; exact (Mine.Mod.refl none_ w).alloc _
  have k0 : Blk W0 K [.int .i64 s, .int .i64 q] 42 := by rw [← hW0, ← hK]; exact Blk.new (w := w) (cs := [.int .i64 s, .int .i64 q])
  have M0 := Lib.hid m0
  have K0 := Lib.hid k0
  have HN := Lib.hid h.n
  have H := Lib.hid h
  have HV := Lib.hid (show ∀ W, Mine.Mod none_ w W → Calls Tryz.prog 27 #[.slice a len cap] W fun e w' => e = .returned (.bool (vecOk l)) ∧ Mine.Mod none_ W w' from fun W m => rvmay_any W a len cap l (h.grown m))
  have HC0 := Lib.hid (show ∀ W, Mine.Mod none_ w W → ∀ s, -9223372036854775808 ≤ s ∧ s ≤ 9223372036854775807 → Calls Tryz.prog 30 #[.slice a len cap, .int .i64 s] W fun e w' => e = .returned (.int .i64 (cntV l s)) ∧ w' = W from fun W m s hs => rvcount_any W a len cap l s (h.grown m) hs)
  have HSB := Lib.hid hs
  have c0 : W0.cell? ⟨K, 0, none⟩ = some (.int .i64 s) := by rw [k0.cell]; rfl
  have c1 : W0.cell? ⟨K, 1, none⟩ = some (.int .i64 q) := by rw [k0.cell]; rfl
  clear h m0 k0 hs
  go_enter Tryz.func32, Tryz.ntmps32
  go_upto_region 1 with fail
  clear hW0 hK
  cases hv : vecOk l
  · have HE := Lib.hid (show raiseE l s q = 1 by unfold raiseE; rw [hv]; rfl)
    go_wp2_with fail
    refine (HV.out _ M0.out).mono ?_
    rintro e w1 ⟨rfl, m1⟩
    rw [hv]
    have M1 := Lib.hid (M0.out.trans m1)
    clear m1 c0 c1
    go_wp2_with fail
    go_ret2
    exact ⟨.inl ⟨by rw [HE.out]; omega, by rw [HE.out]; rfl⟩, M1.out⟩
  go_wp2_with fail
  refine (HV.out _ M0.out).mono ?_
  rintro e w1 ⟨rfl, m1⟩
  rw [hv]
  have M1 := Lib.hid (M0.out.trans m1)
  have K1 := Lib.hid (K0.out.mod m1 (fun e => e))
  have d0 : w1.cell? ⟨K, 0, none⟩ = some (.int .i64 s) := by rw [K1.out.cell]; rfl
  have d1 : w1.cell? ⟨K, 1, none⟩ = some (.int .i64 q) := by rw [K1.out.cell]; rfl
  clear m1 c0 c1 M0 K0
  go_wp2_with fail
  refine (rname_any s q _).mono ?_
  rintro e w2 ⟨rfl, m2⟩
  have M2 := Lib.hid (M1.out.trans m2)
  have K2 := Lib.hid (K1.out.mod m2 (fun e => e))
  have c0 : w2.cell? ⟨K, 0, none⟩ = some (.int .i64 s) := by rw [K2.out.cell]; rfl
  have c1 : w2.cell? ⟨K, 1, none⟩ = some (.int .i64 q) := by rw [K2.out.cell]; rfl
  clear m2 d0 d1 M1 K1
  cases hq : nameOk s q
  · have HE := Lib.hid (show raiseE l s q = 1 by unfold raiseE; rw [hq, Bool.and_false]; rfl)
    go_wp2_with fail
    go_ret2
    exact ⟨.inl ⟨by rw [HE.out]; omega, by rw [HE.out]; rfl⟩, M2.out⟩
  have hsq : (1 ≤ s ∧ s ≤ 16) ∧ 1 ≤ q ∧ q ≤ 1099511627776 := by
    unfold nameOk inB at hq
    simpa using hq
  have hc := cntV_le hv s
  have HVK := Lib.hid hv
  have HRE := Lib.hid (show raiseE l s q = if cntV l s = 1099511627776 then 7 else if q = cntV l s + 1 then 0 else 17 by unfold raiseE; rw [hv, hq]; rfl)
  obtain ⟨n, hn⟩ : ∃ n, n = cntV l s := ⟨_, rfl⟩
  have HC := Lib.hid (fun (W : World) (m : Mine.Mod none_ w2 W) => by
    have := HC0.out W (M2.out.trans m) s HSB.out
    rw [← hn] at this
    exact this)
  rw [← hn] at hc HRE
  have HNN := Lib.hid hn
  clear hv hq hn HV
  go_wp2_with fail
  refine (HC.out _ (Mine.Mod.refl _ _)).mono ?_
  rintro e w3 ⟨rfl, rfl⟩
  by_cases h1 : n = 1099511627776
  · have HE := Lib.hid (show raiseE l s q = 7 by rw [HRE.out, if_pos h1])
    have hb1 : (n == 1099511627776) = true := by simpa using h1
    clear h1
    go_wp2_with fail
    go_ret2
    exact ⟨.inl ⟨by rw [HE.out]; omega, by rw [HE.out]; rfl⟩, M2.out⟩
  have hb1 : (n == 1099511627776) = false := by simpa using h1
  have hw : IntKind.i64.wrap (n + 1) = n + 1 := by rw [IntKind.wrap_i64]; omega
  go_upto_region 5 with fail
  obtain ⟨w4, rfl⟩ : ∃ w4, w4 = w3 := ⟨_, rfl⟩
  refine wp_region_held_drew (S := fun w' => Mine.Mod none_ w4 w' ∧ w'.cell? ⟨K, 0, none⟩ = some (.int .i64 s) ∧ w'.cell? ⟨K, 1, none⟩ = some (.int .i64 q)) (by kernel_rfl) ⟨Mine.Mod.drew (Mine.Mod.refl none_ w4), c0, c1⟩ (fun hS => ?_)
  refine wpAnyH_take (i := 0) (v := .pointer (some ⟨K, 1, none⟩)) rfl (by kernel_rfl) (by kernel_rfl) (by kernel_rfl) (fun _ _ _ h => h) (Or.inl ⟨by kernel_rfl, ?_⟩) hS ?_
  · rintro w' ⟨_, q0, q1⟩; go_simp
  try simp only [Act.put, List.setIfInBounds_toArray, List.set_cons_zero, List.set_cons_succ]
  refine wpAnyH_take (i := 1) (v := .int .i64 q) rfl (by kernel_rfl) (by kernel_rfl) (by kernel_rfl) (fun _ _ _ h => h) (Or.inl ⟨by kernel_rfl, ?_⟩) hS ?_
  · rintro w' ⟨_, q0, q1⟩; go_simp
  try simp only [Act.put, List.setIfInBounds_toArray, List.set_cons_zero, List.set_cons_succ]
  refine wpAnyH_take (i := 2) (v := .slice a len cap) rfl (by kernel_rfl) (by kernel_rfl) (by kernel_rfl) (fun _ _ _ h => h) (Or.inl ⟨by kernel_rfl, ?_⟩) hS ?_
  · rintro w' ⟨_, q0, q1⟩; go_simp
  try simp only [Act.put, List.setIfInBounds_toArray, List.set_cons_zero, List.set_cons_succ]
  refine wpAnyH_take (i := 3) (v := .pointer (some ⟨K, 0, none⟩)) rfl (by kernel_rfl) (by kernel_rfl) (by kernel_rfl) (fun _ _ _ h => h) (Or.inl ⟨by kernel_rfl, ?_⟩) hS ?_
  · rintro w' ⟨_, q0, q1⟩; go_simp
  try simp only [Act.put, List.setIfInBounds_toArray, List.set_cons_zero, List.set_cons_succ]
  refine wpAnyH_take (i := 4) (v := .int .i64 s) rfl (by kernel_rfl) (by kernel_rfl) (by kernel_rfl) (fun _ _ _ h => h) (Or.inl ⟨by kernel_rfl, ?_⟩) hS ?_
  · rintro w' ⟨_, q0, q1⟩; go_simp
  try simp only [Act.put, List.setIfInBounds_toArray, List.set_cons_zero, List.set_cons_succ]
  refine wpAnyH_ready (rs := [5]) (by kernel_rfl) (by simp) (AllReadyH.cons rfl (fun K2 hK2 => ?_) <| AllReadyH.nil)
  go_simp
  refine (HC.out _ hS.1).mono ?_
  rintro e w1 ⟨rfl, rfl⟩
  refine hK2.out _ _ hS (fun hS => ?_)
  clear hK2 K2
  try simp only [Act.put, List.setIfInBounds_toArray, List.set_cons_zero, List.set_cons_succ]
  refine wpAnyH_take (i := 6) (v := .int .i64 (n + 1)) rfl (by kernel_rfl) (by kernel_rfl) (by kernel_rfl) (fun _ _ _ h => h) (Or.inl ⟨by kernel_rfl, ?_⟩) hS ?_
  · rintro w' ⟨_, q0, q1⟩; go_simp
  try simp only [Act.put, List.setIfInBounds_toArray, List.set_cons_zero, List.set_cons_succ]
  by_cases h2 : q = n + 1
  · subst h2
    refine wpAnyH_take (i := 7) (v := .bool false) rfl (by kernel_rfl) (by kernel_rfl) (by kernel_rfl) (fun _ _ _ h => h) (Or.inl ⟨by kernel_rfl, ?_⟩) hS ?_
    · rintro w' ⟨_, q0, q1⟩; go_simp
    try simp only [Act.put, List.setIfInBounds_toArray, List.set_cons_zero, List.set_cons_succ]
    refine wpAnyH_done (by kernel_rfl) ?_ _
    try simp only [List.getElem_toArray, List.getElem_cons_succ, List.getElem_cons_zero]
    try simp only [Act.put, List.setIfInBounds_toArray, List.set_cons_zero, List.set_cons_succ]
    have HE := Lib.hid (show raiseE l s (n + 1) = 0 by rw [HRE.out, if_neg h1, if_pos rfl])
    obtain ⟨S, rfl⟩ : ∃ S : Nat, s = (S : Int) + 1 := ⟨(s - 1).toNat, by omega⟩
    have hS16 : S < 16 := by omega
    have M5 := Lib.hid (M2.out.trans hS.1)
    have K5 := Lib.hid (K2.out.mod hS.1 (fun e => e))
    clear hS c0 c1 HC
    generalize w4.drew = w5 at M5 K5 ⊢
    go_upto_region 8 with fail
    obtain ⟨G, hG⟩ : ∃ G, G = w5.heap.size := ⟨_, rfl⟩
    have hGw : w.heap.size ≤ G := by rw [hG]; exact M5.out.size
    have mG := (Mine.Mod.refl none_ w5).alloc (.cells (intCs (cntsTo l 0)).toArray 119)
    have kG : Blk (w5.alloc (.cells (intCs (cntsTo l 0)).toArray 119)) G (intCs (cntsTo l 0)) 119 := by rw [hG]; exact Blk.new
    have M6 := Lib.hid (M5.out.trans mG)
    have K6 := Lib.hid (K5.out.mod mG (fun e => e))
    have KG := Lib.hid kG
    have hKG : ¬ K = G := by have := K5.out.lt; omega
    rw [← hG]
    have ez : (intCs (cntsTo l 0)).toArray = #[Value.int IntKind.i64 0, Value.int IntKind.i64 0, Value.int IntKind.i64 0, Value.int IntKind.i64 0, Value.int IntKind.i64 0, Value.int IntKind.i64 0, Value.int IntKind.i64 0, Value.int IntKind.i64 0, Value.int IntKind.i64 0, Value.int IntKind.i64 0, Value.int IntKind.i64 0, Value.int IntKind.i64 0, Value.int IntKind.i64 0, Value.int IntKind.i64 0, Value.int IntKind.i64 0, Value.int IntKind.i64 0] := rfl
    rw [← ez]
    clear ez hG mG kG K5 M5
    generalize w5.alloc (.cells (intCs (cntsTo l 0)).toArray 119) = w6 at M6 K6 KG ⊢
    go_wp2_with fail
    go_loopg [7] 16 (fun g s7 wx => ∃ k : Nat, g = 16 - k ∧ s7 = .int .i64 ((k : Int) + 1) ∧ k ≤ 16 ∧ Mine.Mod none_ w wx ∧ RowKit.Hid (Blk wx G (intCs (cntsTo l k)) 119 ∧ Blk wx K [.int .i64 ((S : Int) + 1), .int .i64 (n + 1)] 42))
    case atStart => exact ⟨0, rfl, rfl, Nat.zero_le _, M6.out, Lib.hid ⟨KG.out, K6.out⟩⟩
    case round =>
      obtain ⟨k, rfl, rfl, hk, mx, hst⟩ := hrel
      have MX := Lib.hid mx
      obtain ⟨kx, kk⟩ := hst.out
      by_cases hlk : k < 16
      · have e0 : wr.cell? ⟨G, k, none⟩ = some (.int .i64 0) := by
          rw [kx.cell, List.getElem?_map, cntsTo_at l k k hlk, if_neg (Nat.lt_irrefl _)]; rfl
        have f0 := kx.frozen k
        have kn := kx.set k (.int .i64 (cntV l ((k : Int) + 1)))
        have hset : (intCs (cntsTo l k)).set k (.int .i64 (cntV l ((k : Int) + 1))) = intCs (cntsTo l (k + 1)) := by
          rw [← cntsTo_set l k hlk]
          unfold intCs
          rw [List.map_set]
        rw [hset] at kn
        have mS : Mine.Mod (one G) wr (wr.setCell ⟨G, k, none⟩ (.int .i64 (cntV l ((k : Int) + 1)))) := (Mine.Mod.refl (one G) wr).setCell ⟨G, k, none⟩ (fun _ => rfl) _
        have FIN := Lib.hid (And.intro (mx.transIn mS (fun b hb e => by have e' : b = G := e; omega)) (And.intro kn (kk.mod mS (fun e => hKG e))))
        have HCC := Lib.hid (HC0.out wr mx ((k : Int) + 1) (by omega))
        obtain ⟨cv, hcv⟩ : ∃ cv, cv = cntV l ((k : Int) + 1) := ⟨_, rfl⟩
        rw [← hcv] at FIN HCC
        have hw1 : IntKind.i64.wrap ((k : Int) + 1 - 1) = (k : Int) := by rw [IntKind.wrap_i64]; omega
        have hle16 : decide ((k : Int) + 1 ≤ 16) = true := by rw [decide_eq_true_eq]; omega
        clear hst mx kx kk kn hset mS hcv
        go_wp2_with fail
        refine HCC.out.mono ?_
        rintro e w7 ⟨rfl, rfl⟩
        go_wp2_with fail
        go_roundg (16 - (k + 1))
        all_goals first
          | omega
          | exact ⟨k + 1, rfl, by go_num, by omega, FIN.out.1, Lib.hid FIN.out.2⟩
      · obtain rfl : k = 16 := by omega
        have d0 : wr.cell? ⟨K, 0, none⟩ = some (.int .i64 ((S : Int) + 1)) := by rw [kk.cell]; rfl
        have d1 : wr.cell? ⟨K, 1, none⟩ = some (.int .i64 (n + 1)) := by rw [kk.cell]; rfl
        have e0 : wr.cell? ⟨G, S, none⟩ = some (.int .i64 n) := by
          rw [kx.cell, List.getElem?_map, cntsTo_at l 16 S hS16, if_pos hS16, ← HNN.out]; rfl
        have f0 := kx.frozen S
        have kn := kx.set S (.int .i64 (n + 1))
        have hset : (intCs (cntsTo l 16)).set S (.int .i64 (n + 1)) = intCs ((cntsTo l 16).set S (n + 1)) := by
          unfold intCs
          rw [List.map_set]
        rw [hset] at kn
        have mS : Mine.Mod (one G) wr (wr.setCell ⟨G, S, none⟩ (.int .i64 (n + 1))) := (Mine.Mod.refl (one G) wr).setCell ⟨G, S, none⟩ (fun _ => rfl) _
        have M8 := Lib.hid (mx.transIn mS (fun b hb e => by have e' : b = G := e; omega))
        have HMR := Lib.hid (fun (m : Nat) (h : MadeOf ((cntsTo l 16).set S (n + 1)) m) => by
          have := made_raise HVK.out S hS16 (n := m) (by rw [← HNN.out]; exact h)
          rw [← HNN.out] at this
          exact this)
        obtain ⟨L8, hL8⟩ : ∃ L8, L8 = (cntsTo l 16).set S (n + 1) := ⟨_, rfl⟩
        have hlen8 : L8.length = 16 := by rw [hL8, List.length_set, cntsTo_len]
        rw [← hL8] at kn HMR
        obtain ⟨x0, x1, x2, x3, x4, x5, x6, x7, x8, x9, x10, x11, x12, x13, x14, x15, hx16⟩ := list16 L8 hlen8
        have HMD := fun (W : World) => rvmade_any W L8 hlen8
        rw [hx16] at kn HMR HMD
        have HMD := Lib.hid HMD
        have KF := Lib.hid kn
        have hw1 : IntKind.i64.wrap ((S : Int) + 1 - 1) = (S : Int) := by rw [IntKind.wrap_i64]; omega
        clear hst mx kx kk kn hset mS hL8 hlen8 hx16 HC0
        go_upto_region 13 with fail
        generalize wr.setCell ⟨G, S, none⟩ (.int .i64 (n + 1)) = w8 at M8 KF ⊢
        clear e0 f0 d0 d1
        have g0 : w8.cell? ⟨G, 0, none⟩ = some (.int .i64 x0) := by rw [KF.out.cell]; rfl
        have g1 : w8.cell? ⟨G, 1, none⟩ = some (.int .i64 x1) := by rw [KF.out.cell]; rfl
        have g2 : w8.cell? ⟨G, 2, none⟩ = some (.int .i64 x2) := by rw [KF.out.cell]; rfl
        have g3 : w8.cell? ⟨G, 3, none⟩ = some (.int .i64 x3) := by rw [KF.out.cell]; rfl
        have g4 : w8.cell? ⟨G, 4, none⟩ = some (.int .i64 x4) := by rw [KF.out.cell]; rfl
        have g5 : w8.cell? ⟨G, 5, none⟩ = some (.int .i64 x5) := by rw [KF.out.cell]; rfl
        have g6 : w8.cell? ⟨G, 6, none⟩ = some (.int .i64 x6) := by rw [KF.out.cell]; rfl
        have g7 : w8.cell? ⟨G, 7, none⟩ = some (.int .i64 x7) := by rw [KF.out.cell]; rfl
        have g8 : w8.cell? ⟨G, 8, none⟩ = some (.int .i64 x8) := by rw [KF.out.cell]; rfl
        have g9 : w8.cell? ⟨G, 9, none⟩ = some (.int .i64 x9) := by rw [KF.out.cell]; rfl
        have g10 : w8.cell? ⟨G, 10, none⟩ = some (.int .i64 x10) := by rw [KF.out.cell]; rfl
        have g11 : w8.cell? ⟨G, 11, none⟩ = some (.int .i64 x11) := by rw [KF.out.cell]; rfl
        have g12 : w8.cell? ⟨G, 12, none⟩ = some (.int .i64 x12) := by rw [KF.out.cell]; rfl
        have g13 : w8.cell? ⟨G, 13, none⟩ = some (.int .i64 x13) := by rw [KF.out.cell]; rfl
        have g14 : w8.cell? ⟨G, 14, none⟩ = some (.int .i64 x14) := by rw [KF.out.cell]; rfl
        have g15 : w8.cell? ⟨G, 15, none⟩ = some (.int .i64 x15) := by rw [KF.out.cell]; rfl
        go_wp2_with fail
        refine (HMD.out w8).mono ?_
        rintro e w9 ⟨⟨va, m, vc, rfl, hmo, hown⟩, m9⟩
        have FIN := Lib.hid (show RaiseTo w l ((S : Int) + 1) (n + 1) (.returned (.tuple #[.slice va m vc, .int .i64 0])) w9 from by
          refine ⟨.inr ⟨HE.out, va, m, vc, rfl, ?_⟩, M8.out.trans m9⟩
          rw [HMR.out m hmo] at hown
          exact ownsRow_base hown M8.out.size)
        clear hmo hown m9 HMR HMD
        go_wp2_with fail
        go_ret2
        exact FIN.out
  · have hb2 : (q == n + 1) = false := by simpa using h2
    refine wpAnyH_take (i := 7) (v := .bool true) rfl (by kernel_rfl) (by kernel_rfl) (by kernel_rfl) (fun _ _ _ h => h) (Or.inl ⟨by kernel_rfl, ?_⟩) hS ?_
    · rintro w' ⟨_, q0, q1⟩; go_simp
    try simp only [Act.put, List.setIfInBounds_toArray, List.set_cons_zero, List.set_cons_succ]
    refine wpAnyH_done (by kernel_rfl) ?_ _
    try simp only [List.getElem_toArray, List.getElem_cons_succ, List.getElem_cons_zero]
    try simp only [Act.put, List.setIfInBounds_toArray, List.set_cons_zero, List.set_cons_succ]
    have HE := Lib.hid (show raiseE l s q = 17 by rw [HRE.out, if_neg h1, if_neg h2])
    have M5 := Lib.hid (M2.out.trans hS.1)
    clear hS c0 c1 HC
    go_wp2_with fail
    go_ret2
    exact ⟨.inl ⟨by rw [HE.out]; omega, by rw [HE.out]; rfl⟩, M5.out⟩
end Go.Proofs.YtjgjjlolhdlofaaGreatDoor

namespace Go.Proofs.YtjgjjlolhdlofaaGreatDoor
open Go.RowKit Go.Shelf Go.Mine
open Classical

theorem orderL_step {last p num : Int} {V : List Int} {x : EntV} {r : List EntV} (h : orderL last p V num (x :: r) = true) : raiseE V x.o.site x.o.seq = 0 ∧ ∃ l' p', orderL l' p' (raiseL V x.o.site) num r = true := by
  rw [orderL_cons] at h
  by_cases hz : raiseE V x.o.site x.o.seq = 0
  · rw [if_pos hz] at h
    refine ⟨hz, ?_⟩
    by_cases hn : x.o.num = 0
    · rw [if_pos hn] at h
      by_cases hc : p = 0 ∨ p = x.o.site
      · rw [if_pos hc] at h; exact ⟨_, _, h⟩
      · rw [if_neg hc] at h; cases h
    · rw [if_neg hn] at h
      by_cases hc : p = 0 ∧ last < x.o.num ∧ x.o.num ≤ num
      · rw [if_pos hc] at h; exact ⟨_, _, h⟩
      · rw [if_neg hc] at h; cases h
  · rw [if_neg hz] at h; cases h

end Go.Proofs.YtjgjjlolhdlofaaGreatDoor

namespace Go.Proofs.YtjgjjlolhdlofaaGreatDoor
open Go.RowKit Go.Shelf Go.Mine
open Classical

/-- The four questions, one by one. -/
noncomputable def rightB (h : HistV) (B : List CellV) (V : List Int) (E : List EntV) : Nat → Bool
  | 0 => numsOk h
  | 1 => baseOk B V
  | 2 => entsOk E (h.bl : Int)
  | _ => orderL h.from_ 0 V h.num E
theorem right_no {h : HistV} {B : List CellV} {V : List Int} {E : List EntV} {k : Nat} (hb : rightB h B V E k = false) : histOk h B V E = false := by
  unfold histOk
  match k, hb with
  | 0, hb => rw [show numsOk h = false from hb]; rfl
  | 1, hb => rw [show baseOk B V = false from hb, Bool.and_false]; rfl
  | 2, hb => rw [show entsOk E (h.bl : Int) = false from hb, Bool.and_false]; rfl
  | (_ + 3), hb => rw [show orderL h.from_ 0 V h.num E = false from hb, Bool.and_false]
theorem right_all {h : HistV} {B : List CellV} {V : List Int} {E : List EntV} (hb : ∀ j, j < 4 → rightB h B V E j = true) : histOk h B V E = true := by
  unfold histOk
  rw [show numsOk h = true from hb 0 (by omega), show baseOk B V = true from hb 1 (by omega), show entsOk E (h.bl : Int) = true from hb 2 (by omega), show orderL h.from_ 0 V h.num E = true from hb 3 (by omega)]
  rfl

set_option maxHeartbeats 4000000 in
set_option maxRecDepth 1000000 in
theorem hmay_any (w : World) (h : HistV) (B : List CellV) (V : List Int) (E : List EntV) (hh : HistIs w h B V E) (hl : h.bl ≤ 1099511627776) :
    Calls Tryz.prog 23 #[h.v] w fun e w' => e = .returned (.bool (histOk h B V E)) ∧ Mine.Mod none_ w w' := by
  obtain ⟨R, hR⟩ : ∃ R, R = histOk h B V E := ⟨_, rfl⟩
  rw [← hR]
  have C0 := Lib.hid (show ∀ W, Mine.Mod none_ w W → Calls Tryz.prog 51 #[h.v] W fun e w' => e = .returned (.bool (rightB h B V E 0)) ∧ Mine.Mod none_ W w' from fun W m => numbers_any W h)
  have C1 := Lib.hid (show ∀ W, Mine.Mod none_ w W → Calls Tryz.prog 52 #[h.v] W fun e w' => e = .returned (.bool (rightB h B V E 1)) ∧ Mine.Mod none_ W w' from fun W m => base_any W h B V (hh.b.grown m) (hh.v.grown m) hl)
  have C2 := Lib.hid (show ∀ W, Mine.Mod none_ w W → rightB h B V E 0 = true → Calls Tryz.prog 53 #[h.v] W fun e w' => e = .returned (.bool (rightB h B V E 2)) ∧ Mine.Mod none_ W w' from fun W m hn => entries_any W h E (hh.e.grown m) (by
    have hn2 : numsOk h = true := hn
    unfold numsOk at hn2
    simp only [Bool.and_eq_true, decide_eq_true_eq] at hn2
    omega))
  have C3 := Lib.hid (show ∀ W, Mine.Mod none_ w W → Calls Tryz.prog 54 #[h.v] W fun e w' => e = .returned (.bool (rightB h B V E 3)) ∧ Mine.Mod none_ W w' from fun W m => order_any W h V E (hh.v.grown m) (hh.e.grown m))
  have HNO := Lib.hid (show ∀ k, rightB h B V E k = false → R = false from fun k e => hR.trans (right_no e))
  have HAL := Lib.hid (show (∀ j, j < 4 → rightB h B V E j = true) → R = true from fun e => hR.trans (right_all e))
  clear hh hR
  obtain ⟨xba, xbl, xbc, xva, xvl, xvc, xfr, xnum, xla, xll, xlc⟩ := h
  obtain ⟨W0, hW0⟩ : ∃ W0, w.alloc (.cells #[.slice xba xbl xbc, .slice xva xvl xvc, .int .i64 xfr, .int .i64 xnum, .slice xla xll xlc] 32) = W0 := ⟨_, rfl⟩
  obtain ⟨K, hK⟩ : ∃ K, w.heap.size = K := ⟨_, rfl⟩
  have m0 : Mine.Mod none_ w W0 := by rw [← hW0]; exact (Mine.Mod.refl none_ w).alloc _
  have k0 : Blk W0 K [.slice xba xbl xbc, .slice xva xvl xvc, .int .i64 xfr, .int .i64 xnum, .slice xla xll xlc] 32 := by rw [← hW0, ← hK]; exact Blk.new (w := w) (cs := [.slice xba xbl xbc, .slice xva xvl xvc, .int .i64 xfr, .int .i64 xnum, .slice xla xll xlc])
  obtain ⟨cs0, hcs0⟩ : ∃ cs0 : List Value, cs0 = [.slice xba xbl xbc, .slice xva xvl xvc, .int .i64 xfr, .int .i64 xnum, .slice xla xll xlc] := ⟨_, rfl⟩
  rw [← hcs0] at k0
  have HC0 := Lib.hid (show ∀ W, Blk W K cs0 32 → W.cell? ⟨K, 0, none⟩ = some (.slice xba xbl xbc) from fun W k => by rw [k.cell, hcs0]; rfl)
  have HC1 := Lib.hid (show ∀ W, Blk W K cs0 32 → W.cell? ⟨K, 1, none⟩ = some (.slice xva xvl xvc) from fun W k => by rw [k.cell, hcs0]; rfl)
  have HC2 := Lib.hid (show ∀ W, Blk W K cs0 32 → W.cell? ⟨K, 2, none⟩ = some (.int .i64 xfr) from fun W k => by rw [k.cell, hcs0]; rfl)
  have HC3 := Lib.hid (show ∀ W, Blk W K cs0 32 → W.cell? ⟨K, 3, none⟩ = some (.int .i64 xnum) from fun W k => by rw [k.cell, hcs0]; rfl)
  have HC4 := Lib.hid (show ∀ W, Blk W K cs0 32 → W.cell? ⟨K, 4, none⟩ = some (.slice xla xll xlc) from fun W k => by rw [k.cell, hcs0]; rfl)
  have M0 := Lib.hid m0
  have K0 := Lib.hid k0
  have hKw : w.heap.size ≤ K := by omega
  have c0 := HC0.out W0 k0
  have c1 := HC1.out W0 k0
  have c2 := HC2.out W0 k0
  have c3 := HC3.out W0 k0
  have c4 := HC4.out W0 k0
  clear m0 k0 hcs0
  go_enter Tryz.func23, Tryz.ntmps23
  go_upto_region 1 with fail
  clear hW0 hK
  go_wp2_with fail
  obtain ⟨WF, hWF⟩ : ∃ WF, W0.alloc (.cells #[.func (.func 51) #[] #[], .func (.func 52) #[] #[], .func (.func 53) #[] #[], .func (.func 54) #[] #[]] 64) = WF := ⟨_, rfl⟩
  obtain ⟨KF, hKF⟩ : ∃ KF, W0.heap.size = KF := ⟨_, rfl⟩
  have mF : Mine.Mod none_ W0 WF := by rw [← hWF]; exact (Mine.Mod.refl none_ W0).alloc _
  have kF : Blk WF KF [.func (.func 51) #[] #[], .func (.func 52) #[] #[], .func (.func 53) #[] #[], .func (.func 54) #[] #[]] 64 := by rw [← hWF, ← hKF]; exact Blk.new (w := W0) (cs := [.func (.func 51) #[] #[], .func (.func 52) #[] #[], .func (.func 53) #[] #[], .func (.func 54) #[] #[]])
  have MF := Lib.hid (M0.out.trans mF)
  have KKF := Lib.hid (K0.out.mod mF (fun e => e))
  have FF := Lib.hid kF
  rw [hWF, hKF]
  clear c0 c1 c2 c3 c4 mF kF hWF hKF M0 K0
  go_loopg [7] 4 (fun g s7 wx => ∃ k : Nat, g = 4 - k ∧ s7 = .int .i64 k ∧ k ≤ 4 ∧ Mine.Mod none_ w wx ∧ RowKit.Hid (Blk wx K cs0 32 ∧ Blk wx KF [.func (.func 51) #[] #[], .func (.func 52) #[] #[], .func (.func 53) #[] #[], .func (.func 54) #[] #[]] 64 ∧ ∀ j, j < k → rightB ⟨xba, xbl, xbc, xva, xvl, xvc, xfr, xnum, xla, xll, xlc⟩ B V E j = true))
  case atStart => exact ⟨0, rfl, rfl, Nat.zero_le _, MF.out, Lib.hid ⟨KKF.out, FF.out, fun j hj => absurd hj (Nat.not_lt_zero _)⟩⟩
  case round =>
    obtain ⟨k, rfl, rfl, hk, mx, hst⟩ := hrel
    have MX := Lib.hid mx
    obtain ⟨kx, fx, hall⟩ := hst.out
    have KX := Lib.hid kx
    have FX := Lib.hid fx
    have HALL := Lib.hid hall
    by_cases hlk : k < 4
    · have HN := Lib.hid (HNO.out k)
      have HY := Lib.hid (show rightB ⟨xba, xbl, xbc, xva, xvl, xvc, xfr, xnum, xla, xll, xlc⟩ B V E k = true → ∀ j, j < k + 1 → rightB ⟨xba, xbl, xbc, xva, xvl, xvc, xfr, xnum, xla, xll, xlc⟩ B V E j = true from fun e j hj => by
        rcases Nat.lt_succ_iff_lt_or_eq.1 hj with h1 | h1
        · exact hall j h1
        · rw [h1]; exact e)
      have c0 := HC0.out wr kx
      have c1 := HC1.out wr kx
      have c2 := HC2.out wr kx
      have c3 := HC3.out wr kx
      have c4 := HC4.out wr kx
      have k4 : k = 0 ∨ k = 1 ∨ k = 2 ∨ k = 3 := by omega
      clear kx fx hall hst mx hk hlk
      rcases k4 with rfl | rfl | rfl | rfl
      · have d0 : wr.cell? ⟨KF, 0, none⟩ = some (.func (.func 51) #[] #[]) := by rw [FX.out.cell]; rfl
        have HC := Lib.hid (C0.out wr MX.out)
        generalize hbb : rightB ⟨xba, xbl, xbc, xva, xvl, xvc, xfr, xnum, xla, xll, xlc⟩ B V E 0 = bb at HC HN HY
        clear hbb
        cases bb
        · have HE := Lib.hid (show R = false from HN.out rfl)
          go_wp2_with fail
          refine HC.out.mono ?_
          rintro e w1 ⟨rfl, m1⟩
          have M1 := Lib.hid (MX.out.trans m1)
          clear m1
          go_wp2_with fail
          go_ret
          exact ⟨by rw [HE.out]; rfl, M1.out⟩
        · go_wp2_with fail
          refine HC.out.mono ?_
          rintro e w1 ⟨rfl, m1⟩
          have M1 := Lib.hid (MX.out.trans m1)
          have K1 := Lib.hid (KX.out.mod m1 (fun e => e))
          have F1 := Lib.hid (FX.out.mod m1 (fun e => e))
          clear m1
          go_wp2_with fail
          go_roundg (4 - (0 + 1))
          all_goals first
            | omega
            | exact ⟨0 + 1, rfl, by go_num, by omega, M1.out, Lib.hid ⟨K1.out, F1.out, HY.out trivial⟩⟩
      · have d1 : wr.cell? ⟨KF, 1, none⟩ = some (.func (.func 52) #[] #[]) := by rw [FX.out.cell]; rfl
        have HC := Lib.hid (C1.out wr MX.out)
        generalize hbb : rightB ⟨xba, xbl, xbc, xva, xvl, xvc, xfr, xnum, xla, xll, xlc⟩ B V E 1 = bb at HC HN HY
        clear hbb
        cases bb
        · have HE := Lib.hid (show R = false from HN.out rfl)
          go_wp2_with fail
          refine HC.out.mono ?_
          rintro e w1 ⟨rfl, m1⟩
          have M1 := Lib.hid (MX.out.trans m1)
          clear m1
          go_wp2_with fail
          go_ret
          exact ⟨by rw [HE.out]; rfl, M1.out⟩
        · go_wp2_with fail
          refine HC.out.mono ?_
          rintro e w1 ⟨rfl, m1⟩
          have M1 := Lib.hid (MX.out.trans m1)
          have K1 := Lib.hid (KX.out.mod m1 (fun e => e))
          have F1 := Lib.hid (FX.out.mod m1 (fun e => e))
          clear m1
          go_wp2_with fail
          go_roundg (4 - (1 + 1))
          all_goals first
            | omega
            | exact ⟨1 + 1, rfl, by go_num, by omega, M1.out, Lib.hid ⟨K1.out, F1.out, HY.out trivial⟩⟩
      · have d2 : wr.cell? ⟨KF, 2, none⟩ = some (.func (.func 53) #[] #[]) := by rw [FX.out.cell]; rfl
        have HC := Lib.hid (C2.out wr MX.out (HALL.out 0 (by omega)))
        generalize hbb : rightB ⟨xba, xbl, xbc, xva, xvl, xvc, xfr, xnum, xla, xll, xlc⟩ B V E 2 = bb at HC HN HY
        clear hbb
        cases bb
        · have HE := Lib.hid (show R = false from HN.out rfl)
          go_wp2_with fail
          refine HC.out.mono ?_
          rintro e w1 ⟨rfl, m1⟩
          have M1 := Lib.hid (MX.out.trans m1)
          clear m1
          go_wp2_with fail
          go_ret
          exact ⟨by rw [HE.out]; rfl, M1.out⟩
        · go_wp2_with fail
          refine HC.out.mono ?_
          rintro e w1 ⟨rfl, m1⟩
          have M1 := Lib.hid (MX.out.trans m1)
          have K1 := Lib.hid (KX.out.mod m1 (fun e => e))
          have F1 := Lib.hid (FX.out.mod m1 (fun e => e))
          clear m1
          go_wp2_with fail
          go_roundg (4 - (2 + 1))
          all_goals first
            | omega
            | exact ⟨2 + 1, rfl, by go_num, by omega, M1.out, Lib.hid ⟨K1.out, F1.out, HY.out trivial⟩⟩
      · have d3 : wr.cell? ⟨KF, 3, none⟩ = some (.func (.func 54) #[] #[]) := by rw [FX.out.cell]; rfl
        have HC := Lib.hid (C3.out wr MX.out)
        generalize hbb : rightB ⟨xba, xbl, xbc, xva, xvl, xvc, xfr, xnum, xla, xll, xlc⟩ B V E 3 = bb at HC HN HY
        clear hbb
        cases bb
        · have HE := Lib.hid (show R = false from HN.out rfl)
          go_wp2_with fail
          refine HC.out.mono ?_
          rintro e w1 ⟨rfl, m1⟩
          have M1 := Lib.hid (MX.out.trans m1)
          clear m1
          go_wp2_with fail
          go_ret
          exact ⟨by rw [HE.out]; rfl, M1.out⟩
        · go_wp2_with fail
          refine HC.out.mono ?_
          rintro e w1 ⟨rfl, m1⟩
          have M1 := Lib.hid (MX.out.trans m1)
          have K1 := Lib.hid (KX.out.mod m1 (fun e => e))
          have F1 := Lib.hid (FX.out.mod m1 (fun e => e))
          clear m1
          go_wp2_with fail
          go_roundg (4 - (3 + 1))
          all_goals first
            | omega
            | exact ⟨3 + 1, rfl, by go_num, by omega, M1.out, Lib.hid ⟨K1.out, F1.out, HY.out trivial⟩⟩
    · obtain rfl : k = 4 := by omega
      have HE := Lib.hid (show R = true from HAL.out hall)
      clear kx fx hall hst mx
      go_wp2_with fail
      go_ret
      exact ⟨by rw [HE.out]; rfl, MX.out⟩

end Go.Proofs.YtjgjjlolhdlofaaGreatDoor

namespace Go.Proofs.YtjgjjlolhdlofaaGreatDoor
open Go.RowKit Go.Shelf Go.Mine
open Classical

abbrev spC (x : Int × Int) : List Value := [.int .i64 x.1, .int .i64 x.2]
theorem spC_len (x : Int × Int) : (spC x).length = 2 := rfl
theorem IsVec.row {w : World} {b off len cap : Nat} {l : List Int} (h : IsVec w (some ⟨b, off, none⟩) len cap l) : w.rangeAt b off (intCs l) := by
  intro j v hv
  rw [List.getElem?_map] at hv
  cases hx : l[j]? with
  | none => rw [hx] at hv; cases hv
  | some x =>
    rw [hx] at hv
    cases hv
    obtain ⟨b', off', e, hc⟩ := h.cells j x hx
    cases e
    exact hc
theorem IsSpans.row {w : World} {b off len cap : Nat} {l : List (Int × Int)} (h : IsSpans w (some ⟨b, off, none⟩) len cap l) : w.rangeAt b off (flat spC l) := by
  intro j v hv
  have hj : j < l.length * 2 := by
    have := (List.getElem?_eq_some_iff.1 hv).1
    rw [flat_length spC_len] at this; exact this
  have hi : j / 2 < l.length := by omega
  have hx : l[j / 2]? = some (l[j / 2]'hi) := List.getElem?_eq_getElem _
  obtain ⟨b', off', e, h0, h1⟩ := h.cells (j / 2) _ hx
  cases e
  have hg := flat_get spC_len l (j / 2) (j % 2) _ hx (Nat.mod_lt _ (by decide))
  rw [show j / 2 * 2 + j % 2 = j by omega, hv] at hg
  rcases Nat.mod_two_eq_zero_or_one j with hm | hm
  · rw [hm] at hg
    cases hg
    rw [show off + j = off + j / 2 * 2 by omega]
    exact h0
  · rw [hm] at hg
    cases hg
    rw [show off + j = off + j / 2 * 2 + 1 by omega]
    exact h1
theorem own_spans {w : World} {B n vc : Nat} {va : Option Addr} {l : List (Int × Int)} (h : w.ownsRow B 55 2 (.slice va n vc) n (flat spC l)) (ok : ∀ x ∈ l, (-9223372036854775808 ≤ x.1 ∧ x.1 ≤ 9223372036854775807) ∧ (-9223372036854775808 ≤ x.2 ∧ x.2 ≤ 9223372036854775807)) : IsSpans w va n vc l := by
  have hl := h.1
  rw [flat_length spC_len] at hl
  rcases ownsRow_blk h with ⟨h1, h2, h3⟩ | ⟨g, cap, more, h1, _, hb, hc, hm, _⟩
  · cases h1
    have : l = [] := List.eq_nil_of_length_eq_zero (by omega)
    subst this
    exact ⟨rfl, Nat.le_refl _, Nat.zero_le _, ok, fun i x hx => by simp at hx⟩
  · cases h1
    refine ⟨by omega, hc, hm, ok, fun i x hx => ⟨g, 0, rfl, ?_, ?_⟩⟩
    · rw [Nat.zero_add]
      have := Blk.elem spC_len hb i 0 x hx (by decide)
      rw [Nat.add_zero] at this
      rw [this]; rfl
    · rw [Nat.zero_add]
      have := Blk.elem spC_len hb i 1 x hx (by decide)
      rw [this]; rfl

end Go.Proofs.YtjgjjlolhdlofaaGreatDoor

namespace Go.Proofs.YtjgjjlolhdlofaaGreatDoor
open Go.RowKit Go.Shelf Go.Mine
open Classical

theorem histOk_order {h : HistV} {B : List CellV} {V : List Int} {E : List EntV} (hb : histOk h B V E = true) : orderL h.from_ 0 V h.num E = true := by
  unfold histOk at hb
  simp only [Bool.and_eq_true] at hb
  exact hb.2

end Go.Proofs.YtjgjjlolhdlofaaGreatDoor

namespace Go.Proofs.YtjgjjlolhdlofaaGreatDoor
open Go.RowKit Go.Shelf Go.Mine
open Classical

theorem Tryz.hhSize : (Tryz.prog.info? 32).map (·.size) = some 5 := by kernel_rfl
theorem results_hh1 {fn : Func} {p : Tmp} (h : fn.results = #[.cell p 32]) (tmps : Array Value) (w : World) (g : Nat) (cs : List Value) (hp : tmps.getD p undef = .pointer (some ⟨g, 0, none⟩)) (hl : cs.length = 5) (hr : w.rangeAt g 0 cs) :
    (results fn tmps).run Tryz.prog w = .ok (.agg cs.toArray) w := by
  have := run_loadVar_mid (P := Tryz.prog) w g 0 32 cs _ hr Tryz.underlying32 rfl (by rw [hl]; exact Tryz.hhSize)
  have hp' : tmps[p]?.getD undef = .pointer (some ⟨g, 0, none⟩) := by simpa using hp
  simp [results, h, hp', asAddr, this, Result.andThen]
set_option maxHeartbeats 4000000 in
set_option maxRecDepth 1000000 in
theorem of_hist (w : World) (h : HistV) : Calls Tryz.prog 10 #[h.v] w fun e w' => e = .returned h.v ∧ Mine.Mod none_ w w' := by
  obtain ⟨xba, xbl, xbc, xva, xvl, xvc, xfr, xnum, xla, xll, xlc⟩ := h
  obtain ⟨W0, hW0⟩ : ∃ W0, (w.alloc (.cells #[.slice xba xbl xbc, .slice xva xvl xvc, .int .i64 xfr, .int .i64 xnum, .slice xla xll xlc] 26)).alloc (.cells #[.slice none 0 0, .slice none 0 0, .int .i64 0, .int .i64 0, .slice none 0 0] 32) = W0 := ⟨_, rfl⟩
  have m0 : Mine.Mod none_ w W0 := by rw [← hW0]; exact ((Mine.Mod.refl none_ w).alloc _).alloc _
  have k0 : Blk W0 w.heap.size [.slice xba xbl xbc, .slice xva xvl xvc, .int .i64 xfr, .int .i64 xnum, .slice xla xll xlc] 26 := by
    rw [← hW0]
    exact (Blk.new (w := w) (cs := [.slice xba xbl xbc, .slice xva xvl xvc, .int .i64 xfr, .int .i64 xnum, .slice xla xll xlc]) (t := 26)).mod ((Mine.Mod.refl none_ _).alloc _) (fun e => e)
  have k1 : Blk W0 (w.heap.size + 1) [.slice none 0 0, .slice none 0 0, .int .i64 0, .int .i64 0, .slice none 0 0] 32 := by
    have := Blk.new (w := w.alloc (.cells #[.slice xba xbl xbc, .slice xva xvl xvc, .int .i64 xfr, .int .i64 xnum, .slice xla xll xlc] 26)) (cs := [.slice none 0 0, .slice none 0 0, .int .i64 0, .int .i64 0, .slice none 0 0]) (t := 32)
    rw [World.size_alloc] at this
    rw [← hW0]
    exact this
  have a0 := k0.cell 0
  have a1 := k0.cell 1
  have a2 := k0.cell 2
  have a3 := k0.cell 3
  have a4 := k0.cell 4
  simp only [List.getElem?_cons_zero, List.getElem?_cons_succ] at a0 a1 a2 a3 a4
  have d0 := k1.cell 0
  have d1 := k1.cell 1
  have d2 := k1.cell 2
  have d3 := k1.cell 3
  have d4 := k1.cell 4
  simp only [List.getElem?_cons_zero, List.getElem?_cons_succ] at d0 d1 d2 d3 d4
  have r0 := k1.frozen 0
  have r1 := k1.frozen 1
  have r2 := k1.frozen 2
  have r3 := k1.frozen 3
  have r4 := k1.frozen 4
  have KF := Lib.hid (((((k1.set 0 (.slice xba xbl xbc)).set 1 (.slice xva xvl xvc)).set 2 (.int .i64 xfr)).set 3 (.int .i64 xnum)).set 4 (.slice xla xll xlc))
  have MF := Lib.hid (((((m0.setCell ⟨w.heap.size + 1, 0, none⟩ (fun h => absurd h (by simp)) (.slice xba xbl xbc)).setCell ⟨w.heap.size + 1, 1, none⟩ (fun h => absurd h (by simp)) (.slice xva xvl xvc)).setCell ⟨w.heap.size + 1, 2, none⟩ (fun h => absurd h (by simp)) (.int .i64 xfr)).setCell ⟨w.heap.size + 1, 3, none⟩ (fun h => absurd h (by simp)) (.int .i64 xnum)).setCell ⟨w.heap.size + 1, 4, none⟩ (fun h => absurd h (by simp)) (.slice xla xll xlc))
  clear k0 k1 m0
  go_enter Tryz.func10, Tryz.ntmps10
  go_upto_region 1 with fail
  clear hW0
  go_wp2_with fail
  exact bodyPost_ret (results_hh1 rfl _ _ (w.heap.size + 1) [.slice xba xbl xbc, .slice xva xvl xvc, .int .i64 xfr, .int .i64 xnum, .slice xla xll xlc] rfl rfl (blk_range KF.out)) rfl ⟨rfl, MF.out⟩

end Go.Proofs.YtjgjjlolhdlofaaGreatDoor

namespace Go.Proofs.YtjgjjlolhdlofaaGreatDoor
open Go.RowKit Go.Mine

end Go.Proofs.YtjgjjlolhdlofaaGreatDoor

namespace Go.Proofs.YtjgjjlolhdlofaaGreatDoor
open Go.RowKit Go.Shelf Go.Mine
open Classical

/-- An operation whose spans lie elsewhere. -/
abbrev OpS.at (x : OpS) (a : Option Addr) (c : Nat) : OpS := ⟨⟨x.o.site, x.o.seq, x.o.num, x.o.kind, x.o.at_, x.o.text, a, x.o.slen, c⟩, x.sp⟩
end Go.Proofs.YtjgjjlolhdlofaaGreatDoor

namespace Go.Proofs.YtjgjjlolhdlofaaGreatDoor
open Go.RowKit Go.Shelf Go.Mine
open Classical

theorem EntV.len (x : EntV) : x.cs.length = 14 := rfl
theorem EntV.ones (x : EntV) : ∀ v ∈ x.cs, v.oneCell' = true := by
  intro v hv
  simp only [EntV.cs, List.mem_cons, List.not_mem_nil, or_false] at hv
  rcases hv with rfl | rfl | rfl | rfl | rfl | rfl | rfl | rfl | rfl | rfl | rfl | rfl | rfl | rfl <;> rfl
/-- An entry whose spans lie elsewhere. -/
abbrev EntV.at (x : EntV) (a : Option Addr) (c : Nat) : EntV := ⟨⟨x.o.site, x.o.seq, x.o.num, x.o.kind, x.o.at_, x.o.text, a, x.o.slen, c⟩, x.sp, x.ed⟩
/-- Entries alike: the same but for where the spans lie. -/
def likeE (E E' : List EntV) : Prop := E'.length = E.length ∧ ∀ (i : Nat) (x : EntV), E[i]? = some x → ∃ a c, E'[i]? = some (x.at a c)
theorem likeE.refl (E : List EntV) : likeE E E := ⟨rfl, fun _ x hx => ⟨x.o.sa, x.o.scap, hx⟩⟩
theorem likeE.nil : likeE [] [] := likeE.refl []
theorem likeE.snoc {E E' : List EntV} (h : likeE E E') (x : EntV) (a : Option Addr) (c : Nat) : likeE (E ++ [x]) (E' ++ [x.at a c]) := by
  refine ⟨by simp [h.1], fun i y hy => ?_⟩
  by_cases hi : i < E.length
  · rw [List.getElem?_append_left hi] at hy
    rw [List.getElem?_append_left (by rw [h.1]; exact hi)]
    exact h.2 i y hy
  · rw [List.getElem?_append_right (by omega)] at hy
    rw [List.getElem?_append_right (by rw [h.1]; omega), h.1]
    have : i - E.length = 0 := by
      have := (List.getElem?_eq_some_iff.1 hy).1
      simp at this; omega
    rw [this] at hy ⊢
    cases hy
    exact ⟨a, c, rfl⟩
theorem likeE.cons {E E' : List EntV} {x : EntV} (h : likeE (x :: E) E') : ∃ a c r, E' = x.at a c :: r ∧ likeE E r := by
  obtain ⟨a, c, h0⟩ := h.2 0 x rfl
  cases E' with
  | nil => cases h0
  | cons y r =>
    obtain rfl := Option.some.inj h0
    exact ⟨a, c, r, rfl, by simpa using h.1, fun i z hz => h.2 (i + 1) z hz⟩
theorem likeE.take {E E' : List EntV} (h : likeE E E') (k : Nat) : likeE (E.take k) (E'.take k) := by
  refine ⟨by simp [h.1], fun i x hx => ?_⟩
  rw [List.getElem?_take] at hx ⊢
  split at hx
  · rw [if_pos (by assumption)]; exact h.2 i x hx
  · cases hx
theorem likeE.back {E E' : List EntV} (h : likeE E E') {y : EntV} (hy : y ∈ E') : ∃ x ∈ E, ∃ a c, y = x.at a c := by
  obtain ⟨i, hi, e⟩ := List.getElem_of_mem hy
  have hi2 : i < E.length := by rw [← h.1]; exact hi
  obtain ⟨a, c, h2⟩ := h.2 i _ (List.getElem?_eq_getElem hi2)
  rw [List.getElem?_eq_getElem hi, e] at h2
  exact ⟨E[i], List.getElem_mem hi2, a, c, Option.some.inj h2⟩
theorem infoEnt : (Tryz.prog.info? 62).map (fun i => (i.zero, i.size, i.bytes)) = some (some (.agg #[.int .i64 0, .int .i64 0, .int .i64 0, .int .i64 0, .int .i64 0, .string ⟨#[]⟩, .slice none 0 0, .int .i64 0, .int .i64 0, .int .i64 0, .int .i64 0, .int .i64 0, .int .i64 0, .string ⟨#[]⟩]), 14, 144) := by kernel_rfl
def zeroE : EntV := ⟨⟨0, 0, 0, 0, 0, ⟨#[]⟩, none, 0, 0⟩, [], ⟨0, 0, 0, 0, 0, 0, ⟨#[]⟩⟩⟩
theorem Tryz.entSize : (Tryz.prog.info? 62).map (·.size) = some 14 := by kernel_rfl
theorem st_entW (ρ : Operand → Value) (dst : Option Tmp) (x y : Operand) (ty : TypeId) (pos : String) (after : Array Edge) (guard : Option (Nat × Bool)) :
    execOp ρ { dst, op := .store 62 x y, type := ty, pos, after, guard } = (do stRow 62 (ρ x) (ρ y); pure .skip) := rfl
theorem run_st_entW (w : World) (g o : Nat) (a0 a1 a2 a3 a4 : Int) (t : ByteArray) (sa : Option Addr) (sl sc : Nat) (b0 b1 b2 b3 b4 b5 : Int) (u : ByteArray) (h : w.there g o 14) :
    (stRow 62 (.pointer (some ⟨g, o, none⟩)) (.agg #[.int .i64 a0, .int .i64 a1, .int .i64 a2, .int .i64 a3, .int .i64 a4, .string t, .slice sa sl sc, .int .i64 b0, .int .i64 b1, .int .i64 b2, .int .i64 b3, .int .i64 b4, .int .i64 b5, .string u])).run Tryz.prog w = .ok () (w.setCells g o [.int .i64 a0, .int .i64 a1, .int .i64 a2, .int .i64 a3, .int .i64 a4, .string t, .slice sa sl sc, .int .i64 b0, .int .i64 b1, .int .i64 b2, .int .i64 b3, .int .i64 b4, .int .i64 b5, .string u]) :=
  run_stRow Tryz.entSize w g o _ rfl (EntV.ones ⟨⟨a0, a1, a2, a3, a4, t, sa, sl, sc⟩, [], ⟨b0, b1, b2, b3, b4, b5, u⟩⟩) h

/-- Spans that an entry owns. -/
abbrev ownSp (w : World) (B : Nat) (x : EntV) : Prop := w.ownsRow B 55 2 (.slice x.o.sa x.o.slen x.o.scap) x.o.slen (flat spC x.sp)
/-- A history whose parts were made since a block. -/
structure Made (B0 : Nat) (w : World) (h : HistV) (B : List CellV) (V : List Int) (E : List EntV) : Prop where
  b : w.ownsRow B0 53 5 (.slice h.ba h.bl h.bc) h.bl (flat CellV.cs B)
  v : w.ownsRow B0 3 1 (.slice h.va h.vl h.vc) h.vl (intCs V)
  e : w.ownsRow B0 62 14 (.slice h.la h.ll h.lc) h.ll (flat EntV.cs E)
  s : ∀ x ∈ E, ownSp w B0 x
theorem Made.grown {B0 : Nat} {w w' : World} {h : HistV} {B : List CellV} {V : List Int} {E : List EntV} (k : Made B0 w h B V E) (m : Mine.Mod none_ w w') : Made B0 w' h B V E :=
  ⟨ownsRow_mod k.b m (fun _ _ e => e), ownsRow_mod k.v m (fun _ _ e => e), ownsRow_mod k.e m (fun _ _ e => e), fun x hx => ownsRow_mod (k.s x hx) m (fun _ _ e => e)⟩
theorem own_ents {w : World} {B n vc : Nat} {va : Option Addr} {l : List EntV} (h : w.ownsRow B 62 14 (.slice va n vc) n (flat EntV.cs l)) (ok : ∀ x ∈ l, x.o.ok w x.sp ∧ x.ed.ok w) : IsEnts w va n vc l := by
  have hl := h.1
  rw [flat_length EntV.len] at hl
  rcases ownsRow_blk h with ⟨h1, h2, h3⟩ | ⟨g, cap, more, h1, _, hb, hc, hm, _⟩
  · cases h1
    have : l = [] := List.eq_nil_of_length_eq_zero (by omega)
    subst this
    exact ⟨rfl, Nat.le_refl _, Nat.zero_le _, ok, fun i x hx => by simp at hx⟩
  · cases h1
    refine ⟨by omega, hc, hm, ok, fun i x hx => ⟨g, 0, rfl, ?_⟩⟩
    rw [Nat.zero_add]
    exact Blk.range EntV.len hb i x hx
theorem EntV.at_ok {w w' : World} {B : Nat} {x : EntV} {a : Option Addr} {c : Nat} (h : x.o.ok w x.sp ∧ x.ed.ok w) (m : Mine.Mod none_ w w') (ho : ownSp w' B (x.at a c)) : (x.at a c).o.ok w' (x.at a c).sp ∧ (x.at a c).ed.ok w' :=
  ⟨⟨h.1.i1, h.1.i2, h.1.i3, h.1.i4, h.1.i5, h.1.tx.grown m, h.1.sz, own_spans ho h.1.sp.ok⟩, h.2.grown m⟩
/-- Parts made anew of a history that lies in memory: it lies in memory too. -/
theorem Made.is {B0 : Nat} {w w' : World} {h h' : HistV} {B : List CellV} {V : List Int} {E E' : List EntV} (k : Made B0 w' h' B V E') (hh : HistIs w h B V E) (m : Mine.Mod none_ w w') (hl : likeE E E') (i1 : -9223372036854775808 ≤ h'.from_ ∧ h'.from_ ≤ 9223372036854775807) (i2 : -9223372036854775808 ≤ h'.num ∧ h'.num ≤ 9223372036854775807) : HistIs w' h' B V E' :=
  ⟨own_cells k.b hh.b.ok, own_vec k.v hh.v.ok, own_ents k.e (fun y hy => by
    obtain ⟨x, hx, a, c, rfl⟩ := hl.back hy
    exact EntV.at_ok (hh.e.ok x hx) m (k.s _ hy)), i1, i2⟩
/-- The row of entries while it is filled. -/
def HalfE (w : World) (B1 G : Nat) (E : List EntV) (n k : Nat) : Prop :=
  ∃ Q : List EntV, likeE (E.take k) Q ∧ (∀ x ∈ Q, ownSp w B1 x) ∧ Blk w G (flat EntV.cs (Q ++ List.replicate (n - k) zeroE)) 62
theorem set_half (Q : List EntV) (n k : Nat) (y : EntV) (hQ : Q.length = k) (hk : k < n) : (Q ++ List.replicate (n - k) zeroE).set k y = (Q ++ [y]) ++ List.replicate (n - (k + 1)) zeroE := by
  rw [List.set_append_right _ _ (by omega), hQ, Nat.sub_self]
  obtain ⟨m, hm⟩ : ∃ m, n - k = m + 1 := ⟨n - k - 1, by omega⟩
  rw [hm, List.replicate_succ, List.set_cons_zero, show n - (k + 1) = m by omega]
  simp
/-- One entry more. -/
theorem HalfE.step {w w1 : World} {B1 G n k : Nat} {E : List EntV} {x : EntV} {a : Option Addr} {c : Nat} (h : HalfE w B1 G E n k) (hx : E[k]? = some x) (hk : k < n) (m : Mine.Mod none_ w w1) (ho : ownSp w1 B1 (x.at a c)) :
    HalfE (w1.setCells G (k * 14) (x.at a c).cs) B1 G E n (k + 1) ∧ Mine.Mod (one G) w1 (w1.setCells G (k * 14) (x.at a c).cs) ∧ w1.there G (k * 14) 14 := by
  obtain ⟨Q, hq, hs, hb⟩ := h
  have hkl := (List.getElem?_eq_some_iff.1 hx).1
  have hQ : Q.length = k := by rw [hq.1, List.length_take]; omega
  have hb1 := hb.mod m (fun e => e)
  obtain ⟨kp, mp⟩ := Blk.put EntV.len (more := []) (by rw [List.append_nil]; exact hb1) k (by rw [List.length_append, hQ, List.length_replicate]; omega) (x.at a c)
  have ne : ∀ {y : EntV}, ownSp w1 B1 y → ∀ j, (Value.slice y.o.sa y.o.slen y.o.scap).ownBlock = some j → ¬ one G j := by
    intro y hy j hj e
    have e' : j = G := e
    subst e'
    obtain ⟨cs2, hb2⟩ := ownsRow_type hy hj
    have e2 := Option.some.inj (hb1.symm.trans hb2)
    injection e2 with _ h2 _
    exact absurd h2 (by decide)
  refine ⟨⟨Q ++ [x.at a c], ?_, ?_, ?_⟩, mp, hb1.there _ _ (by rw [flat_length EntV.len, List.length_append, hQ, List.length_replicate]; omega)⟩
  · rw [ents_snoc hx]; exact hq.snoc x a c
  · intro y hy
    rcases List.mem_append.1 hy with hy | hy
    · have := ownsRow_mod (hs y hy) m (fun _ _ e => e)
      exact ownsRow_mod this mp (ne this)
    · rw [List.mem_singleton] at hy
      subst hy
      exact ownsRow_mod ho mp (ne ho)
  · rw [set_half Q n k _ hQ hk, List.append_nil] at kp
    exact kp

end Go.Proofs.YtjgjjlolhdlofaaGreatDoor

namespace Go.Proofs.YtjgjjlolhdlofaaGreatDoor
open Go.RowKit Go.Shelf Go.Mine
open Classical

section
attribute [local go_sem ↓] st_entW
attribute [local go_sem] run_st_entW World.there_drew setCells_drew setCells_alloc_new there_alloc_new
end

end Go.Proofs.YtjgjjlolhdlofaaGreatDoor

namespace Go.Proofs.YtjgjjlolhdlofaaGreatDoor
open Go.RowKit Go.Shelf Go.Mine
open Classical

end Go.Proofs.YtjgjjlolhdlofaaGreatDoor

namespace Go.Proofs.YtjgjjlolhdlofaaGreatDoor
open Go.RowKit Go.Shelf Go.Mine
open Classical

/-- What may be: its numbers. -/
theorem histOk_nums {h : HistV} {B : List CellV} {V : List Int} {E : List EntV} (hb : histOk h B V E = true) : 0 ≤ h.from_ ∧ h.from_ ≤ h.num ∧ h.num ≤ 1099511627776 ∧ h.ll ≤ 400 := by
  unfold histOk numsOk at hb
  simp only [Bool.and_eq_true, decide_eq_true_eq] at hb
  exact ⟨hb.1.1.1.1.1.1, hb.1.1.1.1.1.2, hb.1.1.1.1.2, hb.1.1.1.2⟩
def numP (h : HistV) (x : EntV) : Int := if x.o.num = 0 then h.num else x.o.num
/-- One entry more. -/
theorem app_ent {W : World} {B n vc X : Nat} {va : Option Addr} {xs : List EntV} {x : EntV} (ho : W.ownsRow B 62 14 (.slice va n vc) n (flat EntV.cs xs)) (k : Blk W X x.cs 62) (hb : n ≤ 1000000) (hB : B ≤ W.heap.size) :
    ∃ va' vc' w', (Builtin.append_ #[24, 24] 24 #[.slice va n vc, .slice (some ⟨X, 0, none⟩) 1 1]).run Tryz.prog W = .ok (.slice va' (n + 1) vc') w' ∧
      w'.ownsRow B 62 14 (.slice va' (n + 1) vc') (n + 1) (flat EntV.cs (xs ++ [x])) ∧ Mine.Mod (fun k => (Value.slice va n vc).ownBlock = some k) W w' := by
  obtain ⟨i0, hi0, hz0, hz1, hz2⟩ := info_parts infoEnt
  obtain ⟨v', w', hrun, hown, hgrow, _⟩ := run_append_own (P := Tryz.prog) W B 24 24 62 i0 _ 14 144 Tryz.underlying24 hi0 hz0 hz1 hz2 rfl (by decide) (.slice va n vc) n _ ho ⟨X, 0, none⟩ 1 1 x.cs rfl (World.news_of_block k) (EntV.ones x) (by unfold maxLen; omega) (by omega) hB
  obtain ⟨va', vc', rfl⟩ : ∃ va' vc', v' = .slice va' (n + 1) vc' := by
    rcases ownsRow_blk hown with ⟨_, h0, _⟩ | ⟨g', c', _, rfl, _⟩
    · omega
    · exact ⟨_, c', rfl⟩
  refine ⟨va', vc', w', hrun, ?_, (Mine.Mod.refl _ _).grown hgrow (fun k e _ => e)⟩
  rw [flat_append]
  simpa using hown
/-- A block of another type is not the row's. -/
theorem own_other {w : World} {B e size n g t : Nat} {v : Value} {xs : List Value} {cs : List Value} (h : w.ownsRow B e size v n xs) (k : Blk w g cs t) (ht : t ≠ e) : ¬ v.ownBlock = some g := by
  intro hj
  obtain ⟨cs2, hb2⟩ := ownsRow_type h hj
  have e2 := Option.some.inj (k.symm.trans hb2)
  injection e2 with _ h2 _
  exact ht h2
theorem own_own {w : World} {B B' e e' size size' n n' g : Nat} {v v' : Value} {xs xs' : List Value} (h : w.ownsRow B e size v n xs) (h' : w.ownsRow B' e' size' v' n' xs') (ht : e' ≠ e) (hj : v.ownBlock = some g) : ¬ v'.ownBlock = some g := by
  obtain ⟨cs2, hb2⟩ := ownsRow_type h hj
  exact own_other h' (show Blk w g cs2 e from hb2) (fun e3 => ht e3.symm)
/-- A history made anew, with one entry more. -/
theorem Made.add {B0 : Nat} {W : World} {h : HistV} {B : List CellV} {V : List Int} {E : List EntV} {y : EntV} {X : Nat} (k : Made B0 W h B V E) (ho : ownSp W B0 y) (kx : Blk W X y.cs 62) (hb : h.ll ≤ 1000000) (hB : B0 ≤ W.heap.size) :
    ∃ va' vc' w', (Builtin.append_ #[24, 24] 24 #[.slice h.la h.ll h.lc, .slice (some ⟨X, 0, none⟩) 1 1]).run Tryz.prog W = .ok (.slice va' (h.ll + 1) vc') w' ∧
      Made B0 w' ⟨h.ba, h.bl, h.bc, h.va, h.vl, h.vc, h.from_, h.num, va', h.ll + 1, vc'⟩ B V (E ++ [y]) ∧ Mine.Mod (fun k => (Value.slice h.la h.ll h.lc).ownBlock = some k) W w' := by
  obtain ⟨va', vc', w', hrun, hown, hm⟩ := app_ent k.e kx hb hB
  refine ⟨va', vc', w', hrun, ⟨ownsRow_mod k.b hm (fun j hj => own_own k.b k.e (by decide) hj), ownsRow_mod k.v hm (fun j hj => own_own k.v k.e (by decide) hj), hown, fun x hx => ?_⟩, hm⟩
  rcases List.mem_append.1 hx with hx | hx
  · exact ownsRow_mod (k.s x hx) hm (fun j hj => own_own (k.s x hx) k.e (by decide) hj)
  · rw [List.mem_singleton] at hx
    subst hx
    exact ownsRow_mod ho hm (fun j hj => own_own ho k.e (by decide) hj)
theorem Made.mod {B0 : Nat} {S : Nat → Prop} {w w' : World} {h : HistV} {B : List CellV} {V : List Int} {E : List EntV} (k : Made B0 w h B V E) (m : Mine.Mod S w w') (hs : ∀ j, S j → ∃ cs, Blk w j cs 32 ∨ Blk w j cs 26) : Made B0 w' h B V E := by
  have key : ∀ {B e size n : Nat} {v : Value} {xs : List Value}, w.ownsRow B e size v n xs → 32 ≠ e → 26 ≠ e → ∀ j, v.ownBlock = some j → ¬ S j := by
    intro B e size n v xs h h1 h2 j hj hS
    obtain ⟨cs, hc | hc⟩ := hs j hS
    · exact own_other h hc h1 hj
    · exact own_other h hc h2 hj
  exact ⟨ownsRow_mod k.b m (key k.b (by decide) (by decide)), ownsRow_mod k.v m (key k.v (by decide) (by decide)), ownsRow_mod k.e m (key k.e (by decide) (by decide)), fun x hx => ownsRow_mod (k.s x hx) m (key (k.s x hx) (by decide) (by decide))⟩
theorem Made.num {B0 : Nat} {w : World} {h : HistV} {B : List CellV} {V : List Int} {E : List EntV} (k : Made B0 w h B V E) (n : Int) : Made B0 w ⟨h.ba, h.bl, h.bc, h.va, h.vl, h.vc, h.from_, n, h.la, h.ll, h.lc⟩ B V E := ⟨k.b, k.v, k.e, k.s⟩
end Go.Proofs.YtjgjjlolhdlofaaGreatDoor

namespace Go.Proofs.YtjgjjlolhdlofaaGreatDoor
open Go.RowKit Go.Shelf Go.Mine
open Classical

/-- The cells behind entries. -/
noncomputable def repL : List CellV → List EntV → List CellV
  | L, [] => L
  | L, x :: r => repL (runL9 x.o x.sp L) r
theorem repL_snoc {B : List CellV} {E : List EntV} {k : Nat} {x : EntV} (h : E[k]? = some x) : repL B (E.take (k + 1)) = runL9 x.o x.sp (repL B (E.take k)) := by
  rw [ents_snoc h]
  generalize E.take k = A
  induction A generalizing B with
  | nil => rfl
  | cons y r ih => exact ih
/-- Cells, and what is still to be carried out upon them. -/
structure Rep (V : List Int) (n : Int) (L : List CellV) (E : List EntV) : Prop where
  len : (L.length : Int) = n
  inb : inB n 0 20000 = true
  seq : ∀ c ∈ L, c.seq ≤ cntV V c.site
  run : (runOps (opsOf E) n).isSome = true
  ord : ∃ last p num, orderL last p V num E = true
theorem cntV_raise {V : List Int} {s : Int} (hv : vecOk V = true) (h1 : 1 ≤ s) (h2 : s ≤ 16) (t : Int) : cntV (raiseL V s) t = if t = s then cntV V s + 1 else cntV V t := by
  have hl := raiseL_len V s
  have hg : (raiseL V s)[s.toNat - 1]? = some (cntV V s + 1) := by
    unfold raiseL
    rw [List.getElem?_set, if_pos rfl, if_pos (by rw [List.length_append, List.length_replicate]; omega)]
  by_cases ht : t = s
  · rw [if_pos ht, ht]
    have hc : cntV (raiseL V s) s = ((raiseL V s)[(s - 1).toNat]?).getD 0 := by
      unfold cntV
      rw [if_pos (by unfold inB; rw [decide_eq_true_eq, hl]; omega)]
    have e : (s - 1).toNat = s.toNat - 1 := by omega
    rw [hc, e, hg]
    rfl
  · rw [if_neg ht]
    by_cases hin : 1 ≤ t ∧ t ≤ (raiseL V s).length
    · have hne : s.toNat - 1 ≠ (t - 1).toNat := by omega
      have hget : (raiseL V s)[(t - 1).toNat]? = (V ++ List.replicate (s.toNat - V.length) 0)[(t - 1).toNat]? := by
        unfold raiseL
        rw [List.getElem?_set, if_neg hne]
      have hc : cntV (raiseL V s) t = ((raiseL V s)[(t - 1).toNat]?).getD 0 := by
        unfold cntV
        rw [if_pos (by unfold inB; rw [decide_eq_true_eq]; exact hin)]
      rw [hc, hget]
      by_cases hV : t ≤ V.length
      · unfold cntV
        rw [if_pos (by unfold inB; rw [decide_eq_true_eq]; omega), List.getElem?_append_left (by omega)]
      · unfold cntV
        rw [if_neg (by unfold inB; rw [decide_eq_true_eq]; omega), List.getElem?_append_right (by omega), List.getElem?_replicate]
        split <;> rfl
    · unfold cntV
      rw [if_neg (by unfold inB; rw [decide_eq_true_eq]; exact hin), if_neg (by unfold inB; rw [decide_eq_true_eq]; intro e; exact hin ⟨e.1, by rw [hl]; omega⟩)]
theorem raise_seq {V : List Int} {s q : Int} (h : raiseE V s q = 0) : vecOk V = true ∧ nameOk s q = true ∧ q = cntV V s + 1 := by
  have h1 := raise_vec h
  refine ⟨h1.1, h1.2, ?_⟩
  unfold raiseE at h
  rw [h1.1, h1.2] at h
  simp only [Bool.and_self, if_true] at h
  by_cases h2 : cntV V s = 1099511627776
  · rw [if_pos h2] at h; omega
  · rw [if_neg h2] at h
    by_cases h3 : q = cntV V s + 1
    · exact h3
    · rw [if_neg h3] at h; omega
/-- One operation: it is carried out, as the document says. -/
theorem Rep.step {V : List Int} {n : Int} {L : List CellV} {x : EntV} {E : List EntV} (h : Rep V n L (x :: E)) :
    opMay x.o x.sp L.length = true ∧ doE x.o x.sp L = 0 ∧ doL x.o x.sp L = runL9 x.o x.sp L ∧ Rep (raiseL V x.o.site) (n + addsOf x.o) (runL9 x.o x.sp L) E := by
  obtain ⟨last, p, num, ho⟩ := h.ord
  obtain ⟨hz, l2, p2, h2⟩ := orderL_step ho
  obtain ⟨hv, hn, hq⟩ := raise_seq hz
  have hs := nameOk_site hn
  have hrun := h.run
  unfold opsOf at hrun
  rw [List.map_cons, runOps] at hrun
  have hm : opMay x.o x.sp n = true := by
    by_cases hm : opMay x.o x.sp n = true
    · exact hm
    · rw [if_neg hm] at hrun; cases hrun
  rw [if_pos hm] at hrun
  have hm' : opMay x.o x.sp L.length = true := by rw [h.len]; exact hm
  have hnm : x.o.name ∉ L.map CellV.name := by
    intro hc
    obtain ⟨c, hcl, hce⟩ := List.mem_map.1 hc
    have e1 : c.site = x.o.site := by simp only [Value.agg.injEq] at hce; simp at hce; exact hce.1
    have e2 : c.seq = x.o.seq := by simp only [Value.agg.injEq] at hce; simp at hce; exact hce.2
    have := h.seq c hcl
    rw [e1, e2] at this
    omega
  have hmono : ∀ t, cntV V t ≤ cntV (raiseL V x.o.site) t := by
    intro t
    rw [cntV_raise hv hs.1 hs.2]
    split
    · rename_i e; rw [e]; omega
    · exact Int.le_refl _
  have hin := adds_in h.inb hm
  by_cases hk : x.o.kind = 2
  · have hrl : runL9 x.o x.sp L = markS x.sp 0 L := by unfold runL9; rw [if_pos hk]
    have ha : addsOf x.o = 0 := by unfold addsOf; rw [if_neg (by omega)]
    refine ⟨hm', ?_, ?_, ?_, hin.1, ?_, hrun, l2, p2, _, h2⟩
    · unfold doE; rw [if_pos hm', if_pos hk]
    · unfold doL; rw [if_pos hm', if_pos hk, hrl]
    · rw [hrl, markS_len, ha, h.len]; omega
    · intro c hc
      rw [hrl] at hc
      have hid : c.id ∈ (markS x.sp 0 L).map CellV.id := List.mem_map_of_mem hc
      rw [markS_ids] at hid
      obtain ⟨d, hd, e⟩ := List.mem_map.1 hid
      have e1 : d.site = c.site := by simp only [Value.agg.injEq] at e; simp at e; exact e.1
      have e2 : d.seq = c.seq := by simp only [Value.agg.injEq] at e; simp at e; exact e.2.1
      have := h.seq d hd
      have h3 := hmono d.site
      rw [e1, e2] at this
      rw [e1] at h3
      omega
  · have hE : doE x.o x.sp L = 0 := by unfold doE; rw [if_pos hm', if_neg hk, if_neg hnm]
    have hk1 : x.o.kind = 1 := by
      unfold opMay at hm
      rw [if_neg hk] at hm
      by_cases h1 : x.o.kind = 1
      · exact h1
      · rw [if_neg h1] at hm; simp at hm
    have hrl : runL9 x.o x.sp L = L.take x.o.at_.toNat ++ freshC x.o (runesD x.o.text) ++ L.drop x.o.at_.toNat := by unfold runL9; rw [if_neg hk]
    have hins : insOk x.o n = true := by
      unfold opMay at hm
      rw [if_pos hk1] at hm
      simp only [Bool.and_eq_true] at hm
      exact hm.2
    have hul : 1 ≤ ulen x.o.text := by
      unfold insOk textOk inB at hins
      simp only [Bool.and_eq_true, decide_eq_true_eq] at hins
      omega
    obtain ⟨rs, hrs⟩ : ∃ rs, runesOf x.o.text = some rs := by
      cases hr : runesOf x.o.text with
      | none => rw [ulen_none hr] at hul; omega
      | some rs => exact ⟨rs, rfl⟩
    have hrd : runesD x.o.text = rs := by unfold runesD; rw [hrs]; rfl
    have ha : addsOf x.o = (rs.length : Int) := by
      unfold addsOf
      rw [if_pos hk1, ulen_some hrs]
      omega
    refine ⟨hm', hE, ?_, ?_, hin.1, ?_, hrun, l2, p2, _, h2⟩
    · unfold doL; rw [if_pos hm', if_neg hk, if_neg hnm, hrl]
    · rw [hrl, hrd, ha, ← h.len]
      simp only [List.length_append, List.length_take, List.length_drop, freshC_len]
      omega
    · intro c hc
      rw [hrl] at hc
      rcases List.mem_append.1 hc with hc | hc
      · rcases List.mem_append.1 hc with hc | hc
        · have := h.seq c (List.mem_of_mem_take hc); have h3 := hmono c.site; omega
        · obtain ⟨e1, e2⟩ := fresh_name hc
          rw [e1, e2, cntV_raise hv hs.1 hs.2, if_pos rfl, hq]
          exact Int.le_refl _
      · have := h.seq c (List.mem_of_mem_drop hc); have h3 := hmono c.site; omega
/-- A history that may be: all its operations are to be carried out upon its base. -/
theorem histOk_rep {h : HistV} {B : List CellV} {V : List Int} {E : List EntV} (hb : histOk h B V E = true) (hl : B.length = h.bl) : newE B = 0 ∧ Rep V (h.bl : Int) B E := by
  have ho := histOk_order hb
  unfold histOk at hb
  simp only [Bool.and_eq_true] at hb
  obtain ⟨⟨⟨_, hbase⟩, hents⟩, _⟩ := hb
  unfold baseOk at hbase
  simp only [Bool.and_eq_true, decide_eq_true_eq] at hbase
  obtain ⟨⟨hn, hv⟩, hu⟩ := hbase
  unfold entsOk at hents
  simp only [Bool.and_eq_true] at hents
  have hr := hents.2
  unfold listRun at hr
  by_cases hc : ((opsOf E).map OpS.nm).Nodup ∧ inB (h.bl : Int) 0 20000 = true
  · rw [if_pos hc] at hr
    refine ⟨hn, by rw [hl], hc.2, ?_, hr, _, _, _, ho⟩
    intro c hcB
    have hu' : B.any (unkn V) = false := by simpa using hu
    rw [List.any_eq_false] at hu'
    have := hu' c hcB
    unfold unkn at this
    simpa using this
  · rw [if_neg hc] at hr; cases hr
/-- So far on: what stands before the k-th entry. -/
theorem Rep.upto {B : List CellV} {E : List EntV} (k : Nat) (hk : k ≤ E.length) : ∀ {V : List Int} {n : Int}, Rep V n B E → ∃ V' n', Rep V' n' (repL B (E.take k)) (E.drop k) := by
  induction k with
  | zero => intro V n h; exact ⟨V, n, by simpa [repL] using h⟩
  | succ k ih =>
    intro V n h
    obtain ⟨V', n', h'⟩ := ih (by omega) h
    have hx : E[k]? = some (E[k]'(by omega)) := List.getElem?_eq_getElem _
    rw [drop_cons hx] at h'
    rw [repL_snoc hx]
    exact ⟨_, _, h'.step.2.2.2⟩

end Go.Proofs.YtjgjjlolhdlofaaGreatDoor

namespace Go.Proofs.YtjgjjlolhdlofaaGreatDoor
open Go.RowKit Go.Shelf Go.Mine
open Classical
attribute [local go_sem] Oper.semAt_some

/-- Do, upon a document made since w: the blocks that are kept stay. -/
theorem DocF.do2 {w wx : World} {E : Nat → Prop} {D : Nat} {L : List CellV} (h : DocF w E wx D L) (o : OpV) (sp : List (Int × Int)) (ho : o.ok w sp) (hsz : o.text.size ≤ 1099511627776) :
    Calls Tryz.prog 70 #[.pointer (some ⟨D, 0, none⟩), o.v] wx fun e w' => e = .returned (.int .i64 (doE o sp L)) ∧ DocF w E w' D (doL o sp L) ∧ ∀ k, E k → w'.heap[k]? = wx.heap[k]? := by
  obtain ⟨S, hd, hS⟩ := h.doc
  have ho' := ho.grown h.m
  refine (do_any wx S D L o sp hd h.cl.big h.cl.ok ho' hsz (far_of ho.sp (fun k hk => (hS k hk).1))).mono ?_
  rintro e w' ⟨rfl, m, hd'⟩
  refine ⟨rfl, ⟨h.m.transIn m (fun b hb hs => absurd (hS b hs).1 (by omega)), ⟨_, hd', ?_⟩, fun k hk => Nat.lt_of_lt_of_le (h.ex k hk) m.size, h.cl.doL ho.i1 ho.i2⟩, fun k hk => m.block k (h.ex k hk) (fun hs => (hS _ hs).2 hk)⟩
  rintro k (hk | ⟨hk, _⟩)
  · exact hS k hk
  · have h1 := h.m.size
    exact ⟨by omega, fun e => by have := h.ex k e; omega⟩

/-- The blocks that lie between: the boxes, and the range's own two. -/
def repEx (w W0 : World) : Nat → Prop := fun k => w.heap.size ≤ k ∧ k < W0.heap.size + 2
/-- All else that was made between stays. -/
def repSame (w W0 : World) (bT : Nat) (W : World) : Prop := ∀ k, w.heap.size ≤ k → k < W0.heap.size → k ≠ bT → W.heap[k]? = W0.heap[k]?
/-- Where replaying stands: nothing yet; or so many operations behind, the document, whether it is noted. -/
def repI (w W0 : World) (bB bL bT : Nat) (vB vL : Value) (B : List CellV) (E : List EntV) : Option (Nat × Nat × Bool) → World → Prop
  | none, W => Mine.Mod none_ w W ∧ Blk W bB [vB] 22 ∧ Blk W bL [vL] 73 ∧ Blk W bT [.pointer none] 65 ∧ repSame w W0 bT W
  | some (i, D, b), W => Mine.Mod none_ w W ∧ Blk W bB [vB] 22 ∧ Blk W bL [vL] 73 ∧ (∃ p, Blk W bT [.pointer p] 65 ∧ (b = true → p = some ⟨D, 0, none⟩)) ∧ DocF w (repEx w W0) W D (repL B (E.take i)) ∧ repSame w W0 bT W
theorem repI.mod {w W0 : World} {bB bL bT : Nat} {vB vL : Value} {B : List CellV} {E : List EntV} {s : Option (Nat × Nat × Bool)} {W W' : World} (hW : w.heap.size ≤ W0.heap.size) (h : repI w W0 bB bL bT vB vL B E s W) (m : Mine.Mod (two W0.heap.size) W W') (b1 : bB < W0.heap.size) (b2 : bL < W0.heap.size) (b3 : bT < W0.heap.size) : repI w W0 bB bL bT vB vL B E s W' := by
  have ne : ∀ k, k < W0.heap.size → ¬ two W0.heap.size k := fun k hk e => by rcases e with e | e <;> omega
  have hx : ∀ k, two W0.heap.size k → repEx w W0 k := fun k e => by rcases e with e | e <;> exact ⟨by omega, by omega⟩
  have hsz : W0.heap.size ≤ W.heap.size → repSame w W0 bT W → repSame w W0 bT W' := fun hz h k h1 h2 h3 => (m.block k (by omega) (ne k h2)).trans (h k h1 h2 h3)
  have hsm : repSame w W0 bT W → repSame w W0 bT W' := fun h => by
    by_cases hz : W0.heap.size ≤ W.heap.size
    · exact hsz hz h
    · intro k h1 h2 h3
      by_cases hk : k < W.heap.size
      · exact (m.block k hk (ne k h2)).trans (h k h1 h2 h3)
      · have e := h k h1 h2 h3
        rw [Array.getElem?_eq_none (by omega), Array.getElem?_eq_getElem h2] at e
        cases e
  cases s with
  | none =>
    obtain ⟨h1, h2, h3, h4, h7⟩ := h
    exact ⟨h1.transIn m (fun b hb e => by have := (hx b e).1; omega), h2.mod m (ne _ b1), h3.mod m (ne _ b2), h4.mod m (ne _ b3), hsm h7⟩
  | some x =>
    obtain ⟨i, D, b⟩ := x
    obtain ⟨h1, h2, h3, ⟨p, h4, h5⟩, h6, h7⟩ := h
    exact ⟨h1.transIn m (fun b hb e => by have := (hx b e).1; omega), h2.mod m (ne _ b1), h3.mod m (ne _ b2), ⟨p, h4.mod m (ne _ b3), h5⟩, h6.put (m.mono (fun k _ e => hx k e)) (fun k e => e.1), hsm h7⟩
def repStep : Option (Nat × Nat × Bool) → Nat → Option (Nat × Nat × Bool)
  | some (i, D, _), _ => some (i, D, true)
  | none, _ => none
def repG (s : Option (Nat × Nat × Bool)) (x : Nat) : Prop := ∃ i, s = some (i, x, false)
def repEnc (x : Nat) : Array Value := #[.pointer (some ⟨x, 0, none⟩)]

set_option maxHeartbeats 8000000 in
set_option maxRecDepth 1000000 in
theorem docs1_any (n : Nat) (w W0 : World) (bB bL bT : Nat) (ba : Option Addr) (bl bc : Nat) (la : Option Addr) (kk lc : Nat) (B : List CellV) (V : List Int) (E : List EntV) (hB : IsCells w ba bl bc B) (hbl : bl ≤ 1000) (hE : ∀ x ∈ E, x.o.ok w x.sp) (hT : ∀ x ∈ E, x.o.text.size ≤ 1099511627776) (hL : IsOps W0 la kk lc ((opsOf E).take kk)) (hkE : kk ≤ E.length) (hkk : kk ≤ 1000) (hlc : lc ≤ 9223372036854775807) (hn : newE B = 0) (hrep : Rep V (bl : Int) B E)
    (hw : w.heap.size ≤ W0.heap.size) (b1 : bB < W0.heap.size) (b2 : bL < W0.heap.size) (b3 : bT < W0.heap.size) (c1 : w.heap.size ≤ bB) (c2 : w.heap.size ≤ bL) (c3 : w.heap.size ≤ bT) (hLx : ∀ W s, repI w W0 bB bL bT (.slice ba bl bc) (.slice la kk lc) B E s W → IsOps W la kk lc ((opsOf E).take kk))
    (l : Nat) (J : Option (Nat × Nat × Bool) → World → Prop) (Jx : Code → Option (Nat × Nat × Bool) → World → Prop) (W : World) (hJI : ∀ s W, J s W → repI w W0 bB bL bT (.slice ba bl bc) (.slice la kk lc) B E s W)
    (hJ : ∀ s s' W W', J s W → repI w W0 bB bL bT (.slice ba bl bc) (.slice la kk lc) B E s' W' → KeepTwo W0.heap.size W W' → J s' W')
    (hY : ∀ st (x : Nat) W1, J st W1 → repG st x → YieldAt Fence.wide (n - 1) Tryz.prog l (repEnc x) W1 fun e W' => (e = .returned (.bool true) ∧ J (repStep st x) W') ∨ (e = .returned (.bool false) ∧ ∃ c, Jx c (repStep st x) W'))
    (h0 : J none W) (hsz : W0.heap.size + 2 ≤ W.heap.size) :
    CallsIn Fence.wide n Tryz.prog 83 (#[.func (.yield l) #[] #[]] ++ #[.pointer (some ⟨bB, 0, none⟩), .pointer (some ⟨bL, 0, none⟩)]) W fun e W' => (∃ v, e = .returned v) ∧ ((∃ s, (∃ D, s = some (kk, D, true)) ∧ J s W') ∨ (∃ c st, Jx c st W')) := by
  obtain ⟨i1, i2, i3, i4, i5⟩ := hJI _ _ h0
  have cb : W.cell? ⟨bB, 0, none⟩ = some (.slice ba bl bc) := by rw [i2.cell]; rfl
  have hBW := hB.grown i1
  have hBn := hB.n
  have hBok := hB.ok
  have HN := Lib.hid (new_any W ba bl bc B hBW (by omega))
  have I1 := Lib.hid i1
  have I2 := Lib.hid i2
  have I3 := Lib.hid i3
  have I4 := Lib.hid i4
  have I5 := Lib.hid i5
  have H0 := Lib.hid h0
  have HB := Lib.hid hBok
  have HNE := Lib.hid hn
  have HRP := Lib.hid hrep
  have HOK := Lib.hid hE
  have HTX := Lib.hid hT
  have HJ := Lib.hid hJ
  have HJI := Lib.hid hJI
  have HY := Lib.hid hY
  have HLX := Lib.hid hLx
  clear i1 i2 i3 i4 i5 hB hBW hE hT hL hn hrep h0 hBok hJ hJI hY hLx
  refine callsIn_of_wp Tryz.func83 rfl trivial ?_ rfl
  simp only [Tryz.ntmps83, List.size_toArray, List.length_cons, List.length_nil, Nat.reduceAdd, Nat.reduceSub, Array.replicate_succ, Array.replicate_zero, List.push_toArray, List.append_toArray, List.nil_append, List.cons_append]
  gi_wp2_with fail
  refine ⟨trivial, fun h => (by cases h), ?_⟩
  refine (callsIn_wide.2 HN.out).mono ?_
  rintro e w3 ⟨m3, -, hgood⟩
  obtain ⟨D, rfl, hdoc⟩ := hgood HNE.out
  have HF0 := Lib.hid (show repI w W0 bB bL bT (.slice ba bl bc) (.slice la kk lc) B E (some (0, D, false)) w3 from
    ⟨I1.out.trans m3, I2.out.mod m3 (fun e => e), I3.out.mod m3 (fun e => e), ⟨none, I4.out.mod m3 (fun e => e), fun e => by cases e⟩, ⟨I1.out.trans m3, ⟨_, hdoc.s, fun k hk => ⟨Nat.le_trans I1.out.size hk, fun e => by have e2 := e.2; have hk' : W.heap.size ≤ k := hk; omega⟩⟩, fun k hk => by have := hk.2; have := m3.size; omega, Cl.new HNE.out HB.out (show B.length ≤ 20000 by omega)⟩, fun k h1 h2 h3 => (m3.block k (by omega) (fun e => e)).trans (I5.out k h1 h2 h3)⟩)
  have J0 := Lib.hid (HJ.out none (some (0, D, false)) W w3 H0.out HF0.out (KeepTwo.of m3 (by omega) (fun _ _ e => e)))
  clear m3 hgood hdoc cb HN
  gi_wp2_with fail
  gi_loopw [5, 6] (fun s5 s6 wr => ∃ i : Nat, s5 = .int .i64 0 ∧ s6 = .int .i64 i ∧ i ≤ kk ∧ J (some (i, D, false)) wr) (fun s5 s6 wr => kk - (intOf s6).toNat)
  case atStart => exact ⟨0, rfl, rfl, Nat.zero_le _, J0.out⟩
  case round =>
    obtain ⟨i, rfl, rfl, hi, hJ0⟩ := hrel
    obtain ⟨fn, tmps, assign, body, hy, hR⟩ := HY.out (some (i, D, false)) D wr hJ0 ⟨i, rfl⟩
    unfold repEnc at hy
    gi_wp2_with fail
    refine ⟨fun h => (by cases h), ?_⟩
    refine hR.mono ?_
    rintro e W' (⟨rfl, hj0⟩ | ⟨rfl, cc, hj⟩)
    · have hj : J (some (i, D, true)) W' := hj0
      have hI := HJI.out _ _ hj
      have HX := Lib.hid (HLX.out W' _ hI)
      obtain ⟨m1, kb, kl, ⟨p, kt, hp⟩, hf, hsm⟩ := hI
      have HSM := Lib.hid hsm
      have cl : W'.cell? ⟨bL, 0, none⟩ = some (.slice la kk lc) := by rw [kl.cell]; rfl
      have KB := Lib.hid kb
      have KL := Lib.hid kl
      have KT := Lib.hid kt
      have HF := Lib.hid hf
      have HJ1 := Lib.hid hj
      clear hj0 hj m1 kb kl kt hp hf hsm hJ0 hy hR
      by_cases hlt : i < kk
      · obtain ⟨x, hx⟩ : ∃ x, E[i]? = some x := ⟨E[i]'(by omega), by simp⟩
        have hmem := List.mem_of_getElem? hx
        obtain ⟨V', n', hrp⟩ := Rep.upto i (by omega) HRP.out
        rw [drop_cons hx] at hrp
        obtain ⟨-, hE0, hL0, -⟩ := hrp.step
        have hdo := HF.out.do2 x.o x.sp (HOK.out x hmem) (HTX.out x hmem)
        rw [hE0, hL0, ← repL_snoc hx] at hdo
        have HDO := Lib.hid hdo
        have hxo : ((opsOf E).take kk)[i]? = some ⟨x.o, x.sp⟩ := by
          rw [List.getElem?_take, if_pos hlt]
          unfold opsOf
          rw [List.getElem?_map, hx]; rfl
        obtain ⟨b, off, rfl, hr⟩ := HX.out.ops i _ hxo
        have x0 := hr 0 _ rfl
        have x1 := hr 1 _ rfl
        have x2 := hr 2 _ rfl
        have x3 := hr 3 _ rfl
        have x4 := hr 4 _ rfl
        have x5 := hr 5 _ rfl
        have x6 := hr 6 _ rfl
        rw [Nat.add_zero] at x0
        dsimp only at x0 x1 x2 x3 x4 x5 x6
        have hkc : kk ≤ lc := HX.out.le
        clear hx hmem hrp hE0 hL0 hdo hxo hr
        gi_wp2_with fail
        refine ⟨trivial, fun h => (by cases h), ?_⟩
        refine (callsIn_wide.2 HDO.out).mono ?_
        rintro e w4 ⟨rfl, hf4, hk4⟩
        have hbl : ∀ k, w.heap.size ≤ k → k < W0.heap.size + 2 → w4.heap[k]? = W'.heap[k]? := fun k h1 h2 => hk4 k ⟨h1, h2⟩
        have J4 := Lib.hid (HJ.out (some (i, D, true)) (some (i + 1, D, false)) W' w4 HJ1.out ⟨hf4.m, (hbl bB c1 (by omega)).trans KB.out, (hbl bL c2 (by omega)).trans KL.out, ⟨p, (hbl bT c3 (by omega)).trans KT.out, fun e => by cases e⟩, hf4, fun k h1 h2 h3 => (hbl k h1 (by omega)).trans (HSM.out k h1 h2 h3)⟩ (fun k hk => hbl k (by rcases hk with e | e <;> omega) (by rcases hk with e | e <;> omega)))
        clear hf4 hk4 hbl x0 x1 x2 x3 x4 x5 x6 cl
        gi_wp2_with fail
        refine ⟨⟨i + 1, rfl, by simp, by omega, J4.out⟩, by simp [intOf]; omega⟩
      · obtain rfl : i = kk := by omega
        gi_wp2_with fail
        go_end0
        exact ⟨⟨_, rfl⟩, .inl ⟨_, ⟨D, rfl⟩, HJ1.out⟩⟩
    · gi_wp2_with fail
      go_end0
      exact ⟨⟨_, rfl⟩, .inr ⟨cc, _, hj⟩⟩
end Go.Proofs.YtjgjjlolhdlofaaGreatDoor

namespace Go.Proofs.YtjgjjlolhdlofaaGreatDoor
open Go.RowKit Go.Shelf Go.Mine
open Classical

end Go.Proofs.YtjgjjlolhdlofaaGreatDoor

namespace Go.Proofs.YtjgjjlolhdlofaaGreatDoor
open Go.RowKit Go.Shelf Go.Mine
open Classical

theorem ownsRow_take {w : World} {B e size n k c : Nat} {a : Option Addr} {xs : List Value} (h : w.ownsRow B e size (.slice a n c) n xs) (hk : k ≤ n) : w.ownsRow B e size (.slice a k c) k (xs.take (k * size)) := by
  rcases ownsRow_blk h with ⟨h1, h2, h3⟩ | ⟨g, cap, more, h1, hg, hb, hc, hm, hl⟩
  · cases h1
    obtain rfl : k = 0 := by omega
    subst h3
    exact ⟨by simp, .inl ⟨rfl, rfl⟩⟩
  · cases h1
    have hx := h.1
    have hle : k * size ≤ xs.length := by rw [hx]; exact Nat.mul_le_mul_right _ hk
    refine blk_ownsRow (more := xs.drop (k * size) ++ more) hg ?_ (by rw [List.length_take]; omega) (Nat.le_trans hk hc) hm ?_
    · rw [← List.append_assoc, List.take_append_drop]; exact hb
    · rw [List.length_append, ← Nat.add_assoc, ← List.length_append, List.take_append_drop]; exact hl
theorem flat_take {α : Type} {f : α → List Value} {k : Nat} (hk : ∀ x, (f x).length = k) : ∀ (l : List α) (n : Nat), (flat f l).take (n * k) = flat f (l.take n)
  | [], n => by simp [flat]
  | x :: r, 0 => by simp [flat]
  | x :: r, n + 1 => by
    have ih := flat_take hk r n
    unfold flat at ih ⊢
    rw [List.flatMap_cons, List.take_succ_cons, List.flatMap_cons, ← ih, Nat.succ_mul, Nat.add_comm, List.take_append, hk, Nat.add_sub_cancel_left, List.take_of_length_le (by rw [hk]; omega)]
theorem Made.take {B0 : Nat} {w : World} {h : HistV} {B : List CellV} {V : List Int} {E : List EntV} (k : Made B0 w h B V E) (n : Nat) (hn : n ≤ h.ll) : Made B0 w ⟨h.ba, h.bl, h.bc, h.va, h.vl, h.vc, h.from_, h.num, h.la, n, h.lc⟩ B V (E.take n) :=
  ⟨k.b, k.v, by have := ownsRow_take k.e hn; rw [flat_take EntV.len] at this; exact this, fun x hx => k.s x (List.mem_of_mem_take hx)⟩
end Go.Proofs.YtjgjjlolhdlofaaGreatDoor

namespace Go.Proofs.YtjgjjlolhdlofaaGreatDoor
open Go.RowKit Go.Shelf Go.Mine
open Classical

end Go.Proofs.YtjgjjlolhdlofaaGreatDoor

namespace Go.Proofs.YtjgjjlolhdlofaaGreatDoor
open Go.RowKit Go.Shelf Go.Mine
open Classical

def zeroV : HistV := ⟨none, 0, 0, none, 0, 0, 0, 0, none, 0, 0⟩
end Go.Proofs.YtjgjjlolhdlofaaGreatDoor

namespace Go.Proofs.YtjgjjlolhdlofaaGreatDoor
open Go.RowKit Go.Mine

end Go.Proofs.YtjgjjlolhdlofaaGreatDoor

namespace Go.Proofs.YtjgjjlolhdlofaaGreatDoor
open Go.RowKit Go.Shelf Go.Mine
open Classical

end Go.Proofs.YtjgjjlolhdlofaaGreatDoor

namespace Go.Proofs.YtjgjjlolhdlofaaGreatDoor
open Go.RowKit Go.Mine
open Classical

theorem nodup_snoc {α : Type} {l : List α} {x : α} (h : l.Nodup) (hx : ∀ y ∈ l, y ≠ x) : (l ++ [x]).Nodup := by
  rw [List.nodup_append]
  exact ⟨h, by simp, fun a ha b hb => by rw [List.mem_singleton.1 hb]; exact hx a ha⟩
theorem ids_take {l : List CellV} {k : Nat} {y : CellV} (hy : l[k]? = some y) : (l.take (k + 1)).map CellV.id = (l.take k).map CellV.id ++ [y.id] := by
  obtain ⟨hk', e⟩ := List.getElem?_eq_some_iff.1 hy
  rw [List.take_succ_eq_append_getElem hk', e, List.map_append]; rfl

set_option maxHeartbeats 8000000 in
set_option maxRecDepth 1000000 in
theorem rmayDoc_any (w : World) (a : Option Addr) (len cap : Nat) (l : List CellV) (h : IsCells w a len cap l) (hl : len ≤ 1099511627776) :
    Calls Tryz.prog 26 #[.slice a len cap] w fun e w' => e = .returned (.int .i64 (newE l)) ∧ Mine.Mod none_ w w' := by
  have hle := h.le
  have hcap := h.big
  unfold maxLen at hcap
  have H := Lib.hid h
  have HN := Lib.hid h.n
  obtain ⟨R, hR⟩ : ∃ R, R = newE l := ⟨_, rfl⟩
  rw [← hR]
  have HR := Lib.hid hR
  clear h hR
  go_enter Tryz.func26, Tryz.ntmps26
  go_wp2_with fail
  go_loopg [3] len (fun g s3 wx => ∃ k : Nat, g = len - k ∧ s3 = .int .i64 k ∧ k ≤ len ∧ Mine.Mod none_ w wx ∧ RowKit.Hid (∀ c ∈ l.take k, cellOk c = true))
  case atStart => exact ⟨0, rfl, rfl, Nat.zero_le _, Mine.Mod.refl _ _, Lib.hid (fun c hc => by simp at hc)⟩
  case round =>
    obtain ⟨k, rfl, rfl, hk, mx, hst⟩ := hrel
    have MX := Lib.hid mx
    by_cases hlk : k < len
    · obtain ⟨x, hx⟩ : ∃ x, l[k]? = some x := ⟨l[k]'(by rw [HN.out]; exact hlk), by simp⟩
      have HX := Lib.hid hx
      have HBAD := Lib.hid (show cellOk x = false → R = 1 from fun hb => by
        rw [HR.out]; unfold newE
        rw [if_neg]
        intro ha
        have := List.all_eq_true.1 ha x (List.mem_of_getElem? HX.out)
        rw [hb] at this; cases this)
      have HST := Lib.hid (show cellOk x = true → ∀ c ∈ l.take (k + 1), cellOk c = true from fun hb c hc => by
        obtain ⟨hk', e⟩ := List.getElem?_eq_some_iff.1 HX.out
        rw [List.take_succ_eq_append_getElem hk', e] at hc
        rcases List.mem_append.1 hc with hc | hc
        · exact hst.out c hc
        · rw [List.mem_singleton.1 hc]; exact hb)
      obtain ⟨b, off, rfl, hr⟩ := (H.out.grown mx).cells k x hx
      have c0 := hr 0 _ rfl
      have c1 := hr 1 _ rfl
      have c2 := hr 2 _ rfl
      have c3 := hr 3 _ rfl
      rw [Nat.add_zero] at c0
      clear mx hx hst
      cases h1 : nameOk x.site x.seq
      · have HE := Lib.hid (HBAD.out (by unfold cellOk; rw [h1]; rfl))
        clear HST hr
        go_wp2_with fail
        refine (rname_any x.site x.seq _).mono ?_
        rintro e w1 ⟨rfl, m1⟩
        rw [h1]
        have M1 := Lib.hid (MX.out.trans m1)
        clear m1 c0 c1 c2 c3
        go_wp2_with fail
        go_ret
        exact ⟨by rw [HE.out]; rfl, M1.out⟩
      · go_wp2_with fail
        refine (rname_any x.site x.seq _).mono ?_
        rintro e w1 ⟨rfl, m1⟩
        rw [h1]
        have d2 := m1.cell (fun e => e) c2
        have d3 := m1.cell (fun e => e) c3
        have M1 := Lib.hid (MX.out.trans m1)
        clear m1 c0 c1 c2 c3 hr
        by_cases h2 : x.off < 0
        · have HE := Lib.hid (HBAD.out (by unfold cellOk; simp; omega))
          have e2 : decide (x.off < 0) = true := by simpa using h2
          clear HST
          go_wp2_with fail
          go_ret
          exact ⟨by rw [HE.out]; rfl, M1.out⟩
        have e2 : decide (x.off < 0) = false := by simpa using h2
        by_cases h3 : 199 < x.off
        · have HE := Lib.hid (HBAD.out (by unfold cellOk; simp; omega))
          have e3 : decide (199 < x.off) = true := by simpa using h3
          clear HST
          go_wp2_with fail
          go_ret
          exact ⟨by rw [HE.out]; rfl, M1.out⟩
        have e3 : decide (199 < x.off) = false := by simpa using h3
        cases h4 : Lib.validRune x.r
        · have HE := Lib.hid (HBAD.out (by unfold cellOk; rw [h4, Bool.and_false]))
          clear HST
          go_wp2_with fail
          refine (ris_any x.r _).mono ?_
          rintro e w2 ⟨rfl, rfl⟩
          rw [h4]
          go_wp2_with fail
          go_ret
          exact ⟨by rw [HE.out]; rfl, M1.out⟩
        · have HT := Lib.hid (HST.out (by unfold cellOk; rw [h1, h4]; simp; omega))
          clear HST HBAD
          go_wp2_with fail
          refine (ris_any x.r _).mono ?_
          rintro e w2 ⟨rfl, rfl⟩
          rw [h4]
          go_wp2_with fail
          go_roundg (len - (k + 1))
          all_goals first
            | omega
            | exact ⟨k + 1, rfl, by go_num, by omega, M1.out, HT⟩
    · obtain rfl : k = len := by omega
      have HALL := Lib.hid (show l.all cellOk = true by
        rw [List.all_eq_true]
        intro c hc
        exact hst.out c (by rw [List.take_of_length_le (by rw [HN.out]; exact Nat.le_refl _)]; exact hc))
      clear mx hst
      obtain ⟨w0, rfl⟩ : ∃ w0, w0 = wr := ⟨_, rfl⟩
      go_wp2_with fail
      go_loopg [4] k (fun g s4 wx => ∃ n : Nat, g = k - n ∧ s4 = .int .i64 n ∧ n ≤ k ∧ Mine.Mod none_ w wx ∧ RowKit.Hid (((l.take n).map CellV.id).Nodup))
      case atStart => exact ⟨0, rfl, rfl, Nat.zero_le _, MX.out, Lib.hid (by simp)⟩
      case round =>
        obtain ⟨n, rfl, rfl, hn, my, hnd⟩ := hrel
        obtain ⟨wy, rfl⟩ : ∃ wy, wy = wr := ⟨_, rfl⟩
        have MY := Lib.hid my
        by_cases hln : n < k
        · obtain ⟨y, hy⟩ : ∃ y, l[n]? = some y := ⟨l[n]'(by rw [HN.out]; exact hln), by simp⟩
          have HY := Lib.hid hy
          clear my hy
          go_wp2_with fail
          go_loopg [5] n (fun g s5 wx => ∃ j : Nat, g = n - j ∧ s5 = .int .i64 j ∧ j ≤ n ∧ Mine.Mod none_ w wx ∧ RowKit.Hid (∀ (i : Nat) (x : CellV), i < j → l[i]? = some x → x.id ≠ y.id))
          case atStart => exact ⟨0, rfl, rfl, Nat.zero_le _, MY.out, Lib.hid (fun i x hi => absurd hi (by omega))⟩
          case round =>
            obtain ⟨j, rfl, rfl, hj, mz, hne⟩ := hrel
            have MZ := Lib.hid mz
            by_cases hlj : j < n
            · obtain ⟨x, hx⟩ : ∃ x, l[j]? = some x := ⟨l[j]'(by rw [HN.out]; omega), by simp⟩
              have HX := Lib.hid hx
              obtain ⟨b, off, rfl, hr⟩ := (H.out.grown mz).cells n y HY.out
              have d0 := hr 0 _ rfl
              have d1 := hr 1 _ rfl
              have d2 := hr 2 _ rfl
              rw [Nat.add_zero] at d0
              obtain ⟨b2, off2, hbe, hr2⟩ := (H.out.grown mz).cells j x hx
              obtain ⟨rfl, rfl⟩ : b = b2 ∧ off = off2 := by simpa using hbe
              have c0 := hr2 0 _ rfl
              have c1 := hr2 1 _ rfl
              have c2 := hr2 2 _ rfl
              rw [Nat.add_zero] at c0
              have HNE := Lib.hid (show x.id ≠ y.id → ∀ (i : Nat) (z : CellV), i < j + 1 → l[i]? = some z → z.id ≠ y.id from fun hxy i z hi hz => by
                by_cases hij : i = j
                · subst hij
                  rw [HX.out] at hz
                  obtain rfl := Option.some.inj hz
                  exact hxy
                · exact hne.out i z (by omega) hz)
              clear hr hr2 hbe mz hx hne
              by_cases e1 : x.site = y.site
              · by_cases e2 : x.seq = y.seq
                · by_cases e3 : x.off = y.off
                  · have HE := Lib.hid (show R = 15 by
                      rw [HR.out]; unfold newE
                      rw [if_pos HALL.out, if_neg]
                      intro hnd2
                      have hid : x.id = y.id := by unfold CellV.id; rw [e1, e2, e3]
                      have hj1 := List.getElem?_eq_some_iff.1 HX.out
                      have hj2 := List.getElem?_eq_some_iff.1 HY.out
                      obtain ⟨p1, q1⟩ := hj1
                      obtain ⟨p2, q2⟩ := hj2
                      refine List.pairwise_iff_getElem.1 hnd2 j n (by rw [List.length_map]; exact p1) (by rw [List.length_map]; exact p2) hlj ?_
                      rw [List.getElem_map, List.getElem_map, q1, q2, hid])
                    rw [e1] at c0
                    rw [e2] at c1
                    rw [e3] at c2
                    clear e1 e2 e3 HNE
                    go_upto_region 12 with fail
                    go_quiet (fail)
                    have MQ := Lib.hid (MZ.out.drewN nq)
                    generalize wr.drewN nq = wq at MQ ⊢
                    clear c0 c1 c2 d0 d1 d2
                    go_wp2_with fail
                    go_ret
                    exact ⟨by rw [HE.out]; rfl, MQ.out⟩
                  · have b3 : (x.off == y.off) = false := by simpa using e3
                    rw [e1] at c0
                    rw [e2] at c1
                    have HT := Lib.hid (HNE.out (by unfold CellV.id; simp [e3]))
                    clear HNE e1 e2
                    go_upto_region 12 with fail
                    go_quiet (fail)
                    have MQ := Lib.hid (MZ.out.drewN nq)
                    generalize wr.drewN nq = wq at MQ ⊢
                    clear c0 c1 c2 d0 d1 d2
                    go_wp2_with fail
                    go_roundg (n - (j + 1))
                    all_goals first
                      | omega
                      | exact ⟨j + 1, rfl, by go_num, by omega, MQ.out, HT⟩
                · have b2 : (x.seq == y.seq) = false := by simpa using e2
                  rw [e1] at c0
                  have HT := Lib.hid (HNE.out (by unfold CellV.id; simp [e2]))
                  clear HNE e1
                  go_upto_region 12 with fail
                  go_quiet (fail)
                  have MQ := Lib.hid (MZ.out.drewN nq)
                  generalize wr.drewN nq = wq at MQ ⊢
                  clear c0 c1 c2 d0 d1 d2
                  go_wp2_with fail
                  go_roundg (n - (j + 1))
                  all_goals first
                    | omega
                    | exact ⟨j + 1, rfl, by go_num, by omega, MQ.out, HT⟩
              · have b1 : (x.site == y.site) = false := by simpa using e1
                have HT := Lib.hid (HNE.out (by unfold CellV.id; simp [e1]))
                clear HNE
                go_upto_region 12 with fail
                go_quiet (fail)
                have MQ := Lib.hid (MZ.out.drewN nq)
                generalize wr.drewN nq = wq at MQ ⊢
                clear c0 c1 c2 d0 d1 d2
                go_wp2_with fail
                go_roundg (n - (j + 1))
                all_goals first
                  | omega
                  | exact ⟨j + 1, rfl, by go_num, by omega, MQ.out, HT⟩
            · obtain rfl : j = n := by omega
              have HND := Lib.hid (show ((l.take (j + 1)).map CellV.id).Nodup by
                rw [ids_take HY.out]
                refine nodup_snoc hnd.out (fun z hz => ?_)
                obtain ⟨c, hc, rfl⟩ := List.mem_map.1 hz
                obtain ⟨i, hi, rfl⟩ := List.getElem_of_mem hc
                rw [List.length_take] at hi
                rw [List.getElem_take]
                exact hne.out i _ (by omega) (List.getElem?_eq_getElem (by omega)))
              clear mz hne hnd
              go_wp2_with fail
              go_roundg (k - (j + 1))
              all_goals first
                | omega
                | exact ⟨j + 1, rfl, by go_num, by omega, MZ.out, HND⟩
        · obtain rfl : n = k := by omega
          have HND := Lib.hid (show (l.map CellV.id).Nodup by
            have := hnd.out
            rw [List.take_of_length_le (by rw [HN.out]; exact Nat.le_refl _)] at this
            exact this)
          clear my hnd
          by_cases hbig : 20000 < (n : Int)
          · have HE := Lib.hid (show R = 4 by
              rw [HR.out]; unfold newE
              rw [if_pos HALL.out, if_pos HND.out, if_neg]
              rw [HN.out]; omega)
            have eb : decide (20000 < (n : Int)) = true := by simpa using hbig
            go_wp2_with fail
            go_ret
            exact ⟨by rw [HE.out]; rfl, MY.out⟩
          · have HE := Lib.hid (show R = 0 by
              rw [HR.out]; unfold newE
              rw [if_pos HALL.out, if_pos HND.out, if_pos]
              rw [HN.out]; omega)
            have eb : decide (20000 < (n : Int)) = false := by simpa using hbig
            go_wp2_with fail
            go_ret
            exact ⟨by rw [HE.out]; rfl, MY.out⟩
end Go.Proofs.YtjgjjlolhdlofaaGreatDoor

namespace Go.Proofs.YtjgjjlolhdlofaaGreatDoor
open Go.RowKit Go.Shelf Go.Mine
open Classical

theorem nums_two (h : HistV) : numsOk h = (!decide (h.from_ < 0) && !decide (h.num < h.from_) && !decide (1099511627776 < h.num) && !decide (400 < (h.ll : Int))) := by
  unfold numsOk
  rw [Bool.eq_iff_iff]
  simp
  omega
theorem base_no {B : List CellV} {V : List Int} {c : CellV} {k : Nat} (hc : B[k]? = some c) (h : unkn V c = true) : baseOk B V = false := by
  unfold baseOk
  rw [List.any_eq_true.2 ⟨c, List.mem_of_getElem? hc, h⟩, Bool.not_true, Bool.and_false]
theorem base_take {B : List CellV} {V : List Int} {c : CellV} {k : Nat} (hc : B[k]? = some c) (h : unkn V c = false) (ha : (B.take k).any (unkn V) = false) : (B.take (k + 1)).any (unkn V) = false := by
  obtain ⟨hk, e⟩ := List.getElem?_eq_some_iff.1 hc
  rw [List.take_succ_eq_append_getElem hk, e, List.any_append, ha]; simp [h]

set_option maxHeartbeats 4000000 in
set_option maxRecDepth 1000000 in
theorem rhmay_any (w : World) (h : HistV) (B : List CellV) (V : List Int) (E : List EntV) (hh : HistIs w h B V E) (hl : h.bl ≤ 1099511627776) :
    Calls Tryz.prog 11 #[h.v] w fun e w' => e = .returned (.bool (histOk h B V E)) ∧ Mine.Mod none_ w w' := by
  obtain ⟨R, hR⟩ : ∃ R, R = histOk h B V E := ⟨_, rfl⟩
  rw [← hR]
  have hble := hh.b.le
  have hbcap := hh.b.big
  have hlle := hh.e.le
  have hlcap := hh.e.big
  unfold maxLen at hbcap hlcap
  have HHB := Lib.hid hh.b
  have HHV := Lib.hid hh.v
  have HHE := Lib.hid hh.e
  have HBN := Lib.hid hh.b.n
  have HEN := Lib.hid hh.e.n
  have HR := Lib.hid hR
  clear hh hR
  obtain ⟨xba, xbl, xbc, xva, xvl, xvc, xfr, xnum, xla, xll, xlc⟩ := h
  dsimp only at hl hble hbcap hlle hlcap HHB HHV HHE HBN HEN
  obtain ⟨W0, hW0⟩ : ∃ W0, w.alloc (.cells #[.slice xba xbl xbc, .slice xva xvl xvc, .int .i64 xfr, .int .i64 xnum, .slice xla xll xlc] 26) = W0 := ⟨_, rfl⟩
  obtain ⟨K, hK⟩ : ∃ K, w.heap.size = K := ⟨_, rfl⟩
  have m0 : Mine.Mod none_ w W0 := by rw [← hW0]; exact (Mine.Mod.refl none_ w).alloc _
  have k0 : Blk W0 K [.slice xba xbl xbc, .slice xva xvl xvc, .int .i64 xfr, .int .i64 xnum, .slice xla xll xlc] 26 := by rw [← hW0, ← hK]; exact Blk.new (w := w) (cs := [.slice xba xbl xbc, .slice xva xvl xvc, .int .i64 xfr, .int .i64 xnum, .slice xla xll xlc])
  obtain ⟨cs0, hcs0⟩ : ∃ cs0 : List Value, cs0 = [.slice xba xbl xbc, .slice xva xvl xvc, .int .i64 xfr, .int .i64 xnum, .slice xla xll xlc] := ⟨_, rfl⟩
  rw [← hcs0] at k0
  have HC0 := Lib.hid (show ∀ W, Blk W K cs0 26 → W.cell? ⟨K, 0, none⟩ = some (.slice xba xbl xbc) from fun W k => by rw [k.cell, hcs0]; rfl)
  have HC1 := Lib.hid (show ∀ W, Blk W K cs0 26 → W.cell? ⟨K, 1, none⟩ = some (.slice xva xvl xvc) from fun W k => by rw [k.cell, hcs0]; rfl)
  have HC2 := Lib.hid (show ∀ W, Blk W K cs0 26 → W.cell? ⟨K, 2, none⟩ = some (.int .i64 xfr) from fun W k => by rw [k.cell, hcs0]; rfl)
  have HC3 := Lib.hid (show ∀ W, Blk W K cs0 26 → W.cell? ⟨K, 3, none⟩ = some (.int .i64 xnum) from fun W k => by rw [k.cell, hcs0]; rfl)
  have HC4 := Lib.hid (show ∀ W, Blk W K cs0 26 → W.cell? ⟨K, 4, none⟩ = some (.slice xla xll xlc) from fun W k => by rw [k.cell, hcs0]; rfl)
  have M0 := Lib.hid m0
  have K0 := Lib.hid k0
  have hKw : w.heap.size ≤ K := by omega
  have c0 := HC0.out W0 k0
  have c1 := HC1.out W0 k0
  have c2 := HC2.out W0 k0
  have c3 := HC3.out W0 k0
  have c4 := HC4.out W0 k0
  clear m0 k0 hcs0
  go_enter Tryz.func11, Tryz.ntmps11
  go_upto_region 1 with fail
  clear hW0 hK
  go_wp2_with fail
  refine (rmayDoc_any W0 xba xbl xbc B (HHB.out.grown M0.out) hl).mono ?_
  rintro e w1 ⟨rfl, m1⟩
  have M1 := Lib.hid (M0.out.trans m1)
  have K1 := Lib.hid (K0.out.mod m1 (fun e => e))
  have d0 := HC0.out w1 K1.out
  have d1 := HC1.out w1 K1.out
  have d2 := HC2.out w1 K1.out
  have d3 := HC3.out w1 K1.out
  have d4 := HC4.out w1 K1.out
  clear m1 c0 c1 c2 c3 c4 M0 K0
  by_cases hn : newE B = 0
  case neg =>
    have HE := Lib.hid (show R = false by rw [HR.out]; unfold histOk baseOk; simp [hn])
    have hb : (newE B == 0) = false := by simpa using hn
    have hb2 : (newE B != 0) = true := by simpa using hn
    generalize newE B = ne at hn hb hb2 ⊢
    go_wp2_with fail
    go_ret
    exact ⟨by rw [HE.out]; rfl, M1.out⟩
  rw [hn]
  have HNE := Lib.hid hn
  clear hn
  go_wp2_with fail
  refine (rvmay_any w1 xva xvl xvc V (HHV.out.grown M1.out)).mono ?_
  rintro e w2 ⟨rfl, m2⟩
  have M2 := Lib.hid (M1.out.trans m2)
  have K2 := Lib.hid (K1.out.mod m2 (fun e => e))
  have e0 := HC0.out w2 K2.out
  have e1 := HC1.out w2 K2.out
  have e2 := HC2.out w2 K2.out
  have e3 := HC3.out w2 K2.out
  have e4 := HC4.out w2 K2.out
  clear m2 d0 d1 d2 d3 d4 M1 K1
  cases hv : vecOk V
  case false =>
    have HE := Lib.hid (show R = false by rw [HR.out]; unfold histOk baseOk; rw [hv]; simp)
    go_wp2_with fail
    go_ret
    exact ⟨by rw [HE.out]; rfl, M2.out⟩
  have HVO := Lib.hid hv
  clear hv
  cases q1 : decide (xfr < 0)
  case true =>
    have HE := Lib.hid (show R = false by rw [HR.out]; unfold histOk; rw [nums_two]; dsimp only; rw [q1]; rfl)
    go_wp2_with fail
    go_ret
    exact ⟨by rw [HE.out]; rfl, M2.out⟩
  cases q2 : decide (xnum < xfr)
  case true =>
    have HE := Lib.hid (show R = false by rw [HR.out]; unfold histOk; rw [nums_two]; dsimp only; rw [q1, q2]; rfl)
    go_wp2_with fail
    go_ret
    exact ⟨by rw [HE.out]; rfl, M2.out⟩
  cases q3 : decide (1099511627776 < xnum)
  case true =>
    have HE := Lib.hid (show R = false by rw [HR.out]; unfold histOk; rw [nums_two]; dsimp only; rw [q1, q2, q3]; rfl)
    go_wp2_with fail
    go_ret
    exact ⟨by rw [HE.out]; rfl, M2.out⟩
  cases q4 : decide (400 < (xll : Int))
  case true =>
    have HE := Lib.hid (show R = false by rw [HR.out]; unfold histOk; rw [nums_two]; dsimp only; rw [q1, q2, q3, q4]; rfl)
    go_wp2_with fail
    go_ret
    exact ⟨by rw [HE.out]; rfl, M2.out⟩
  have HNU := Lib.hid (show numsOk ⟨xba, xbl, xbc, xva, xvl, xvc, xfr, xnum, xla, xll, xlc⟩ = true by rw [nums_two]; dsimp only; rw [q1, q2, q3, q4]; rfl)
  have hll : xll ≤ 400 := by simp at q4; omega
  go_upto_region 3 with fail
  clear e0 e1 e2 e3 e4 q1 q2 q3 q4
  have f0 := HC0.out w2 K2.out
  have f1 := HC1.out w2 K2.out
  have f2 := HC2.out w2 K2.out
  have f3 := HC3.out w2 K2.out
  have f4 := HC4.out w2 K2.out
  have HA := Lib.hid (rops_any w2.drew ⟨xba, xbl, xbc, xva, xvl, xvc, xfr, xnum, xla, xll, xlc⟩ E ((HHE.out.grown M2.out).grown (Mine.Mod.drew (Mine.Mod.refl none_ w2))) (by show xll ≤ 100000; omega))
  refine wp_region_held_drew (S := fun w' => w'.cell? ⟨K, 0, none⟩ = some (.slice xba xbl xbc) ∧ w'.cell? ⟨K, 1, none⟩ = some (.slice xva xvl xvc) ∧ w'.cell? ⟨K, 2, none⟩ = some (.int .i64 xfr) ∧ w'.cell? ⟨K, 3, none⟩ = some (.int .i64 xnum) ∧ w'.cell? ⟨K, 4, none⟩ = some (.slice xla xll xlc)) (by kernel_rfl) ⟨f0, f1, f2, f3, f4⟩ (fun hS => ?_)
  clear f0 f1 f2 f3 f4
  refine wpAnyH_take (i := 0) (v := .agg #[.slice xba xbl xbc, .slice xva xvl xvc, .int .i64 xfr, .int .i64 xnum, .slice xla xll xlc]) rfl (by kernel_rfl) (by kernel_rfl) (by kernel_rfl) (fun _ _ _ h => h) (Or.inl ⟨by kernel_rfl, ?_⟩) hS ?_
  · rintro w' ⟨q0, q1, q2, q3, q4⟩; go_simp
  try simp only [Act.put, List.setIfInBounds_toArray, List.set_cons_zero, List.set_cons_succ]
  refine wpAnyH_take (i := 2) (v := .pointer (some ⟨K, 0, none⟩)) rfl (by kernel_rfl) (by kernel_rfl) (by kernel_rfl) (fun _ _ _ h => h) (Or.inl ⟨by kernel_rfl, ?_⟩) hS ?_
  · rintro w' ⟨q0, q1, q2, q3, q4⟩; go_simp
  try simp only [Act.put, List.setIfInBounds_toArray, List.set_cons_zero, List.set_cons_succ]
  refine wpAnyH_take (i := 3) (v := .slice xba xbl xbc) rfl (by kernel_rfl) (by kernel_rfl) (by kernel_rfl) (fun _ _ _ h => h) (Or.inl ⟨by kernel_rfl, ?_⟩) hS ?_
  · rintro w' ⟨q0, q1, q2, q3, q4⟩; go_simp
  try simp only [Act.put, List.setIfInBounds_toArray, List.set_cons_zero, List.set_cons_succ]
  refine wpAnyH_take (i := 4) (v := .int .i64 (xbl : Int)) rfl (by kernel_rfl) (by kernel_rfl) (by kernel_rfl) (fun _ _ _ h => h) (Or.inl ⟨by kernel_rfl, ?_⟩) hS ?_
  · rintro w' ⟨q0, q1, q2, q3, q4⟩; go_simp
  try simp only [Act.put, List.setIfInBounds_toArray, List.set_cons_zero, List.set_cons_succ]
  refine wpAnyH_ready (rs := [1]) (by kernel_rfl) (by simp) (AllReadyH.cons rfl (fun K hK => ?_) <| AllReadyH.nil)
  go_simp
  refine HA.out.mono ?_
  rintro e w3 ⟨⟨va, n, vc, rfl, ho⟩, m1⟩
  have MA := Lib.hid m1
  have KA := Lib.hid ((K2.out.mod (Mine.Mod.drew (Mine.Mod.refl none_ w2)) (fun e => e)).mod m1 (fun e => e))
  have HO := Lib.hid (own_ops ho (fun y hy => by obtain ⟨z, hz, rfl⟩ := List.mem_map.1 hy; exact (((HHE.out.grown M2.out).ok z hz).1.grown (Mine.Mod.drew (Mine.Mod.refl none_ w2))).grown m1))
  refine hK.out _ _ ⟨HC0.out _ KA.out, HC1.out _ KA.out, HC2.out _ KA.out, HC3.out _ KA.out, HC4.out _ KA.out⟩ (fun hS => ?_)
  clear hK K
  try simp only [Act.put, List.setIfInBounds_toArray, List.set_cons_zero, List.set_cons_succ]
  clear ho m1 HA
  refine wpAnyH_ready (rs := [5]) (by kernel_rfl) (by simp) (AllReadyH.cons rfl (fun K hK => ?_) <| AllReadyH.nil)
  go_simp
  refine (rlistRun_any w3 va n vc (opsOf E) (xbl : Int) HO.out).mono ?_
  rintro e w4 ⟨rfl, m2⟩
  have M4 := Lib.hid ((M2.out.trans (Mine.Mod.drew (Mine.Mod.refl none_ w2))).trans (MA.out.trans m2))
  have K4 := Lib.hid (KA.out.mod m2 (fun e => e))
  clear m2
  obtain ⟨ov, hov⟩ := listV_shape (opsOf E) (xbl : Int)
  rw [hov]
  obtain ⟨ob, hob⟩ : ∃ ob, ob = (listRun (opsOf E) (xbl : Int)).isSome := ⟨_, rfl⟩
  rw [← hob]
  have HOB := Lib.hid hob
  clear hov hob
  refine hK.out _ _ ⟨HC0.out _ K4.out, HC1.out _ K4.out, HC2.out _ K4.out, HC3.out _ K4.out, HC4.out _ K4.out⟩ (fun hS => ?_)
  clear hK K
  try simp only [Act.put, List.setIfInBounds_toArray, List.set_cons_zero, List.set_cons_succ]
  refine wpAnyH_take (i := 6) (v := .tuple #[.int .i64 ov, .bool ob]) rfl (by kernel_rfl) (by kernel_rfl) (by kernel_rfl) (fun _ _ _ h => h) (Or.inl ⟨by kernel_rfl, ?_⟩) hS ?_
  · rintro w' ⟨q0, q1, q2, q3, q4⟩; go_simp
  try simp only [Act.put, List.setIfInBounds_toArray, List.set_cons_zero, List.set_cons_succ]
  refine wpAnyH_take (i := 7) (v := .int .i64 ov) rfl (by kernel_rfl) (by kernel_rfl) (by kernel_rfl) (fun _ _ _ h => h) (Or.inl ⟨by kernel_rfl, ?_⟩) hS ?_
  · rintro w' ⟨q0, q1, q2, q3, q4⟩; go_simp
  try simp only [Act.put, List.setIfInBounds_toArray, List.set_cons_zero, List.set_cons_succ]
  refine wpAnyH_take (i := 8) (v := .bool ob) rfl (by kernel_rfl) (by kernel_rfl) (by kernel_rfl) (fun _ _ _ h => h) (Or.inl ⟨by kernel_rfl, ?_⟩) hS ?_
  · rintro w' ⟨q0, q1, q2, q3, q4⟩; go_simp
  try simp only [Act.put, List.setIfInBounds_toArray, List.set_cons_zero, List.set_cons_succ]
  refine wpAnyH_take (i := 9) (v := .int .i64 ov) rfl (by kernel_rfl) (by kernel_rfl) (by kernel_rfl) (fun _ _ _ h => h) (Or.inl ⟨by kernel_rfl, ?_⟩) hS ?_
  · rintro w' ⟨q0, q1, q2, q3, q4⟩; go_simp
  try simp only [Act.put, List.setIfInBounds_toArray, List.set_cons_zero, List.set_cons_succ]
  refine wpAnyH_take (i := 10) (v := .bool ob) rfl (by kernel_rfl) (by kernel_rfl) (by kernel_rfl) (fun _ _ _ h => h) (Or.inl ⟨by kernel_rfl, ?_⟩) hS ?_
  · rintro w' ⟨q0, q1, q2, q3, q4⟩; go_simp
  try simp only [Act.put, List.setIfInBounds_toArray, List.set_cons_zero, List.set_cons_succ]
  refine wpAnyH_done (by kernel_rfl) ?_ _
  try simp only [List.getElem_toArray, List.getElem_cons_succ, List.getElem_cons_zero]
  try simp only [Act.put, List.setIfInBounds_toArray, List.set_cons_zero, List.set_cons_succ]
  clear hS MA KA HO M2 K2
  cases ob
  case false =>
    have HE := Lib.hid (show R = false by rw [HR.out]; unfold histOk entsOk; rw [← HOB.out]; simp)
    go_wp2_with fail
    go_ret
    exact ⟨by rw [HE.out]; rfl, M4.out⟩
  have e0 := HC0.out w4 K4.out
  go_wp2_with fail
  clear e0
  go_loopg [5] xbl (fun g s5 wx => ∃ k : Nat, g = xbl - k ∧ s5 = .int .i64 k ∧ k ≤ xbl ∧ Mine.Mod none_ w wx ∧ RowKit.Hid (Blk wx K cs0 26 ∧ (B.take k).any (unkn V) = false))
  case atStart => exact ⟨0, rfl, rfl, Nat.zero_le _, M4.out, Lib.hid ⟨K4.out, rfl⟩⟩
  case round =>
    obtain ⟨k, rfl, rfl, hk, mx, hst⟩ := hrel
    have MX := Lib.hid mx
    obtain ⟨kx, hall⟩ := hst.out
    have KX := Lib.hid kx
    have a0 := HC0.out wr kx
    have a1 := HC1.out wr kx
    have a2 := HC2.out wr kx
    have a3 := HC3.out wr kx
    have a4 := HC4.out wr kx
    by_cases hlk : k < xbl
    · obtain ⟨x, hx⟩ : ∃ x, B[k]? = some x := ⟨B[k]'(by rw [HBN.out]; exact hlk), by simp⟩
      have hxo := (HHB.out.grown mx).ok x (List.mem_of_getElem? hx)
      obtain ⟨b, off, rfl, hr⟩ := (HHB.out.grown mx).cells k x hx
      have c0 := hr 0 _ rfl
      have c1 := hr 1 _ rfl
      rw [Nat.add_zero] at c0
      have HCT := Lib.hid (show ∀ n, Calls Tryz.prog 30 #[.slice xva xvl xvc, .int .i64 x.site] (wr.drewN n) fun e w' => e = .returned (.int .i64 (cntV V x.site)) ∧ w' = wr.drewN n from fun n => rvcount_any _ xva xvl xvc V x.site ((HHV.out.grown mx).grown ((Mine.Mod.refl none_ wr).drewN n)) hxo.i1)
      have HGO := Lib.hid (fun (hb : unkn V x = false) => base_take hx hb hall)
      have HNO := Lib.hid (fun (hb : unkn V x = true) => show R = false by rw [HR.out]; unfold histOk; rw [base_no hx hb]; simp)
      obtain ⟨n, hn⟩ : ∃ n, n = cntV V x.site := ⟨_, rfl⟩
      rw [← hn] at HCT
      have HU := Lib.hid (show unkn V x = !decide (x.seq ≤ n) by rw [hn]; rfl)
      clear hx hxo hr hn kx hall hst mx
      cases hq : decide (n < x.seq)
      · have HG := Lib.hid (HGO.out (by rw [HU.out]; simp at hq ⊢; omega))
        go_wp2_with fail
        go_quiet ((go_at_call 30; exact Calls.quiet_of_same (HCT.out _)))
        have MQ := Lib.hid (MX.out.trans ((Mine.Mod.refl none_ wr).drewN nq))
        have KQ := Lib.hid (KX.out.mod ((Mine.Mod.refl none_ wr).drewN nq) (fun e => e))
        generalize wr.drewN nq = wq at MQ KQ ⊢
        clear c0 c1 a0 a1 a2 a3 a4
        go_wp2_with fail
        go_roundg (xbl - (k + 1))
        all_goals first
          | omega
          | exact ⟨k + 1, rfl, by go_num, by omega, MQ.out, Lib.hid ⟨KQ.out, HG.out⟩⟩
      · have HE := Lib.hid (HNO.out (by rw [HU.out]; simp at hq ⊢; omega))
        go_wp2_with fail
        go_quiet ((go_at_call 30; exact Calls.quiet_of_same (HCT.out _)))
        have MQ := Lib.hid (MX.out.trans ((Mine.Mod.refl none_ wr).drewN nq))
        generalize wr.drewN nq = wq at MQ ⊢
        clear c0 c1 a0 a1 a2 a3 a4
        go_wp2_with fail
        go_ret
        exact ⟨by rw [HE.out]; rfl, MQ.out⟩
    · have hkl : xbl = k := by omega
      subst hkl
      rw [List.take_of_length_le (by rw [HBN.out]; omega)] at hall
      have HBO := Lib.hid (show baseOk B V = true by unfold baseOk; rw [HNE.out, HVO.out, hall]; rfl)
      clear kx hall hst mx
      go_wp2_with fail
      clear a0 a1 a2 a3 a4
      have HALLB := Lib.hid (fun (e : E.all entOk = true) (o : orderL xfr 0 V xnum E = true) => show R = true by rw [HR.out]; unfold histOk entsOk; rw [HNU.out, HBO.out, e, ← HOB.out]; dsimp only; rw [o]; rfl)
      have HBADO := Lib.hid (fun (o : orderL xfr 0 V xnum E = false) => show R = false by rw [HR.out]; unfold histOk; dsimp only; rw [o, Bool.and_false])
      have HBADE := Lib.hid (fun (o : entsOk E (xbl : Int) = false) => show R = false by rw [HR.out]; unfold histOk; dsimp only; rw [o]; simp)
      clear HBO HNE HVO HOB HNU HR
      go_loopg [6, 7, 8, 9] xll (fun g s6 s7 s8 s9 wx => ∃ (k : Nat) (last p : Int) (va : Option Addr) (vn vc : Nat) (V' : List Int), g = xll - k ∧ s6 = .int .i64 last ∧ s7 = .int .i64 p ∧ s8 = .slice va vn vc ∧ s9 = .int .i64 k ∧ k ≤ xll ∧ Mine.Mod none_ w wx ∧ RowKit.Hid (Blk wx K cs0 26 ∧ IsVec wx va vn vc V' ∧ orderL xfr 0 V xnum E = orderL last p V' xnum (E.drop k) ∧ (E.take k).all entOk = true))
      case atStart => exact ⟨0, xfr, 0, xva, xvl, xvc, V, rfl, rfl, rfl, rfl, rfl, Nat.zero_le _, MX.out, Lib.hid ⟨KX.out, HHV.out.grown MX.out, rfl, rfl⟩⟩
      case round =>
        clear MX KX
        obtain ⟨k, last, p, va, vn, vc, V', rfl, rfl, rfl, rfl, rfl, hk, mx, hst⟩ := hrel
        have MX := Lib.hid mx
        obtain ⟨kx, hv, hR, hall⟩ := hst.out
        have KX := Lib.hid kx
        have a3 := HC3.out wr kx
        have a4 := HC4.out wr kx
        by_cases hlk : k < xll
        · obtain ⟨x, hx⟩ : ∃ x, E[k]? = some x := ⟨E[k]'(by rw [HEN.out]; exact hlk), by simp⟩
          rw [drop_cons hx, orderL_cons] at hR
          have HRO := Lib.hid hR
          have HALL := Lib.hid (fun (hb : entOk x = true) => all_snocE hx hall hb)
          have HBAD := Lib.hid (fun (hb : entOk x = false) => show R = false from HBADE.out (not_allE hx hb))
          have hxo := (HHE.out.grown mx).ok x (List.mem_of_getElem? hx)
          obtain ⟨b, off, rfl, hr⟩ := (HHE.out.grown mx).ents k x hx
          have c0 := hr 0 _ rfl
          have c1 := hr 1 _ rfl
          have c2 := hr 2 _ rfl
          have c3 := hr 3 _ rfl
          have c4 := hr 4 _ rfl
          have c5 := hr 5 _ rfl
          have c6 := hr 6 _ rfl
          have c7 := hr 7 _ rfl
          have c8 := hr 8 _ rfl
          have c9 := hr 9 _ rfl
          have c10 := hr 10 _ rfl
          have c11 := hr 11 _ rfl
          have c12 := hr 12 _ rfl
          have c13 := hr 13 _ rfl
          rw [Nat.add_zero] at c0
          have mE : Mine.Mod none_ wr (wr.alloc (.cells x.cs.toArray 62)) := (Mine.Mod.refl none_ wr).alloc _
          have ME := Lib.hid mE
          have KE := Lib.hid (Blk.new (w := wr) (cs := x.cs) (t := 62))
          have HS := Lib.hid (show ((-9223372036854775808 ≤ x.o.site ∧ x.o.site ≤ 9223372036854775807)) from hxo.1.i1)
          have HM := Lib.hid (rmayEdit_any x.ed _ (hxo.2.grown mE))
          have HVI := Lib.hid hv
          dsimp only [EntV.cs] at ME KE HM
          clear kx hv hR hst hx hxo hr mE mx hall
          go_wp2_with fail
          refine HM.out.mono ?_
          rintro e w1 ⟨rfl, m1⟩
          have MW := Lib.hid (ME.out.trans m1)
          have M1 := Lib.hid (MX.out.trans MW.out)
          have K1 := Lib.hid (KX.out.mod MW.out (fun e => e))
          have KE1 := Lib.hid (KE.out.mod m1 (fun e => e))
          have e0 : w1.cell? ⟨wr.heap.size, 0, none⟩ = some (.int .i64 x.o.site) := by rw [KE1.out.cell]; rfl
          have e1 : w1.cell? ⟨wr.heap.size, 1, none⟩ = some (.int .i64 x.o.seq) := by rw [KE1.out.cell]; rfl
          have e2 : w1.cell? ⟨wr.heap.size, 2, none⟩ = some (.int .i64 x.o.num) := by rw [KE1.out.cell]; rfl
          have e3 : w1.cell? ⟨wr.heap.size, 3, none⟩ = some (.int .i64 x.o.kind) := by rw [KE1.out.cell]; rfl
          have e7 : w1.cell? ⟨wr.heap.size, 7, none⟩ = some (.int .i64 x.ed.site) := by rw [KE1.out.cell]; rfl
          have e8 : w1.cell? ⟨wr.heap.size, 8, none⟩ = some (.int .i64 x.ed.seq) := by rw [KE1.out.cell]; rfl
          have e10 : w1.cell? ⟨wr.heap.size, 10, none⟩ = some (.int .i64 x.ed.kind) := by rw [KE1.out.cell]; rfl
          clear m1 c0 c1 c2 c3 c4 c5 c6 c7 c8 c9 c10 c11 c12 c13 HM ME KE KX MX a3 a4
          cases ho : editOk x.ed
          case false =>
            have HE := Lib.hid (HBAD.out (by unfold entOk; rw [ho]; rfl))
            go_wp2_with fail
            go_ret
            exact ⟨by rw [HE.out]; rfl, M1.out⟩
          by_cases h1 : x.ed.site = x.o.site
          case neg =>
            have HE := Lib.hid (HBAD.out (by unfold entOk; simp [h1]))
            have b1 : (x.ed.site == x.o.site) = false := by simpa using h1
            go_wp2_with fail
            go_ret
            exact ⟨by rw [HE.out]; rfl, M1.out⟩
          by_cases h2 : x.ed.seq = x.o.seq
          case neg =>
            have HE := Lib.hid (HBAD.out (by unfold entOk; simp [h2]))
            have b2 : (x.ed.seq == x.o.seq) = false := by simpa using h2
            rw [h1] at e7
            clear h1
            go_wp2_with fail
            go_ret
            exact ⟨by rw [HE.out]; rfl, M1.out⟩
          by_cases h3 : x.ed.kind = x.o.kind
          case neg =>
            have HE := Lib.hid (HBAD.out (by unfold entOk; simp [h3]))
            have b3 : (x.ed.kind == x.o.kind) = false := by simpa using h3
            rw [h1] at e7
            rw [h2] at e8
            clear h1 h2
            go_wp2_with fail
            go_ret
            exact ⟨by rw [HE.out]; rfl, M1.out⟩
          have HALL2 := Lib.hid (HALL.out (by unfold entOk; rw [ho]; simp [h1, h2, h3]))
          rw [h1] at e7
          rw [h2] at e8
          rw [h3] at e10
          clear h1 h2 h3 ho HALL HBAD
          have HM := Lib.hid (rvraise_any w1 va vn vc V' x.o.site x.o.seq (HVI.out.grown MW.out) HS.out)
          have HVO := Lib.hid HVI.out.ok
          clear HVI MW
          go_wp2_with fail
          refine HM.out.mono ?_
          rintro e w2 ⟨hr, m1⟩
          have M2 := Lib.hid (M1.out.trans m1)
          have K2 := Lib.hid (K1.out.mod m1 (fun e => e))
          have KE2 := Lib.hid (KE1.out.mod m1 (fun e => e))
          clear e0 e1 e2 e3 e7 e8 e10
          have e0 : w2.cell? ⟨wr.heap.size, 0, none⟩ = some (.int .i64 x.o.site) := by rw [KE2.out.cell]; rfl
          have e2 : w2.cell? ⟨wr.heap.size, 2, none⟩ = some (.int .i64 x.o.num) := by rw [KE2.out.cell]; rfl
          have d3 := HC3.out w2 K2.out
          clear m1 HM KE1 KE2 K1 M1
          rcases hr with ⟨hne, rfl⟩ | ⟨hz, va', vn', vc', rfl, ho⟩
          · have hb : (raiseE V' x.o.site x.o.seq == 0) = false := by simpa using hne
            have hb2 : (raiseE V' x.o.site x.o.seq != 0) = true := by simpa using hne
            have HE := Lib.hid (HBADO.out (by rw [HRO.out, if_neg hne]))
            generalize raiseE V' x.o.site x.o.seq = ee at hne hb hb2 ⊢
            clear HRO
            go_wp2_with fail
            go_ret
            exact ⟨by rw [HE.out]; rfl, M2.out⟩
          have HR2 := Lib.hid (HRO.out.trans (if_pos hz))
          have hrv := raise_vec hz
          have HV1 := Lib.hid (own_vec ho (raiseL_i64 hrv.1 HVO.out))
          have hs1 := (nameOk_site hrv.2).1
          clear ho hz hrv HRO HVO
          by_cases hn : x.o.num = 0
          · have HR3 := Lib.hid (HR2.out.trans (if_pos hn))
            rw [hn] at e2
            clear hn HR2
            by_cases hp : p = 0
            · have HG := Lib.hid (HR3.out.trans (if_pos (Or.inl hp)))
              subst hp
              clear HR3
              go_wp2_with fail
              go_roundg (xll - (k + 1))
              all_goals first
                | omega
                | exact ⟨k + 1, _, _, va', vn', vc', _, rfl, rfl, rfl, rfl, by go_num, by omega, M2.out, Lib.hid ⟨K2.out, HV1.out, HG.out, HALL2.out⟩⟩
            have hb1 : (p == 0) = false := by simpa using hp
            have hb5 : (p != 0) = true := by simpa using hp
            by_cases hq : p = x.o.site
            · have HG := Lib.hid (HR3.out.trans (if_pos (Or.inr hq)))
              rw [← hq] at e0 HG HV1 hs1
              clear hq HR3
              go_wp2_with fail
              go_roundg (xll - (k + 1))
              all_goals first
                | omega
                | exact ⟨k + 1, _, _, va', vn', vc', _, rfl, rfl, rfl, rfl, by go_num, by omega, M2.out, Lib.hid ⟨K2.out, HV1.out, HG.out, HALL2.out⟩⟩
            have HE := Lib.hid (HBADO.out (HR3.out.trans (if_neg (fun e => e.elim hp hq))))
            have hb2 : (p == x.o.site) = false := by simpa using hq
            have hb6 : (p != x.o.site) = true := by simpa using hq
            clear HR3
            go_wp2_with fail
            go_ret
            exact ⟨by rw [HE.out]; rfl, M2.out⟩
          have HR3 := Lib.hid (HR2.out.trans (if_neg hn))
          have hb3 : (x.o.num == 0) = false := by simpa using hn
          have hb4 : (x.o.num != 0) = true := by simpa using hn
          by_cases hp : p = 0
          case neg =>
            have hb1 : (p == 0) = false := by simpa using hp
            have hb5 : (p != 0) = true := by simpa using hp
            have HE := Lib.hid (HBADO.out (HR3.out.trans (if_neg (fun e => hp e.1))))
            clear HR3 HR2
            go_wp2_with fail
            go_ret
            exact ⟨by rw [HE.out]; rfl, M2.out⟩
          subst hp
          clear HR2
          cases hl1 : decide (x.o.num ≤ last)
          case true =>
            have HE := Lib.hid (HBADO.out (HR3.out.trans (if_neg (fun e => by simp at hl1; omega))))
            clear HR3
            go_wp2_with fail
            go_ret
            exact ⟨by rw [HE.out]; rfl, M2.out⟩
          cases hl2 : decide (xnum < x.o.num)
          case true =>
            have HE := Lib.hid (HBADO.out (HR3.out.trans (if_neg (fun e => by simp at hl2; omega))))
            clear HR3
            go_wp2_with fail
            go_ret
            exact ⟨by rw [HE.out]; rfl, M2.out⟩
          have HG := Lib.hid (HR3.out.trans (if_pos (by simp at hl1 hl2; omega)))
          clear HR3
          go_wp2_with fail
          go_roundg (xll - (k + 1))
          all_goals first
            | omega
            | exact ⟨k + 1, _, _, va', vn', vc', _, rfl, rfl, rfl, rfl, by go_num, by omega, M2.out, Lib.hid ⟨K2.out, HV1.out, HG.out, HALL2.out⟩⟩
        · have hkl : k = xll := by omega
          rw [List.drop_of_length_le (by rw [HEN.out]; omega)] at hR
          rw [List.take_of_length_le (by rw [HEN.out]; omega)] at hall
          have HE := Lib.hid (HALLB.out hall hR)
          clear kx hv hR hst mx hall
          go_wp2_with fail
          go_ret
          exact ⟨by rw [HE.out]; rfl, MX.out⟩

end Go.Proofs.YtjgjjlolhdlofaaGreatDoor

namespace Go.Proofs.YtjgjjlolhdlofaaGreatDoor
open Go.RowKit Go.Shelf Go.Mine
open Classical

theorem IsEnts.row {w : World} {b off len cap : Nat} {l : List EntV} (h : IsEnts w (some ⟨b, off, none⟩) len cap l) : w.rangeAt b off (flat EntV.cs l) := by
  intro j v hv
  have hj : j < l.length * 14 := by
    have := (List.getElem?_eq_some_iff.1 hv).1
    rw [flat_length EntV.len] at this; exact this
  have hi : j / 14 < l.length := by omega
  have hx : l[j / 14]? = some (l[j / 14]'hi) := List.getElem?_eq_getElem _
  obtain ⟨b', off', e, hr⟩ := h.ents (j / 14) _ hx
  cases e
  have hg := flat_get EntV.len l (j / 14) (j % 14) _ hx (Nat.mod_lt _ (by decide))
  rw [show j / 14 * 14 + j % 14 = j by omega, hv] at hg
  have := hr (j % 14) v hg.symm
  rwa [show off + j / 14 * 14 + j % 14 = off + j by omega] at this
end Go.Proofs.YtjgjjlolhdlofaaGreatDoor

namespace Go.Proofs.YtjgjjlolhdlofaaGreatDoor
open Go.RowKit Go.Shelf Go.Mine
open Classical

/-- An edit that came in. -/
structure EditV.ok0 (e : EditV) (w : World) : Prop where
  sz : e.text.size ≤ maxLen
  ok : e.text.size < 4611686018427387904 → e.ok w
theorem EditV.ok0.grown {e : EditV} {w w' : World} (h : e.ok0 w) (m : Mine.Mod none_ w w') : e.ok0 w' := ⟨h.sz, fun hs => (h.ok hs).grown m⟩
/-- Entries that came in, whatever long their texts are. -/
structure IsEnts0 (w : World) (a : Option Addr) (len cap : Nat) (l : List EntV) : Prop where
  n : l.length = len
  le : len ≤ cap
  big : cap ≤ maxLen
  ok : ∀ x ∈ l, x.o.ok0 w x.sp ∧ x.ed.ok0 w
  ents : ∀ (i : Nat) (x : EntV), l[i]? = some x → ∃ b off, a = some ⟨b, off, none⟩ ∧ w.rangeAt b (off + i * 14) x.cs
theorem IsEnts0.grown {w w' : World} {a : Option Addr} {len cap : Nat} {l : List EntV} (h : IsEnts0 w a len cap l) (m : Mine.Mod none_ w w') : IsEnts0 w' a len cap l :=
  ⟨h.n, h.le, h.big, fun x hx => ⟨(h.ok x hx).1.grown m, (h.ok x hx).2.grown m⟩, fun i c hc => by
    obtain ⟨b, off, e, hr⟩ := h.ents i c hc
    exact ⟨b, off, e, fun j v hv => m.cell (fun e => e) (hr j v hv)⟩⟩
/-- More than statements look at. -/
def bigEnt (x : EntV) : Bool := bigOp x.o || decide (1000 < (x.ed.text.size : Int))
theorem IsEnts0.small {w : World} {a : Option Addr} {len cap : Nat} {l : List EntV} (h : IsEnts0 w a len cap l) (hb : l.any bigEnt = false) : IsEnts w a len cap l := by
  refine ⟨h.n, h.le, h.big, fun x hx => ?_, h.ents⟩
  have hx0 : bigEnt x = false := by
    rw [List.any_eq_false] at hb
    simpa using hb x hx
  unfold bigEnt bigOp at hx0
  simp only [Bool.or_eq_false_iff, decide_eq_false_iff_not] at hx0
  obtain ⟨⟨_, h1⟩, h2⟩ := hx0
  exact ⟨(h.ok x hx).1.ok (by omega), (h.ok x hx).2.ok (by omega)⟩
def bigHist (h : HistV) (E : List EntV) : Bool := decide (60 < (h.bl : Int)) || decide (30 < (h.vl : Int)) || decide (14 < (h.ll : Int)) || E.any bigEnt

set_option maxHeartbeats 4000000 in
set_option maxRecDepth 1000000 in
theorem rgreatH_any (w : World) (h : HistV) (E : List EntV) (he : IsEnts0 w h.la h.ll h.lc E) :
    Calls Tryz.prog 8 #[h.v] w fun e w' => e = .returned (.bool (bigHist h E)) ∧ Mine.Mod none_ w w' := by
  obtain ⟨R, hR⟩ : ∃ R, R = bigHist h E := ⟨_, rfl⟩
  rw [← hR]
  have hle := he.le
  have hcap := he.big
  unfold maxLen at hcap
  obtain ⟨xba, xbl, xbc, xva, xvl, xvc, xfr, xnum, xla, xll, xlc⟩ := h
  dsimp only at hle hcap he
  have HR := Lib.hid (show R = (decide (60 < (xbl : Int)) || decide (30 < (xvl : Int)) || decide (14 < (xll : Int)) || E.any bigEnt) from hR)
  have H := Lib.hid he
  have HN := Lib.hid he.n
  clear he hR
  obtain ⟨W0, hW0⟩ : ∃ W0, w.alloc (.cells #[.slice xba xbl xbc, .slice xva xvl xvc, .int .i64 xfr, .int .i64 xnum, .slice xla xll xlc] 26) = W0 := ⟨_, rfl⟩
  obtain ⟨K, hK⟩ : ∃ K, w.heap.size = K := ⟨_, rfl⟩
  have m0 : Mine.Mod none_ w W0 := by rw [← hW0]; exact (Mine.Mod.refl none_ w).alloc _
  have k0 : Blk W0 K [.slice xba xbl xbc, .slice xva xvl xvc, .int .i64 xfr, .int .i64 xnum, .slice xla xll xlc] 26 := by rw [← hW0, ← hK]; exact Blk.new (w := w) (cs := [.slice xba xbl xbc, .slice xva xvl xvc, .int .i64 xfr, .int .i64 xnum, .slice xla xll xlc])
  obtain ⟨cs0, hcs0⟩ : ∃ cs0 : List Value, cs0 = [.slice xba xbl xbc, .slice xva xvl xvc, .int .i64 xfr, .int .i64 xnum, .slice xla xll xlc] := ⟨_, rfl⟩
  rw [← hcs0] at k0
  have HC0 := Lib.hid (show ∀ W, Blk W K cs0 26 → W.cell? ⟨K, 0, none⟩ = some (.slice xba xbl xbc) from fun W k => by rw [k.cell, hcs0]; rfl)
  have HC1 := Lib.hid (show ∀ W, Blk W K cs0 26 → W.cell? ⟨K, 1, none⟩ = some (.slice xva xvl xvc) from fun W k => by rw [k.cell, hcs0]; rfl)
  have HC4 := Lib.hid (show ∀ W, Blk W K cs0 26 → W.cell? ⟨K, 4, none⟩ = some (.slice xla xll xlc) from fun W k => by rw [k.cell, hcs0]; rfl)
  have M0 := Lib.hid m0
  have K0 := Lib.hid k0
  have hKw : w.heap.size ≤ K := by omega
  have c0 := HC0.out W0 k0
  have c1 := HC1.out W0 k0
  have c4 := HC4.out W0 k0
  clear m0 k0 hcs0
  go_enter Tryz.func8, Tryz.ntmps8
  go_upto_region 1 with fail
  clear hW0 hK
  cases q1 : decide (60 < (xbl : Int))
  case true =>
    have HE := Lib.hid (show R = true by rw [HR.out, q1]; simp)
    go_wp2_with fail
    go_ret
    exact ⟨by rw [HE.out]; rfl, M0.out⟩
  cases q2 : decide (30 < (xvl : Int))
  case true =>
    have HE := Lib.hid (show R = true by rw [HR.out, q1, q2]; simp)
    go_wp2_with fail
    go_ret
    exact ⟨by rw [HE.out]; rfl, M0.out⟩
  cases q3 : decide (14 < (xll : Int))
  case true =>
    have HE := Lib.hid (show R = true by rw [HR.out, q1, q2, q3]; simp)
    go_wp2_with fail
    go_ret
    exact ⟨by rw [HE.out]; rfl, M0.out⟩
  have HR2 := Lib.hid (show R = E.any bigEnt by rw [HR.out, q1, q2, q3]; rfl)
  go_wp2_with fail
  clear c0 c1 c4 q1 q2 q3
  go_loopg [3] xll (fun g s3 wx => ∃ k : Nat, g = xll - k ∧ s3 = .int .i64 k ∧ k ≤ xll ∧ Mine.Mod none_ w wx ∧ RowKit.Hid (Blk wx K cs0 26 ∧ (E.take k).any bigEnt = false))
  case atStart => exact ⟨0, rfl, rfl, Nat.zero_le _, M0.out, Lib.hid ⟨K0.out, rfl⟩⟩
  case round =>
    obtain ⟨k, rfl, rfl, hk, mx, hst⟩ := hrel
    obtain ⟨kx, hall⟩ := hst.out
    have MX := Lib.hid mx
    have KX := Lib.hid kx
    have d4 := HC4.out wr kx
    by_cases hlk : k < xll
    · obtain ⟨x, hx⟩ : ∃ x, E[k]? = some x := ⟨E[k]'(by rw [HN.out]; exact hlk), by simp⟩
      have HY := Lib.hid (fun (hb : bigEnt x = true) => show R = true by rw [HR2.out]; exact List.any_eq_true.2 ⟨x, List.mem_of_getElem? hx, hb⟩)
      have HG := Lib.hid (fun (hb : bigEnt x = false) => show (E.take (k + 1)).any bigEnt = false by rw [ents_snoc hx, List.any_append, hall]; simp [hb])
      have HSZ := ((H.out.grown mx).ok x (List.mem_of_getElem? hx)).2.sz
      unfold maxLen at HSZ
      have HM := Lib.hid (great_op x.o wr x.sp ((H.out.grown mx).ok x (List.mem_of_getElem? hx)).1)
      obtain ⟨b, off, rfl, hr⟩ := (H.out.grown mx).ents k x hx
      have c0 := hr 0 _ rfl
      have c1 := hr 1 _ rfl
      have c2 := hr 2 _ rfl
      have c3 := hr 3 _ rfl
      have c4 := hr 4 _ rfl
      have c5 := hr 5 _ rfl
      have c6 := hr 6 _ rfl
      have c7 := hr 7 _ rfl
      have c8 := hr 8 _ rfl
      have c9 := hr 9 _ rfl
      have c10 := hr 10 _ rfl
      have c11 := hr 11 _ rfl
      have c12 := hr 12 _ rfl
      have c13 := hr 13 _ rfl
      rw [Nat.add_zero] at c0
      have HRG := Lib.hid hr
      clear hx hall hst kx mx hr
      cases hb : bigOp x.o
      case true =>
        have HE := Lib.hid (HY.out (by unfold bigEnt; rw [hb]; rfl))
        rw [hb] at HM
        go_wp2_with fail
        refine HM.out.mono ?_
        rintro e w1 ⟨rfl, m1⟩
        have M1 := Lib.hid (MX.out.trans m1)
        clear m1
        go_wp2_with fail
        go_ret
        exact ⟨by rw [HE.out]; rfl, M1.out⟩
      rw [hb] at HM
      go_wp2_with fail
      refine HM.out.mono ?_
      rintro e w1 ⟨rfl, m1⟩
      have M1 := Lib.hid (MX.out.trans m1)
      have K1 := Lib.hid (KX.out.mod m1 (fun e => e))
      have e13 := m1.cell (fun e => e) c13
      have e4 := HC4.out w1 K1.out
      clear m1 d4 c0 c1 c2 c3 c4 c5 c6 c7 c8 c9 c10 c11 c12 c13
      cases hs : decide (1000 < (x.ed.text.size : Int))
      case true =>
        have HE := Lib.hid (HY.out (by unfold bigEnt; rw [hs, Bool.or_true]))
        go_wp2_with fail
        go_ret
        exact ⟨by rw [HE.out]; rfl, M1.out⟩
      have HG2 := Lib.hid (HG.out (by unfold bigEnt; rw [hb, hs]; rfl))
      go_wp2_with fail
      go_roundg (xll - (k + 1))
      all_goals first
        | omega
        | exact ⟨k + 1, rfl, by go_num, by omega, M1.out, Lib.hid ⟨K1.out, HG2.out⟩⟩
    · have hkl : xll = k := by omega
      subst hkl
      rw [List.take_of_length_le (by rw [HN.out]; omega)] at hall
      have HE := Lib.hid (show R = false by rw [HR2.out, hall])
      clear kx hall hst mx
      go_wp2_with fail
      go_ret
      exact ⟨by rw [HE.out]; rfl, MX.out⟩

end Go.Proofs.YtjgjjlolhdlofaaGreatDoor

namespace Go.Proofs.YtjgjjlolhdlofaaGreatDoor
open Go.ChangeShapes Go.WideShapes Go.ChangeAt Go.RowKit Go.Mine Go.Deep

set_option maxRecDepth 100000
/-- A history that came in. -/
structure HistIs0 (w : World) (h : HistV) (B : List CellV) (V : List Int) (E : List EntV) : Prop where
  b : IsCells w h.ba h.bl h.bc B
  v : IsVec w h.va h.vl h.vc V
  e : IsEnts0 w h.la h.ll h.lc E
  i1 : -9223372036854775808 ≤ h.from_ ∧ h.from_ ≤ 9223372036854775807
  i2 : -9223372036854775808 ≤ h.num ∧ h.num ≤ 9223372036854775807
theorem HistIs0.grown {w w' : World} {h : HistV} {B : List CellV} {V : List Int} {E : List EntV} (k : HistIs0 w h B V E) (m : Mine.Mod none_ w w') : HistIs0 w' h B V E := ⟨k.b.grown m, k.v.grown m, k.e.grown m, k.i1, k.i2⟩
theorem HistIs0.small {w : World} {h : HistV} {B : List CellV} {V : List Int} {E : List EntV} (k : HistIs0 w h B V E) (hb : bigHist h E = false) : HistIs w h B V E ∧ h.bl ≤ 60 ∧ h.vl ≤ 30 ∧ h.ll ≤ 14 ∧ ∀ y ∈ E, y.o.slen ≤ 40 := by
  unfold bigHist at hb
  simp only [Bool.or_eq_false_iff, decide_eq_false_iff_not] at hb
  obtain ⟨⟨⟨h1, h2⟩, h3⟩, h4⟩ := hb
  refine ⟨⟨k.b, k.v, k.e.small h4, k.i1, k.i2⟩, by omega, by omega, by omega, fun y hy => ?_⟩
  rw [List.any_eq_false] at h4
  have hx0 : bigEnt y = false := by simpa using h4 y hy
  unfold bigEnt bigOp at hx0
  simp only [Bool.or_eq_false_iff, decide_eq_false_iff_not] at hx0
  omega
section
variable {H : Type} {enc : TypeId × Value → H} {w : World} {base : Nat} {sp : Nat → Bool} {held : Bool}

theorem szEdit : Tryz.prog.cellsOf 60 = 7 := by kernel_rfl
theorem szEnt : Tryz.prog.cellsOf 62 = 14 := by kernel_rfl
theorem szCells : Tryz.prog.cellsOf 22 = 1 := by kernel_rfl
theorem szInts : Tryz.prog.cellsOf 23 = 1 := by kernel_rfl
theorem szEnts : Tryz.prog.cellsOf 24 = 1 := by kernel_rfl
theorem szRHist : Tryz.prog.cellsOf 26 = 5 := by kernel_rfl
theorem edit_of {n : Nat} {cells : List Value} {y : DataW H × List MemPlace} (htab : tabsOk w) (h : DataW.trod enc Tryz.prog w base sp held n 60 cells = some y) :
    ∃ e : EditV, cells = e.cs ∧ e.ok0 w := by
  obtain ⟨ys, m, _, _, hl, hyl, hf⟩ := DataW.trod_struct Tryz.underlying60 h
  rw [szEdit] at hl
  obtain ⟨c0, c1, c2, c3, c4, c5, c6, rfl⟩ : ∃ c0 c1 c2 c3 c4 c5 c6, cells = [c0, c1, c2, c3, c4, c5, c6] := by
    match cells, hl with
    | [c0, c1, c2, c3, c4, c5, c6], _ => exact ⟨c0, c1, c2, c3, c4, c5, c6, rfl⟩
  obtain ⟨y0, y1, y2, y3, y4, y5, rfl⟩ : ∃ y0 y1 y2 y3 y4 y5, ys = [y0, y1, y2, y3, y4, y5] := by
    match ys, (show ys.length = 6 from hyl) with
    | [y0, y1, y2, y3, y4, y5], _ => exact ⟨y0, y1, y2, y3, y4, y5, rfl⟩
  have h0 := hf 0 _ rfl
  have h1 := hf 1 _ rfl
  have h2 := hf 2 _ rfl
  have h3 := hf 3 _ rfl
  have h4 := hf 4 _ rfl
  have h5 := hf 5 _ rfl
  simp only [List.getElem_toArray, List.getElem_cons_zero, List.getElem_cons_succ, szName, szInt, szString, List.drop_zero, List.drop_succ_cons, List.take_succ_cons, List.take_zero, List.getElem?_cons_zero, List.getElem?_cons_succ] at h0 h1 h2 h3 h4 h5
  obtain ⟨s, q, rfl, rfl, _, _⟩ := name_of h0
  obtain ⟨cx, e1, _, _⟩ := DataW.trod_int Tryz.underlying3 h1
  obtain ⟨kd, e2, _, _⟩ := DataW.trod_int Tryz.underlying3 h2
  obtain ⟨at_, e3, _, _⟩ := DataW.trod_int Tryz.underlying3 h3
  obtain ⟨ln, e4, _, _⟩ := DataW.trod_int Tryz.underlying3 h4
  obtain ⟨tx, e5, _, w5⟩ := DataW.trod_string Tryz.underlying9 h5
  simp only [List.cons.injEq, and_true] at e1 e2 e3 e4 e5
  subst e1 e2 e3 e4 e5
  exact ⟨⟨s, q, cx, kd, at_, ln, tx⟩, rfl, w5, fun hsz => ⟨.inl htab, hsz⟩⟩
theorem entry_of {n : Nat} {cells : List Value} {y : DataW H × List MemPlace} (htab : tabsOk w) (h : DataW.trod enc Tryz.prog w base sp held n 62 cells = some y) :
    ∃ x : EntV, cells = x.cs ∧ x.o.ok0 w x.sp ∧ x.ed.ok0 w := by
  obtain ⟨ys, m, _, _, hl, hyl, hf⟩ := DataW.trod_struct Tryz.underlying62 h
  rw [szEnt] at hl
  obtain ⟨y0, y1, rfl⟩ : ∃ y0 y1, ys = [y0, y1] := by
    match ys, (show ys.length = 2 from hyl) with
    | [y0, y1], _ => exact ⟨y0, y1, rfl⟩
  have h0 := hf 0 _ rfl
  have h1 := hf 1 _ rfl
  simp only [List.getElem_toArray, List.getElem_cons_zero, List.getElem_cons_succ, szOp, szEdit, List.drop_zero, List.getElem?_cons_zero, List.getElem?_cons_succ] at h0 h1
  rw [List.take_of_length_le (by rw [List.length_drop]; omega)] at h1
  obtain ⟨o, l, e0, ho⟩ := op_of htab h0
  obtain ⟨ed, e1, he⟩ := edit_of htab h1
  refine ⟨⟨o, l, ed⟩, ?_, ho, he⟩
  rw [← List.take_append_drop 7 cells, e0, e1]
  rfl
theorem read_ents {fuel : Nat} {a : Option Addr} {len cap : Nat} {x : DataW H × List MemPlace} (htab : tabsOk w) (h : DataW.trod enc Tryz.prog w base sp held fuel 24 [.slice a len cap] = some x) : ∃ l, IsEnts0 w a len cap l := by
  obtain ⟨a', len', cap', hcs, hl, hm, hf⟩ := slice_elems Tryz.underlying24 szEnt (by decide) h
  simp only [List.cons.injEq, Value.slice.injEq, and_true] at hcs
  obtain ⟨rfl, rfl, rfl⟩ := hcs
  have key : ∀ i, i < len → ∃ c : EntV, (c.o.ok0 w c.sp ∧ c.ed.ok0 w) ∧ ∃ b off, a = some ⟨b, off, none⟩ ∧ w.rangeAt b (off + i * 14) c.cs := by
    intro i hi
    obtain ⟨b, off, cells, y, n, e, _, hr, ht⟩ := hf i hi
    obtain ⟨c, rfl, hc⟩ := entry_of htab ht
    exact ⟨c, hc, b, off, e, hr⟩
  obtain ⟨f, hfk⟩ := Classical.axiomOfChoice (fun i : Fin len => key i.1 i.2)
  refine ⟨List.ofFn f, by simp, hl, hm, ?_, ?_⟩
  · intro y hy
    obtain ⟨i, rfl⟩ := List.mem_ofFn.1 hy
    exact (hfk i).1
  · intro i y hy
    have hi : i < len := by have := (List.getElem?_eq_some_iff.1 hy).1; simpa using this
    have : y = f ⟨i, hi⟩ := by
      rw [List.getElem?_eq_getElem (by simpa using hi)] at hy
      simp at hy; exact hy.symm
    subst this
    exact (hfk ⟨i, hi⟩).2
theorem read_ints {fuel : Nat} {a : Option Addr} {len cap : Nat} {x : DataW H × List MemPlace} (h : DataW.trod enc Tryz.prog w base sp held fuel 23 [.slice a len cap] = some x) : ∃ l, IsVec w a len cap l := by
  obtain ⟨a', len', cap', hcs, hl, hm, hf⟩ := slice_elems Tryz.underlying23 szInt (by decide) h
  simp only [List.cons.injEq, Value.slice.injEq, and_true] at hcs
  obtain ⟨rfl, rfl, rfl⟩ := hcs
  have key : ∀ i, i < len → ∃ c : Int, (-9223372036854775808 ≤ c ∧ c ≤ 9223372036854775807) ∧ ∃ b off, a = some ⟨b, off, none⟩ ∧ w.cell? ⟨b, off + i, none⟩ = some (.int .i64 c) := by
    intro i hi
    obtain ⟨b, off, cells, y, n, e, hlen, hr, ht⟩ := hf i hi
    obtain ⟨c, e1, _, w1⟩ := DataW.trod_int Tryz.underlying3 ht
    subst e1
    have := hr 0 _ rfl
    rw [Nat.mul_one, Nat.add_zero] at this
    exact ⟨c, bounds_i64 w1, b, off, e, this⟩
  obtain ⟨f, hfk⟩ := Classical.axiomOfChoice (fun i : Fin len => key i.1 i.2)
  refine ⟨List.ofFn f, by simp, hl, hm, ?_, ?_⟩
  · intro y hy
    obtain ⟨i, rfl⟩ := List.mem_ofFn.1 hy
    exact (hfk i).1
  · intro i y hy
    have hi : i < len := by have := (List.getElem?_eq_some_iff.1 hy).1; simpa using this
    have : y = f ⟨i, hi⟩ := by
      rw [List.getElem?_eq_getElem (by simpa using hi)] at hy
      simp at hy; exact hy.symm
    subst this
    exact (hfk ⟨i, hi⟩).2
theorem read_hist {n : Nat} {cells : List Value} {y : DataW H × List MemPlace} (htab : tabsOk w) (h : DataW.trod enc Tryz.prog w base sp held n 26 cells = some y) :
    ∃ (h : HistV) (B : List CellV) (V : List Int) (E : List EntV), cells = h.cs ∧ HistIs0 w h B V E := by
  obtain ⟨ys, m, _, _, hl, hyl, hf⟩ := DataW.trod_struct Tryz.underlying26 h
  rw [szRHist] at hl
  obtain ⟨c0, c1, c2, c3, c4, rfl⟩ : ∃ c0 c1 c2 c3 c4, cells = [c0, c1, c2, c3, c4] := by
    match cells, hl with
    | [c0, c1, c2, c3, c4], _ => exact ⟨c0, c1, c2, c3, c4, rfl⟩
  obtain ⟨y0, y1, y2, y3, y4, rfl⟩ : ∃ y0 y1 y2 y3 y4, ys = [y0, y1, y2, y3, y4] := by
    match ys, (show ys.length = 5 from hyl) with
    | [y0, y1, y2, y3, y4], _ => exact ⟨y0, y1, y2, y3, y4, rfl⟩
  have h0 := hf 0 _ rfl
  have h1 := hf 1 _ rfl
  have h2 := hf 2 _ rfl
  have h3 := hf 3 _ rfl
  have h4 := hf 4 _ rfl
  simp only [List.getElem_toArray, List.getElem_cons_zero, List.getElem_cons_succ, szCells, szInts, szInt, szEnts, List.drop_zero, List.drop_succ_cons, List.take_succ_cons, List.take_zero, List.getElem?_cons_zero, List.getElem?_cons_succ] at h0 h1 h2 h3 h4
  obtain ⟨ba, bl, bc, e0, _⟩ := slice_elems Tryz.underlying22 szCell (by decide) h0
  obtain ⟨va, vl, vc, e1, _⟩ := slice_elems Tryz.underlying23 szInt (by decide) h1
  obtain ⟨fr, e2, _, w2⟩ := DataW.trod_int Tryz.underlying3 h2
  obtain ⟨nu, e3, _, w3⟩ := DataW.trod_int Tryz.underlying3 h3
  obtain ⟨la, ll, lc, e4, _⟩ := slice_elems Tryz.underlying24 szEnt (by decide) h4
  simp only [List.cons.injEq, and_true] at e0 e1 e2 e3 e4
  subst e0 e1 e2 e3 e4
  obtain ⟨B, hB⟩ := read_cells h0
  obtain ⟨V, hV⟩ := read_ints h1
  obtain ⟨E, hE⟩ := read_ents htab h4
  exact ⟨⟨ba, bl, bc, va, vl, vc, fr, nu, la, ll, lc⟩, B, V, E, rfl, hB, hV, hE, bounds_i64 w2, bounds_i64 w3⟩
end
theorem okWide_agg {P : Program} {w : World} {r : Reach} {b0 : Nat} {t : TypeId} {v : Value} {fs : Array Field} (ht : P.underlying t = some (.struct fs)) (h : Value.okWide P w r b0 t v) : ∃ cs : Array Value, v = .agg cs := by
  simp only [Value.okWide, ht] at h
  obtain ⟨cs, rfl, _⟩ := h
  exact ⟨cs, rfl⟩

end Go.Proofs.YtjgjjlolhdlofaaGreatDoor

namespace Go.Proofs.YtjgjjlolhdlofaaGreatDoor
open Go.RowKit Go.Shelf Go.Mine
open Classical

theorem likeE.symm {E E' : List EntV} (h : likeE E E') : likeE E' E := by
  refine ⟨h.1.symm, fun i y hy => ?_⟩
  have hi : i < E.length := by rw [← h.1]; exact (List.getElem?_eq_some_iff.1 hy).1
  obtain ⟨a, c, h2⟩ := h.2 i _ (List.getElem?_eq_getElem hi)
  rw [h2] at hy
  cases hy
  rw [List.getElem?_eq_getElem hi]
  exact ⟨E[i].o.sa, E[i].o.scap, rfl⟩
/-- What Add's answer holds. -/
def AddP (b0 : Nat) (R : Int) (h : HistV) (B : List CellV) (V : List Int) (E : List EntV) (x : EntV) (g : HistV) (BB : List CellV) (VV : List Int) (EE : List EntV) (wx : World) : Prop :=
  (R ≠ 0 → g = zeroV ∧ BB = [] ∧ VV = [] ∧ EE = []) ∧ (R = 0 → BB = B ∧ VV = V ∧ g.bl = h.bl ∧ g.vl = h.vl ∧ g.ll = h.ll + 1 ∧ g.from_ = h.from_ ∧ g.num = numP h x ∧ likeE (E ++ [x]) EE ∧ Made b0 wx g B V EE)
theorem AddP.mod {S : Nat → Prop} {b0 : Nat} {R : Int} {h g : HistV} {B BB : List CellV} {V VV : List Int} {E EE : List EntV} {x : EntV} {w w' : World} (k : AddP b0 R h B V E x g BB VV EE w) (m : Mine.Mod S w w') (hs : ∀ j, S j → ∃ cs, Blk w j cs 32 ∨ Blk w j cs 26) : AddP b0 R h B V E x g BB VV EE w' :=
  ⟨k.1, fun e => by
    obtain ⟨q1, q2, q3, q4, q5, q6, q7, q8, q9⟩ := k.2 e
    exact ⟨q1, q2, q3, q4, q5, q6, q7, q8, q9.mod m hs⟩⟩
theorem IsEnts.take {w : World} {a : Option Addr} {len cap : Nat} {l : List EntV} (h : IsEnts w a len cap l) (k : Nat) (hk : k ≤ len) : IsEnts w a k cap (l.take k) :=
  ⟨by rw [List.length_take, h.n]; omega, Nat.le_trans hk h.le, h.big, fun c hc => h.ok c (List.mem_of_mem_take hc), fun i c hc => h.ents i c (by
    rw [List.getElem?_take] at hc
    split at hc
    · exact hc
    · cases hc)⟩
theorem HistIs.up {w : World} {h : HistV} {B : List CellV} {V : List Int} {E : List EntV} (k : HistIs w h B V E) (n : Int) (hn : -9223372036854775808 ≤ n ∧ n ≤ 9223372036854775807) : HistIs w ⟨h.ba, h.bl, h.bc, h.va, h.vl, h.vc, h.from_, n, h.la, h.ll, h.lc⟩ B V E := ⟨k.b, k.v, k.e, k.i1, hn⟩

end Go.Proofs.YtjgjjlolhdlofaaGreatDoor

namespace Go.Proofs.YtjgjjlolhdlofaaGreatDoor
open Go.RowKit Go.Shelf Go.Mine
open Classical

/-- What is known of a history while its numbers are written over: its bases' places, its entries' spans and places, are numbers. -/
structure Sh (wx : World) (g : HistV) (EE : List EntV) : Prop where
  b : ∀ i, i < g.bl → ∃ gb cs, g.ba = some ⟨gb, 0, none⟩ ∧ Blk wx gb cs 53 ∧ ∃ v : Int, cs[i * 5 + 2]? = some (.int .i64 v)
  e : ∀ (i : Nat) (x : EntV), EE[i]? = some x → ∃ gl cs, g.la = some ⟨gl, 0, none⟩ ∧ Blk wx gl cs 62 ∧ cs[i * 14 + 6]? = some (.slice x.o.sa x.o.slen x.o.scap) ∧ ∃ v : Int, cs[i * 14 + 11]? = some (.int .i64 v)
  s : ∀ x ∈ EE, ∀ k, k < x.o.slen → ∃ gs cs, x.o.sa = some ⟨gs, 0, none⟩ ∧ Blk wx gs cs 55 ∧ ∃ v : Int, cs[k * 2 + 1]? = some (.int .i64 v)
theorem set_int {cs : List Value} {p q : Nat} {v u : Int} (h : cs[q]? = some (.int .i64 u)) : ∃ y : Int, (cs.set p (.int .i64 v))[q]? = some (.int .i64 y) := by
  rw [List.getElem?_set]
  by_cases hp : p = q
  · subst hp
    have hq := (List.getElem?_eq_some_iff.1 h).1
    rw [if_pos rfl, if_pos hq]
    exact ⟨v, rfl⟩
  · rw [if_neg hp]
    exact ⟨u, h⟩
theorem blk_same {w : World} {b : Nat} {cs cs' : List Value} {t t' : TypeId} (h : Blk w b cs t) (h' : Blk w b cs' t') : cs = cs' ∧ t = t' := by
  have e := Option.some.inj (h.symm.trans h')
  injection e with e1 e2 _
  exact ⟨by simpa using e1, e2⟩
theorem Sh.set {wx : World} {g : HistV} {EE : List EntV} {b : Nat} {cs : List Value} {t : TypeId} (k : Sh wx g EE) (hb : Blk wx b cs t) (p : Nat) (v : Int) (hp : t = 62 → p % 14 = 11) : Sh (wx.setCell ⟨b, p, none⟩ (.int .i64 v)) g EE := by
  have mS := (Mine.Mod.refl (one b) wx).setCell ⟨b, p, none⟩ (fun _ => rfl) (.int .i64 v)
  have hn := hb.set p (.int .i64 v)
  refine ⟨fun i hi => ?_, fun i x hx => ?_, fun x hx j hj => ?_⟩
  · obtain ⟨gb, ds, h1, h2, u, h3⟩ := k.b i hi
    by_cases e : gb = b
    · subst e
      obtain ⟨rfl, rfl⟩ := blk_same h2 hb
      exact ⟨gb, _, h1, hn, set_int h3⟩
    · exact ⟨gb, ds, h1, h2.mod mS e, u, h3⟩
  · obtain ⟨gl, ds, h1, h2, h3, u, h4⟩ := k.e i x hx
    by_cases e : gl = b
    · subst e
      obtain ⟨rfl, rfl⟩ := blk_same h2 hb
      refine ⟨gl, _, h1, hn, ?_, set_int h4⟩
      have := hp rfl
      rw [List.getElem?_set, if_neg (by omega)]
      exact h3
    · exact ⟨gl, ds, h1, h2.mod mS e, h3, u, h4⟩
  · obtain ⟨gs, ds, h1, h2, u, h3⟩ := k.s x hx j hj
    by_cases e : gs = b
    · subst e
      obtain ⟨rfl, rfl⟩ := blk_same h2 hb
      exact ⟨gs, _, h1, hn, set_int h3⟩
    · exact ⟨gs, ds, h1, h2.mod mS e, u, h3⟩
theorem Sh.grown {w w' : World} {g : HistV} {EE : List EntV} (k : Sh w g EE) (m : Mine.Mod none_ w w') : Sh w' g EE :=
  ⟨fun i hi => by obtain ⟨gb, ds, h1, h2, u, h3⟩ := k.b i hi; exact ⟨gb, ds, h1, h2.mod m (fun e => e), u, h3⟩,
   fun i x hx => by obtain ⟨gl, ds, h1, h2, h3, u, h4⟩ := k.e i x hx; exact ⟨gl, ds, h1, h2.mod m (fun e => e), h3, u, h4⟩,
   fun x hx j hj => by obtain ⟨gs, ds, h1, h2, u, h3⟩ := k.s x hx j hj; exact ⟨gs, ds, h1, h2.mod m (fun e => e), u, h3⟩⟩
end Go.Proofs.YtjgjjlolhdlofaaGreatDoor
